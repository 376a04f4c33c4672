/- awake of the statements on events: what a call returns. -/
import Derived.Test.YtbbdgncjpbfooaaGreatDoorEt
namespace Go.Proofs.YtbbdgncjpbfooaaGreatDoor
open Go.RowKit

/-- a row of numbers of one's own is a slice of numbers that is read -/
theorem own_ints {w : World} {b n : Nat} {v : Value} {Z : List Int} (h : w.ownsRow b 3 1 v n (Z.map (Value.int .i64))) :
    ∃ A cap, v = .slice A n cap ∧ ZIn w A Z ∧ Z.length = n ∧ n ≤ cap ∧ cap ≤ 9223372036854775807 ∧ (0 < n → ∃ g, A = some ⟨g, 0, none⟩ ∧ b ≤ g ∧ g < w.heap.size ∧ ∀ j, j < Z.length → w.cell? ⟨g, 0 + j, none⟩ = some (.int .i64 (Z.getD j 0))) := by
  have hl := h.1
  rw [List.length_map] at hl
  have hln : Z.length = n := by omega
  rcases h.2 with ⟨hv, hn⟩ | ⟨g, cap, cur, hv, hg, hh, hnc, hc, _⟩
  · refine ⟨none, 0, by rw [hv, hn], fun i hi => ?_, hln, by omega, by omega, fun h => ?_⟩
    · omega
    · omega
  · subst hv
    have hgl : g < w.heap.size := (Array.getElem?_eq_some_iff.1 hh).1
    have hcell : ∀ j (hj : j < Z.length), w.cell? ((⟨g, 0, none⟩ : Addr).add j) = some (.int .i64 Z[j]) := fun j hj =>
      h.cells (g := g) rfl j _ (by simp [hj])
    refine ⟨some ⟨g, 0, none⟩, cap, rfl, fun i hi => ⟨_, rfl, by rw [add_block]; exact hgl, hcell i hi⟩, hln, hnc, hc, fun _ => ⟨g, rfl, hg, hgl, fun j hj => ?_⟩⟩
    rw [← add_zero, hcell j hj]; simp [hj]
theorem lit_ints (w : World) (Z : List Int) (h : Z.length ≤ 1000000) : ZIn (w.alloc (.cells (Z.map (Value.int .i64)).toArray 3)) (some ⟨w.heap.size, 0, none⟩) Z := by
  have := World.ownsRow_lit (base := 0) (e := 3) (size := 1) w (Z.map (Value.int .i64)).toArray Z.length (Nat.zero_le _) (by unfold maxLen; omega) (by simp)
  obtain ⟨A, cap, hv, hz, _⟩ := own_ints (by simpa using this)
  cases hv
  exact hz
theorem lit_cells (w : World) (Z : List Int) (h : Z.length ≤ 1000000) : ∀ j, j < Z.length → (w.alloc (.cells (Z.map (Value.int .i64)).toArray 3)).cell? ⟨w.heap.size, 0 + j, none⟩ = some (.int .i64 (Z.getD j 0)) := by
  intro j hj
  obtain ⟨ad, e, _, hc⟩ := lit_ints w Z h j hj
  cases e
  rw [← add_zero, hc]; simp [hj]
theorem lit_fields (w : World) (L : List Fd) (h : L.length ≤ 1000000) : FdIn (w.alloc (.cells (L.flatMap fdC).toArray 49)) (some ⟨w.heap.size, 0, none⟩) L := by
  have := World.ownsRow_lit (base := 0) (e := 49) (size := 4) w (L.flatMap fdC).toArray L.length (Nat.zero_le _) (by unfold maxLen; omega) (by rw [List.size_toArray, row_len fdC_len])
  obtain ⟨A, cap, hv, hz, _⟩ := own_fdin (by simpa using this)
  cases hv
  exact hz
/-- the event of the chapter's example -/
def awE : Ev := ⟨⟨#[99, 49]⟩, ⟨#[112, 97, 121]⟩, ⟨#[]⟩, 5, 30, [⟨⟨#[110]⟩, ⟨2, 5, ⟨#[]⟩⟩⟩, ⟨⟨#[116]⟩, ⟨3, 0, ⟨#[97, 32, 98]⟩⟩⟩]⟩
def awS : ByteArray := ⟨#[99, 49, 32, 112, 97, 121, 32, 34, 34, 32, 99, 111, 109, 112, 108, 101, 116, 101, 32, 51, 48, 32, 110, 61, 53, 32, 34, 116, 61, 92, 34, 97, 32, 98, 92, 34, 34]⟩
set_option maxRecDepth 100000 in
theorem aw_ok : awE.ok = true := by decide +kernel
set_option maxRecDepth 100000 in
theorem aw_tx : awE.tx = awS.data.toList := by decide +kernel
theorem aw_text : etRet awE = .returned (.tuple #[.string awS, .int .i64 0]) := by
  rw [etRet_yes aw_ok, aw_tx]
theorem aw_parse : evR awS.data.toList = .ok awE := by
  rw [← aw_tx]
  exact evR_some (by rw [aw_tx]; decide) (evP_tx _ aw_ok)
theorem aw_lives : livesV [2, 3, 4] = (2, 0) := by decide
theorem aw_lives2 : livesV [2, 4] = (1, 20) := by decide
theorem aw_next : nextV [2, 3, 4] = [3, 5, 6] := by decide
theorem aw_fit : awE.fit 9223372036854775000 := by
  refine ⟨by decide, by decide, by decide, fun f hf => ?_⟩
  simp [awE] at hf
  rcases hf with rfl | rfl <;> decide
set_option maxHeartbeats 6400000 in
set_option maxRecDepth 100000 in
theorem awake_any (w : World) (hP : PW w) : Calls Tryz.prog 7 #[] w fun e w' => e = .returned (.bool true) ∧ Below w.heap.size w w' := by
  have HP := Lib.hid hP; clear hP
  have HL := Lib.hid (fun w => lives_any (some ⟨w.heap.size, 0, none⟩) 3 3 [2, 3, 4] (w.alloc (.cells #[.int .i64 2, .int .i64 3, .int .i64 4] 3)) (lit_ints w [2, 3, 4] (by decide)) rfl (by omega))
  have HN := Lib.hid (fun w => enext_any (some ⟨w.heap.size, 0, none⟩) 3 3 [2, 3, 4] (w.alloc (.cells #[.int .i64 2, .int .i64 3, .int .i64 4] 3)) (lit_ints w [2, 3, 4] (by decide)) rfl (by omega))
  have HM := Lib.hid (fun w => lives_any (some ⟨w.heap.size, 0, none⟩) 2 2 [2, 4] (w.alloc (.cells #[.int .i64 2, .int .i64 4] 3)) (lit_ints w [2, 4] (by decide)) rfl (by omega))
  rw [aw_lives] at HL
  rw [aw_lives, aw_next] at HN
  rw [aw_lives2] at HM
  go_enter Tryz.func7, Tryz.ntmps7
  go_wp2_with fail
  ((with_reducible refine (HL.out _).mono ?_); rintro e w1 ⟨rfl, hb1⟩)
  have HB1 := Lib.hid (below_then (below_alloc w _) hb1)
  clear hb1
  go_wp2_with fail
  ((with_reducible refine (HN.out _).mono ?_); rintro e w2 ⟨v, rfl, hown, hb2⟩)
  have HB2 := Lib.hid (below_then (below_then HB1.out (below_alloc w1 _)) hb2)
  have HOw := Lib.hid hown
  obtain ⟨A, cap, rfl, hz1, hz2, hcap, hz3, hg⟩ := own_ints hown
  obtain ⟨g, rfl, hg1, hg2, hg3⟩ := hg (by simp)
  clear hb2 hown hz1 hz2 hg hg1 hg2 hg3
  go_wp2_with fail
  ((with_reducible refine (HM.out _).mono ?_); rintro e w3 ⟨rfl, hb3⟩)
  have HB3 := Lib.hid (below_then (below_then HB2.out (below_alloc w2 _)) hb3)
  have HO3 := Lib.hid (own_stays HOw.out (below_then (below_alloc w2 _) hb3))
  have HP3 := Lib.hid (HP.out.below HB3.out)
  clear hb3 HL HN HM HB1 HB2 HOw
  go_wp2_with fail
  have HFd := Lib.hid (lit_fields w3 awE.d (by decide))
  have HEb := Lib.hid (EB.new (w3.alloc (.cells (awE.d.flatMap fdC).toArray 49)) awE (some ⟨w3.heap.size, 0, none⟩) 2 2)
  have HBt := Lib.hid (below_then (below_alloc w3 (.cells (awE.d.flatMap fdC).toArray 49)) (below_alloc (w3.alloc (.cells (awE.d.flatMap fdC).toArray 49)) (.cells #[.string awE.c, .string awE.a, .string awE.r, .int .i64 awE.life, .int .i64 awE.time, .slice (some ⟨w3.heap.size, 0, none⟩) 2 2] 24)))
  obtain ⟨wt, hwt⟩ : ∃ wt, wt = ((w3.alloc (.cells (awE.d.flatMap fdC).toArray 49)).alloc (.cells #[.string awE.c, .string awE.a, .string awE.r, .int .i64 awE.life, .int .i64 awE.time, .slice (some ⟨w3.heap.size, 0, none⟩) 2 2] 24)) := ⟨_, rfl⟩
  have HWT := Lib.hid hwt
  have HFt := Lib.hid (show FdIn wt (some ⟨w3.heap.size, 0, none⟩) awE.d by rw [hwt]; exact HFd.out.below (below_alloc _ _))
  have HEt := Lib.hid (show EB wt (w3.heap.size + 1) awE (some ⟨w3.heap.size, 0, none⟩) 2 2 by rw [hwt]; have := HEb.out; rw [World.size_alloc] at this; exact this)
  rw [← hwt] at HBt
  have htt := etext_any awE (some ⟨w3.heap.size, 0, none⟩) 2 2 wt (HP3.out.below HBt.out).tb HFt.out rfl (by decide) aw_fit
  rw [aw_text] at htt
  have HTT := Lib.hid (show Calls Tryz.prog 9 #[.agg #[.string ⟨#[99, 49]⟩, .string ⟨#[112, 97, 121]⟩, .string ⟨#[]⟩, .int .i64 5, .int .i64 30, .slice (some ⟨w3.heap.size, 0, none⟩) 2 2]] wt (fun x w' => x = .returned (.tuple #[.string awS, .int .i64 0]) ∧ Below wt.heap.size wt w') from htt)
  clear htt
  have e1 : (w3.alloc (.cells #[.string ⟨#[110]⟩, .int .i64 2, .int .i64 5, .string ⟨#[]⟩, .string ⟨#[116]⟩, .int .i64 3, .int .i64 0, .string ⟨#[97, 32, 98]⟩] 49)).alloc (.cells #[.string ⟨#[99, 49]⟩, .string ⟨#[112, 97, 121]⟩, .string ⟨#[]⟩, .int .i64 5, .int .i64 30, .slice (some ⟨w3.heap.size, 0, none⟩) 2 2] 24) = wt := hwt.symm
  rw [e1]
  clear hwt HWT HFd HEb e1
  ((with_reducible refine HTT.out.mono ?_); rintro e w4 ⟨rfl, hb4⟩)
  have HF4 := Lib.hid (HFt.out.below hb4)
  have HE4 := Lib.hid (HEt.out.below hb4)
  have HB4 := Lib.hid (below_then (below_then HB3.out HBt.out) hb4)
  have HO4 := Lib.hid (own_stays HO3.out (below_then HBt.out hb4))
  have HP4 := Lib.hid (HP3.out.below (below_then HBt.out hb4))
  have HPA := Lib.hid (eparse_any awS w4 HP4.out)
  rw [aw_parse] at HPA
  clear hb4 HTT HFt HEt HBt HO3 HP3
  go_wp2_with fail
  ((with_reducible refine HPA.out.mono ?_); rintro e w5 ⟨A5, cap5, rfl, hf5, hb5⟩)
  have HF4' := Lib.hid (HF4.out.below hb5)
  replace HE4 := Lib.hid (HE4.out.below hb5)
  replace HO4 := Lib.hid (own_stays HO4.out hb5)
  replace HB4 := Lib.hid (below_then HB4.out hb5)
  have HF5 := Lib.hid (hf5.below (below_alloc w5 (.cells #[.string awE.c, .string awE.a, .string awE.r, .int .i64 awE.life, .int .i64 awE.time, .slice A5 2 cap5] 24)))
  have HE5 := Lib.hid (EB.new w5 awE A5 2 cap5)
  have HB56 := Lib.hid (below_alloc w5 (.cells #[.string awE.c, .string awE.a, .string awE.r, .int .i64 awE.life, .int .i64 awE.time, .slice A5 2 cap5] 24))
  clear hf5 hb5
  unfold Ev.val
  go_wp2_with fail
  have HO6 := Lib.hid (own_stays HO4.out HB56.out)
  obtain ⟨w6, hw6⟩ : ∃ w6, w6 = w5.alloc (.cells #[.string awE.c, .string awE.a, .string awE.r, .int .i64 awE.life, .int .i64 awE.time, .slice A5 2 cap5] 24) := ⟨_, rfl⟩
  rw [← hw6] at HF5 HE5 HB56 HO6
  have hz6 : w6.heap.size = w5.heap.size + 1 := by rw [hw6]; simp
  have hlit := lit_cells w6 [3, 5, 6] (by decide)
  rw [hz6] at hlit
  obtain ⟨A', cap', hv', _, _, _, _, hg'⟩ := own_ints (own_stays HO6.out (below_alloc w6 (.cells #[.int .i64 3, .int .i64 5, .int .i64 6] 3)))
  cases hv'
  obtain ⟨g', hge, _, _, hgc⟩ := hg' (by simp)
  cases hge
  have HEQ := Lib.hid (Tryz.slices_Equal_int g 0 3 cap (w5.heap.size + 1) 0 3 3 [3, 5, 6] [3, 5, 6] (w6.alloc (.cells #[.int .i64 3, .int .i64 5, .int .i64 6] 3)) (by decide) (by decide) (by decide) (by decide) hgc hlit)
  have e2 : (w5.alloc (.cells #[.string awE.c, .string awE.a, .string awE.r, .int .i64 awE.life, .int .i64 awE.time, .slice A5 awE.d.length cap5] 24)) = w6 := hw6.symm
  rw [e2]
  clear hw6 hlit hg' hgc e2 hz6 HO6 HO4 HF4 hcap hz3
  have HE4' := Lib.hid (HE4.out.below HB56.out)
  have HFF4 := Lib.hid (FdIn.below HF4'.out HB56.out)
  ((with_reducible refine HEQ.out.mono ?_); rintro e w7 ⟨rfl, nq, hw7⟩)
  have hb7 : Below w6.heap.size w6 w7 := by rw [hw7]; exact below_then (below_alloc w6 _) (below_drewN _ nq)
  have HB7 := Lib.hid (below_then (below_then HB4.out HB56.out) hb7)
  have HEx := Lib.hid (HE4'.out.below hb7)
  have HEy := Lib.hid (HE5.out.below hb7)
  have HFx := Lib.hid (HFF4.out.below hb7)
  have HFy := Lib.hid (HF5.out.below hb7)
  have hss := rsame_any awE awE (some ⟨w3.heap.size, 0, none⟩) A5 2 2 2 cap5 w7 HFx.out HFy.out rfl rfl (by decide) (by decide)
  rw [sameE_refl] at hss
  have HSS := Lib.hid (show Calls Tryz.prog 13 #[.agg #[.string ⟨#[99, 49]⟩, .string ⟨#[112, 97, 121]⟩, .string ⟨#[]⟩, .int .i64 5, .int .i64 30, .slice (some ⟨w3.heap.size, 0, none⟩) 2 2], .agg #[.string ⟨#[99, 49]⟩, .string ⟨#[112, 97, 121]⟩, .string ⟨#[]⟩, .int .i64 5, .int .i64 30, .slice A5 2 cap5]] w7 (fun x w' => x = .returned (.bool true) ∧ Below w7.heap.size w7 w') from hss)
  clear hw7 hb7 hss HE4' HE5 HFF4 HF5 HEQ
  have hS : (awS.toList == [99, 49, 32, 112, 97, 121, 32, 34, 34, 32, 99, 111, 109, 112, 108, 101, 116, 101, 32, 51, 48, 32, 110, 61, 53, 32, 34, 116, 61, 92, 34, 97, 32, 98, 92, 34, 34]) = true := by rw [ByteArray.toList_eq]; decide
  rw [show ((List.take 3 [3, 5, 6] : List Int) == List.take 3 [3, 5, 6]) = true by decide]
  obtain ⟨x0, x1, x2, x3, x4, x5⟩ := HEx.out.cells
  obtain ⟨y0, y1, y2, y3, y4, y5⟩ := HEy.out.cells
  simp only [awE] at x0 x1 x2 x3 x4 x5 y0 y1 y2 y3 y4 y5
  go_wp2_with fail
  ((with_reducible refine HSS.out.mono ?_); rintro e w8 ⟨rfl, hb8⟩)
  go_wp2_with fail
  go_ret
  exact ⟨rfl, below_then HB7.out hb8⟩
end Go.Proofs.YtbbdgncjpbfooaaGreatDoor
