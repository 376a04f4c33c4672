/- Rows of truth values: a block of one's own; slices.Contains of false. -/
import Derived.Test.YtpnhcimmlnjfaaaGreatDoorQi
namespace Go.Proofs.YtpnhcimmlnjfaaaGreatDoor
open Go.Lib (hid)
open Go.RowKit

theorem boolInfo : (Tryz.prog.info? 4).map (fun i => (i.zero, i.size, i.bytes)) = some (some (.bool false), 1, 1) := by kernel_rfl
/-- a row of truth values, a block of its own -/
def BL (w : World) (g : Nat) (F : List Bool) : Prop := w.heap[g]? = some (.cells (F.map Value.bool).toArray 4 (0, 0))
theorem BL.lt {w : World} {g : Nat} {F : List Bool} (h : BL w g F) : g < w.heap.size := (Array.getElem?_eq_some_iff.1 h).1
theorem BL.below {w w' : World} {g : Nat} {F : List Bool} (h : BL w g F) (hb : Below w.heap.size w w') : BL w' g F := by
 unfold BL; rw [hb.block g h.lt]; exact h
theorem BL.cell {w : World} {g : Nat} {F : List Bool} (h : BL w g F) {i : Nat} (hi : i < F.length) : w.cell? ⟨g, i, none⟩ = some (.bool F[i]) := by
 have h' : w.heap[g]? = _ := h
 simp [World.cell?, h', hi]
theorem BL.soft {w : World} {g : Nat} {F : List Bool} (h : BL w g F) (o : Nat) : w.frozen? ⟨g, o, none⟩ = false := by
 have h' : w.heap[g]? = _ := h
 simp [World.frozen?, h']
theorem BL.set {w : World} {g : Nat} {F : List Bool} (h : BL w g F) (i : Nat) (b : Bool) : BL (w.setCell ⟨g, i, none⟩ (.bool b)) g (F.set i b) := by
 unfold BL
 rw [heap_set2 h]
 congr 2
 rw [List.map_set, List.setIfInBounds_toArray]
theorem BL.other {w : World} {g b o : Nat} {F : List Bool} (h : BL w g F) (hb : b ≠ g) (u : Value) : BL (w.setCell ⟨b, o, none⟩ u) g F := by
 unfold BL
 have hg : w.grownBy (w.setCell ⟨b, o, none⟩ u) (some b) := Lib.grownBy_setB (grown_refl w (some b)) o u
 rw [hg.block g h.lt (fun e => hb (by cases e; rfl))]
 exact h
theorem mk_bools (n : Nat) (hn : n ≤ 1000000) (w : World) : (Instr.makeSlice 86 (.int .i64 (n : Int)) (.int .i64 (n : Int))).run Tryz.prog w = .ok (.slice (some ⟨w.heap.size, 0, none⟩) n n) (w.alloc (.cells (madeCells #[.bool false] n) 4)) := run_make_row' 86 4 (.bool false) 1 Tryz.underlying86 boolInfo rfl .i64 .i64 n (by omega) (by omega) w
theorem made_bools (n : Nat) : madeCells #[Value.bool false] n = ((List.replicate n false).map Value.bool).toArray := by
 apply Array.ext'
 rw [toList_madeCells_one, List.map_replicate]
theorem BL.made (w : World) (n : Nat) : BL (w.alloc (.cells (madeCells #[.bool false] n) 4)) w.heap.size (List.replicate n false) := by
 unfold BL
 rw [← made_bools]
 exact heap_alloc_new w _
def noF (F : List Bool) : Bool := F.all fun b => b
theorem noF_step (F : List Bool) (k : Nat) (h : k < F.length) : noF (F.take (k + 1)) = (noF (F.take k) && F[k]) := by
 unfold noF
 rw [List.take_succ_eq_append_getElem h, List.all_append]; simp
set_option maxHeartbeats 1600000 in
set_option maxRecDepth 100000 in
theorem bidx_any (g n c : Nat) (F : List Bool) (w : World) (h : BL w g F) (hn : F.length = n) (hb : n ≤ 9223372036854775806) :
 Calls Tryz.prog 99 #[.slice (some ⟨g, 0, none⟩) n c, .bool false] w fun e w' => (∃ r : Int, e = .returned (.int .i64 r) ∧ decide (0 ≤ r) = !(noF F)) ∧ Below w.heap.size w w' := by
 have HF := hid h
 have HN := hid hn
 clear h hn
 go_enter Tryz.func99, Tryz.ntmps99
 go_wp2_with fail
 go_loopg [8] (n) (fun gh iv wr => ∃ k : Nat, k + gh = n ∧ iv = .int .i64 k ∧ noF (F.take k) = true ∧ Below w.heap.size w wr)
 case atStart => exact ⟨0, by omega, rfl, rfl, Below.refl _ _⟩
 case round =>
  obtain ⟨k, hk, rfl, hp, hB⟩ := hrel
  have HK := hid hk
  have HP := hid hp
  have HBr := hid hB
  clear hk hp hB
  by_cases hlt : k < n
  · have hlt' : k < F.length := by rw [HN.out]; exact hlt
    have c0 := (HF.out.below HBr.out).cell hlt'
    have HS := hid (noF_step F k hlt')
    have HNo := hid (fun (hh : F[k] = false) => show noF F = false by unfold noF; rw [List.all_eq_false]; exact ⟨F[k], List.getElem_mem hlt', by simp [hh]⟩)
    generalize F[k] = b at *
    clear hlt'
    cases b with
    | false =>
     have HV := hid (HNo.out rfl)
     clear HS HNo
     go_wp2_with fail
     go_ret
     exact ⟨⟨_, rfl, by rw [HV.out]; simp⟩, HBr.out⟩
    | true =>
     have HV := hid (show noF (F.take (k + 1)) = true by rw [HS.out, HP.out]; rfl)
     clear HS HNo
     go_wp2_with fail
     go_roundg (gk - 1)
     case measure => have := HK.out; omega
     case rel => exact ⟨k + 1, by have := HK.out; omega, by go_num, HV.out, HBr.out⟩
  · have hE : noF F = true := by
     have := HP.out
     rwa [List.take_of_length_le (by rw [HN.out]; omega)] at this
    have HE := hid hE
    clear hE
    go_wp2_with fail
    go_ret
    exact ⟨⟨_, rfl, by rw [HE.out]; decide⟩, HBr.out⟩
set_option maxHeartbeats 800000 in
set_option maxRecDepth 100000 in
theorem bhas_any (g n c : Nat) (F : List Bool) (w : World) (h : BL w g F) (hn : F.length = n) (hb : n ≤ 9223372036854775806) :
 Calls Tryz.prog 58 #[.slice (some ⟨g, 0, none⟩) n c, .bool false] w fun e w' => e = .returned (.bool (!(noF F))) ∧ Below w.heap.size w w' := by
 have HI := hid (bidx_any g n c F w h hn hb)
 generalize noF F = q at *
 clear h hn hb
 go_enter Tryz.func58, Tryz.ntmps58
 go_wp2_with fail
 ((with_reducible refine HI.out.mono ?_); rintro e w1 ⟨⟨r, rfl, hr⟩, hb1⟩)
 have HR := hid hr
 have HB1 := hid hb1
 clear hr hb1 HI
 go_wp2_with fail
 go_ret
 exact ⟨ret_bool HR.out, HB1.out⟩
theorem mv_at {w : World} {A : Option Addr} {V : List Mv} (h : Rd mvC 3 w A V) {i : Nat} (hi : i < V.length) : ∃ ad, A = some ad ∧ (ad.add (i * 3)).block < w.heap.size ∧ w.cell? (ad.add (i * 3)) = some (.int .i64 V[i].f) ∧ w.cell? ⟨(ad.add (i * 3)).block, (ad.add (i * 3)).off + 1, none⟩ = some (.int .i64 V[i].t) ∧ w.cell? ⟨(ad.add (i * 3)).block, (ad.add (i * 3)).off + 1 + 1, none⟩ = some (.int .i64 V[i].s) := by
 obtain ⟨ad, e, h1, hc⟩ := h i hi
 refine ⟨ad, e, h1, hc 0 _ (by omega) rfl, ?_, ?_⟩
 · have := hc 1 _ (by omega) rfl; rw [add_at _ _ _ (by omega)] at this; exact this
 · have := hc 2 _ (by omega) rfl; rw [add_at _ _ _ (by omega)] at this; exact this
end Go.Proofs.YtpnhcimmlnjfaaaGreatDoor
