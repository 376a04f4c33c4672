/- awake of the statements: what a call returns. -/
import Derived.Test.YtjojmmabcjccdaaDoorHg
namespace Go.Proofs.YtjojmmabcjccdaaDoor
open Go.RowKit

/-- the chapter's example -/
def exN : Nt := ⟨2, [⟨⟨#[97]⟩, [0], [0, 1]⟩], 0, 1⟩
def exT : TS := ⟨[⟨[1, 0], [1, 0], -1, -1, 0, -1, true, false⟩, ⟨[1, 1], [1, -1], 0, 0, 1, 0, true, true⟩, ⟨[1, -1], [1, -1], 1, 0, 1, 0, false, true⟩], [[1, 0], [1, -1]]⟩
theorem ex_be : beR exN [[1, 0]] 0 10 = .inr exT := by kernel_rfl
theorem ex_mv : movesOf exT = [⟨0, 1, 0⟩, ⟨1, 1, 0⟩] := by kernel_rfl
/-- three boxes of the net -/
def exW (w : World) : World := ((w.alloc (.cells #[.int .i64 0] 3)).alloc (.cells #[.int .i64 0, .int .i64 1] 3)).alloc (.cells #[.string ⟨#[97]⟩, .slice (some ⟨w.heap.size, 0, none⟩) 1 1, .slice (some ⟨w.heap.size + 1, 0, none⟩) 2 2] 70)
theorem exW_size (w : World) : (exW w).heap.size = w.heap.size + 1 + 1 + 1 := by unfold exW; simp
theorem exW_below (w : World) : Below w.heap.size w (exW w) := below_then (below_alloc w _) (below_then (below_alloc _ _) (below_alloc _ _))
theorem lit_sl (w : World) (Z : List Int) (h : Z.length ≤ 1000000) (cs : Array Value) (hc : cs = (Z.map (Value.int .i64)).toArray) : SlIn (w.alloc (.cells cs 3)) (.slice (some ⟨w.heap.size, 0, none⟩) Z.length Z.length) Z := by
  subst hc
  exact ⟨_, _, _, rfl, lit_ints w Z h, rfl, Nat.le_refl _, by omega⟩
theorem ex_net (w : World) : NtIn (exW w) (some ⟨w.heap.size + 1 + 1, 0, none⟩) exN := by
  refine ⟨fun i hi => ?_, fun t ht => by
    have : t = ⟨⟨#[97]⟩, [0], [0, 1]⟩ := by simpa [exN] using ht
    subst this; decide⟩
  have hi0 : i = 0 := by simp [exN] at hi; omega
  subst hi0
  have h1 := lit_sl w [0] (by decide) #[.int .i64 0] rfl
  have h2 := lit_sl (w.alloc (.cells #[.int .i64 0] 3)) [0, 1] (by decide) #[.int .i64 0, .int .i64 1] rfl
  rw [World.size_alloc] at h2
  have b1 := below_alloc (w.alloc (.cells #[.int .i64 0] 3)) (.cells #[.int .i64 0, .int .i64 1] 3)
  have b2 := below_alloc ((w.alloc (.cells #[.int .i64 0] 3)).alloc (.cells #[.int .i64 0, .int .i64 1] 3)) (.cells #[.string ⟨#[97]⟩, .slice (some ⟨w.heap.size, 0, none⟩) 1 1, .slice (some ⟨w.heap.size + 1, 0, none⟩) 2 2] 70)
  have hn := heap_alloc_new ((w.alloc (.cells #[.int .i64 0] 3)).alloc (.cells #[.int .i64 0, .int .i64 1] 3)) (.cells #[.string ⟨#[97]⟩, .slice (some ⟨w.heap.size, 0, none⟩) 1 1, .slice (some ⟨w.heap.size + 1, 0, none⟩) 2 2] 70)
  simp only [World.size_alloc] at hn
  have hcell : ∀ o : Nat, (exW w).cell? ⟨w.heap.size + 1 + 1, o, none⟩ = (#[.string ⟨#[97]⟩, .slice (some ⟨w.heap.size, 0, none⟩) 1 1, .slice (some ⟨w.heap.size + 1, 0, none⟩) 2 2] : Array Value)[o]? := by
    intro o
    unfold exW
    simp only [World.cell?, hn]
    rfl
  refine ⟨⟨w.heap.size + 1 + 1, 0, none⟩, rfl, by rw [add_block, exW_size]; show w.heap.size + 1 + 1 < _; omega, ?_⟩
  rw [Nat.zero_mul, add0]
  refine ⟨hcell 0, ⟨_, hcell 1, (h1.below b1).below b2⟩, _, hcell 2, h2.below b2⟩
/-- the example's space, as it is written down -/
theorem sp_lit (w : World) : SpIn ((((w.alloc (.cells #[.int .i64 1, .int .i64 0] 3)).alloc (.cells #[.int .i64 1, .int .i64 (-1)] 3)).alloc (.cells #[.slice (some ⟨w.heap.size, 0, none⟩) 2 2, .slice (some ⟨w.heap.size + 1, 0, none⟩) 2 2] 25)).alloc (.cells #[.int .i64 0, .int .i64 1, .int .i64 0, .int .i64 1, .int .i64 1, .int .i64 0] 72))
    (.agg #[.slice (some ⟨w.heap.size + 1 + 1, 0, none⟩) 2 2, .slice (some ⟨w.heap.size + 1 + 1 + 1, 0, none⟩) 2 2, .bool true]) [[1, 0], [1, -1]] [⟨0, 1, 0⟩, ⟨1, 1, 0⟩] true := by
  have h1 := lit_sl w [1, 0] (by decide) #[.int .i64 1, .int .i64 0] rfl
  have h2 := lit_sl (w.alloc (.cells #[.int .i64 1, .int .i64 0] 3)) [1, -1] (by decide) #[.int .i64 1, .int .i64 (-1)] rfl
  rw [World.size_alloc] at h2
  have b1 := below_alloc (w.alloc (.cells #[.int .i64 1, .int .i64 0] 3)) (.cells #[.int .i64 1, .int .i64 (-1)] 3)
  have h1 := h1.below b1
  generalize hw1 : (w.alloc (.cells #[.int .i64 1, .int .i64 0] 3)).alloc (.cells #[.int .i64 1, .int .i64 (-1)] 3) = w1 at *
  have hs : w1.heap.size = w.heap.size + 1 + 1 := by rw [← hw1]; simp
  have b2 := below_alloc w1 (.cells #[.slice (some ⟨w.heap.size, 0, none⟩) 2 2, .slice (some ⟨w.heap.size + 1, 0, none⟩) 2 2] 25)
  have hn1 := heap_alloc_new w1 (.cells #[.slice (some ⟨w.heap.size, 0, none⟩) 2 2, .slice (some ⟨w.heap.size + 1, 0, none⟩) 2 2] 25)
  have b3 := below_alloc (w1.alloc (.cells #[.slice (some ⟨w.heap.size, 0, none⟩) 2 2, .slice (some ⟨w.heap.size + 1, 0, none⟩) 2 2] 25)) (.cells #[.int .i64 0, .int .i64 1, .int .i64 0, .int .i64 1, .int .i64 1, .int .i64 0] 72)
  have hn2 := heap_alloc_new (w1.alloc (.cells #[.slice (some ⟨w.heap.size, 0, none⟩) 2 2, .slice (some ⟨w.heap.size + 1, 0, none⟩) 2 2] 25)) (.cells #[.int .i64 0, .int .i64 1, .int .i64 0, .int .i64 1, .int .i64 1, .int .i64 0] 72)
  rw [World.size_alloc] at hn2
  have hn1' := b3.block w1.heap.size (by simp)
  rw [hn1] at hn1'
  rw [hs] at hn1' hn2
  generalize hw2 : (w1.alloc (.cells #[.slice (some ⟨w.heap.size, 0, none⟩) 2 2, .slice (some ⟨w.heap.size + 1, 0, none⟩) 2 2] 25)).alloc (.cells #[.int .i64 0, .int .i64 1, .int .i64 0, .int .i64 1, .int .i64 1, .int .i64 0] 72) = w2 at *
  have hs2 : w2.heap.size = w.heap.size + 1 + 1 + 1 + 1 := by rw [← hw2]; simp; omega
  have h1 := (h1.below b2).below b3
  have h2 := (h2.below b2).below b3
  refine ⟨_, _, _, _, rfl, fun i hi => ?_, by decide, fun i hi => ?_, by decide⟩
  · refine ⟨_, rfl, by rw [add_block, hs2]; show w.heap.size + 1 + 1 < _; omega, ?_⟩
    match i, hi with
    | 0, _ => exact ⟨_, by rw [add_zero]; simp only [World.cell?, hn1']; rfl, h1⟩
    | 1, _ => exact ⟨_, by rw [add_zero]; simp only [World.cell?, hn1']; rfl, h2⟩
    | i + 2, hi => exact absurd hi (by simp only [List.length_cons, List.length_nil]; omega)
  · refine ⟨_, rfl, by rw [add_block, hs2]; show w.heap.size + 1 + 1 + 1 < _; omega, fun j u hj hu => ?_⟩
    rw [add_zero]
    simp only [World.cell?, hn2]
    match i, hi with
    | 0, _ =>
      match j, hj, hu with
      | 0, _, hu => simp [mvC] at hu; subst hu; rfl
      | 1, _, hu => simp [mvC] at hu; subst hu; rfl
      | 2, _, hu => simp [mvC] at hu; subst hu; rfl
      | j + 3, hj, _ => omega
    | 1, _ =>
      match j, hj, hu with
      | 0, _, hu => simp [mvC] at hu; subst hu; rfl
      | 1, _, hu => simp [mvC] at hu; subst hu; rfl
      | 2, _, hu => simp [mvC] at hu; subst hu; rfl
      | j + 3, hj, _ => omega
    | i + 2, hi => exact absurd hi (by simp only [List.length_cons, List.length_nil]; omega)
theorem lit10 (w : World) : ZIn (w.alloc (.cells #[.int .i64 1, .int .i64 0] 3)) (some ⟨w.heap.size, 0, none⟩) [1, 0] := lit_ints w [1, 0] (by decide)
theorem below_eq {a b : Nat} {w w' : World} (h : Below a w w') (e : b = a) : Below b w w' := e ▸ h
set_option maxHeartbeats 12800000 in
set_option maxRecDepth 100000 in
theorem awake_any (w : World) (ht : Tb w) : Calls Tryd.prog 10 #[] w fun e w' => e = .returned (.bool true) ∧ Below w.heap.size w w' := by
  have HBw := Lib.hid (below_then (exW_below w) (below_alloc (exW w) (.cells #[.int .i64 2, .slice (some ⟨w.heap.size + 1 + 1, 0, none⟩) 1 1, .int .i64 0, .int .i64 1] 24)))
  have HNt := Lib.hid ((ex_net w).below (below_alloc (exW w) (.cells #[.int .i64 2, .slice (some ⟨w.heap.size + 1 + 1, 0, none⟩) 1 1, .int .i64 0, .int .i64 1] 24)))
  have hnb := NB.new (exW w) 2 (some ⟨w.heap.size + 1 + 1, 0, none⟩) 1 1 0 1
  rw [exW_size] at hnb
  have HNb := Lib.hid hnb
  have HT := Lib.hid (ht.below HBw.out)
  clear ht hnb
  unfold exW at HBw HNt HNb HT
  go_enter Tryd.func10, Tryd.ntmps10
  go_wp2_with fail
  generalize hw0 : (((w.alloc _).alloc _).alloc _).alloc _ = w0 at *
  have hs0 : w0.heap.size = w.heap.size + 1 + 1 + 1 + 1 := by rw [← hw0]; simp
  clear hw0
  have HA := Lib.hid (below_alloc w0 (.cells #[.int .i64 1, .int .i64 0] 3))
  have hgr := graph_any exN (some ⟨w.heap.size + 1 + 1, 0, none⟩) 1 1 (some ⟨w0.heap.size, 0, none⟩) 2 2 [1, 0] 10 _ (HNt.out.below HA.out) rfl (by decide) (lit10 w0) rfl (by decide) (by decide) (HT.out.below HA.out)
  rw [hs0] at hgr
  have HGr := Lib.hid (show Calls Tryd.prog 12 #[.agg #[.int .i64 2, .slice (some ⟨w.heap.size + 1 + 1, 0, none⟩) 1 1, .int .i64 0, .int .i64 1], .slice (some ⟨w.heap.size + 1 + 1 + 1 + 1, 0, none⟩) 2 2, .int .i64 10] (w0.alloc (.cells #[.int .i64 1, .int .i64 0] 3)) (GphPo exN [1, 0] 10 (w0.alloc (.cells #[.int .i64 1, .int .i64 0] 3))) from hgr)
  clear hgr
  ((with_reducible refine HGr.out.mono ?_); rintro e w2 hP)
  unfold GphPo at hP
  rw [ex_be] at hP
  obtain ⟨hb2, vS, vM, rfl, hO, hMv⟩ := hP
  rw [ex_mv] at hMv
  have HSp := Lib.hid (SpIn.mk (fl := true) hO hMv)
  obtain ⟨Aa, ca, rfl⟩ := hO.slice
  obtain ⟨Ab, cb, rfl⟩ := hMv.slice
  have HB2 := Lib.hid (below_then HA.out hb2)
  have HBw2 := Lib.hid (below_then HBw.out HB2.out)
  have HNt2 := Lib.hid (HNt.out.below HB2.out)
  have HNb2 := Lib.hid (HNb.out.below HB2.out)
  have HT2 := Lib.hid (HT.out.below HB2.out)
  have hlt2 : w.heap.size + 1 + 1 + 1 < w2.heap.size := by have := HB2.out.size; omega
  clear HGr hb2 hO hMv HA HB2 HNt HNb HT HBw
  obtain ⟨b0, b1, b2, b3⟩ := HNb2.out.cells
  go_wp2_with fail
  have HX3 := Lib.hid (SpB.new w2 (.slice Aa exT.states.length ca) (.slice Ab 2 cb) true)
  have HA3 := Lib.hid (below_alloc w2 (.cells #[.slice Aa exT.states.length ca, .slice Ab 2 cb, .bool true] 31))
  generalize hw3 : w2.alloc _ = w3 at *
  have hs3 : w3.heap.size = w2.heap.size + 1 := by rw [← hw3]; simp
  clear hw3
  have HA := Lib.hid (below_alloc w3 (.cells #[.int .i64 1, .int .i64 0] 3))
  have HSp3 := Lib.hid (HSp.out.below HA3.out)
  have HB3 := Lib.hid (below_then HA3.out HA.out)
  have hbd := bounded_any exN (some ⟨w.heap.size + 1 + 1, 0, none⟩) 1 1 (some ⟨w3.heap.size, 0, none⟩) 2 2 [1, 0] 10 _ (HNt2.out.below HB3.out) rfl (by decide) (lit10 w3) rfl (by decide) (by decide) (HT2.out.below HB3.out)
  rw [hs3] at hbd
  have HBd := Lib.hid (show Calls Tryd.prog 16 #[.agg #[.int .i64 2, .slice (some ⟨w.heap.size + 1 + 1, 0, none⟩) 1 1, .int .i64 0, .int .i64 1], .slice (some ⟨w2.heap.size + 1, 0, none⟩) 2 2, .int .i64 10] (w3.alloc (.cells #[.int .i64 1, .int .i64 0] 3)) (BdPo exN [1, 0] 10 (w3.alloc (.cells #[.int .i64 1, .int .i64 0] 3))) from hbd)
  clear hbd b0 b1 b2 b3
  ((with_reducible refine HBd.out.mono ?_); rintro e w4 hP)
  unfold BdPo at hP
  rw [ex_be] at hP
  obtain ⟨hb4, ⟨v, he, _, hno⟩ | ⟨i, d, g, z, W1, W2, p, v1, v2, hf, he, h1, h2⟩⟩ := hP
  · have h9 : (⟨[1, 1], [1, -1], 0, 0, 1, 0, true, true⟩ : Nd).om = false := hno 1 ⟨[1, 1], [1, -1], 0, 0, 1, 0, true, true⟩ (by kernel_rfl)
    exact absurd h9 (by decide)
  subst he
  obtain ⟨A1, c1, hv1⟩ := h1.slice
  obtain ⟨A2, c2, hv2⟩ := h2.slice
  rw [List.length_map] at hv1 hv2
  subst hv1 hv2
  have HB4 := Lib.hid (below_then HA.out hb4)
  have HX4 := Lib.hid (HX3.out.below HB4.out)
  have HSp4 := Lib.hid (HSp3.out.below HB4.out)
  have HBw4 := Lib.hid (below_then HBw2.out (below_then HA3.out HB4.out))
  clear hf h1 h2 hb4 HBd HA HB4 HSp3 HNt2 HNb2 HT2
  obtain ⟨x0, x1, x2⟩ := HX4.out.cells
  have hw4 : w2.heap.size < w4.heap.size := HX4.out.lt
  have HC := Lib.hid (below_alloc w4 (.cells #[.int .i64 6, .int .i64 (p : Int), .slice A1 W1.length c1, .slice A2 W2.length c2, .slice none 0 0, .slice none 0 0, .slice none 0 0, .slice none 0 0] 41))
  have HCt := Lib.hid (show CtB _ w4.heap.size #[.int .i64 6, .int .i64 (p : Int), .slice A1 W1.length c1, .slice A2 W2.length c2, .slice none 0 0, .slice none 0 0, .slice none 0 0, .slice none 0 0] from heap_alloc_new w4 (.cells #[.int .i64 6, .int .i64 (p : Int), .slice A1 W1.length c1, .slice A2 W2.length c2, .slice none 0 0, .slice none 0 0, .slice none 0 0, .slice none 0 0] 41))
  go_wp2_with fail
  generalize hw5 : w4.alloc _ = w5 at *
  have hs5 : w5.heap.size = w4.heap.size + 1 := by rw [← hw5]; simp
  clear hw5
  have hl := sp_lit w5
  have HAl := Lib.hid (below_then (below_alloc w5 (.cells #[.int .i64 1, .int .i64 0] 3)) (below_then (below_alloc _ (.cells #[.int .i64 1, .int .i64 (-1)] 3)) (below_then (below_alloc _ (.cells #[.slice (some ⟨w5.heap.size, 0, none⟩) 2 2, .slice (some ⟨w5.heap.size + 1, 0, none⟩) 2 2] 25)) (below_alloc _ (.cells #[.int .i64 0, .int .i64 1, .int .i64 0, .int .i64 1, .int .i64 1, .int .i64 0] 72)))))
  have HSm := Lib.hid (sameSpace_any _ _ _ _ _ _ _ _ _ ((HSp4.out.below HC.out).below HAl.out) hl)
  rw [hs5] at HSm HAl
  have HSe := Lib.hid (show sameSp exT.states [[1, 0], [1, -1]] [⟨0, 1, 0⟩, ⟨1, 1, 0⟩] [⟨0, 1, 0⟩, ⟨1, 1, 0⟩] true true = true by simp [sameSp, exT])
  rw [HSe.out] at HSm
  clear hl HSe x0 x1 x2
  ((refine HSm.out.mono ?_); rintro e w6 ⟨rfl, hb6⟩)
  have HB6 := Lib.hid (below_then HBw4.out (below_then HC.out (below_then (below_eq HAl.out hs5) hb6)))
  obtain ⟨x0, _⟩ := (HCt.out.below (below_then (below_eq HAl.out hs5) hb6)).cells
  clear HSm hb6
  go_wp2_with fail
  go_ret
  exact ⟨rfl, HB6.out⟩
end Go.Proofs.YtjojmmabcjccdaaDoor
