/- small: what a call returns. -/
import Derived.Test.YtlocbindafdmhaaDoorNd
namespace Go.Proofs.YtlocbindafdmhaaDoor
open Go.RowKit

/-- a token's text is long -/
def longB (t : Td) : Bool := decide (100 < t.u.size)
set_option maxHeartbeats 400000 in
theorem sm1_any (t : Td) (w : World) (hu : t.u.size ≤ 9223372036854775807) :
    Calls Tryd.prog 44 #[.agg #[.int .i64 t.k, .string t.u, .int .i64 t.n, .int .i64 t.l, .int .i64 t.c]] w fun e w' => e = .returned (.bool (longB t)) ∧ Below w.heap.size w w' := by
  obtain ⟨k, u, n, l, c⟩ := t
  simp only at hu
  by_cases h : 100 < u.size
  · have q : (100 : Int) < (u.size : Int) := by omega
    have HV := Lib.hid (show longB ⟨k, u, n, l, c⟩ = true by unfold longB; simpa using h)
    go_enter Tryd.func44, Tryd.ntmps44
    go_wp2_with fail
    go_ret
    exact ⟨ret_bool HV.out.symm, below_alloc w _⟩
  · have q : (u.size : Int) ≤ 100 := by omega
    have HV := Lib.hid (show longB ⟨k, u, n, l, c⟩ = false by unfold longB; simpa using h)
    go_enter Tryd.func44, Tryd.ntmps44
    go_wp2_with fail
    go_ret
    exact ⟨ret_bool (by rw [HV.out]; simpa using q), below_alloc w _⟩
/-- IndexFunc's answer says whether there is such a token -/
def IdxPost (L : List Td) (w : World) (e : Ending) (w' : World) : Prop := (if L.any longB then ∃ i : Nat, e = .returned (.int .i64 i) else e = .returned (.int .i64 (-1))) ∧ Below w.heap.size w w'
theorem IdxPost.yes {L : List Td} {w w' : World} {e : Ending} {i : Nat} (h : L.any longB = true) (he : e = .returned (.int .i64 i)) (hb : Below w.heap.size w w') : IdxPost L w e w' := by
  unfold IdxPost; rw [if_pos h]; exact ⟨⟨i, he⟩, hb⟩
theorem IdxPost.no {L : List Td} {w w' : World} {e : Ending} (h : L.any longB = false) (he : e = .returned (.int .i64 (-1))) (hb : Below w.heap.size w w') : IdxPost L w e w' := by
  unfold IdxPost; rw [h]; exact ⟨he, hb⟩
set_option maxHeartbeats 1600000 in
set_option maxRecDepth 100000 in
theorem idx_any (A : Option Addr) (cap : Nat) (L : List Td) (w : World) (h : TkIn w A L) (hu : ∀ t ∈ L, t.u.size ≤ 9223372036854775807) (hn : L.length ≤ 1000000) :
    Calls Tryd.prog 73 #[.slice A L.length cap, .func (.func 44) #[] #[]] w (IdxPost L w) := by
  have H0 := Lib.hid h; clear h
  have HU := Lib.hid hu; clear hu
  go_enter Tryd.func73, Tryd.ntmps73
  go_wp2_with fail
  go_loopg [8] (L.length) (fun g i wr => ∃ k : Nat, k + g = L.length ∧ i = .int .i64 k ∧ (L.take k).any longB = false ∧ TkIn wr A L ∧ Below w.heap.size w wr)
  case atStart => exact ⟨0, by omega, rfl, by simp, H0.out, Below.refl _ _⟩
  case round =>
    obtain ⟨k, hk, rfl, hno, hT, hB⟩ := hrel
    have HK := Lib.hid hk
    have HNo := Lib.hid hno
    have HT := Lib.hid hT
    have HB := Lib.hid hB
    have hle : k ≤ L.length := by omega
    clear hk hno hT hB H0
    by_cases hlt : k < L.length
    · obtain ⟨ad, rfl, hp, c0, c1, c2, c3, c4⟩ := HT.out k hlt
      have hm : L[k] ∈ L := List.getElem_mem hlt
      have HL := Lib.hid (HU.out _ hm)
      have HTk := Lib.hid (List.take_succ_eq_append_getElem hlt)
      clear hm
      generalize hx : L[k] = x at *
      clear hx
      have HX := Lib.hid (sm1_any x wr HL.out)
      cases hv : longB x with
      | true =>
        have HV := Lib.hid hv; clear hv
        go_wp2_with fail
        ((with_reducible refine HX.out.mono ?_); rintro e w1 ⟨rfl, hb1⟩)
        rw [HV.out]
        go_wp2_with fail
        go_ret
        refine IdxPost.yes ?_ rfl (below_then HB.out hb1)
        rw [List.any_eq_true]
        exact ⟨x, List.mem_of_mem_take (i := k + 1) (by rw [HTk.out]; simp), HV.out⟩
      | false =>
        have HV := Lib.hid hv; clear hv
        go_wp2_with fail
        ((with_reducible refine HX.out.mono ?_); rintro e w1 ⟨rfl, hb1⟩)
        rw [HV.out]
        go_wp2_with fail
        go_roundg (gk - 1)
        case measure => have := HK.out; omega
        case rel => exact ⟨k + 1, by have := HK.out; omega, by go_num, by rw [HTk.out, List.any_append, HNo.out]; simp [HV.out], HT.out.below hb1, below_then HB.out hb1⟩
    · have HE := Lib.hid (show L.take k = L from List.take_of_length_le (by omega))
      go_wp2_with fail
      go_ret
      refine IdxPost.no ?_ rfl HB.out
      rw [← HE.out]; exact HNo.out
set_option maxHeartbeats 800000 in
theorem cont_any (A : Option Addr) (cap : Nat) (L : List Td) (w : World) (h : TkIn w A L) (hu : ∀ t ∈ L, t.u.size ≤ 9223372036854775807) (hn : L.length ≤ 1000000) :
    Calls Tryd.prog 43 #[.slice A L.length cap, .func (.func 44) #[] #[]] w fun e w' => e = .returned (.bool (L.any longB)) ∧ Below w.heap.size w w' := by
  have HI := Lib.hid (idx_any A cap L w h hu hn)
  clear h hu
  cases hv : L.any longB with
  | true =>
    have HV := Lib.hid hv; clear hv
    go_enter Tryd.func43, Tryd.ntmps43
    go_wp2_with fail
    ((with_reducible refine HI.out.mono ?_); rintro e w1 hP)
    unfold IdxPost at hP
    rw [HV.out] at hP
    obtain ⟨⟨i, rfl⟩, hb⟩ := hP
    go_wp2_with fail
    go_ret
    exact ⟨rfl, hb⟩
  | false =>
    have HV := Lib.hid hv; clear hv
    go_enter Tryd.func43, Tryd.ntmps43
    go_wp2_with fail
    ((with_reducible refine HI.out.mono ?_); rintro e w1 hP)
    unfold IdxPost at hP
    rw [HV.out] at hP
    obtain ⟨rfl, hb⟩ := hP
    go_wp2_with fail
    go_ret
    exact ⟨rfl, hb⟩
/-- few tokens with short texts -/
def smallB (L : List Td) : Bool := decide (L.length ≤ 40) && !(L.any longB)
set_option maxHeartbeats 800000 in
theorem small_any (A : Option Addr) (cap : Nat) (L : List Td) (w : World) (h : TkIn w A L) (hu : ∀ t ∈ L, t.u.size ≤ 9223372036854775807) (hn : L.length ≤ 9223372036854775807) :
    Calls Tryd.prog 20 #[.slice A L.length cap] w fun e w' => e = .returned (.bool (smallB L)) ∧ Below w.heap.size w w' := by
  by_cases h40 : L.length ≤ 40
  · have q : (L.length : Int) ≤ 40 := by omega
    have HC := Lib.hid (cont_any A cap L w h hu (by omega))
    have HV := Lib.hid (show smallB L = !(L.any longB) by unfold smallB; simp [h40])
    clear h hu h40
    go_enter Tryd.func20, Tryd.ntmps20
    go_wp2_with fail
    ((with_reducible refine HC.out.mono ?_); rintro e w1 ⟨rfl, hb⟩)
    go_wp2_with fail
    go_ret
    exact ⟨ret_bool HV.out.symm, hb⟩
  · have q : (40 : Int) < (L.length : Int) := by omega
    have HV := Lib.hid (show smallB L = false by unfold smallB; simp [h40])
    clear h hu h40
    go_enter Tryd.func20, Tryd.ntmps20
    go_wp2_with fail
    go_ret
    exact ⟨ret_bool HV.out.symm, Below.refl _ _⟩
end Go.Proofs.YtlocbindafdmhaaDoor
