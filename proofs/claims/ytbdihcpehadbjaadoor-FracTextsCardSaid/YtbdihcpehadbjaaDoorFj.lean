/- Neg, Floor, Ceil, Cmp of the reference; Cmp of package frac: what a call returns. -/
import Derived.Test.YtbdihcpehadbjaaDoorFi
namespace Go.Proofs.YtbdihcpehadbjaaDoor
open Go.RowKit

set_option maxHeartbeats 800000 in
theorem rneg_any (n d : Int) (w : World) (h1 : -1073741824 ≤ n) (h2 : n ≤ 1073741824) :
    Calls Tryd.prog 18 #[.agg #[.int .i64 n, .int .i64 d]] w fun e w' => e = .returned (.agg #[.int .i64 (-n), .int .i64 d]) ∧ Below w.heap.size w w' := by
  go_enter Tryd.func18, Tryd.ntmps18
  go_wp2_with fail
  exact bodyPost_ret (v := .agg #[.int .i64 (-n), .int .i64 d]) (by simp [results, Tryd.results18, go_sem]) rfl ⟨rfl, ((Below.refl _ _).alloc (Nat.le_refl _) _).alloc (by simp) _⟩

theorem vldB_neg (n d : Int) (h : vldB n d = true) : vldB (-n) d = true := by
  obtain ⟨p1, p2, p3, p4, p5⟩ := vldB_parts h
  unfold vldB; rw [gcv_neg]; simp only [decide_eq_true_eq]; exact ⟨by omega, by omega, p3, p4, p5⟩

set_option maxHeartbeats 800000 in
theorem rfloor_ok (n d : Int) (w : World) (p1 : -1073741824 ≤ n) (p2 : n ≤ 1073741824) (p3 : 1 ≤ d) (p4 : d ≤ 1073741824) :
    Calls Tryd.prog 20 #[.agg #[.int .i64 n, .int .i64 d]] w fun e w' => e = .returned (.int .i64 (n / d)) ∧ Below w.heap.size w w' := by
  obtain ⟨q1, q2⟩ := tdiv_bd n d p3 p1 p2
  have dz : (d == 0) = false := by simp; omega
  have kq : wrap64 (n.tdiv d) = n.tdiv d := IntWalk.wrap64_in _ (by omega)
  by_cases hm : n.tmod d < 0
  · go_enter Tryd.func20, Tryd.ntmps20
    go_wp2_with fail
    go_ret
    exact ⟨ret_int (floor_neg n d p3 hm), (Below.refl _ _).alloc (Nat.le_refl _) _⟩
  · go_enter Tryd.func20, Tryd.ntmps20
    go_wp2_with fail
    go_ret
    exact ⟨ret_int (floor_pos n d p3 (by omega)), (Below.refl _ _).alloc (Nat.le_refl _) _⟩

theorem ediv_bd (n d : Int) (hd : 1 ≤ d) (h1 : -1073741824 ≤ n) (h2 : n ≤ 1073741824) : -1073741824 ≤ n / d ∧ n / d ≤ 1073741824 := by
  constructor
  · rw [Int.le_ediv_iff_mul_le (by omega)]; have := Int.mul_le_mul_of_nonneg_left hd (show (0 : Int) ≤ 1073741824 by omega); omega
  · have h : n / d < 1073741824 + 1 := by
      rw [Int.ediv_lt_iff_lt_mul (by omega)]; have := Int.mul_le_mul_of_nonneg_left hd (show (0 : Int) ≤ 1073741824 + 1 by omega); omega
    omega

set_option maxHeartbeats 800000 in
theorem rceil_ok (n d : Int) (w : World) (p1 : -1073741824 ≤ n) (p2 : n ≤ 1073741824) (p3 : 1 ≤ d) (p4 : d ≤ 1073741824) :
    Calls Tryd.prog 21 #[.agg #[.int .i64 n, .int .i64 d]] w fun e w' => e = .returned (.int .i64 (-((-n) / d))) ∧ Below w.heap.size w w' := by
  obtain ⟨q1, q2⟩ := ediv_bd (-n) d p3 (by omega) (by omega)
  go_enter Tryd.func21, Tryd.ntmps21
  go_wp2_with fail
  ((with_reducible refine (rneg_any n d _ p1 p2).mono ?_); rintro e w1 ⟨rfl, hb1⟩)
  go_wp2_with fail
  ((with_reducible refine (rfloor_ok (-n) d _ (by omega) (by omega) p3 p4).mono ?_); rintro e w2 ⟨rfl, hb2⟩)
  go_wp2_with fail
  go_ret
  exact ⟨ret_int (by omega), below_then (below_then (below_alloc _ _) hb1) hb2⟩

/-- the order of two fractions -/
def cmpv (an ad bn bd : Int) : Int := if an * bd < bn * ad then -1 else if bn * ad < an * bd then 1 else 0

set_option maxHeartbeats 800000 in
theorem rcmp_any (an ad bn bd : Int) (w : World) (ha : vldB an ad = true) (hb : vldB bn bd = true) :
    Calls Tryd.prog 22 #[.agg #[.int .i64 an, .int .i64 ad], .agg #[.int .i64 bn, .int .i64 bd]] w fun e w' => e = .returned (.int .i64 (cmpv an ad bn bd)) ∧ Below w.heap.size w w' := by
  obtain ⟨p1, p2, p3, p4, p5⟩ := vldB_parts ha
  obtain ⟨q1, q2, q3, q4, q5⟩ := vldB_parts hb
  obtain ⟨x1, x2⟩ := mul_bd an bd p1 p2 (by omega) q4
  obtain ⟨y1, y2⟩ := mul_bd bn ad q1 q2 (by omega) p4
  clear p5 q5 ha hb
  have hcase : (an * bd < bn * ad ∧ cmpv an ad bn bd = -1) ∨ (bn * ad < an * bd ∧ cmpv an ad bn bd = 1) ∨ (bn * ad ≤ an * bd ∧ an * bd ≤ bn * ad ∧ cmpv an ad bn bd = 0) := by
    unfold cmpv
    by_cases h1 : an * bd < bn * ad
    · exact .inl ⟨h1, if_pos h1⟩
    · by_cases h2 : bn * ad < an * bd
      · exact .inr (.inl ⟨h2, by rw [if_neg h1, if_pos h2]⟩)
      · exact .inr (.inr ⟨by omega, by omega, by rw [if_neg h1, if_neg h2]⟩)
  rcases hcase with ⟨c1, hc⟩ | ⟨c1, hc⟩ | ⟨c1, c2, hc⟩
  all_goals
    have HC := Lib.hid hc; clear hc
    go_enter Tryd.func22, Tryd.ntmps22
    go_wp2_with fail
    go_ret
    exact ⟨ret_int HC.out.symm, ((Below.refl _ _).alloc (Nat.le_refl _) _).alloc (by simp) _⟩

/-- two fractions lie in two new blocks -/
def Box1 (w w1 : World) (an ad bn bd : Int) : Prop := Below w.heap.size w w1 ∧ Bx w1 w.heap.size an ad ∧ Bx w1 (w.heap.size + 1) bn bd
theorem Box1.below {w w1 w2 : World} {an ad bn bd : Int} (h : Box1 w w1 an ad bn bd) (hb : Below w1.heap.size w1 w2) : Box1 w w2 an ad bn bd :=
  ⟨below_then h.1 hb, h.2.1.below hb, h.2.2.below hb⟩
theorem Box1.start (w : World) (an ad bn bd : Int) : Box1 w ((w.alloc (.cells #[.int .i64 an, .int .i64 ad] 24)).alloc (.cells #[.int .i64 bn, .int .i64 bd] 24)) an ad bn bd :=
  ⟨below_then (below_alloc _ _) (below_alloc _ _), (Bx.new _ _ _).alloc _, by have := Bx.new (w.alloc (.cells #[.int .i64 an, .int .i64 ad] 24)) bn bd; simpa using this⟩

set_option maxHeartbeats 800000 in
theorem cmp_bad (an ad bn bd : Int) (w : World) (ha : i64p (an, ad)) (hb : i64p (bn, bd)) (hv : (vldB an ad && vldB bn bd) = false) :
    Calls Tryd.prog 19 #[.agg #[.int .i64 an, .int .i64 ad], .agg #[.int .i64 bn, .int .i64 bd]] w fun e w' => e = .returned (.tuple #[.int .i64 0, .int .i64 1]) ∧ Below w.heap.size w w' := by
  go_enter Tryd.func19, Tryd.ntmps19
  go_wp2_with fail
  ((with_reducible refine (valid2_any _ _ _ _ _ _ ha hb (by simp)).mono ?_); rintro e w1 ⟨rfl, hb1⟩)
  have hB := ((Box1.start w an ad bn bd).below (below_alloc _ _)).below hb1
  clear hb1
  go_wp2_with fail
  go_ret2
  exact ⟨rfl, hB.1⟩

theorem vldB_i64 {n d : Int} (h : vldB n d = true) : i64p (n, d) := by
  obtain ⟨p1, p2, p3, p4, _⟩ := vldB_parts h
  exact ⟨by simp only; omega, by simp only; omega, by simp only; omega, by simp only; omega⟩

set_option maxHeartbeats 800000 in
theorem cmp_ok (an ad bn bd : Int) (w : World) (ha : vldB an ad = true) (hb : vldB bn bd = true) :
    Calls Tryd.prog 19 #[.agg #[.int .i64 an, .int .i64 ad], .agg #[.int .i64 bn, .int .i64 bd]] w fun e w' => e = .returned (.tuple #[.int .i64 (cmpv an ad bn bd), .int .i64 0]) ∧ Below w.heap.size w w' := by
  obtain ⟨p1, p2, p3, p4, p5⟩ := vldB_parts ha
  obtain ⟨q1, q2, q3, q4, q5⟩ := vldB_parts hb
  obtain ⟨x1, x2⟩ := mul_bd an bd p1 p2 (by omega) q4
  obtain ⟨y1, y2⟩ := mul_bd bn ad q1 q2 (by omega) p4
  clear p5 q5
  have hcase : (an * bd < bn * ad ∧ cmpv an ad bn bd = -1) ∨ (bn * ad < an * bd ∧ cmpv an ad bn bd = 1) ∨ (bn * ad ≤ an * bd ∧ an * bd ≤ bn * ad ∧ cmpv an ad bn bd = 0) := by
    unfold cmpv
    by_cases h1 : an * bd < bn * ad
    · exact .inl ⟨h1, if_pos h1⟩
    · by_cases h2 : bn * ad < an * bd
      · exact .inr (.inl ⟨h2, by rw [if_neg h1, if_pos h2]⟩)
      · exact .inr (.inr ⟨by omega, by omega, by rw [if_neg h1, if_neg h2]⟩)
  have hva := vldB_i64 ha
  have hvb := vldB_i64 hb
  rcases hcase with ⟨c1, hc⟩ | ⟨c1, hc⟩ | ⟨c1, c2, hc⟩
  all_goals
    have HC := Lib.hid hc; clear hc
    go_enter Tryd.func19, Tryd.ntmps19
    go_wp2_with fail
    ((with_reducible refine (valid2_any _ _ _ _ _ _ hva hvb (by simp)).mono ?_); rintro e w1 ⟨rfl, hb1⟩)
    have hB := ((Box1.start w an ad bn bd).below (below_alloc _ _)).below hb1
    clear hb1
    obtain ⟨hbl, ⟨z1, a0, a1⟩, ⟨z2, b0, b1⟩⟩ := hB
    go_wp2_with fail
    have k1 : IntKind.i64.wrap (an * bd) = an * bd := IntWalk.i64_in _ (by omega)
    have k2 : IntKind.i64.wrap (bn * ad) = bn * ad := IntWalk.i64_in _ (by omega)
    go_quiet (fail)
    clear k1 k2
    go_wp2_with fail
    go_ret2
    exact ⟨ret_ints HC.out.symm rfl, below_drewN hbl _⟩
end Go.Proofs.YtbdihcpehadbjaaDoor
