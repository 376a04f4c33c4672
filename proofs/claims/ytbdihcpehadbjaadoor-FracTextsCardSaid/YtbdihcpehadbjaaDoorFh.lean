/- Floor, Ceil of package frac; Valid, Neg, Floor, Ceil, Cmp of the reference: what a call returns. -/
import Derived.Test.YtbdihcpehadbjaaDoorFf
import Derived.Test.YtbdihcpehadbjaaDoorFg
namespace Go.Proofs.YtbdihcpehadbjaaDoor
open Go.RowKit

theorem floor_neg (n d : Int) (hd : 1 ≤ d) (h : n.tmod d < 0) : n.tdiv d - 1 = n / d := by
  have e := Int.tmod_add_mul_tdiv n d
  have b : -d < n.tmod d := Int.lt_tmod_of_pos n (by omega)
  have e2 : n / d = n.tdiv d - 1 := by
    rw [Int.ediv_eq_iff_of_pos (by omega : 0 < d)]
    rw [Int.sub_mul, Int.mul_comm] ; omega
  omega
theorem floor_pos (n d : Int) (hd : 1 ≤ d) (h : 0 ≤ n.tmod d) : n.tdiv d = n / d := by
  have e := Int.tmod_add_mul_tdiv n d
  have b : n.tmod d < d := Int.tmod_lt_of_pos n (by omega)
  symm
  rw [Int.ediv_eq_iff_of_pos (by omega : 0 < d)]
  rw [Int.mul_comm]; omega
theorem ceil_neg (n d : Int) (hd : 1 ≤ d) (h : 0 < n.tmod d) : n.tdiv d + 1 = -((-n) / d) := by
  have := floor_neg (-n) d hd (by rw [Int.neg_tmod]; omega)
  rw [Int.neg_tdiv] at this; omega
theorem ceil_pos (n d : Int) (hd : 1 ≤ d) (h : n.tmod d ≤ 0) : n.tdiv d = -((-n) / d) := by
  have := floor_pos (-n) d hd (by rw [Int.neg_tmod]; omega)
  rw [Int.neg_tdiv] at this; omega
theorem tdiv_bd (n d : Int) (_hd : 1 ≤ d) (h1 : -1073741824 ≤ n) (h2 : n ≤ 1073741824) : -1073741824 ≤ n.tdiv d ∧ n.tdiv d ≤ 1073741824 := by
  have h : (n.tdiv d).natAbs ≤ n.natAbs := by rw [Int.natAbs_tdiv]; exact Nat.div_le_self _ _
  omega

theorem ret_ints {a b c d : Int} (h : a = c) (h2 : b = d) : Ending.returned (.tuple #[.int .i64 a, .int .i64 b]) = .returned (.tuple #[.int .i64 c, .int .i64 d]) := by rw [h, h2]

set_option maxHeartbeats 800000 in
theorem floor_ok (n d : Int) (w : World) (hv : vldB n d = true) :
    Calls Tryd.prog 16 #[.agg #[.int .i64 n, .int .i64 d]] w fun e w' => e = .returned (.tuple #[.int .i64 (n / d), .int .i64 0]) ∧ Below w.heap.size w w' := by
  obtain ⟨p1, p2, p3, p4, p5⟩ := vldB_parts hv
  clear p5
  obtain ⟨q1, q2⟩ := tdiv_bd n d p3 p1 p2
  have dz : (d == 0) = false := by simp; omega
  have kq : wrap64 (n.tdiv d) = n.tdiv d := IntWalk.wrap64_in _ (by omega)
  have kq2 : IntKind.i64.wrap (n.tdiv d) = n.tdiv d := IntWalk.i64_in _ (by omega)
  by_cases hm : n.tmod d < 0
  · go_enter Tryd.func16, Tryd.ntmps16
    go_wp2_with fail
    ((with_reducible refine (valid1_any _ _ _ (by omega) (by omega) (by omega) (by omega)).mono ?_); rintro e w1 ⟨rfl, hb1⟩)
    obtain ⟨hc, hf⟩ := bcell hb1
    go_wp2_with fail
    go_ret2
    exact ⟨ret_ints (floor_neg n d p3 hm) rfl, ((Below.refl _ _).alloc (Nat.le_refl _) _).trans (hb1.mono (by simp))⟩
  · go_enter Tryd.func16, Tryd.ntmps16
    go_wp2_with fail
    ((with_reducible refine (valid1_any _ _ _ (by omega) (by omega) (by omega) (by omega)).mono ?_); rintro e w1 ⟨rfl, hb1⟩)
    obtain ⟨hc, hf⟩ := bcell hb1
    go_wp2_with fail
    go_ret2
    exact ⟨ret_ints (floor_pos n d p3 (by omega)) rfl, ((Below.refl _ _).alloc (Nat.le_refl _) _).trans (hb1.mono (by simp))⟩

set_option maxHeartbeats 800000 in
theorem floor_bad (n d : Int) (w : World) (hi : i64p (n, d)) (hv : vldB n d = false) :
    Calls Tryd.prog 16 #[.agg #[.int .i64 n, .int .i64 d]] w fun e w' => e = .returned (.tuple #[.int .i64 0, .int .i64 1]) ∧ Below w.heap.size w w' := by
  obtain ⟨i1, i2, i3, i4⟩ := hi
  go_enter Tryd.func16, Tryd.ntmps16
  go_wp2_with fail
  ((with_reducible refine (valid1_any _ _ _ i1 i2 i3 i4).mono ?_); rintro e w1 ⟨rfl, hb1⟩)
  go_wp2_with fail
  go_ret2
  exact ⟨rfl, ((Below.refl _ _).alloc (Nat.le_refl _) _).trans (hb1.mono (by simp))⟩

set_option maxHeartbeats 800000 in
theorem ceil_ok (n d : Int) (w : World) (hv : vldB n d = true) :
    Calls Tryd.prog 17 #[.agg #[.int .i64 n, .int .i64 d]] w fun e w' => e = .returned (.tuple #[.int .i64 (-((-n) / d)), .int .i64 0]) ∧ Below w.heap.size w w' := by
  obtain ⟨p1, p2, p3, p4, p5⟩ := vldB_parts hv
  clear p5
  obtain ⟨q1, q2⟩ := tdiv_bd n d p3 p1 p2
  have dz : (d == 0) = false := by simp; omega
  have kq : wrap64 (n.tdiv d) = n.tdiv d := IntWalk.wrap64_in _ (by omega)
  by_cases hm : 0 < n.tmod d
  · go_enter Tryd.func17, Tryd.ntmps17
    go_wp2_with fail
    ((with_reducible refine (valid1_any _ _ _ (by omega) (by omega) (by omega) (by omega)).mono ?_); rintro e w1 ⟨rfl, hb1⟩)
    obtain ⟨hc, hf⟩ := bcell hb1
    go_wp2_with fail
    go_ret2
    exact ⟨ret_ints (ceil_neg n d p3 hm) rfl, ((Below.refl _ _).alloc (Nat.le_refl _) _).trans (hb1.mono (by simp))⟩
  · go_enter Tryd.func17, Tryd.ntmps17
    go_wp2_with fail
    ((with_reducible refine (valid1_any _ _ _ (by omega) (by omega) (by omega) (by omega)).mono ?_); rintro e w1 ⟨rfl, hb1⟩)
    obtain ⟨hc, hf⟩ := bcell hb1
    go_wp2_with fail
    go_ret2
    exact ⟨ret_ints (ceil_pos n d p3 (by omega)) rfl, ((Below.refl _ _).alloc (Nat.le_refl _) _).trans (hb1.mono (by simp))⟩

set_option maxHeartbeats 800000 in
theorem ceil_bad (n d : Int) (w : World) (hi : i64p (n, d)) (hv : vldB n d = false) :
    Calls Tryd.prog 17 #[.agg #[.int .i64 n, .int .i64 d]] w fun e w' => e = .returned (.tuple #[.int .i64 0, .int .i64 1]) ∧ Below w.heap.size w w' := by
  obtain ⟨i1, i2, i3, i4⟩ := hi
  go_enter Tryd.func17, Tryd.ntmps17
  go_wp2_with fail
  ((with_reducible refine (valid1_any _ _ _ i1 i2 i3 i4).mono ?_); rintro e w1 ⟨rfl, hb1⟩)
  go_wp2_with fail
  go_ret2
  exact ⟨rfl, ((Below.refl _ _).alloc (Nat.le_refl _) _).trans (hb1.mono (by simp))⟩

/-- Make keeps a fraction exactly if it is valid -/
theorem mkv_self (n d : Int) (c1 : -1073741824 ≤ n) (c2 : n ≤ 1073741824) (c3 : 1 ≤ d) (c4 : d ≤ 1073741824) : ((mkv n d).1 == n && (mkv n d).2.1 == d) = vldB n d := by
  have hg := gcv_pos n d (by omega)
  have hN : ∀ x : Int, 0 ≤ x → x / gcv n d ≤ x := fun x hx => Int.ediv_le_self _ hx
  have hm : mkv n d = (if decide (n < 0) then -((n.natAbs : Int) / gcv n d) else (n.natAbs : Int) / gcv n d, d / gcv n d, 0) := by
    rw [mkv_pos _ _ c3]; unfold fitv
    have e : gcv (n.natAbs : Int) d = gcv n d := by unfold gcv; simp
    have h1 := hN (n.natAbs : Int) (by omega)
    have h2 := hN d (by omega)
    rw [e, if_pos (by omega)]
  rw [hm, Bool.eq_iff_iff]
  unfold vldB
  simp only [Bool.and_eq_true, beq_iff_eq, decide_eq_true_eq]
  constructor
  · rintro ⟨_, h2⟩
    refine ⟨c1, c2, c3, c4, ?_⟩
    have := gcv_right n d
    rw [h2] at this
    have h3 : (gcv n d - 1) * d = 0 := by rw [Int.sub_mul]; omega
    rcases Int.mul_eq_zero.1 h3 with h | h <;> omega
  · rintro ⟨_, _, _, _, h⟩
    rw [h]
    simp only [Int.ediv_one, and_true]
    split <;> omega

set_option maxHeartbeats 800000 in
theorem rvalid_any (n d : Int) (w : World) (hi : i64p (n, d)) :
    Calls Tryd.prog 15 #[.agg #[.int .i64 n, .int .i64 d]] w fun e w' => e = .returned (.bool (vldB n d)) ∧ Below w.heap.size w w' := by
  obtain ⟨i1, i2, i3, i4⟩ := hi
  have no : ¬ (-1073741824 ≤ n ∧ n ≤ 1073741824 ∧ 1 ≤ d ∧ d ≤ 1073741824) → vldB n d = false := fun h => by
    unfold vldB; simp only [decide_eq_false_iff_not]; rintro ⟨a, b, c, e, _⟩; exact h ⟨a, b, c, e⟩
  by_cases hall : -1073741824 ≤ n ∧ n ≤ 1073741824 ∧ 1 ≤ d ∧ d ≤ 1073741824
  · obtain ⟨c1, c2, c3, c4⟩ := hall
    clear no
    have HV := Lib.hid (mkv_self n d c1 c2 c3 c4)
    go_enter Tryd.func15, Tryd.ntmps15
    go_wp2_with fail
    ((with_reducible refine (rmake_any _ _ _ (by omega) (by omega) (by omega) (by omega)).mono ?_); rintro e w1 ⟨rfl, hb1⟩)
    obtain ⟨hc, hf⟩ := bcell hb1
    have hz := hb1.size
    have hz2 : w.heap.size < w1.heap.size := by simp at hz; omega
    clear hz
    unfold ret3
    go_wp2_with fail
    all_goals
      clear hc hf
      go_ret
      exact ⟨ret_bool (by rw [← HV.out]; simp [*]), (((Below.refl _ _).alloc (Nat.le_refl _) _).trans (hb1.mono (by simp))).alloc (by omega) _⟩
  · have HV := Lib.hid (no hall); clear no
    have hall2 : n < -1073741824 ∨ (-1073741824 ≤ n ∧ 1073741824 < n) ∨ (-1073741824 ≤ n ∧ n ≤ 1073741824 ∧ d < 1) ∨ (-1073741824 ≤ n ∧ n ≤ 1073741824 ∧ 1 ≤ d ∧ 1073741824 < d) := by omega
    clear hall
    rcases hall2 with hh | ⟨h1, h2⟩ | ⟨h1, h2, h3⟩ | ⟨h1, h2, h3, h4⟩
    all_goals
      go_enter Tryd.func15, Tryd.ntmps15
      go_wp2_with fail
      go_ret
      exact ⟨ret_bool HV.out.symm, (Below.refl _ _).alloc (Nat.le_refl _) _⟩
end Go.Proofs.YtbdihcpehadbjaaDoor
