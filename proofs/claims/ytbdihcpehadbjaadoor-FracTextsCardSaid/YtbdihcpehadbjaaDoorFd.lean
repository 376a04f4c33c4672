/- Valid of package frac: what a call returns. -/
import Derived.Test.YtbdihcpehadbjaaDoorFc
namespace Go.Proofs.YtbdihcpehadbjaaDoor
open Go.RowKit

/-- a fraction is valid -/
def vldB (n d : Int) : Bool := decide (-1073741824 ≤ n ∧ n ≤ 1073741824 ∧ 1 ≤ d ∧ d ≤ 1073741824 ∧ gcv n d = 1)
theorem ret_bool {a b : Bool} (h : a = b) : Ending.returned (.bool a) = .returned (.bool b) := by rw [h]
theorem gcv_neg (a b : Int) : gcv (-a) b = gcv a b := by unfold gcv; rw [Int.natAbs_neg]
theorem vldB_in (n d : Int) (c1 : -1073741824 ≤ n) (c2 : n ≤ 1073741824) (c3 : 1 ≤ d) (c4 : d ≤ 1073741824) : (gcv n d == 1) = vldB n d := by
  unfold vldB; rw [Bool.eq_iff_iff]; simp [c1, c2, c3, c4]
theorem vldB_inn (n d : Int) (c1 : -1073741824 ≤ n) (c2 : n ≤ 1073741824) (c3 : 1 ≤ d) (c4 : d ≤ 1073741824) : (gcv (-n) d == 1) = vldB n d := by
  rw [gcv_neg]; exact vldB_in n d c1 c2 c3 c4

set_option maxHeartbeats 800000 in
theorem valid1_any (n d : Int) (w : World) (h : -9223372036854775808 ≤ n) (h' : n ≤ 9223372036854775807) (hd : -9223372036854775808 ≤ d) (hd' : d ≤ 9223372036854775807) :
    Calls Tryd.prog 14 #[.agg #[.int .i64 n, .int .i64 d]] w fun e w' => e = .returned (.bool (vldB n d)) ∧ Below w.heap.size w w' := by
  by_cases c1 : -1073741824 ≤ n
  · by_cases c2 : n ≤ 1073741824
    · by_cases c3 : 1 ≤ d
      · by_cases c4 : d ≤ 1073741824
        · by_cases c5 : 0 ≤ n
          · have c6 : -n ≤ n := by omega
            go_enter Tryd.func14, Tryd.ntmps14
            go_wp2_with fail
            ((with_reducible refine (gcd_any _ _ _ (by omega) (by omega) (by omega) (by omega)).mono ?_); rintro e w1 ⟨rfl, hb⟩)
            go_wp2_with fail
            go_ret
            exact ⟨ret_bool (vldB_in n d c1 c2 c3 c4), ((Below.refl _ _).alloc (Nat.le_refl _) _).trans (hb.mono (by simp))⟩
          · have c6 : n ≤ -n := by omega
            have c7 : ¬ (-n ≤ n) := by omega
            go_enter Tryd.func14, Tryd.ntmps14
            go_wp2_with fail
            ((with_reducible refine (gcd_any _ _ _ (by omega) (by omega) (by omega) (by omega)).mono ?_); rintro e w1 ⟨rfl, hb⟩)
            go_wp2_with fail
            go_ret
            exact ⟨ret_bool (vldB_inn n d c1 c2 c3 c4), ((Below.refl _ _).alloc (Nat.le_refl _) _).trans (hb.mono (by simp))⟩
        · have HV := Lib.hid (show vldB n d = false by unfold vldB; simp; omega)
          go_enter Tryd.func14, Tryd.ntmps14
          go_wp2_with fail
          go_ret
          exact ⟨ret_bool HV.out.symm, (Below.refl _ _).alloc (Nat.le_refl _) _⟩
      · have HV := Lib.hid (show vldB n d = false by unfold vldB; simp; omega)
        go_enter Tryd.func14, Tryd.ntmps14
        go_wp2_with fail
        go_ret
        exact ⟨ret_bool HV.out.symm, (Below.refl _ _).alloc (Nat.le_refl _) _⟩
    · have HV := Lib.hid (show vldB n d = false by unfold vldB; simp; omega)
      go_enter Tryd.func14, Tryd.ntmps14
      go_wp2_with fail
      go_ret
      exact ⟨ret_bool HV.out.symm, (Below.refl _ _).alloc (Nat.le_refl _) _⟩
  · have HV := Lib.hid (show vldB n d = false by unfold vldB; simp; omega)
    go_enter Tryd.func14, Tryd.ntmps14
    go_wp2_with fail
    go_ret
    exact ⟨ret_bool HV.out.symm, (Below.refl _ _).alloc (Nat.le_refl _) _⟩

set_option maxHeartbeats 800000 in
theorem invalid1_any (n d : Int) (w : World) (h : -9223372036854775808 ≤ n) (h' : n ≤ 9223372036854775807) (hd : -9223372036854775808 ≤ d) (hd' : d ≤ 9223372036854775807) :
    Calls Tryd.prog 51 #[.agg #[.int .i64 n, .int .i64 d]] w fun e w' => e = .returned (.bool (!vldB n d)) ∧ Below w.heap.size w w' := by
  go_enter Tryd.func51, Tryd.ntmps51
  go_wp2_with fail
  ((with_reducible refine (valid1_any _ _ _ (by omega) (by omega) (by omega) (by omega)).mono ?_); rintro e w1 ⟨rfl, hb⟩)
  go_wp2_with fail
  go_ret
  exact ⟨rfl, ((Below.refl _ _).alloc (Nat.le_refl _) _).trans (hb.mono (by simp))⟩
end Go.Proofs.YtbdihcpehadbjaaDoor
