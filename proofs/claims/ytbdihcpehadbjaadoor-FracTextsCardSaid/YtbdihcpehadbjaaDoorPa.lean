/- Plain facts on greatest common divisors and on what fit and Make return. -/
import Derived.Test.YtbdihcpehadbjaaDoorFd
namespace Go.Proofs.YtbdihcpehadbjaaDoor
open Go.RowKit

theorem gcv_scale (k n d : Int) (hk : 1 ≤ k) : gcv (k * n) (k * d) = k * gcv n d := by
  unfold gcv
  rw [Int.natAbs_mul, Int.natAbs_mul, Nat.gcd_mul_left, Int.natCast_mul]
  congr 1; omega
theorem gcv_abs (n d : Int) : gcv (n.natAbs : Int) (d.natAbs : Int) = gcv n d := by unfold gcv; rfl
theorem fitv_scale (b : Bool) (k num den : Int) (hk : 1 ≤ k) : fitv b (k * num) (k * den) = fitv b num den := by
  unfold fitv
  rw [gcv_scale k num den hk, Int.mul_ediv_mul_of_pos _ _ (by omega : 0 < k), Int.mul_ediv_mul_of_pos _ _ (by omega : 0 < k)]
theorem mkv_pos (s d : Int) (hd : 1 ≤ d) : mkv s d = fitv (decide (s < 0)) (s.natAbs : Int) d := by
  unfold mkv
  rw [if_neg (by omega)]
  have e1 : ((d.natAbs : Nat) : Int) = d := by omega
  have e2 : decide (d < 0) = false := by simp; omega
  rw [e1, e2]; cases decide (s < 0) <;> rfl
theorem mkv_scale (k s d : Int) (hk : 1 ≤ k) (hd : 1 ≤ d) : mkv (k * s) (k * d) = mkv s d := by
  have h1 : 1 ≤ k * d := Int.le_trans hd (by have := Int.mul_le_mul_of_nonneg_right hk (show 0 ≤ d by omega); omega)
  rw [mkv_pos _ _ h1, mkv_pos _ _ hd]
  have e1 : decide (k * s < 0) = decide (s < 0) := by
    rw [decide_eq_decide]
    constructor
    · intro h; apply Int.lt_of_not_ge; intro h2; have := Int.mul_nonneg (show 0 ≤ k by omega) h2; omega
    · intro h; exact Int.mul_neg_of_pos_of_neg (by omega) h
  have e2 : ((k * s).natAbs : Int) = k * (s.natAbs : Int) := by rw [Int.natAbs_mul, Int.natCast_mul]; congr 1; omega
  rw [e1, e2, fitv_scale _ _ _ _ hk]
theorem gcv_dvd_right (a b : Int) : gcv a b ∣ b := by
  unfold gcv; exact Int.ofNat_dvd_left.2 (Nat.gcd_dvd_right _ _)
theorem gcv_dvd_left (a b : Int) : gcv a b ∣ a := by
  unfold gcv; exact Int.ofNat_dvd_left.2 (Nat.gcd_dvd_left _ _)
theorem gcv_right (a b : Int) : gcv a b * (b / gcv a b) = b := Int.mul_ediv_cancel' (gcv_dvd_right a b)
theorem gcv_left (a b : Int) : gcv a b * (a / gcv a b) = a := Int.mul_ediv_cancel' (gcv_dvd_left a b)

theorem add_plain (an ad bn bd g : Int) (ha : 1 ≤ ad) (hb : 1 ≤ bd) (hg : gcv ad bd = g) :
    mkv (an * bd + bn * ad) (ad * bd) = fitv (decide (an * (bd / g) + bn * (ad / g) < 0)) ((an * (bd / g) + bn * (ad / g)).natAbs : Int) (ad * (bd / g)) := by
  subst hg
  have hg := gcv_pos ad bd (by omega)
  have e1 := gcv_right ad bd
  have e2 := gcv_left ad bd
  generalize gcv ad bd = g at *
  have hB : 1 ≤ bd / g := by
    rcases Int.lt_or_le (bd / g) 1 with h | h
    · have h0 : bd / g ≤ 0 := by omega
      have := Int.mul_nonpos_of_nonneg_of_nonpos (show 0 ≤ g by omega) h0
      omega
    · exact h
  have hD : 1 ≤ ad * (bd / g) := by
    have := Int.mul_le_mul_of_nonneg_right ha (show 0 ≤ bd / g by omega); omega
  generalize hBB : bd / g = B at *
  generalize hAA : ad / g = A at *
  have n1 : an * bd + bn * ad = g * (an * B + bn * A) := by
    rw [← e1, ← e2, Int.mul_add]; congr 1
    · rw [Int.mul_left_comm]
    · rw [Int.mul_left_comm]
  have n2 : ad * bd = g * (ad * B) := by rw [← e1, Int.mul_left_comm]
  rw [n1, n2, mkv_scale g _ _ hg hD, mkv_pos _ _ hD]
theorem den_pos (ad bd g : Int) (ha : 1 ≤ ad) (hb : 1 ≤ bd) (hg : gcv ad bd = g) : 1 ≤ ad * (bd / g) := by
  subst hg
  have hg := gcv_pos ad bd (by omega)
  have e1 := gcv_right ad bd
  generalize gcv ad bd = g at *
  have hB : 1 ≤ bd / g := by
    rcases Int.lt_or_le (bd / g) 1 with h | h
    · have h0 : bd / g ≤ 0 := by omega
      have := Int.mul_nonpos_of_nonneg_of_nonpos (show 0 ≤ g by omega) h0
      omega
    · exact h
  have := Int.mul_le_mul_of_nonneg_right ha (show 0 ≤ bd / g by omega); omega
end Go.Proofs.YtbdihcpehadbjaaDoor
