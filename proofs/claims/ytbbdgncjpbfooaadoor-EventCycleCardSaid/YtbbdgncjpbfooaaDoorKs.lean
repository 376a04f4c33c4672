/- blank, Place, skip of the reference: what a call returns. -/
import Derived.Test.YtbbdgncjpbfooaaDoorKq
namespace Go.Proofs.YtbbdgncjpbfooaaDoor
open Go.RowKit

theorem bl_is (c : UInt8) (h : (c.toNat : Int) = 32 ∨ (c.toNat : Int) = 9 ∨ (c.toNat : Int) = 10 ∨ (c.toNat : Int) = 13) : isBl c = true := by unfold isBl; simp; omega
theorem bl_no (c : UInt8) (h : (c.toNat : Int) ≠ 32 ∧ (c.toNat : Int) ≠ 9 ∧ (c.toNat : Int) ≠ 10 ∧ (c.toNat : Int) ≠ 13) : isBl c = false := by unfold isBl; simp; omega
theorem skipN_true_step (l : List UInt8) (j : Nat) (c : UInt8) (hc : l.drop j = c :: l.drop (j + 1)) (h : (c.toNat : Int) ≠ 10) : skipN (l.drop j) true = skipN (l.drop (j + 1)) true + 1 := by
  rw [hc, skipN, if_neg (by omega)]
theorem skipN_true_end (l : List UInt8) (j : Nat) (c : UInt8) (hc : l.drop j = c :: l.drop (j + 1)) (h : (c.toNat : Int) = 10) : skipN (l.drop j) true = skipN (l.drop j) false := by
  rw [hc, skipN, if_pos (by omega), skipN_blank c _ (bl_is c (.inr (.inr (.inl h))))]
theorem skipN_true_hash (l : List UInt8) (j : Nat) (c : UInt8) (hc : l.drop j = c :: l.drop (j + 1)) (h : (c.toNat : Int) = 35) : skipN (l.drop j) false = skipN (l.drop j) true := by
  rw [hc, skipN, skipN, if_neg (by rw [bl_no c (by omega)]; simp), if_pos (by omega), if_neg (by omega)]

end Go.Proofs.YtbbdgncjpbfooaaDoor
