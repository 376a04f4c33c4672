/- literal of package token: the length of the literal at the beginning. -/
import Derived.Test.YtbbdgncjpbfooaaGreatDoorKf
namespace Go.Proofs.YtbbdgncjpbfooaaGreatDoor
open Go.RowKit

/-- a literal's length and error number, the bytes before it counted -/
def litN (l : List UInt8) (k : Nat) : Nat × Nat := match lit l with | .ok (_, n) => (k + n, 0) | .error e => (0, e)
theorem litN_nil (k : Nat) : litN [] k = (0, 4) := rfl
theorem litN_end (c : UInt8) (l : List UInt8) (k : Nat) (h : (c.toNat : Int) = 34) : litN (c :: l) k = (k + 1, 0) := by
  unfold litN; rw [lit.eq_def]; simp only [if_pos (show c.toNat = 34 by omega)]
theorem litN_bad (c : UInt8) (l : List UInt8) (k : Nat) (h : (c.toNat : Int) ≠ 34) (h2 : isPr c = false) : litN (c :: l) k = (0, 3) := by
  unfold litN; rw [lit.eq_def]; simp only [if_neg (show ¬ c.toNat = 34 by omega), if_pos h2]
theorem litN_next (c : UInt8) (l : List UInt8) (k : Nat) (h : (c.toNat : Int) ≠ 34) (h2 : isPr c = true) (h3 : (c.toNat : Int) ≠ 92) : litN (c :: l) k = litN l (k + 1) := by
  unfold litN; rw [lit.eq_def]; simp only [if_neg (show ¬ c.toNat = 34 by omega), h2, Bool.true_eq_false, if_false, if_neg (show ¬ c.toNat = 92 by omega)]
  cases lit l <;> simp; omega
theorem pr_of (c : UInt8) (h : (c.toNat : Int) = 92) : isPr c = true := by unfold isPr; simp; omega
theorem litN_bs (c : UInt8) (k : Nat) (h : (c.toNat : Int) = 92) : litN [c] k = (0, 4) := by
  unfold litN; rw [lit.eq_def]; simp only [if_neg (show ¬ c.toNat = 34 by omega), pr_of c h, Bool.true_eq_false, if_false, if_pos (show c.toNat = 92 by omega)]
theorem litN_esc (c d : UInt8) (l : List UInt8) (k : Nat) (h : (c.toNat : Int) = 92) (hd : (d.toNat : Int) = 34 ∨ (d.toNat : Int) = 92) : litN (c :: d :: l) k = litN l (k + 2) := by
  unfold litN; rw [lit.eq_def]; simp only [if_neg (show ¬ c.toNat = 34 by omega), pr_of c h, Bool.true_eq_false, if_false, if_pos (show c.toNat = 92 by omega), if_pos (show d.toNat = 34 ∨ d.toNat = 92 by omega)]
  cases lit l <;> simp; omega
theorem litN_esb (c d : UInt8) (l : List UInt8) (k : Nat) (h : (c.toNat : Int) = 92) (hd : (d.toNat : Int) ≠ 34 ∧ (d.toNat : Int) ≠ 92) : litN (c :: d :: l) k = (0, 3) := by
  unfold litN; rw [lit.eq_def]; simp only [if_neg (show ¬ c.toNat = 34 by omega), pr_of c h, Bool.true_eq_false, if_false, if_pos (show c.toNat = 92 by omega), if_neg (show ¬ (d.toNat = 34 ∨ d.toNat = 92) by omega)]
theorem ret_ints {a b c d : Int} (h : a = b) (h' : c = d) : Ending.returned (.tuple #[.int .i64 a, .int .i64 c]) = .returned (.tuple #[.int .i64 b, .int .i64 d]) := by rw [h, h']

end Go.Proofs.YtbbdgncjpbfooaaGreatDoor
