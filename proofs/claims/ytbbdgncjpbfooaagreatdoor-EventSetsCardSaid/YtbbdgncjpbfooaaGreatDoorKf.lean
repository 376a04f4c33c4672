/- length of package token, at its three tests: how many bytes at the beginning fit. -/
import Derived.Test.YtbbdgncjpbfooaaGreatDoorKb
import Derived.Deep.LoopGhost
namespace Go.Proofs.YtbbdgncjpbfooaaGreatDoor
open Go.RowKit

theorem nm_let (c : UInt8) (h : isLet c = true) : isNm c = true := by unfold isNm; rw [h]; rfl
theorem nm_dig (c : UInt8) (h : isDig c = true) : isNm c = true := by unfold isNm; rw [h]; simp
theorem nm_is (c : UInt8) (h : (c.toNat : Int) = 95 ∨ (c.toNat : Int) = 45 ∨ (c.toNat : Int) = 46) : isNm c = true := by unfold isNm; simp; omega
theorem nm_no (c : UInt8) (h1 : isLet c = false) (h2 : isDig c = false) (h : (c.toNat : Int) ≠ 95 ∧ (c.toNat : Int) ≠ 45 ∧ (c.toNat : Int) ≠ 46) : isNm c = false := by unfold isNm; rw [h1, h2]; simp; omega

theorem pr_parts (c : UInt8) : (((c.toNat : Int) < 32) ∧ isPr c = false) ∨ ((32 ≤ (c.toNat : Int) ∧ (c.toNat : Int) ≤ 126) ∧ isPr c = true) ∨ ((126 < (c.toNat : Int)) ∧ isPr c = false) := by
  unfold isPr
  simp only [decide_eq_true_eq, decide_eq_false_iff_not]
  omega
/-- how many bytes at the beginning fit -/
def spanN (f : UInt8 → Bool) (l : List UInt8) : Nat := (l.takeWhile f).length
theorem spanN_stop (f : UInt8 → Bool) (l : List UInt8) (k : Nat) (c : UInt8) (r : List UInt8) (h : ∀ x ∈ l.take k, f x = true) (hc : l.drop k = c :: r) (hf : f c = false) : spanN f l = k := by
  unfold spanN
  have hk : k ≤ l.length := by
    rcases Nat.lt_or_ge l.length k with h1 | h1
    · rw [List.drop_eq_nil_of_le (Nat.le_of_lt h1)] at hc; cases hc
    · exact h1
  conv => lhs; rw [← List.take_append_drop k l, hc]
  rw [List.takeWhile_append_of_pos h, List.takeWhile_cons, hf]
  simp; omega
theorem spanN_all (f : UInt8 → Bool) (l : List UInt8) (h : ∀ x ∈ l, f x = true) : spanN f l = l.length := by
  unfold spanN
  induction l with
  | nil => rfl
  | cons c l ih => rw [List.takeWhile_cons, h c (List.mem_cons_self ..)]; simp [ih (fun x hx => h x (List.mem_cons_of_mem _ hx))]
theorem take_all (f : UInt8 → Bool) (s : ByteArray) (k : Nat) (h : ∀ x ∈ s.data.toList.take k, f x = true) (hk : k < s.size) (hf : f s[k] = true) : ∀ x ∈ s.data.toList.take (k + 1), f x = true := by
  intro x hx
  rw [take_byte s k hk] at hx
  rcases List.mem_append.1 hx with h1 | h1
  · exact h x h1
  · have : x = s[k] := by simpa using h1
    subst this; exact hf

end Go.Proofs.YtbbdgncjpbfooaaGreatDoor
