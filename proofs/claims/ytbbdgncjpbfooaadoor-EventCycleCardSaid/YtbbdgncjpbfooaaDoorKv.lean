/- text of the reference: what a call returns. -/
import Derived.Test.YtbbdgncjpbfooaaDoorKu
namespace Go.Proofs.YtbbdgncjpbfooaaDoor
open Go.RowKit

/-- a literal behind what was read of it -/
def litP (acc : List UInt8) (k : Nat) (l : List UInt8) : Except Nat (List UInt8 × Nat) := match lit l with | .ok (t, n) => .ok (acc ++ t, k + n) | .error e => .error e
theorem litP_start (l : List UInt8) : litP [] 0 l = lit l := by
  unfold litP; cases lit l with
  | error e => rfl
  | ok x => simp
theorem litP_nil (acc : List UInt8) (k : Nat) : litP acc k [] = .error 4 := rfl
theorem litP_end (acc : List UInt8) (k : Nat) (c : UInt8) (l : List UInt8) (h : (c.toNat : Int) = 34) : litP acc k (c :: l) = .ok (acc, k + 1) := by
  unfold litP; rw [lit.eq_def]; simp only [if_pos (show c.toNat = 34 by omega), List.append_nil]
theorem litP_bad (acc : List UInt8) (k : Nat) (c : UInt8) (l : List UInt8) (h : (c.toNat : Int) ≠ 34) (h2 : isPr c = false) : litP acc k (c :: l) = .error 3 := by
  unfold litP; rw [lit.eq_def]; simp only [if_neg (show ¬ c.toNat = 34 by omega), if_pos h2]
theorem litP_next (acc : List UInt8) (k : Nat) (c : UInt8) (l : List UInt8) (h : (c.toNat : Int) ≠ 34) (h2 : isPr c = true) (h3 : (c.toNat : Int) ≠ 92) : litP acc k (c :: l) = litP (acc ++ [c]) (k + 1) l := by
  unfold litP; rw [lit.eq_def]; simp only [if_neg (show ¬ c.toNat = 34 by omega), h2, Bool.true_eq_false, if_false, if_neg (show ¬ c.toNat = 92 by omega)]
  cases lit l <;> simp; omega
theorem litP_bs (acc : List UInt8) (k : Nat) (c : UInt8) (h : (c.toNat : Int) = 92) : litP acc k [c] = .error 4 := by
  unfold litP; rw [lit.eq_def]; simp only [if_neg (show ¬ c.toNat = 34 by omega), pr_of c h, Bool.true_eq_false, if_false, if_pos (show c.toNat = 92 by omega)]
theorem litP_esc (acc : List UInt8) (k : Nat) (c d : UInt8) (l : List UInt8) (h : (c.toNat : Int) = 92) (hd : (d.toNat : Int) = 34 ∨ (d.toNat : Int) = 92) : litP acc k (c :: d :: l) = litP (acc ++ [d]) (k + 2) l := by
  unfold litP; rw [lit.eq_def]; simp only [if_neg (show ¬ c.toNat = 34 by omega), pr_of c h, Bool.true_eq_false, if_false, if_pos (show c.toNat = 92 by omega), if_pos (show d.toNat = 34 ∨ d.toNat = 92 by omega)]
  cases lit l <;> simp; omega
theorem litP_esb (acc : List UInt8) (k : Nat) (c d : UInt8) (l : List UInt8) (h : (c.toNat : Int) = 92) (hd : (d.toNat : Int) ≠ 34 ∧ (d.toNat : Int) ≠ 92) : litP acc k (c :: d :: l) = .error 3 := by
  unfold litP; rw [lit.eq_def]; simp only [if_neg (show ¬ c.toNat = 34 by omega), pr_of c h, Bool.true_eq_false, if_false, if_pos (show c.toNat = 92 by omega), if_neg (show ¬ (d.toNat = 34 ∨ d.toNat = 92) by omega)]
theorem ext_one (s : ByteArray) (j : Nat) (h : j < s.size) : (s.extract j (j + 1)).data.toList = [s[j]] := by
  rw [Lib.extract_data, drop_byte s j h, show j + 1 - j = 1 by omega]; rfl
theorem ext_one_size (s : ByteArray) (j : Nat) (h : j < s.size) : (s.extract j (j + 1)).size = 1 := by
  rw [← len_byte, ext_one s j h]; rfl
theorem cat_list (a b : ByteArray) : (a ++ b).data.toList = a.data.toList ++ b.data.toList := by
  obtain ⟨⟨x⟩⟩ := a
  obtain ⟨⟨y⟩⟩ := b
  have := bytes_cat x y
  rw [show (ByteArray.mk { toList := x }) = (⟨x.toArray⟩ : ByteArray) from rfl, show (ByteArray.mk { toList := y }) = (⟨y.toArray⟩ : ByteArray) from rfl, this]
theorem cat_size (a b : ByteArray) : (a ++ b).size = a.size + b.size := by
  rw [← len_byte, cat_list, List.length_append, len_byte, len_byte]

end Go.Proofs.YtbbdgncjpbfooaaDoor
