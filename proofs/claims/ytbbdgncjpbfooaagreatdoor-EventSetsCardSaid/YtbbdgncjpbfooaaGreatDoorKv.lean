/- blank, Place, skip of the reference: what a call returns. name and number of the reference: what a call returns. number of the reference: what a call returns. text of the reference: what a call returns. -/
import Derived.Test.YtbbdgncjpbfooaaGreatDoorKq
namespace Go.Proofs.YtbbdgncjpbfooaaGreatDoor
section
open Go.RowKit

theorem bl_is (c : UInt8) (h : (c.toNat : Int) = 32 ∨ (c.toNat : Int) = 9 ∨ (c.toNat : Int) = 10 ∨ (c.toNat : Int) = 13) : isBl c = true := by unfold isBl; simp; omega
theorem bl_no (c : UInt8) (h : (c.toNat : Int) ≠ 32 ∧ (c.toNat : Int) ≠ 9 ∧ (c.toNat : Int) ≠ 10 ∧ (c.toNat : Int) ≠ 13) : isBl c = false := by unfold isBl; simp; omega
theorem skipN_true_step (l : List UInt8) (j : Nat) (c : UInt8) (hc : l.drop j = c :: l.drop (j + 1)) (h : (c.toNat : Int) ≠ 10) : skipN (l.drop j) true = skipN (l.drop (j + 1)) true + 1 := by
  rw [hc, skipN, if_neg (by omega)]
theorem skipN_true_end (l : List UInt8) (j : Nat) (c : UInt8) (hc : l.drop j = c :: l.drop (j + 1)) (h : (c.toNat : Int) = 10) : skipN (l.drop j) true = skipN (l.drop j) false := by
  rw [hc, skipN, if_pos (by omega), skipN_blank c _ (bl_is c (.inr (.inr (.inl h))))]
theorem skipN_true_hash (l : List UInt8) (j : Nat) (c : UInt8) (hc : l.drop j = c :: l.drop (j + 1)) (h : (c.toNat : Int) = 35) : skipN (l.drop j) false = skipN (l.drop j) true := by
  rw [hc, skipN, skipN, if_neg (by rw [bl_no c (by omega)]; simp), if_pos (by omega), if_neg (by omega)]
end
section
open Go.RowKit

/-- what the reference's readers return: the token, the index behind it, the error number -/
def rtkRet (R : Except Nat (Tok × Nat)) (i : Nat) : Ending :=
  match R with
  | .ok (t, n) => .returned (.tuple #[tkv t.k ⟨t.t.toArray⟩ t.n (0, 0), .int .i64 ((i + n : Nat) : Int), .int .i64 0])
  | .error e => .returned (.tuple #[tkv 0 ⟨#[]⟩ 0 (0, 0), .int .i64 0, .int .i64 (e : Int)])
theorem rtk_ok {R : Except Nat (Tok × Nat)} {i k n m j : Nat} {t : List UInt8} {u : ByteArray} (h : R = .ok (⟨k, t, n⟩, m)) (hu : u.data.toList = t) (hj : j = i + m) : Ending.returned (.tuple #[tkv k u n (0, 0), .int .i64 (j : Int), .int .i64 0]) = rtkRet R i := by
  subst hu hj; rw [h]; rfl
theorem rtk_err {R : Except Nat (Tok × Nat)} {i e : Nat} (h : R = .error e) : Ending.returned (.tuple #[tkv 0 ⟨#[]⟩ 0 (0, 0), .int .i64 0, .int .i64 (e : Int)]) = rtkRet R i := by
  rw [h]; rfl
theorem span_from (f : UInt8 → Bool) (s : ByteArray) (i k : Nat) (hk : i + k < s.size) (h : ∀ x ∈ (s.data.toList.drop i).take k, f x = true) (hf : f s[i + k] = false) : spanN f (s.data.toList.drop i) = k :=
  spanN_stop f _ k s[i + k] _ h (by rw [List.drop_drop]; exact drop_byte s (i + k) hk) hf
theorem span_end (f : UInt8 → Bool) (s : ByteArray) (i k : Nat) (hk : i + k = s.size) (h : ∀ x ∈ (s.data.toList.drop i).take k, f x = true) : spanN f (s.data.toList.drop i) = k := by
  have hl : (s.data.toList.drop i).length = k := by rw [List.length_drop, len_byte]; omega
  rw [List.take_of_length_le (by omega)] at h
  rw [spanN_all f _ h, hl]
theorem take_from (s : ByteArray) (i k : Nat) (hk : i + k < s.size) : (s.data.toList.drop i).take (k + 1) = (s.data.toList.drop i).take k ++ [s[i + k]] := by
  rw [List.take_succ_eq_append_getElem (by rw [List.length_drop, len_byte]; omega)]
  congr 1
  rw [List.getElem_drop]; rfl
theorem all_from (f : UInt8 → Bool) (s : ByteArray) (i k : Nat) (hk : i + k < s.size) (h : ∀ x ∈ (s.data.toList.drop i).take k, f x = true) (hf : f s[i + k] = true) : ∀ x ∈ (s.data.toList.drop i).take (k + 1), f x = true := by
  intro x hx
  rw [take_from s i k hk] at hx
  rcases List.mem_append.1 hx with h1 | h1
  · exact h x h1
  · have : x = s[i + k] := by simpa using h1
    subst this; exact hf
theorem ext_mid (s : ByteArray) (i k : Nat) : (s.extract i (i + k)).data.toList = (s.data.toList.drop i).take k := by
  rw [Lib.extract_data]; congr 1; omega
end
section
open Go.RowKit

theorem dig_range (c : UInt8) (h : isDig c = true) : 48 ≤ (c.toNat : Int) ∧ (c.toNat : Int) ≤ 57 := by unfold isDig at h; simp at h; omega
theorem dval_from (s : ByteArray) (i k : Nat) (hk : i + k < s.size) (h : 48 ≤ (s[i + k].toNat : Int)) : ((dval ((s.data.toList.drop i).take (k + 1)) : Nat) : Int) = 10 * ((dval ((s.data.toList.drop i).take k) : Nat) : Int) + ((s[i + k].toNat : Int) - 48) := by
  rw [take_from s i k hk, dval_snoc]; omega
end
section
open Go.RowKit

/-- a literal behind what was read of it -/
def litP (acc : List UInt8) (k : Nat) (l : List UInt8) : Except Nat (List UInt8 × Nat) := match lit l with | .ok (t, n) => .ok (acc ++ t, k + n) | .error e => .error e
theorem litP_start (l : List UInt8) : litP [] 0 l = lit l := by
  unfold litP; cases lit l with
  | error e => rfl
  | ok x => simp
theorem litP_nil (acc : List UInt8) (k : Nat) : litP acc k [] = .error 4 := rfl
theorem litP_end (acc : List UInt8) (k : Nat) (c : UInt8) (l : List UInt8) (h : (c.toNat : Int) = 34) : litP acc k (c :: l) = .ok (acc, k + 1) := by
  unfold litP; rw [lit.eq_def]; simp only [if_pos (show c.toNat = 34 by omega), List.append_nil]
theorem litP_bad (acc : List UInt8) (k : Nat) (c : UInt8) (l : List UInt8) (h : (c.toNat : Int) ≠ 34) (h2 : isPr c = false) : litP acc k (c :: l) = .error 3 := by
  unfold litP; rw [lit.eq_def]; simp only [if_neg (show ¬ c.toNat = 34 by omega), if_pos h2]
theorem litP_next (acc : List UInt8) (k : Nat) (c : UInt8) (l : List UInt8) (h : (c.toNat : Int) ≠ 34) (h2 : isPr c = true) (h3 : (c.toNat : Int) ≠ 92) : litP acc k (c :: l) = litP (acc ++ [c]) (k + 1) l := by
  unfold litP; rw [lit.eq_def]; simp only [if_neg (show ¬ c.toNat = 34 by omega), h2, Bool.true_eq_false, if_false, if_neg (show ¬ c.toNat = 92 by omega)]
  cases lit l <;> simp; omega
theorem litP_bs (acc : List UInt8) (k : Nat) (c : UInt8) (h : (c.toNat : Int) = 92) : litP acc k [c] = .error 4 := by
  unfold litP; rw [lit.eq_def]; simp only [if_neg (show ¬ c.toNat = 34 by omega), pr_of c h, Bool.true_eq_false, if_false, if_pos (show c.toNat = 92 by omega)]
theorem litP_esc (acc : List UInt8) (k : Nat) (c d : UInt8) (l : List UInt8) (h : (c.toNat : Int) = 92) (hd : (d.toNat : Int) = 34 ∨ (d.toNat : Int) = 92) : litP acc k (c :: d :: l) = litP (acc ++ [d]) (k + 2) l := by
  unfold litP; rw [lit.eq_def]; simp only [if_neg (show ¬ c.toNat = 34 by omega), pr_of c h, Bool.true_eq_false, if_false, if_pos (show c.toNat = 92 by omega), if_pos (show d.toNat = 34 ∨ d.toNat = 92 by omega)]
  cases lit l <;> simp; omega
theorem litP_esb (acc : List UInt8) (k : Nat) (c d : UInt8) (l : List UInt8) (h : (c.toNat : Int) = 92) (hd : (d.toNat : Int) ≠ 34 ∧ (d.toNat : Int) ≠ 92) : litP acc k (c :: d :: l) = .error 3 := by
  unfold litP; rw [lit.eq_def]; simp only [if_neg (show ¬ c.toNat = 34 by omega), pr_of c h, Bool.true_eq_false, if_false, if_pos (show c.toNat = 92 by omega), if_neg (show ¬ (d.toNat = 34 ∨ d.toNat = 92) by omega)]
theorem ext_one (s : ByteArray) (j : Nat) (h : j < s.size) : (s.extract j (j + 1)).data.toList = [s[j]] := by
  rw [Lib.extract_data, drop_byte s j h, show j + 1 - j = 1 by omega]; rfl
theorem ext_one_size (s : ByteArray) (j : Nat) (h : j < s.size) : (s.extract j (j + 1)).size = 1 := by
  rw [← len_byte, ext_one s j h]; rfl
theorem cat_list (a b : ByteArray) : (a ++ b).data.toList = a.data.toList ++ b.data.toList := by
  obtain ⟨⟨x⟩⟩ := a
  obtain ⟨⟨y⟩⟩ := b
  have := bytes_cat x y
  rw [show (ByteArray.mk { toList := x }) = (⟨x.toArray⟩ : ByteArray) from rfl, show (ByteArray.mk { toList := y }) = (⟨y.toArray⟩ : ByteArray) from rfl, this]
theorem cat_size (a b : ByteArray) : (a ++ b).size = a.size + b.size := by
  rw [← len_byte, cat_list, List.length_append, len_byte, len_byte]
end
end Go.Proofs.YtbbdgncjpbfooaaGreatDoor
