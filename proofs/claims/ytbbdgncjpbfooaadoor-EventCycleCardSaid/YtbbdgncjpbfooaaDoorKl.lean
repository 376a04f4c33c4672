/- next of package token's reader: the token at the beginning (the end; a name; a symbol). -/
import Derived.Test.YtbbdgncjpbfooaaDoorKe
import Derived.Test.YtbbdgncjpbfooaaDoorKj
import Derived.Test.YtbbdgncjpbfooaaDoorKk
import Derived.RegionTactic
import Derived.ChangeAlike
namespace Go.Proofs.YtbbdgncjpbfooaaDoor
open Go.RowKit

theorem nonempty (s : ByteArray) (h : 0 < s.size) : s.toList.isEmpty = false := by
  rw [ByteArray.toList_eq]
  cases h5 : s.data.toList with
  | nil => have h6 := len_byte s; rw [h5] at h6; simp at h6; omega
  | cons a r => rfl
theorem isempty (s : ByteArray) (h : s.size = 0) : s.toList = [] := by
  rw [ByteArray.toList_eq]; exact List.eq_nil_of_length_eq_zero (by rw [len_byte]; exact h)
theorem first_byte (s : ByteArray) (h : 0 < s.size) : s.data.toList = s[0] :: s.data.toList.drop 1 := by
  have := drop_byte s 0 h; rwa [List.drop_zero] at this
/-- a token as a value -/
def tkv (k : Int) (t : ByteArray) (n : Int) (p : Nat × Nat) : Value := .agg #[.int .i64 k, .string t, .int .i64 n, .int .i64 (p.1 : Int), .int .i64 (p.2 : Int)]
/-- what next returns -/
def nxtRet (r : Except Nat (Tok × Nat)) (p : Nat × Nat) : Ending :=
  match r with
  | .ok (t, n) => .returned (.tuple #[tkv t.k ⟨t.t.toArray⟩ t.n p, .int .i64 (n : Int), .int .i64 0])
  | .error e => .returned (.tuple #[tkv 0 ⟨#[]⟩ 0 p, .int .i64 0, .int .i64 (e : Int)])
theorem nxt_ok {r : Except Nat (Tok × Nat)} {p : Nat × Nat} {k n m : Nat} {t : List UInt8} {u : ByteArray} (h : r = .ok (⟨k, t, n⟩, m)) (hu : u.data.toList = t) : Ending.returned (.tuple #[tkv k u n p, .int .i64 (m : Int), .int .i64 0]) = nxtRet r p := by
  subst hu; rw [h]; rfl
theorem nxt_err {r : Except Nat (Tok × Nat)} {p : Nat × Nat} {e : Nat} (h : r = .error e) : Ending.returned (.tuple #[tkv 0 ⟨#[]⟩ 0 p, .int .i64 0, .int .i64 (e : Int)]) = nxtRet r p := by
  rw [h]; rfl
theorem read_name (c : UInt8) (r : List UInt8) (h : isLet c = true) : readTok (c :: r) = if 40 < spanN isNm (c :: r) then .error 5 else .ok (⟨1, (c :: r).take (spanN isNm (c :: r)), 0⟩, spanN isNm (c :: r)) := by
  simp only [readTok, spanN, h, if_true]
  rfl
theorem ext_upto (s : ByteArray) (n : Nat) : (s.extract 0 n).data.toList = s.data.toList.take n := by rw [Lib.extract_data]; simp
theorem spanN_le (f : UInt8 → Bool) (l : List UInt8) : spanN f l ≤ l.length := by
  unfold spanN
  exact (List.takeWhile_sublist f).length_le
theorem let_not_dig (c : UInt8) (h : isDig c = true) : isLet c = false := by unfold isDig at h; unfold isLet; simp at h ⊢; omega
theorem read_sym (c : UInt8) (r : List UInt8) (h1 : isLet c = false) (h2 : isDig c = false) (h3 : (c.toNat : Int) ≠ 34) : readTok (c :: r) = match symOf (c :: r) with | some x => .ok (⟨4, x, 0⟩, x.length) | none => .error 3 := by
  simp only [readTok, h1, h2, Bool.false_eq_true, if_false, if_neg (show ¬ c.toNat = 34 by omega)]
  rfl

theorem bset0 {w a : World} (h : Below w.heap.size w a) (o : Nat) (v : Value) : Below w.heap.size w (a.setCell ⟨w.heap.size, o, none⟩ v) := h.setCell (Nat.le_refl _) v
theorem bset1 {w a : World} (h : Below w.heap.size w a) (o : Nat) (v : Value) : Below w.heap.size w (a.setCell ⟨w.heap.size + 1, o, none⟩ v) := h.setCell (Nat.le_succ _) v
end Go.Proofs.YtbbdgncjpbfooaaDoor
