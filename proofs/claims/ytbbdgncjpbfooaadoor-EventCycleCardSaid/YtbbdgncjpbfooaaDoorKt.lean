/- name and number of the reference: what a call returns. -/
import Derived.Test.YtbbdgncjpbfooaaDoorKs
namespace Go.Proofs.YtbbdgncjpbfooaaDoor
open Go.RowKit

/-- what the reference's readers return: the token, the index behind it, the error number -/
def rtkRet (R : Except Nat (Tok × Nat)) (i : Nat) : Ending :=
  match R with
  | .ok (t, n) => .returned (.tuple #[tkv t.k ⟨t.t.toArray⟩ t.n (0, 0), .int .i64 ((i + n : Nat) : Int), .int .i64 0])
  | .error e => .returned (.tuple #[tkv 0 ⟨#[]⟩ 0 (0, 0), .int .i64 0, .int .i64 (e : Int)])
theorem rtk_ok {R : Except Nat (Tok × Nat)} {i k n m j : Nat} {t : List UInt8} {u : ByteArray} (h : R = .ok (⟨k, t, n⟩, m)) (hu : u.data.toList = t) (hj : j = i + m) : Ending.returned (.tuple #[tkv k u n (0, 0), .int .i64 (j : Int), .int .i64 0]) = rtkRet R i := by
  subst hu hj; rw [h]; rfl
theorem rtk_err {R : Except Nat (Tok × Nat)} {i e : Nat} (h : R = .error e) : Ending.returned (.tuple #[tkv 0 ⟨#[]⟩ 0 (0, 0), .int .i64 0, .int .i64 (e : Int)]) = rtkRet R i := by
  rw [h]; rfl
theorem span_from (f : UInt8 → Bool) (s : ByteArray) (i k : Nat) (hk : i + k < s.size) (h : ∀ x ∈ (s.data.toList.drop i).take k, f x = true) (hf : f s[i + k] = false) : spanN f (s.data.toList.drop i) = k :=
  spanN_stop f _ k s[i + k] _ h (by rw [List.drop_drop]; exact drop_byte s (i + k) hk) hf
theorem span_end (f : UInt8 → Bool) (s : ByteArray) (i k : Nat) (hk : i + k = s.size) (h : ∀ x ∈ (s.data.toList.drop i).take k, f x = true) : spanN f (s.data.toList.drop i) = k := by
  have hl : (s.data.toList.drop i).length = k := by rw [List.length_drop, len_byte]; omega
  rw [List.take_of_length_le (by omega)] at h
  rw [spanN_all f _ h, hl]
theorem take_from (s : ByteArray) (i k : Nat) (hk : i + k < s.size) : (s.data.toList.drop i).take (k + 1) = (s.data.toList.drop i).take k ++ [s[i + k]] := by
  rw [List.take_succ_eq_append_getElem (by rw [List.length_drop, len_byte]; omega)]
  congr 1
  rw [List.getElem_drop]; rfl
theorem all_from (f : UInt8 → Bool) (s : ByteArray) (i k : Nat) (hk : i + k < s.size) (h : ∀ x ∈ (s.data.toList.drop i).take k, f x = true) (hf : f s[i + k] = true) : ∀ x ∈ (s.data.toList.drop i).take (k + 1), f x = true := by
  intro x hx
  rw [take_from s i k hk] at hx
  rcases List.mem_append.1 hx with h1 | h1
  · exact h x h1
  · have : x = s[i + k] := by simpa using h1
    subst this; exact hf
theorem ext_mid (s : ByteArray) (i k : Nat) : (s.extract i (i + k)).data.toList = (s.data.toList.drop i).take k := by
  rw [Lib.extract_data]; congr 1; omega

end Go.Proofs.YtbbdgncjpbfooaaDoor
