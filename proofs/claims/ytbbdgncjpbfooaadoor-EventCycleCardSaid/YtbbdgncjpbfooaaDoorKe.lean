/- blanks of package token: the reader goes over blanks and comments. -/
import Derived.Test.YtbbdgncjpbfooaaDoorKc
import Derived.Test.YtbbdgncjpbfooaaDoorShelfK
import Derived.Deep.LoopGhost
import Derived.Lib.IndexBytes
namespace Go.Proofs.YtbbdgncjpbfooaaDoor
open Go.RowKit

theorem ext_list (s : ByteArray) (k : Nat) : (s.extract k s.size).data.toList = s.data.toList.drop k := Lib.extract_to_end s k
theorem ba_ext {s t : ByteArray} (h : s.data.toList = t.data.toList) : s = t := by
  apply ByteArray.ext; exact Array.ext' h
theorem lineN_index (l : List UInt8) : (lineN l < l.length ∧ Lib.indexByte l 10 = (lineN l : Int)) ∨ (lineN l = l.length ∧ Lib.indexByte l 10 = -1) := by
  induction l with
  | nil => right; simp [lineN, Lib.indexByte]
  | cons c l ih =>
    by_cases h : c.toNat = 10
    · have hc : c = 10 := by apply UInt8.toNat_inj.1; simpa using h
      left; simp [lineN, Lib.indexByte, hc]
    · have hc : ¬ c = 10 := fun e => h (by rw [e]; rfl)
      have hb : (c == (10 : UInt8)) = false := by simpa using hc
      simp only [lineN, Lib.indexByte, if_neg h, hb, List.length_cons]
      rcases ih with ⟨h1, h2⟩ | ⟨h1, h2⟩
      · left
        refine ⟨by omega, ?_⟩
        rw [h2]
        have : ((lineN l : Int) == -1) = false := by simp
        simp [this]
      · right
        refine ⟨by omega, ?_⟩
        rw [h2]; simp

theorem skip_bl (l : List UInt8) (k : Nat) (c : UInt8) (hc : l.drop k = c :: l.drop (k + 1)) (h : skipN l false = k + skipN (l.drop k) false) (hb : isBl c = true) : skipN l false = (k + 1) + skipN (l.drop (k + 1)) false := by
  rw [h, hc, skipN_blank c _ hb]; omega
theorem skip_hash (l : List UInt8) (k : Nat) (c : UInt8) (hc : l.drop k = c :: l.drop (k + 1)) (h : skipN l false = k + skipN (l.drop k) false) (hb : c.toNat = 35) : skipN l false = (k + lineN (l.drop k)) + skipN (l.drop (k + lineN (l.drop k))) false := by
  have h1 : lineN (l.drop k) = lineN (l.drop (k + 1)) + 1 := by rw [hc, lineN, if_neg (by omega)]
  have h2 : skipN (l.drop k) false = (lineN (l.drop (k + 1)) + 1) + skipN ((l.drop (k + 1)).drop (lineN (l.drop (k + 1)))) false := by rw [hc]; exact skipN_hash c _ hb
  rw [List.drop_drop] at h2
  rw [h, h2, h1, show k + 1 + lineN (l.drop (k + 1)) = k + (lineN (l.drop (k + 1)) + 1) by omega]
  omega
theorem skip_no (l : List UInt8) (k : Nat) (c : UInt8) (hc : l.drop k = c :: l.drop (k + 1)) (h : skipN l false = k + skipN (l.drop k) false) (hb : isBl c = false) (hn : c.toNat ≠ 35) : skipN l false = k := by
  rw [h, hc, skipN_stop c _ hb hn]; omega
theorem drop_cons_of (t : ByteArray) (l : List UInt8) (k : Nat) (ht : t.data.toList = l.drop k) (hp : 0 < t.size) : l.drop k = t[0] :: l.drop (k + 1) := by
  have h1 := drop_byte t 0 hp
  rw [List.drop_zero] at h1
  rw [← List.drop_drop, ← ht]
  exact h1
end Go.Proofs.YtbbdgncjpbfooaaDoor
