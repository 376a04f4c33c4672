/- blanks of package token: the reader goes over blanks and comments. -/
import Derived.Test.YtlocbindafdmhaaDoorKc
import Derived.Test.YtlocbindafdmhaaDoorShelfK
import Derived.Deep.LoopGhost
import Derived.Lib.IndexBytes
namespace Go.Proofs.YtlocbindafdmhaaDoor
open Go.RowKit

theorem ext_list (s : ByteArray) (k : Nat) : (s.extract k s.size).data.toList = s.data.toList.drop k := Lib.extract_to_end s k
theorem ba_ext {s t : ByteArray} (h : s.data.toList = t.data.toList) : s = t := by
  apply ByteArray.ext; exact Array.ext' h
theorem lineN_index (l : List UInt8) : (lineN l < l.length ∧ Lib.indexByte l 10 = (lineN l : Int)) ∨ (lineN l = l.length ∧ Lib.indexByte l 10 = -1) := by
  induction l with
  | nil => right; simp [lineN, Lib.indexByte]
  | cons c l ih =>
    by_cases h : c.toNat = 10
    · have hc : c = 10 := by apply UInt8.toNat_inj.1; simpa using h
      left; simp [lineN, Lib.indexByte, hc]
    · have hc : ¬ c = 10 := fun e => h (by rw [e]; rfl)
      have hb : (c == (10 : UInt8)) = false := by simpa using hc
      simp only [lineN, Lib.indexByte, if_neg h, hb, List.length_cons]
      rcases ih with ⟨h1, h2⟩ | ⟨h1, h2⟩
      · left
        refine ⟨by omega, ?_⟩
        rw [h2]
        have : ((lineN l : Int) == -1) = false := by simp
        simp [this]
      · right
        refine ⟨by omega, ?_⟩
        rw [h2]; simp

/-- the reader has gone over k bytes of the text -/
def RdAt (w0 w : World) (b : Nat) (l : List UInt8) (p : Nat × Nat) (k : Nat) : Prop :=
  ∃ t : ByteArray, t.data.toList = l.drop k ∧ RD w b t (advs p (l.take k)) ∧ w0.grownBy w (some b)
theorem RdAt.start {w : World} {b : Nat} {s : ByteArray} {p : Nat × Nat} (h : RD w b s p) : RdAt w w b s.data.toList p 0 :=
  ⟨s, rfl, h, ⟨rfl, rfl, rfl, Nat.le_refl _, fun _ _ _ => rfl⟩⟩
theorem RdAt.next {w0 w w' : World} {b k n : Nat} {l : List UInt8} {p : Nat × Nat} {t : ByteArray} (ht : t.data.toList = l.drop k) (hG : w0.grownBy w (some b))
    (hR : RD w' b (t.extract n t.size) (advs (advs p (l.take k)) (t.data.toList.take n))) (hg : w.grownBy w' (some b)) : RdAt w0 w' b l p (k + n) := by
  refine ⟨t.extract n t.size, by rw [ext_list, ht, List.drop_drop], ?_, Lib.grownBy_trans hG hg⟩
  rw [← advs_append, ht, ← List.take_add] at hR
  exact hR
theorem skip_bl (l : List UInt8) (k : Nat) (c : UInt8) (hc : l.drop k = c :: l.drop (k + 1)) (h : skipN l false = k + skipN (l.drop k) false) (hb : isBl c = true) : skipN l false = (k + 1) + skipN (l.drop (k + 1)) false := by
  rw [h, hc, skipN_blank c _ hb]; omega
theorem skip_hash (l : List UInt8) (k : Nat) (c : UInt8) (hc : l.drop k = c :: l.drop (k + 1)) (h : skipN l false = k + skipN (l.drop k) false) (hb : c.toNat = 35) : skipN l false = (k + lineN (l.drop k)) + skipN (l.drop (k + lineN (l.drop k))) false := by
  have h1 : lineN (l.drop k) = lineN (l.drop (k + 1)) + 1 := by rw [hc, lineN, if_neg (by omega)]
  have h2 : skipN (l.drop k) false = (lineN (l.drop (k + 1)) + 1) + skipN ((l.drop (k + 1)).drop (lineN (l.drop (k + 1)))) false := by rw [hc]; exact skipN_hash c _ hb
  rw [List.drop_drop] at h2
  rw [h, h2, h1, show k + 1 + lineN (l.drop (k + 1)) = k + (lineN (l.drop (k + 1)) + 1) by omega]
  omega
theorem skip_no (l : List UInt8) (k : Nat) (c : UInt8) (hc : l.drop k = c :: l.drop (k + 1)) (h : skipN l false = k + skipN (l.drop k) false) (hb : isBl c = false) (hn : c.toNat ≠ 35) : skipN l false = k := by
  rw [h, hc, skipN_stop c _ hb hn]; omega
theorem drop_cons_of (t : ByteArray) (l : List UInt8) (k : Nat) (ht : t.data.toList = l.drop k) (hp : 0 < t.size) : l.drop k = t[0] :: l.drop (k + 1) := by
  have h1 := drop_byte t 0 hp
  rw [List.drop_zero] at h1
  rw [← List.drop_drop, ← ht]
  exact h1
theorem skip_one (b : Nat) (s : ByteArray) (p : Nat × Nat) (w : World) (h : RD w b s p) (hn : 1 ≤ s.size) (hs : s.size ≤ 1099511627776) (h1 : p.1 ≤ 1099511627776) (h2 : p.2 ≤ 1099511627776) :
    Calls Tryd.prog 30 #[.pointer (some ⟨b, 0, none⟩), .int .i64 1] w fun e w' => e = .returned (.tuple #[]) ∧ RD w' b (s.extract 1 s.size) (advs p (s.data.toList.take 1)) ∧ w.grownBy w' (some b) :=
  skip_any b 1 s p w h hn hs h1 h2
/-- what blanks leaves -/
def BlS (w : World) (b : Nat) (l : List UInt8) (p : Nat × Nat) (e : Ending) (w' : World) : Prop := e = .returned (.tuple #[]) ∧ RdAt w w' b l p (skipN l false)

set_option maxHeartbeats 3200000 in
theorem blanks_any (b : Nat) (s : ByteArray) (p : Nat × Nat) (w : World) (h : RD w b s p) (hs : s.size ≤ 1073741824) (h1 : p.1 ≤ 1073741824) (h2 : p.2 ≤ 1073741824) :
    Calls Tryd.prog 28 #[.pointer (some ⟨b, 0, none⟩)] w (BlS w b s.data.toList p) := by
  have hlen := len_byte s
  generalize hl : s.data.toList = l at hlen ⊢
  have h0 := RdAt.start h
  rw [hl] at h0
  have HL := Lib.hid hlen; clear hlen hl
  go_enter Tryd.func28, Tryd.ntmps28
  go_wp2_with fail
  go_loopg [2] (l.length) (fun g _ wr => ∃ k, k + g = l.length ∧ skipN l false = k + skipN (l.drop k) false ∧ RdAt w wr b l p k)
  case atStart => exact ⟨0, by omega, by simp, h0⟩
  case round =>
    obtain ⟨k, hkg, hsk, t, ht, hR, hG⟩ := hrel
    have htl : t.size = l.length - k := by rw [← len_byte t, ht, List.length_drop]
    have hts : t.size ≤ 1073741824 := by have := HL.out; omega
    have hle := advs_le p (l.take k)
    have hll : (l.take k).length ≤ l.length := by rw [List.length_take]; omega
    have hq1 : (advs p (l.take k)).1 ≤ 1099511627776 := by have := HL.out; omega
    have hq2 : (advs p (l.take k)).2 ≤ 1099511627776 := by have := HL.out; omega
    have HLE := Lib.hid (And.intro hq1 hq2)
    have HT := Lib.hid ht
    have HK := Lib.hid hsk
    have HKG := Lib.hid (And.intro hkg htl)
    have HG := Lib.hid hG
    obtain ⟨c0, c1, c2, f0, f1, f2⟩ := hR.cells
    have HR := Lib.hid hR
    clear hle hll hq1 hq2 ht hsk hkg hG hR h0 h
    by_cases hz : t.size = 0
    · have e1 : t.toList = [] := by rw [ByteArray.toList_eq]; exact List.eq_nil_of_length_eq_zero (by rw [len_byte]; exact hz)
      have e2 : (!t.toList.isEmpty) = false := by rw [e1]; rfl
      have HZ := Lib.hid hz
      clear hz htl
      go_wp2_with fail
      go_end0
      have hk0 : skipN l false = k := by
        have h3 := HK.out
        rw [show l.drop k = [] from List.eq_nil_of_length_eq_zero (by rw [List.length_drop]; have := HKG.out; have := HZ.out; omega)] at h3
        simpa [skipN] using h3
      refine ⟨rfl, ?_⟩
      rw [hk0]
      exact ⟨t, HT.out, HR.out, HG.out⟩
    · have hp : 0 < t.size := by omega
      have e1 : t.toList.isEmpty = false := by
        rw [ByteArray.toList_eq]
        cases h5 : t.data.toList with
        | nil => have h6 := len_byte t; rw [h5] at h6; simp at h6; omega
        | cons a r => rfl
      have e2 : (!t.toList.isEmpty) = true := by rw [e1]; rfl
      have HCONS := Lib.hid (drop_cons_of t l k HT.out hp)
      clear hz htl
      by_cases hc32 : (t[0].toNat : Int) = 32
      · have HC := Lib.hid hc32
        have HS := Lib.hid (skip_bl l k t[0] HCONS.out HK.out (by unfold isBl; simp; omega))
        clear hc32
        have q32 : ((t[0].toNat : Int) == 32) = true := by rw [HC.out]; rfl
        go_wp2_with fail
        ((with_reducible refine (skip_one b t _ _ HR.out (by omega) (by omega) HLE.out.1 HLE.out.2).mono ?_); rintro e wn ⟨rfl, hR2, hG2⟩)
        go_wp2_with fail
        go_roundg (gk - 1)
        case measure => have := HKG.out; omega
        case rel => exact ⟨k + 1, by have := HKG.out; omega, HS.out, RdAt.next HT.out HG.out hR2 hG2⟩
      by_cases hc9 : (t[0].toNat : Int) = 9
      · have HC := Lib.hid hc9
        have HS := Lib.hid (skip_bl l k t[0] HCONS.out HK.out (by unfold isBl; simp; omega))
        clear hc9 hc32
        have q32 : ((t[0].toNat : Int) == 32) = false := by rw [HC.out]; rfl
        have q9 : ((t[0].toNat : Int) == 9) = true := by rw [HC.out]; rfl
        go_wp2_with fail
        ((with_reducible refine (skip_one b t _ _ HR.out (by omega) (by omega) HLE.out.1 HLE.out.2).mono ?_); rintro e wn ⟨rfl, hR2, hG2⟩)
        go_wp2_with fail
        go_roundg (gk - 1)
        case measure => have := HKG.out; omega
        case rel => exact ⟨k + 1, by have := HKG.out; omega, HS.out, RdAt.next HT.out HG.out hR2 hG2⟩
      by_cases hc10 : (t[0].toNat : Int) = 10
      · have HC := Lib.hid hc10
        have HS := Lib.hid (skip_bl l k t[0] HCONS.out HK.out (by unfold isBl; simp; omega))
        clear hc10 hc32 hc9
        have q32 : ((t[0].toNat : Int) == 32) = false := by rw [HC.out]; rfl
        have q9 : ((t[0].toNat : Int) == 9) = false := by rw [HC.out]; rfl
        have q10 : ((t[0].toNat : Int) == 10) = true := by rw [HC.out]; rfl
        go_wp2_with fail
        ((with_reducible refine (skip_one b t _ _ HR.out (by omega) (by omega) HLE.out.1 HLE.out.2).mono ?_); rintro e wn ⟨rfl, hR2, hG2⟩)
        go_wp2_with fail
        go_roundg (gk - 1)
        case measure => have := HKG.out; omega
        case rel => exact ⟨k + 1, by have := HKG.out; omega, HS.out, RdAt.next HT.out HG.out hR2 hG2⟩
      by_cases hc13 : (t[0].toNat : Int) = 13
      · have HC := Lib.hid hc13
        have HS := Lib.hid (skip_bl l k t[0] HCONS.out HK.out (by unfold isBl; simp; omega))
        clear hc13 hc32 hc9 hc10
        have q32 : ((t[0].toNat : Int) == 32) = false := by rw [HC.out]; rfl
        have q9 : ((t[0].toNat : Int) == 9) = false := by rw [HC.out]; rfl
        have q10 : ((t[0].toNat : Int) == 10) = false := by rw [HC.out]; rfl
        have q13 : ((t[0].toNat : Int) == 13) = true := by rw [HC.out]; rfl
        go_wp2_with fail
        ((with_reducible refine (skip_one b t _ _ HR.out (by omega) (by omega) HLE.out.1 HLE.out.2).mono ?_); rintro e wn ⟨rfl, hR2, hG2⟩)
        go_wp2_with fail
        go_roundg (gk - 1)
        case measure => have := HKG.out; omega
        case rel => exact ⟨k + 1, by have := HKG.out; omega, HS.out, RdAt.next HT.out HG.out hR2 hG2⟩
      by_cases hc35 : (t[0].toNat : Int) = 35
      · have HC := Lib.hid hc35
        have HS := Lib.hid (skip_hash l k t[0] HCONS.out HK.out (by omega))
        have HI := lineN_index t.data.toList
        have HP := Lib.hid (show 1 ≤ lineN t.data.toList by rw [HT.out, HCONS.out, lineN, if_neg (by omega)]; omega)
        have HLN := Lib.hid (show lineN t.data.toList ≤ t.size by have := lineN_le t.data.toList; rw [len_byte] at this; exact this)
        rw [len_byte] at HI
        have HS2 := Lib.hid (show skipN l false = (k + lineN t.data.toList) + skipN (l.drop (k + lineN t.data.toList)) false by rw [HT.out]; exact HS.out)
        clear hc35 hc32 hc9 hc10 hc13
        generalize lineN t.data.toList = n at *
        have q32 : ((t[0].toNat : Int) == 32) = false := by rw [HC.out]; rfl
        have q9 : ((t[0].toNat : Int) == 9) = false := by rw [HC.out]; rfl
        have q10 : ((t[0].toNat : Int) == 10) = false := by rw [HC.out]; rfl
        have q13 : ((t[0].toNat : Int) == 13) = false := by rw [HC.out]; rfl
        have q35 : ((t[0].toNat : Int) == 35) = true := by rw [HC.out]; rfl
        rcases HI with ⟨hn1, hn2⟩ | ⟨hn1, hn2⟩
        · have HN := Lib.hid hn2; clear hn2
          go_wp2_with fail
          ((with_reducible refine (Tryd.strings_Index_one t 10 _).mono ?_); rintro e wn ⟨rfl, rfl⟩)
          rw [HN.out]
          go_wp2_with fail
          ((with_reducible refine (skip_any b n t _ _ HR.out HLN.out (by omega) HLE.out.1 HLE.out.2).mono ?_); rintro e wn ⟨rfl, hR2, hG2⟩)
          go_wp2_with fail
          go_roundg (gk - n)
          case measure => have := HKG.out; have := HP.out; omega
          case rel => exact ⟨k + n, by have := HKG.out; have := HLN.out; omega, HS2.out, RdAt.next HT.out HG.out hR2 hG2⟩
        · have HN := Lib.hid hn2; clear hn2
          subst hn1
          go_wp2_with fail
          ((with_reducible refine (Tryd.strings_Index_one t 10 _).mono ?_); rintro e wn ⟨rfl, rfl⟩)
          rw [HN.out]
          go_wp2_with fail
          ((with_reducible refine (skip_any b t.size t _ _ HR.out (Nat.le_refl _) (by omega) HLE.out.1 HLE.out.2).mono ?_); rintro e wn ⟨rfl, hR2, hG2⟩)
          go_wp2_with fail
          go_roundg (gk - t.size)
          case measure => have := HKG.out; have := HP.out; omega
          case rel => exact ⟨k + t.size, by have := HKG.out; omega, HS2.out, RdAt.next HT.out HG.out hR2 hG2⟩
      · have HC := Lib.hid (show (t[0].toNat : Int) ≠ 32 ∧ (t[0].toNat : Int) ≠ 9 ∧ (t[0].toNat : Int) ≠ 10 ∧ (t[0].toNat : Int) ≠ 13 ∧ (t[0].toNat : Int) ≠ 35 from ⟨hc32, hc9, hc10, hc13, hc35⟩)
        have HS := Lib.hid (skip_no l k t[0] HCONS.out HK.out (by unfold isBl; simp; omega) (by omega))
        clear hc32 hc9 hc10 hc13 hc35
        have q32 : ((t[0].toNat : Int) == 32) = false := by have := HC.out; simp; omega
        have q9 : ((t[0].toNat : Int) == 9) = false := by have := HC.out; simp; omega
        have q10 : ((t[0].toNat : Int) == 10) = false := by have := HC.out; simp; omega
        have q13 : ((t[0].toNat : Int) == 13) = false := by have := HC.out; simp; omega
        have q35 : ((t[0].toNat : Int) == 35) = false := by have := HC.out; simp; omega
        go_wp2_with fail
        go_end0
        refine ⟨rfl, ?_⟩
        rw [HS.out]
        exact ⟨t, HT.out, HR.out, HG.out⟩
end Go.Proofs.YtlocbindafdmhaaDoor
