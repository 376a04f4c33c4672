/- Valid of package token: what a call returns. -/
import Derived.Test.YtlocbindafdmhaaDoorMa
import Derived.Test.YtlocbindafdmhaaDoorKm
namespace Go.Proofs.YtlocbindafdmhaaDoor
open Go.RowKit

/-- a token is valid -/
def validB (k n : Int) (t : List UInt8) : Bool :=
  if k = 2 then decide (t = [] ∧ 0 ≤ n ∧ n ≤ 4503599627370496)
  else if n ≠ 0 then false
  else if k = 1 then isNameB t
  else if k = 3 then decide (t.length ≤ 16384) && t.all isPr
  else if k = 4 then decide (symOf t = some t)
  else decide (k = 5 ∧ t = [])
theorem valid_num (n : Int) (t : List UInt8) : validB 2 n t = decide (t = [] ∧ 0 ≤ n ∧ n ≤ 4503599627370496) := rfl
theorem valid_bad (k n : Int) (t : List UInt8) (hk : k ≠ 2) (hn : n ≠ 0) : validB k n t = false := by unfold validB; rw [if_neg hk, if_pos hn]
theorem valid_name (t : List UInt8) : validB 1 0 t = isNameB t := rfl
theorem valid_text (t : List UInt8) : validB 3 0 t = (decide (t.length ≤ 16384) && t.all isPr) := rfl
theorem valid_sym (t : List UInt8) : validB 4 0 t = decide (symOf t = some t) := rfl
theorem valid_end (k : Int) (t : List UInt8) (h1 : k ≠ 1) (h2 : k ≠ 2) (h3 : k ≠ 3) (h4 : k ≠ 4) : validB k 0 t = decide (k = 5 ∧ t = []) := by
  unfold validB; rw [if_neg h2, if_neg (by simp), if_neg h1, if_neg h3, if_neg h4]
theorem list_nil (s : ByteArray) (h : s.size = 0) : s.data.toList = [] := List.eq_nil_of_length_eq_zero (by rw [len_byte]; exact h)
theorem list_ne (s : ByteArray) (h : 0 < s.size) : s.data.toList ≠ [] := fun e => by have := len_byte s; rw [e] at this; simp at this; omega
theorem span_is_all (f : UInt8 → Bool) (l : List UInt8) : (spanN f l = l.length) = (l.all f = true) := by
  apply propext
  constructor
  · intro h
    unfold spanN at h
    have hp := List.takeWhile_prefix (l := l) f
    have he := hp.eq_of_length h
    rw [← he]
    exact List.all_takeWhile
  · intro h; exact spanN_all f l (List.all_eq_true.1 h)
set_option maxHeartbeats 400000 in
theorem tprintable_any (s : ByteArray) (w : World) (hs : s.size ≤ 9223372036854775000) :
    Calls Tryd.prog 40 #[.string s] w fun e w' => e = .returned (.bool (s.data.toList.all isPr)) ∧ w = w' := by
  have HL := Lib.hid (length_pr s)
  have HS := Lib.hid (span_is_all isPr s.data.toList)
  rw [len_byte] at HS
  have hle := spanN_le isPr s.data.toList
  rw [len_byte] at hle
  generalize spanN isPr s.data.toList = m at *
  go_enter Tryd.func40, Tryd.ntmps40
  go_wp2_with fail
  ((with_reducible refine (HL.out _ hs).mono ?_); rintro e wn ⟨rfl, rfl⟩)
  by_cases hm : m = s.size
  · have q : ((m : Int) == (s.size : Int)) = true := by rw [hm]; simp
    have HV := Lib.hid (show s.data.toList.all isPr = true by rw [← HS.out]; exact hm)
    clear hm
    go_wp2_with fail
    go_ret
    exact ⟨ret_bool (by rw [HV.out]), rfl⟩
  · have q : ((m : Int) == (s.size : Int)) = false := by simp; omega
    have HV := Lib.hid (show s.data.toList.all isPr = false by
      cases hA : s.data.toList.all isPr
      · rfl
      · exact absurd (HS.out.mpr hA) hm)
    clear hm
    go_wp2_with fail
    go_ret
    exact ⟨ret_bool (by rw [HV.out]), rfl⟩

set_option maxHeartbeats 3200000 in
set_option maxRecDepth 100000 in
theorem tvalid_any (k n l c : Int) (s : ByteArray) (w : World) (hs : s.size ≤ 9223372036854775000) :
    Calls Tryd.prog 18 #[.agg #[.int .i64 k, .string s, .int .i64 n, .int .i64 l, .int .i64 c]] w fun e w' => e = .returned (.bool (validB k n s.data.toList)) ∧ Below w.heap.size w w' := by
  by_cases hk2 : k = 2
  · subst hk2
    by_cases hn0 : 0 ≤ n
    · by_cases hn1 : n ≤ 4503599627370496
      · by_cases hz : s.size = 0
        · have e1 := isempty s hz
          have e2 : s.toList.isEmpty = true := by rw [e1]; rfl
          have HV := Lib.hid (show validB 2 n s.data.toList = true by rw [valid_num, decide_eq_true ⟨list_nil s hz, hn0, hn1⟩])
          clear hz
          go_enter Tryd.func18, Tryd.ntmps18
          go_wp2_with fail
          go_ret
          exact ⟨ret_bool HV.out.symm, below_alloc w _⟩
        · have e2 := nonempty s (by omega)
          have HV := Lib.hid (show validB 2 n s.data.toList = false by rw [valid_num, decide_eq_false (fun h => list_ne s (by omega) h.1)])
          clear hz
          go_enter Tryd.func18, Tryd.ntmps18
          go_wp2_with fail
          go_ret
          exact ⟨ret_bool HV.out.symm, below_alloc w _⟩
      · have HV := Lib.hid (show validB 2 n s.data.toList = false by rw [valid_num, decide_eq_false (fun h => hn1 h.2.2)])
        have hn2 : 4503599627370496 < n := by omega
        clear hn1
        go_enter Tryd.func18, Tryd.ntmps18
        go_wp2_with fail
        go_ret
        exact ⟨ret_bool HV.out.symm, below_alloc w _⟩
    · have HV := Lib.hid (show validB 2 n s.data.toList = false by rw [valid_num, decide_eq_false (fun h => hn0 h.2.1)])
      have hn2 : n < 0 := by omega
      clear hn0
      go_enter Tryd.func18, Tryd.ntmps18
      go_wp2_with fail
      go_ret
      exact ⟨ret_bool HV.out.symm, below_alloc w _⟩
  have q2 : (k != 2) = true := by simpa using hk2
  have q2' : (k == 2) = false := by simpa using hk2
  by_cases hn : n = 0
  rotate_left
  · have HV := Lib.hid (valid_bad k n s.data.toList hk2 hn)
    have qn : (n != 0) = true := by simpa using hn
    clear hk2 hn
    go_enter Tryd.func18, Tryd.ntmps18
    go_wp2_with fail
    go_ret
    exact ⟨ret_bool HV.out.symm, below_alloc w _⟩
  subst hn
  by_cases hk1 : k = 1
  · subst hk1
    have HV := Lib.hid (valid_name s.data.toList)
    clear hk2 q2 q2'
    go_enter Tryd.func18, Tryd.ntmps18
    go_wp2_with fail
    ((with_reducible refine (nisName_any s _ hs).mono ?_); rintro e wn ⟨rfl, rfl⟩)
    go_wp2_with fail
    go_ret
    exact ⟨ret_bool HV.out.symm, below_alloc w _⟩
  have q1 : (k == 1) = false := by simpa using hk1
  by_cases hk3 : k = 3
  · subst hk3
    clear hk2 q2 q2' hk1 q1
    by_cases hl : s.size ≤ 16384
    · have HV := Lib.hid (show validB 3 0 s.data.toList = s.data.toList.all isPr by rw [valid_text, len_byte, decide_eq_true hl, Bool.true_and])
      go_enter Tryd.func18, Tryd.ntmps18
      go_wp2_with fail
      ((with_reducible refine (tprintable_any s _ hs).mono ?_); rintro e wn ⟨rfl, rfl⟩)
      generalize s.data.toList.all isPr = bb at HV ⊢
      go_wp2_with fail
      go_ret
      exact ⟨ret_bool HV.out.symm, below_alloc w _⟩
    · have HV := Lib.hid (show validB 3 0 s.data.toList = false by rw [valid_text, len_byte, decide_eq_false hl, Bool.false_and])
      have hl2 : 16384 < s.size := by omega
      clear hl
      go_enter Tryd.func18, Tryd.ntmps18
      go_wp2_with fail
      go_ret
      exact ⟨ret_bool HV.out.symm, below_alloc w _⟩
  have q3 : (k == 3) = false := by simpa using hk3
  by_cases hk4 : k = 4
  · subst hk4
    clear hk2 q2 q2' hk1 q1 hk3 q3
    cases hS : symOf s.data.toList with
    | none =>
      have HS := Lib.hid hS
      have HV := Lib.hid (show validB 4 0 s.data.toList = false by rw [valid_sym, hS]; rfl)
      clear hS
      go_enter Tryd.func18, Tryd.ntmps18
      go_wp2_with fail
      ((with_reducible refine (symbol_any s _).mono ?_); rintro e w3 ⟨rfl, hb3⟩)
      rw [HS.out, symRet_none]
      have HB := Lib.hid (below_then (below_alloc w _) hb3)
      obtain ⟨hc, hf⟩ := bcell hb3
      clear hb3
      go_wp2_with fail
      go_ret
      exact ⟨ret_bool HV.out.symm, HB.out⟩
    | some x =>
      obtain ⟨y, rfl⟩ : ∃ y : ByteArray, y.data.toList = x := ⟨⟨x.toArray⟩, rfl⟩
      have HS := Lib.hid hS
      have HV := Lib.hid (show validB 4 0 s.data.toList = (y.toList == s.toList) by rw [valid_sym, hS, ByteArray.toList_eq, ByteArray.toList_eq, Bool.eq_iff_iff]; simp)
      clear hS
      go_enter Tryd.func18, Tryd.ntmps18
      go_wp2_with fail
      ((with_reducible refine (symbol_any s _).mono ?_); rintro e w3 ⟨rfl, hb3⟩)
      rw [HS.out, symRet_some]
      have HB := Lib.hid (below_then (below_alloc w _) hb3)
      have hc1 : w3.cell? ⟨w.heap.size, 1, none⟩ = some (.string s) := by
        rw [hb3.cell (p := ⟨w.heap.size, 1, none⟩) (by simp)]; simp
      clear hb3
      go_wp2_with fail
      go_ret
      exact ⟨ret_bool HV.out.symm, HB.out⟩
  have q4 : (k == 4) = false := by simpa using hk4
  have HE := Lib.hid (valid_end k s.data.toList hk1 hk2 hk3 hk4)
  clear hk1 hk2 hk3 hk4
  by_cases hk5 : k = 5
  · subst hk5
    clear q1 q2 q2' q3 q4
    by_cases hz : s.size = 0
    · have e1 := isempty s hz
      have e2 : s.toList.isEmpty = true := by rw [e1]; rfl
      have HV := Lib.hid (show validB 5 0 s.data.toList = true by rw [HE.out, decide_eq_true ⟨rfl, list_nil s hz⟩])
      clear hz
      go_enter Tryd.func18, Tryd.ntmps18
      go_wp2_with fail
      go_ret
      exact ⟨ret_bool HV.out.symm, below_alloc w _⟩
    · have e2 := nonempty s (by omega)
      have HV := Lib.hid (show validB 5 0 s.data.toList = false by rw [HE.out, decide_eq_false (fun h => list_ne s (by omega) h.2)])
      clear hz
      go_enter Tryd.func18, Tryd.ntmps18
      go_wp2_with fail
      go_ret
      exact ⟨ret_bool HV.out.symm, below_alloc w _⟩
  · have q5 : (k == 5) = false := by simpa using hk5
    have HV := Lib.hid (show validB k 0 s.data.toList = false by rw [HE.out, decide_eq_false (fun h => hk5 h.1)])
    clear hk5
    go_enter Tryd.func18, Tryd.ntmps18
    go_wp2_with fail
    go_ret
    exact ⟨ret_bool HV.out.symm, below_alloc w _⟩
end Go.Proofs.YtlocbindafdmhaaDoor
