/- Valid of the reference: what a call returns. -/
import Derived.Test.YtlocbindafdmhaaDoorMc
import Derived.Lib.QuietBelow
namespace Go.Proofs.YtlocbindafdmhaaDoor
open Go.RowKit

theorem rsym_some (s y : ByteArray) (w : World) (h : symOf s.data.toList = some y.data.toList) : Calls Tryd.prog 15 #[.string s] w fun e w' => e = .returned (.string y) ∧ Below w.heap.size w w' :=
  (rsymbol_any s w).mono fun e w' ⟨h1, h2⟩ => ⟨by rw [h1, h]; rfl, h2⟩
theorem rsym_none (s : ByteArray) (w : World) (h : symOf s.data.toList = none) : Calls Tryd.prog 15 #[.string s] w fun e w' => e = .returned (.string ⟨#[]⟩) ∧ Below w.heap.size w w' :=
  (rsymbol_any s w).mono fun e w' ⟨h1, h2⟩ => ⟨by rw [h1, h]; rfl, h2⟩
set_option maxHeartbeats 3200000 in
set_option maxRecDepth 100000 in
theorem rvalid_any (k n l c : Int) (s : ByteArray) (w : World) (hs : s.size ≤ 9223372036854775000) :
    Calls Tryd.prog 19 #[.agg #[.int .i64 k, .string s, .int .i64 n, .int .i64 l, .int .i64 c]] w fun e w' => e = .returned (.bool (validB k n s.data.toList)) ∧ Below w.heap.size w w' := by
  by_cases hk2 : k = 2
  · subst hk2
    by_cases hz : s.size = 0
    · have e1 := isempty s hz
      have e2 : s.toList.isEmpty = true := by rw [e1]; rfl
      have hnil := list_nil s hz
      by_cases hn0 : 0 ≤ n
      · by_cases hn1 : n ≤ 4503599627370496
        · have HV := Lib.hid (show validB 2 n s.data.toList = true by rw [valid_num, decide_eq_true ⟨hnil, hn0, hn1⟩])
          clear hz hnil
          go_enter Tryd.func19, Tryd.ntmps19
          go_wp2_with fail
          go_ret
          exact ⟨ret_bool HV.out.symm, below_alloc w _⟩
        · have HV := Lib.hid (show validB 2 n s.data.toList = false by rw [valid_num, decide_eq_false (fun h => hn1 h.2.2)])
          have hn2 : 4503599627370496 < n := by omega
          have qd : decide (n ≤ 4503599627370496) = false := by simpa using hn1
          clear hn1 hz hnil
          go_enter Tryd.func19, Tryd.ntmps19
          go_wp2_with fail
          go_ret
          exact ⟨ret_bool HV.out.symm, below_alloc w _⟩
      · have HV := Lib.hid (show validB 2 n s.data.toList = false by rw [valid_num, decide_eq_false (fun h => hn0 h.2.1)])
        have hn2 : n < 0 := by omega
        have qd : decide (0 ≤ n) = false := by simpa using hn0
        clear hn0 hz hnil
        go_enter Tryd.func19, Tryd.ntmps19
        go_wp2_with fail
        go_ret
        exact ⟨ret_bool HV.out.symm, below_alloc w _⟩
    · have e2 := nonempty s (by omega)
      have HV := Lib.hid (show validB 2 n s.data.toList = false by rw [valid_num, decide_eq_false (fun h => list_ne s (by omega) h.1)])
      clear hz
      go_enter Tryd.func19, Tryd.ntmps19
      go_wp2_with fail
      go_ret
      exact ⟨ret_bool HV.out.symm, below_alloc w _⟩
  have q2 : (k == 2) = false := by simpa using hk2
  by_cases hn : n = 0
  rotate_left
  · have HV := Lib.hid (valid_bad k n s.data.toList hk2 hn)
    have qn : (n != 0) = true := by simpa using hn
    clear hk2 hn
    go_enter Tryd.func19, Tryd.ntmps19
    go_wp2_with fail
    go_ret
    exact ⟨ret_bool HV.out.symm, below_alloc w _⟩
  subst hn
  by_cases hk1 : k = 1
  · subst hk1
    have HV := Lib.hid (valid_name s.data.toList)
    clear hk2 q2
    go_enter Tryd.func19, Tryd.ntmps19
    go_wp2_with fail
    ((with_reducible refine (sisName_any s _ hs).mono ?_); rintro e wn ⟨rfl, rfl⟩)
    go_wp2_with fail
    go_ret
    exact ⟨ret_bool HV.out.symm, below_alloc w _⟩
  have q1 : (k == 1) = false := by simpa using hk1
  by_cases hk3 : k = 3
  · subst hk3
    clear hk2 q2 hk1 q1
    by_cases hl : s.size ≤ 16384
    · have HV := Lib.hid (show validB 3 0 s.data.toList = s.data.toList.all isPr by rw [valid_text, len_byte, decide_eq_true hl, Bool.true_and])
      go_enter Tryd.func19, Tryd.ntmps19
      go_wp2_with fail
      ((with_reducible refine (sprintable_any s _ hs).mono ?_); rintro e wn ⟨rfl, rfl⟩)
      generalize s.data.toList.all isPr = bb at HV ⊢
      go_wp2_with fail
      go_ret
      exact ⟨ret_bool HV.out.symm, below_alloc w _⟩
    · have HV := Lib.hid (show validB 3 0 s.data.toList = false by rw [valid_text, len_byte, decide_eq_false hl, Bool.false_and])
      have hl2 : 16384 < s.size := by omega
      clear hl
      go_enter Tryd.func19, Tryd.ntmps19
      go_wp2_with fail
      go_ret
      exact ⟨ret_bool HV.out.symm, below_alloc w _⟩
  have q3 : (k == 3) = false := by simpa using hk3
  by_cases hk4 : k = 4
  · subst hk4
    clear hk2 q2 hk1 q1 hk3 q3
    by_cases hz : s.size = 0
    · have e1 := isempty s hz
      have e2 : s.toList.isEmpty = true := by rw [e1]; rfl
      have e3 : (!s.toList.isEmpty) = false := by rw [e2]; rfl
      have HV := Lib.hid (show validB 4 0 s.data.toList = false by rw [valid_sym, list_nil s hz]; rfl)
      clear hz
      go_enter Tryd.func19, Tryd.ntmps19
      go_wp2_with fail
      obtain ⟨W, hW⟩ : ∃ W, W = w.alloc (.cells #[.int .i64 4, .string s, .int .i64 0, .int .i64 l, .int .i64 c] 33) := ⟨_, rfl⟩
      have cc : W.cell? ⟨w.heap.size, 1, none⟩ = some (.string s) := by rw [hW]; simp
      have HBW := Lib.hid (show Below w.heap.size w W by rw [hW]; exact below_alloc w _)
      rw [← hW]
      clear hW
      have a1 := cell_regrown cc
      refine wp_region_quiet_below (by kernel_rfl) (by kernel_rfl) ?_
      repeat (quiet_step (fail))
      refine wpQuiet_nil ?_
      intro _ hw'
      obtain ⟨⟨dq, osq⟩, hw''⟩ := hw'
      subst hw''
      go_wp2_with fail
      go_ret
      exact ⟨ret_bool HV.out.symm, below_then HBW.out (below_regrown _ _ _)⟩
    have e2 := nonempty s (by omega)
    have e3 : (!s.toList.isEmpty) = true := by rw [e2]; rfl
    have hpos : 0 < s.size := by omega
    clear hz
    cases hS : symOf s.data.toList with
    | none =>
      have HS := Lib.hid hS
      have HV := Lib.hid (show validB 4 0 s.data.toList = false by rw [valid_sym, hS]; rfl)
      have e4 : (([] : List UInt8) == s.toList) = false := by
        cases h5 : s.toList with
        | nil => rw [h5] at e2; cases e2
        | cons a r => rfl
      have e5 : ((⟨#[]⟩ : ByteArray).toList == s.toList) = false := by rw [ByteArray.toList_eq]; exact e4
      clear hS
      go_enter Tryd.func19, Tryd.ntmps19
      go_wp2_with fail
      obtain ⟨W, hW⟩ : ∃ W, W = w.alloc (.cells #[.int .i64 4, .string s, .int .i64 0, .int .i64 l, .int .i64 c] 33) := ⟨_, rfl⟩
      have cc : W.cell? ⟨w.heap.size, 1, none⟩ = some (.string s) := by rw [hW]; simp
      have HBW := Lib.hid (show Below w.heap.size w W by rw [hW]; exact below_alloc w _)
      rw [← hW]
      clear hW
      have a1 := cell_regrown cc
      refine wp_region_quiet_below (by kernel_rfl) (by kernel_rfl) ?_
      repeat (quiet_step (exact Calls.regrown_of (rsym_none s _ HS.out)))
      refine wpQuiet_nil ?_
      intro _ hw'
      obtain ⟨⟨dq, osq⟩, hw''⟩ := hw'
      subst hw''
      go_wp2_with fail
      go_ret
      exact ⟨ret_bool (by rw [HV.out]), below_then HBW.out (below_regrown _ _ _)⟩
    | some x =>
      obtain ⟨y, rfl⟩ : ∃ y : ByteArray, y.data.toList = x := ⟨⟨x.toArray⟩, rfl⟩
      have HS := Lib.hid hS
      have HV := Lib.hid (show validB 4 0 s.data.toList = (y.toList == s.toList) by rw [valid_sym, hS, ByteArray.toList_eq, ByteArray.toList_eq, Bool.eq_iff_iff]; simp)
      clear hS
      go_enter Tryd.func19, Tryd.ntmps19
      go_wp2_with fail
      obtain ⟨W, hW⟩ : ∃ W, W = w.alloc (.cells #[.int .i64 4, .string s, .int .i64 0, .int .i64 l, .int .i64 c] 33) := ⟨_, rfl⟩
      have cc : W.cell? ⟨w.heap.size, 1, none⟩ = some (.string s) := by rw [hW]; simp
      have HBW := Lib.hid (show Below w.heap.size w W by rw [hW]; exact below_alloc w _)
      rw [← hW]
      clear hW
      have a1 := cell_regrown cc
      refine wp_region_quiet_below (by kernel_rfl) (by kernel_rfl) ?_
      repeat (quiet_step (exact Calls.regrown_of (rsym_some s y _ HS.out)))
      refine wpQuiet_nil ?_
      intro _ hw'
      obtain ⟨⟨dq, osq⟩, hw''⟩ := hw'
      subst hw''
      go_wp2_with fail
      go_ret
      exact ⟨ret_bool HV.out.symm, below_then HBW.out (below_regrown _ _ _)⟩
  have q4 : (k == 4) = false := by simpa using hk4
  have HE := Lib.hid (valid_end k s.data.toList hk1 hk2 hk3 hk4)
  clear hk1 hk2 hk3 hk4
  by_cases hk5 : k = 5
  · subst hk5
    clear q1 q2 q3 q4
    by_cases hz : s.size = 0
    · have e1 := isempty s hz
      have e2 : s.toList.isEmpty = true := by rw [e1]; rfl
      have HV := Lib.hid (show validB 5 0 s.data.toList = true by rw [HE.out, decide_eq_true ⟨rfl, list_nil s hz⟩])
      clear hz
      go_enter Tryd.func19, Tryd.ntmps19
      go_wp2_with fail
      go_ret
      exact ⟨ret_bool HV.out.symm, below_alloc w _⟩
    · have e2 := nonempty s (by omega)
      have HV := Lib.hid (show validB 5 0 s.data.toList = false by rw [HE.out, decide_eq_false (fun h => list_ne s (by omega) h.2)])
      clear hz
      go_enter Tryd.func19, Tryd.ntmps19
      go_wp2_with fail
      go_ret
      exact ⟨ret_bool HV.out.symm, below_alloc w _⟩
  · have q5 : (k == 5) = false := by simpa using hk5
    have HV := Lib.hid (show validB k 0 s.data.toList = false by rw [HE.out, decide_eq_false (fun h => hk5 h.1)])
    clear hk5
    go_enter Tryd.func19, Tryd.ntmps19
    go_wp2_with fail
    go_ret
    exact ⟨ret_bool HV.out.symm, below_alloc w _⟩
end Go.Proofs.YtlocbindafdmhaaDoor
