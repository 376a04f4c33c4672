/- TokenForms: what a call returns. -/
import Derived.Test.YtlocbindafdmhaaDoorLt
import Derived.Test.YtlocbindafdmhaaDoorMb
import Derived.Test.YtlocbindafdmhaaDoorMd
namespace Go.Proofs.YtlocbindafdmhaaDoor
open Go.RowKit

theorem tkey_b (s : ByteArray) (w : World) : Calls Tryd.prog 16 #[.string s] w fun e w' => e = .returned (.bool (keyB s.data.toList)) ∧ Below w.heap.size w w' :=
  (tkey_any s w).mono fun e w' ⟨h1, h2⟩ => ⟨h1, by rw [← h2]; exact Below.refl _ _⟩
set_option maxHeartbeats 3200000 in
set_option maxRecDepth 100000 in
theorem forms_awake (s u : ByteArray) (k n l c : Int) (w : World) (hP : PR w) (hs : s.size ≤ 9223372036854775807) (hu : u.size ≤ 9223372036854775807) (h : 200 < s.size ∨ (200 < u.size ∧ u.size ≤ 16384) ∨ 16394 < u.size) :
    Calls Tryd.prog 4 #[.string s, .agg #[.int .i64 k, .string u, .int .i64 n, .int .i64 l, .int .i64 c]] w fun e w' => e = .returned (.bool true) ∧ Below w.heap.size w w' := by
  have HP := Lib.hid (hP.below (below_alloc w (.cells #[.int .i64 k, .string u, .int .i64 n, .int .i64 l, .int .i64 c] 33)))
  clear hP
  by_cases h0 : 200 < s.size
  · have q0 : (200 : Int) < (s.size : Int) := by omega
    clear h h0
    go_enter Tryd.func4, Tryd.ntmps4
    go_wp2_with fail
    ((with_reducible refine (awake_any _ HP.out).mono ?_); rintro e w1 ⟨rfl, hb1⟩)
    have HB := Lib.hid (below_then (below_alloc w _) hb1)
    have HP1 := Lib.hid (HP.out.below hb1)
    obtain ⟨t0, t1, t2, t3, t4, ft0, ft1, ft2, ft3, ft4⟩ := tk_facts hb1
    have HC := Lib.hid hb1
    clear hb1
    go_wp2_with fail
    ((with_reducible refine (awake_any _ HP1.out).mono ?_); rintro e w2 ⟨rfl, hb2⟩)
    clear t0 t1 t2 t3 t4 ft0 ft1 ft2 ft3 ft4
    go_wp2_with fail
    go_ret
    exact ⟨rfl, below_then HB.out hb2⟩
  · have q0 : (s.size : Int) ≤ 200 := by omega
    have h' : (200 < u.size ∧ u.size ≤ 16384) ∨ 16394 < u.size := by omega
    clear h h0
    rcases h' with ⟨h1, h2⟩ | h1
    · have q1 : (200 : Int) < (u.size : Int) := by omega
      have q2 : (u.size : Int) ≤ 16384 := by omega
      go_enter Tryd.func4, Tryd.ntmps4
      go_wp2_with fail
      ((with_reducible refine (awake_any _ HP.out).mono ?_); rintro e w1 ⟨rfl, hb1⟩)
      have HB := Lib.hid (below_then (below_alloc w _) hb1)
      have HP1 := Lib.hid (HP.out.below hb1)
      obtain ⟨t0, t1, t2, t3, t4, ft0, ft1, ft2, ft3, ft4⟩ := tk_facts hb1
      have HC := Lib.hid hb1
      clear hb1
      go_wp2_with fail
      ((with_reducible refine (awake_any _ HP1.out).mono ?_); rintro e w2 ⟨rfl, hb2⟩)
      clear t0 t1 t2 t3 t4 ft0 ft1 ft2 ft3 ft4
      go_wp2_with fail
      go_ret
      exact ⟨rfl, below_then HB.out hb2⟩
    · have q1 : (200 : Int) < (u.size : Int) := by omega
      have q2 : (16384 : Int) < (u.size : Int) := by omega
      have q3 : (16394 : Int) < (u.size : Int) := by omega
      go_enter Tryd.func4, Tryd.ntmps4
      go_wp2_with fail
      ((with_reducible refine (awake_any _ HP.out).mono ?_); rintro e w1 ⟨rfl, hb1⟩)
      have HB := Lib.hid (below_then (below_alloc w _) hb1)
      have HP1 := Lib.hid (HP.out.below hb1)
      obtain ⟨t0, t1, t2, t3, t4, ft0, ft1, ft2, ft3, ft4⟩ := tk_facts hb1
      have HC := Lib.hid hb1
      clear hb1
      go_wp2_with fail
      ((with_reducible refine (awake_any _ HP1.out).mono ?_); rintro e w2 ⟨rfl, hb2⟩)
      clear t0 t1 t2 t3 t4 ft0 ft1 ft2 ft3 ft4
      go_wp2_with fail
      go_ret
      exact ⟨rfl, below_then HB.out hb2⟩
set_option maxHeartbeats 6400000 in
set_option maxRecDepth 100000 in
theorem forms_do (s u : ByteArray) (k n l c : Int) (w : World) (hP : PR w) (h0 : s.size ≤ 200) (h : u.size ≤ 200 ∨ (16384 < u.size ∧ u.size ≤ 16394)) :
    Calls Tryd.prog 4 #[.string s, .agg #[.int .i64 k, .string u, .int .i64 n, .int .i64 l, .int .i64 c]] w fun e w' => e = .returned (.bool true) ∧ Below w.heap.size w w' := by
  have HP := Lib.hid (hP.below (below_alloc w (.cells #[.int .i64 k, .string u, .int .i64 n, .int .i64 l, .int .i64 c] 33)))
  clear hP
  have q0 : (s.size : Int) ≤ 200 := by omega
  have HU := Lib.hid (show u.size ≤ 9223372036854775000 by omega)
  rcases h with h1 | ⟨h1, h2⟩
  · have q1 : (u.size : Int) ≤ 200 := by omega
    go_enter Tryd.func4, Tryd.ntmps4
    go_wp2_with fail
    ((with_reducible refine (awake_any _ HP.out).mono ?_); rintro e w1 ⟨rfl, hb1⟩)
    have HB := Lib.hid (below_then (below_alloc w _) hb1)
    have HP1 := Lib.hid (HP.out.below hb1)
    obtain ⟨t0, t1, t2, t3, t4, ft0, ft1, ft2, ft3, ft4⟩ := tk_facts hb1
    have HC := Lib.hid hb1
    clear hb1
    go_wp2_with fail
    ((with_reducible refine (symbol_any s _).mono ?_); rintro e w2 ⟨rfl, hb2⟩)
    clear t0 t1 t2 t3 t4 ft0 ft1 ft2 ft3 ft4
    obtain ⟨t0, t1, t2, t3, t4, ft0, ft1, ft2, ft3, ft4⟩ := tk_facts (below_then HC.out hb2)
    replace HB := Lib.hid (below_then HB.out hb2)
    clear hb2 HC
    have a0 := cell_regrown t0
    have a1 := cell_regrown t1
    have a2 := cell_regrown t2
    have a3 := cell_regrown t3
    have a4 := cell_regrown t4
    clear t0 t1 t2 t3 t4 ft0 ft1 ft2 ft3 ft4
    cases hS : symOf s.data.toList with
    | none =>
      have HS := Lib.hid hS; clear hS
      rw [symRet_none]
      have HK1 := Lib.hid (fun w => tkey_b s w)
      have HK2 := Lib.hid (fun w => rkey_any s w)
      have HV1 := Lib.hid (fun w => tvalid_any k n l c u w HU.out)
      have HV2 := Lib.hid (fun w => rvalid_any k n l c u w HU.out)
      generalize keyB s.data.toList = kb at HK1 HK2
      generalize validB k n u.data.toList = vb at HV1 HV2
      go_wp2_with fail
      refine wp_region_quiet_below (by kernel_rfl) (by kernel_rfl) ?_
      repeat (quiet_step (first | exact Calls.regrown_of (rsym_none s _ HS.out) | exact Calls.regrown_of (HK1.out _) | exact Calls.regrown_of (HK2.out _) | exact Calls.regrown_of (HV1.out _) | exact Calls.regrown_of (HV2.out _)))
      refine wpQuiet_nil ?_
      intro _ hw'
      obtain ⟨⟨dq, osq⟩, hw''⟩ := hw'
      subst hw''
      go_wp2_with fail
      go_ret
      exact ⟨rfl, below_then HB.out (below_regrown _ _ _)⟩
    | some x =>
      obtain ⟨y, rfl⟩ : ∃ y : ByteArray, y.data.toList = x := ⟨⟨x.toArray⟩, rfl⟩
      have hx := sym_in _ _ hS
      rw [len_byte] at hx
      have e1 := nonempty y (by omega)
      have e2 : (!y.toList.isEmpty) = true := by rw [e1]; rfl
      clear hx
      have HS := Lib.hid hS; clear hS
      rw [symRet_some]
      have HK1 := Lib.hid (fun w => tkey_b s w)
      have HK2 := Lib.hid (fun w => rkey_any s w)
      have HV1 := Lib.hid (fun w => tvalid_any k n l c u w HU.out)
      have HV2 := Lib.hid (fun w => rvalid_any k n l c u w HU.out)
      generalize keyB s.data.toList = kb at HK1 HK2
      generalize validB k n u.data.toList = vb at HV1 HV2
      go_wp2_with fail
      refine wp_region_quiet_below (by kernel_rfl) (by kernel_rfl) ?_
      repeat (quiet_step (first | exact Calls.regrown_of (rsym_some s y _ HS.out) | exact Calls.regrown_of (HK1.out _) | exact Calls.regrown_of (HK2.out _) | exact Calls.regrown_of (HV1.out _) | exact Calls.regrown_of (HV2.out _)))
      refine wpQuiet_nil ?_
      intro _ hw'
      obtain ⟨⟨dq, osq⟩, hw''⟩ := hw'
      subst hw''
      go_wp2_with fail
      go_ret
      exact ⟨rfl, below_then HB.out (below_regrown _ _ _)⟩
  · have q1 : (200 : Int) < (u.size : Int) := by omega
    have q2 : (16384 : Int) < (u.size : Int) := by omega
    have q3 : (u.size : Int) ≤ 16394 := by omega
    go_enter Tryd.func4, Tryd.ntmps4
    go_wp2_with fail
    ((with_reducible refine (awake_any _ HP.out).mono ?_); rintro e w1 ⟨rfl, hb1⟩)
    have HB := Lib.hid (below_then (below_alloc w _) hb1)
    have HP1 := Lib.hid (HP.out.below hb1)
    obtain ⟨t0, t1, t2, t3, t4, ft0, ft1, ft2, ft3, ft4⟩ := tk_facts hb1
    have HC := Lib.hid hb1
    clear hb1
    go_wp2_with fail
    ((with_reducible refine (symbol_any s _).mono ?_); rintro e w2 ⟨rfl, hb2⟩)
    clear t0 t1 t2 t3 t4 ft0 ft1 ft2 ft3 ft4
    obtain ⟨t0, t1, t2, t3, t4, ft0, ft1, ft2, ft3, ft4⟩ := tk_facts (below_then HC.out hb2)
    replace HB := Lib.hid (below_then HB.out hb2)
    clear hb2 HC
    have a0 := cell_regrown t0
    have a1 := cell_regrown t1
    have a2 := cell_regrown t2
    have a3 := cell_regrown t3
    have a4 := cell_regrown t4
    clear t0 t1 t2 t3 t4 ft0 ft1 ft2 ft3 ft4
    cases hS : symOf s.data.toList with
    | none =>
      have HS := Lib.hid hS; clear hS
      rw [symRet_none]
      have HK1 := Lib.hid (fun w => tkey_b s w)
      have HK2 := Lib.hid (fun w => rkey_any s w)
      have HV1 := Lib.hid (fun w => tvalid_any k n l c u w HU.out)
      have HV2 := Lib.hid (fun w => rvalid_any k n l c u w HU.out)
      generalize keyB s.data.toList = kb at HK1 HK2
      generalize validB k n u.data.toList = vb at HV1 HV2
      go_wp2_with fail
      refine wp_region_quiet_below (by kernel_rfl) (by kernel_rfl) ?_
      repeat (quiet_step (first | exact Calls.regrown_of (rsym_none s _ HS.out) | exact Calls.regrown_of (HK1.out _) | exact Calls.regrown_of (HK2.out _) | exact Calls.regrown_of (HV1.out _) | exact Calls.regrown_of (HV2.out _)))
      refine wpQuiet_nil ?_
      intro _ hw'
      obtain ⟨⟨dq, osq⟩, hw''⟩ := hw'
      subst hw''
      go_wp2_with fail
      go_ret
      exact ⟨rfl, below_then HB.out (below_regrown _ _ _)⟩
    | some x =>
      obtain ⟨y, rfl⟩ : ∃ y : ByteArray, y.data.toList = x := ⟨⟨x.toArray⟩, rfl⟩
      have hx := sym_in _ _ hS
      rw [len_byte] at hx
      have e1 := nonempty y (by omega)
      have e2 : (!y.toList.isEmpty) = true := by rw [e1]; rfl
      clear hx
      have HS := Lib.hid hS; clear hS
      rw [symRet_some]
      have HK1 := Lib.hid (fun w => tkey_b s w)
      have HK2 := Lib.hid (fun w => rkey_any s w)
      have HV1 := Lib.hid (fun w => tvalid_any k n l c u w HU.out)
      have HV2 := Lib.hid (fun w => rvalid_any k n l c u w HU.out)
      generalize keyB s.data.toList = kb at HK1 HK2
      generalize validB k n u.data.toList = vb at HV1 HV2
      go_wp2_with fail
      refine wp_region_quiet_below (by kernel_rfl) (by kernel_rfl) ?_
      repeat (quiet_step (first | exact Calls.regrown_of (rsym_some s y _ HS.out) | exact Calls.regrown_of (HK1.out _) | exact Calls.regrown_of (HK2.out _) | exact Calls.regrown_of (HV1.out _) | exact Calls.regrown_of (HV2.out _)))
      refine wpQuiet_nil ?_
      intro _ hw'
      obtain ⟨⟨dq, osq⟩, hw''⟩ := hw'
      subst hw''
      go_wp2_with fail
      go_ret
      exact ⟨rfl, below_then HB.out (below_regrown _ _ _)⟩
theorem tokenForms_walk (s u : ByteArray) (k n l c : Int) (w : World) (hP : PR w) (hs : s.size ≤ 9223372036854775807) (hu : u.size ≤ 9223372036854775807) :
    Calls Tryd.prog 4 #[.string s, .agg #[.int .i64 k, .string u, .int .i64 n, .int .i64 l, .int .i64 c]] w fun e w' => e = .returned (.bool true) ∧ Below w.heap.size w w' := by
  by_cases h : s.size ≤ 200 ∧ (u.size ≤ 200 ∨ (16384 < u.size ∧ u.size ≤ 16394))
  · exact forms_do s u k n l c w hP h.1 h.2
  · exact forms_awake s u k n l c w hP hs hu (by omega)
end Go.Proofs.YtlocbindafdmhaaDoor
