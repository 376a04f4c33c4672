/- more, below, Less, AtMost, Same: what a call returns. -/
import Derived.Test.YtpnhcimmlnjfaaaGreatDoorCl
namespace Go.Proofs.YtpnhcimmlnjfaaaGreatDoor
open Go.Lib (hid)
open Go.RowKit

theorem less_parts (a b : Int) : (b = -1 ∧ lessE a b = true) ∨ ((b ≠ -1 ∧ a = -1) ∧ lessE a b = false) ∨ ((b ≠ -1 ∧ a ≠ -1 ∧ b < a) ∧ lessE a b = false) ∨ ((b ≠ -1 ∧ a ≠ -1 ∧ a ≤ b) ∧ lessE a b = true) := by
 unfold lessE
 by_cases h1 : b = -1
 · exact .inl ⟨h1, by rw [decide_eq_true h1]; rfl⟩
 by_cases h2 : a = -1
 · exact .inr (.inl ⟨⟨h1, h2⟩, by rw [decide_eq_false h1, decide_eq_false (by omega)]; rfl⟩)
 by_cases h3 : b < a
 · exact .inr (.inr (.inl ⟨⟨h1, h2, h3⟩, by rw [decide_eq_false h1, decide_eq_false (show ¬ a ≤ b by omega), Bool.and_false]; rfl⟩))
 · exact .inr (.inr (.inr ⟨⟨h1, h2, by omega⟩, by rw [decide_eq_true (show a ≤ b by omega), decide_eq_true h2, Bool.and_true, Bool.or_true]⟩))
theorem atM_get {x y : List Int} {k : Nat} (h1 : k < x.length) (h2 : k < y.length) : atM x y k = lessE x[k] y[k] := by unfold atM; simp [h1, h2]
theorem less_any (a b : Int) (w : World) : Calls Tryz.prog 90 #[.int .i64 a, .int .i64 b] w fun e w' => e = .returned (.bool (lessE a b)) ∧ Below w.heap.size w w' := by
 rcases less_parts a b with ⟨h, hv⟩ | ⟨⟨h, h2⟩, hv⟩ | ⟨⟨h, h2, h3⟩, hv⟩ | ⟨⟨h, h2, h3⟩, hv⟩
 all_goals
  have HV := hid hv; clear hv
  first | (have q1 : (b == -1) = true := by rw [h]; rfl) | (have q1 : (b == -1) = false := by rw [beq_eq_false_iff_ne]; exact h)
  first | (have q2 : (a != -1) = false := by rw [h2]; rfl) | (have q2 : (a != -1) = true := by simpa using h2) | skip
  first | (have q3 : decide (a ≤ b) = false := by simp; omega) | skip
  clear h
  go_enter Tryz.func90, Tryz.ntmps90
  go_wp2_with fail
  go_ret
  exact ⟨ret_bool HV.out.symm, Below.refl _ _⟩
set_option maxHeartbeats 3200000 in
set_option maxRecDepth 100000 in
theorem below_any (Ax : Option Addr) (n cx : Nat) (Ay : Option Addr) (m cy : Nat) (X Y : List Int) (w : World) (hX : ZIn w Ax X) (hn : X.length = n) (hY : ZIn w Ay Y) (hm : Y.length = m) (hnm : n ≤ m) (hmb : m ≤ 9223372036854775807) :
 Calls Tryz.prog 71 #[.slice Ax n cx, .slice Ay m cy] w fun e w' => e = .returned (.bool (atMost X Y)) ∧ Below w.heap.size w w' := by
 have HX := hid hX
 have HY := hid hY
 have HN := hid hn
 have HM := hid hm
 clear hX hY hn hm
 go_enter Tryz.func71, Tryz.ntmps71
 go_wp2_with fail
 go_loopg [8] (n) (fun g iv wr => ∃ k : Nat, k + g = n ∧ iv = .int .i64 k ∧ atMTo X Y k = true ∧ Below w.heap.size w wr)
 case atStart => exact ⟨0, by omega, rfl, rfl, Below.refl _ _⟩
 case round =>
  obtain ⟨k, hk, rfl, hp, hB⟩ := hrel
  have HB := hid hB
  have HXr := hid (HX.out.below hB)
  have HYr := hid (HY.out.below hB)
  have HK := hid hk
  have HP := hid hp
  have hle : k ≤ n := by omega
  clear hk hp hB
  by_cases hlt : k < n
  · have h1 : k < X.length := by rw [HN.out]; exact hlt
    have h2 : k < Y.length := by rw [HM.out]; omega
    have hlt2 : k < m := by omega
    obtain ⟨ad, rfl, hpa, q0⟩ := HXr.out k h1
    obtain ⟨ae, rfl, hpb, q5⟩ := HYr.out k h2
    have HNo := hid (atMost_no X Y k h1)
    have HSu := hid (atMTo_succ X Y k)
    rw [atM_get h1 h2] at HNo HSu
    generalize X[k] = x at *
    generalize Y[k] = y at *
    clear h1 h2
    rcases less_parts x y with ⟨h, hv⟩ | ⟨⟨h, h2⟩, hv⟩ | ⟨⟨h, h2, h3⟩, hv⟩ | ⟨⟨h, h2, h3⟩, hv⟩
    · have q1 : (y != -1) = false := by rw [h]; rfl
      rw [hv, HP.out] at HSu
      clear h hv HNo
      go_wp2_with fail
      go_quiet (fail)
      go_wp2_with fail
      go_roundg (gk - 1)
      case measure => have := HK.out; omega
      case rel => exact ⟨k + 1, by have := HK.out; omega, by go_num, HSu.out, below_then HB.out (below_drewN _ _)⟩
    · have q1 : (y != -1) = true := by simpa using h
      have q2 : (x == -1) = true := by rw [h2]; rfl
      have HV := hid (HNo.out hv)
      clear h h2 hv HSu HNo
      go_wp2_with fail
      go_quiet (fail)
      go_wp2_with fail
      go_ret
      exact ⟨ret_bool HV.out.symm, below_then HB.out (below_drewN _ _)⟩
    · have q1 : (y != -1) = true := by simpa using h
      have q2 : (x == -1) = false := by rw [beq_eq_false_iff_ne]; exact h2
      have HV := hid (HNo.out hv)
      clear h h2 hv HSu HNo
      go_wp2_with fail
      go_quiet (fail)
      go_wp2_with fail
      go_ret
      exact ⟨ret_bool HV.out.symm, below_then HB.out (below_drewN _ _)⟩
    · have q1 : (y != -1) = true := by simpa using h
      have q2 : (x == -1) = false := by rw [beq_eq_false_iff_ne]; exact h2
      have q3 : decide (y < x) = false := by simpa using h3
      rw [hv, HP.out] at HSu
      clear h h2 h3 hv HNo
      go_wp2_with fail
      go_quiet (fail)
      go_wp2_with fail
      go_roundg (gk - 1)
      case measure => have := HK.out; omega
      case rel => exact ⟨k + 1, by have := HK.out; omega, by go_num, HSu.out, below_then HB.out (below_drewN _ _)⟩
  · have HV := hid (show atMost X Y = true by
     have := HP.out
     unfold atMost
     rwa [show k = X.length by rw [HN.out]; omega] at this)
    go_wp2_with fail
    go_ret
    exact ⟨ret_bool HV.out.symm, HB.out⟩
set_option maxHeartbeats 3200000 in
set_option maxRecDepth 100000 in
theorem atmost_any (Ax : Option Addr) (n cx : Nat) (Ay : Option Addr) (m cy : Nat) (X Y : List Int) (w : World) (hX : ZIn w Ax X) (hn : X.length = n) (hY : ZIn w Ay Y) (hm : Y.length = m) (hnm : n ≤ m) (hmb : m ≤ 9223372036854775807) :
 Calls Tryz.prog 46 #[.slice Ax n cx, .slice Ay m cy] w fun e w' => e = .returned (.bool (atMost X Y)) ∧ Below w.heap.size w w' := by
 have HX := hid hX
 have HY := hid hY
 have HN := hid hn
 have HM := hid hm
 clear hX hY hn hm
 go_enter Tryz.func46, Tryz.ntmps46
 go_wp2_with fail
 go_loopg [5] (n) (fun g iv wr => ∃ k : Nat, k + g = n ∧ iv = .int .i64 k ∧ atMTo X Y k = true ∧ Below w.heap.size w wr)
 case atStart => exact ⟨0, by omega, rfl, rfl, Below.refl _ _⟩
 case round =>
  obtain ⟨k, hk, rfl, hp, hB⟩ := hrel
  have HB := hid hB
  have HXr := hid (HX.out.below hB)
  have HYr := hid (HY.out.below hB)
  have HK := hid hk
  have HP := hid hp
  have hle : k ≤ n := by omega
  clear hk hp hB
  by_cases hlt : k < n
  · have h1 : k < X.length := by rw [HN.out]; exact hlt
    have h2 : k < Y.length := by rw [HM.out]; omega
    have hlt2 : k < m := by omega
    obtain ⟨ad, rfl, hpa, q0⟩ := HXr.out k h1
    obtain ⟨ae, rfl, hpb, q5⟩ := HYr.out k h2
    have HNo := hid (atMost_no X Y k h1)
    have HSu := hid (atMTo_succ X Y k)
    rw [atM_get h1 h2] at HNo HSu
    generalize X[k] = x at *
    generalize Y[k] = y at *
    clear h1 h2
    have HL := hid (less_any x y)
    cases hv : lessE x y with
    | true =>
     rw [hv] at HL
     rw [hv, HP.out] at HSu
     clear hv HNo
     go_wp2_with fail
     have a0 := fun d os => cell_regrown q0 d os
     have a5 := fun d os => cell_regrown q5 d os
     refine wp_region_quiet_below (by kernel_rfl) (by kernel_rfl) ?_
     repeat (quiet_step (exact Calls.regrown_of (HL.out _)))
     refine wpQuiet_nil ?_
     intro _ hw'
     obtain ⟨⟨dq, osq⟩, hw''⟩ := hw'
     subst hw''
     clear a0 a5
     have HB1 := hid (below_then HB.out (below_regrown _ dq osq))
     go_wp2_with fail
     go_roundg (gk - 1)
     case measure => have := HK.out; omega
     case rel => exact ⟨k + 1, by have := HK.out; omega, by go_num, HSu.out, HB1.out⟩
    | false =>
     rw [hv] at HL
     have HV := hid (HNo.out hv)
     clear hv HNo HSu
     go_wp2_with fail
     have a0 := fun d os => cell_regrown q0 d os
     have a5 := fun d os => cell_regrown q5 d os
     refine wp_region_quiet_below (by kernel_rfl) (by kernel_rfl) ?_
     repeat (quiet_step (exact Calls.regrown_of (HL.out _)))
     refine wpQuiet_nil ?_
     intro _ hw'
     obtain ⟨⟨dq, osq⟩, hw''⟩ := hw'
     subst hw''
     clear a0 a5
     have HB1 := hid (below_then HB.out (below_regrown _ dq osq))
     go_wp2_with fail
     go_ret
     exact ⟨ret_bool HV.out.symm, HB1.out⟩
  · have HV := hid (show atMost X Y = true by
     have := HP.out
     unfold atMost
     rwa [show k = X.length by rw [HN.out]; omega] at this)
    go_wp2_with fail
    go_ret
    exact ⟨ret_bool HV.out.symm, HB.out⟩
end Go.Proofs.YtpnhcimmlnjfaaaGreatDoor
