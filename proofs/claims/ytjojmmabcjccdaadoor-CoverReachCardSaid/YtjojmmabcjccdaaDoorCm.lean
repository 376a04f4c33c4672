/- more, below, Less, AtMost, Same: what a call returns. -/
import Derived.Test.YtjojmmabcjccdaaDoorCl
namespace Go.Proofs.YtjojmmabcjccdaaDoor
open Go.RowKit

theorem less_parts (a b : Int) : (b = -1 ∧ lessE a b = true) ∨ ((b ≠ -1 ∧ a = -1) ∧ lessE a b = false) ∨ ((b ≠ -1 ∧ a ≠ -1 ∧ b < a) ∧ lessE a b = false) ∨ ((b ≠ -1 ∧ a ≠ -1 ∧ a ≤ b) ∧ lessE a b = true) := by
  unfold lessE
  by_cases h1 : b = -1
  · exact .inl ⟨h1, by rw [decide_eq_true h1]; rfl⟩
  by_cases h2 : a = -1
  · exact .inr (.inl ⟨⟨h1, h2⟩, by rw [decide_eq_false h1, decide_eq_false (by omega)]; rfl⟩)
  by_cases h3 : b < a
  · exact .inr (.inr (.inl ⟨⟨h1, h2, h3⟩, by rw [decide_eq_false h1, decide_eq_false (show ¬ a ≤ b by omega), Bool.and_false]; rfl⟩))
  · exact .inr (.inr (.inr ⟨⟨h1, h2, by omega⟩, by rw [decide_eq_true (show a ≤ b by omega), decide_eq_true h2, Bool.and_true, Bool.or_true]⟩))
theorem atM_get {x y : List Int} {k : Nat} (h1 : k < x.length) (h2 : k < y.length) : atM x y k = lessE x[k] y[k] := by unfold atM; simp [h1, h2]
def moreV (x b : Int) : Int := if x = -1 then -1 else x + b
theorem moreV_dec (x : Int) : moreV x (-1) = dec1 x := rfl
theorem moreV_inc (x : Int) : moreV x 1 = inc1 x := rfl
theorem more_any (x b : Int) (w : World) (hx : -1000000000000 ≤ x ∧ x ≤ 1000000000000) (hb : -10 ≤ b ∧ b ≤ 10) : Calls Tryd.prog 87 #[.int .i64 x, .int .i64 b] w fun e w' => e = .returned (.int .i64 (moreV x b)) ∧ Below w.heap.size w w' := by
  by_cases h : x = -1
  · subst h
    go_enter Tryd.func87, Tryd.ntmps87
    go_wp2_with fail
    go_ret
    exact ⟨rfl, Below.refl _ _⟩
  · have q1 : (x == -1) = false := by rw [beq_eq_false_iff_ne]; exact h
    have HV := Lib.hid (show moreV x b = x + b from if_neg h)
    clear h
    go_enter Tryd.func87, Tryd.ntmps87
    go_wp2_with fail
    go_ret
    exact ⟨ret_int HV.out.symm, Below.refl _ _⟩
theorem less_any (a b : Int) (w : World) : Calls Tryd.prog 30 #[.int .i64 a, .int .i64 b] w fun e w' => e = .returned (.bool (lessE a b)) ∧ Below w.heap.size w w' := by
  rcases less_parts a b with ⟨h, hv⟩ | ⟨⟨h, h2⟩, hv⟩ | ⟨⟨h, h2, h3⟩, hv⟩ | ⟨⟨h, h2, h3⟩, hv⟩
  all_goals
    have HV := Lib.hid hv; clear hv
    first | (have q1 : (b == -1) = true := by rw [h]; rfl) | (have q1 : (b == -1) = false := by rw [beq_eq_false_iff_ne]; exact h)
    first | (have q2 : (a != -1) = false := by rw [h2]; rfl) | (have q2 : (a != -1) = true := by simpa using h2) | skip
    first | (have q3 : decide (a ≤ b) = false := by simp; omega) | skip
    clear h
    go_enter Tryd.func30, Tryd.ntmps30
    go_wp2_with fail
    go_ret
    exact ⟨ret_bool HV.out.symm, Below.refl _ _⟩
set_option maxHeartbeats 3200000 in
set_option maxRecDepth 100000 in
theorem below_any (Ax : Option Addr) (n cx : Nat) (Ay : Option Addr) (m cy : Nat) (X Y : List Int) (w : World) (hX : ZIn w Ax X) (hn : X.length = n) (hY : ZIn w Ay Y) (hm : Y.length = m) (hnm : n ≤ m) (hmb : m ≤ 9223372036854775807) :
    Calls Tryd.prog 55 #[.slice Ax n cx, .slice Ay m cy] w fun e w' => e = .returned (.bool (atMost X Y)) ∧ Below w.heap.size w w' := by
  have HX := Lib.hid hX
  have HY := Lib.hid hY
  have HN := Lib.hid hn
  have HM := Lib.hid hm
  clear hX hY hn hm
  go_enter Tryd.func55, Tryd.ntmps55
  go_wp2_with fail
  go_loopg [8] (n) (fun g iv wr => ∃ k : Nat, k + g = n ∧ iv = .int .i64 k ∧ atMTo X Y k = true ∧ Below w.heap.size w wr)
  case atStart => exact ⟨0, by omega, rfl, rfl, Below.refl _ _⟩
  case round =>
    obtain ⟨k, hk, rfl, hp, hB⟩ := hrel
    have HB := Lib.hid hB
    have HXr := Lib.hid (HX.out.below hB)
    have HYr := Lib.hid (HY.out.below hB)
    have HK := Lib.hid hk
    have HP := Lib.hid hp
    have hle : k ≤ n := by omega
    clear hk hp hB
    by_cases hlt : k < n
    · have h1 : k < X.length := by rw [HN.out]; exact hlt
      have h2 : k < Y.length := by rw [HM.out]; omega
      have hlt2 : k < m := by omega
      obtain ⟨ad, rfl, hpa, q0⟩ := HXr.out k h1
      obtain ⟨ae, rfl, hpb, q5⟩ := HYr.out k h2
      have HNo := Lib.hid (atMost_no X Y k h1)
      have HSu := Lib.hid (atMTo_succ X Y k)
      rw [atM_get h1 h2] at HNo HSu
      generalize X[k] = x at *
      generalize Y[k] = y at *
      clear h1 h2
      rcases less_parts x y with ⟨h, hv⟩ | ⟨⟨h, h2⟩, hv⟩ | ⟨⟨h, h2, h3⟩, hv⟩ | ⟨⟨h, h2, h3⟩, hv⟩
      · have q1 : (y != -1) = false := by rw [h]; rfl
        rw [hv, HP.out] at HSu
        clear h hv HNo
        go_wp2_with fail
        go_quiet (fail)
        go_wp2_with fail
        go_roundg (gk - 1)
        case measure => have := HK.out; omega
        case rel => exact ⟨k + 1, by have := HK.out; omega, by go_num, HSu.out, below_then HB.out (below_drewN _ _)⟩
      · have q1 : (y != -1) = true := by simpa using h
        have q2 : (x == -1) = true := by rw [h2]; rfl
        have HV := Lib.hid (HNo.out hv)
        clear h h2 hv HSu HNo
        go_wp2_with fail
        go_quiet (fail)
        go_wp2_with fail
        go_ret
        exact ⟨ret_bool HV.out.symm, below_then HB.out (below_drewN _ _)⟩
      · have q1 : (y != -1) = true := by simpa using h
        have q2 : (x == -1) = false := by rw [beq_eq_false_iff_ne]; exact h2
        have HV := Lib.hid (HNo.out hv)
        clear h h2 hv HSu HNo
        go_wp2_with fail
        go_quiet (fail)
        go_wp2_with fail
        go_ret
        exact ⟨ret_bool HV.out.symm, below_then HB.out (below_drewN _ _)⟩
      · have q1 : (y != -1) = true := by simpa using h
        have q2 : (x == -1) = false := by rw [beq_eq_false_iff_ne]; exact h2
        have q3 : decide (y < x) = false := by simpa using h3
        rw [hv, HP.out] at HSu
        clear h h2 h3 hv HNo
        go_wp2_with fail
        go_quiet (fail)
        go_wp2_with fail
        go_roundg (gk - 1)
        case measure => have := HK.out; omega
        case rel => exact ⟨k + 1, by have := HK.out; omega, by go_num, HSu.out, below_then HB.out (below_drewN _ _)⟩
    · have HV := Lib.hid (show atMost X Y = true by
        have := HP.out
        unfold atMost
        rwa [show k = X.length by rw [HN.out]; omega] at this)
      go_wp2_with fail
      go_ret
      exact ⟨ret_bool HV.out.symm, HB.out⟩
set_option maxHeartbeats 3200000 in
set_option maxRecDepth 100000 in
theorem atmost_any (Ax : Option Addr) (n cx : Nat) (Ay : Option Addr) (m cy : Nat) (X Y : List Int) (w : World) (hX : ZIn w Ax X) (hn : X.length = n) (hY : ZIn w Ay Y) (hm : Y.length = m) (hnm : n ≤ m) (hmb : m ≤ 9223372036854775807) :
    Calls Tryd.prog 36 #[.slice Ax n cx, .slice Ay m cy] w fun e w' => e = .returned (.bool (atMost X Y)) ∧ Below w.heap.size w w' := by
  have HX := Lib.hid hX
  have HY := Lib.hid hY
  have HN := Lib.hid hn
  have HM := Lib.hid hm
  clear hX hY hn hm
  go_enter Tryd.func36, Tryd.ntmps36
  go_wp2_with fail
  go_loopg [5] (n) (fun g iv wr => ∃ k : Nat, k + g = n ∧ iv = .int .i64 k ∧ atMTo X Y k = true ∧ Below w.heap.size w wr)
  case atStart => exact ⟨0, by omega, rfl, rfl, Below.refl _ _⟩
  case round =>
    obtain ⟨k, hk, rfl, hp, hB⟩ := hrel
    have HB := Lib.hid hB
    have HXr := Lib.hid (HX.out.below hB)
    have HYr := Lib.hid (HY.out.below hB)
    have HK := Lib.hid hk
    have HP := Lib.hid hp
    have hle : k ≤ n := by omega
    clear hk hp hB
    by_cases hlt : k < n
    · have h1 : k < X.length := by rw [HN.out]; exact hlt
      have h2 : k < Y.length := by rw [HM.out]; omega
      have hlt2 : k < m := by omega
      obtain ⟨ad, rfl, hpa, q0⟩ := HXr.out k h1
      obtain ⟨ae, rfl, hpb, q5⟩ := HYr.out k h2
      have HNo := Lib.hid (atMost_no X Y k h1)
      have HSu := Lib.hid (atMTo_succ X Y k)
      rw [atM_get h1 h2] at HNo HSu
      generalize X[k] = x at *
      generalize Y[k] = y at *
      clear h1 h2
      have HL := Lib.hid (less_any x y)
      cases hv : lessE x y with
      | true =>
        rw [hv] at HL
        rw [hv, HP.out] at HSu
        clear hv HNo
        go_wp2_with fail
        have a0 := fun d os => cell_regrown q0 d os
        have a5 := fun d os => cell_regrown q5 d os
        refine wp_region_quiet_below (by kernel_rfl) (by kernel_rfl) ?_
        repeat (quiet_step (exact Calls.regrown_of (HL.out _)))
        refine wpQuiet_nil ?_
        intro _ hw'
        obtain ⟨⟨dq, osq⟩, hw''⟩ := hw'
        subst hw''
        clear a0 a5
        have HB1 := Lib.hid (below_then HB.out (below_regrown _ dq osq))
        go_wp2_with fail
        go_roundg (gk - 1)
        case measure => have := HK.out; omega
        case rel => exact ⟨k + 1, by have := HK.out; omega, by go_num, HSu.out, HB1.out⟩
      | false =>
        rw [hv] at HL
        have HV := Lib.hid (HNo.out hv)
        clear hv HNo HSu
        go_wp2_with fail
        have a0 := fun d os => cell_regrown q0 d os
        have a5 := fun d os => cell_regrown q5 d os
        refine wp_region_quiet_below (by kernel_rfl) (by kernel_rfl) ?_
        repeat (quiet_step (exact Calls.regrown_of (HL.out _)))
        refine wpQuiet_nil ?_
        intro _ hw'
        obtain ⟨⟨dq, osq⟩, hw''⟩ := hw'
        subst hw''
        clear a0 a5
        have HB1 := Lib.hid (below_then HB.out (below_regrown _ dq osq))
        go_wp2_with fail
        go_ret
        exact ⟨ret_bool HV.out.symm, HB1.out⟩
    · have HV := Lib.hid (show atMost X Y = true by
        have := HP.out
        unfold atMost
        rwa [show k = X.length by rw [HN.out]; omega] at this)
      go_wp2_with fail
      go_ret
      exact ⟨ret_bool HV.out.symm, HB.out⟩
theorem ne_at {X Y : List Int} {k : Nat} (h1 : k < X.length) (h2 : k < Y.length) (h : X[k] ≠ Y[k]) : decide (X = Y) = false := by
  rw [decide_eq_false_iff_not]; rintro rfl; exact h rfl
theorem take_grow {X Y : List Int} {k : Nat} (h1 : k < X.length) (h2 : k < Y.length) (ht : X.take k = Y.take k) (h : X[k] = Y[k]) : X.take (k + 1) = Y.take (k + 1) := by
  rw [List.take_succ_eq_append_getElem h1, List.take_succ_eq_append_getElem h2, ht, h]
set_option maxHeartbeats 3200000 in
set_option maxRecDepth 100000 in
theorem same_any (Ax : Option Addr) (n cx : Nat) (Ay : Option Addr) (m cy : Nat) (X Y : List Int) (w : World) (hX : ZIn w Ax X) (hn : X.length = n) (hY : ZIn w Ay Y) (hm : Y.length = m) (hnb : n ≤ 9223372036854775807) :
    Calls Tryd.prog 48 #[.slice Ax n cx, .slice Ay m cy] w fun e w' => e = .returned (.bool (decide (X = Y))) ∧ Below w.heap.size w w' := by
  by_cases hnm : n = m
  · subst hnm
    have HX := Lib.hid hX
    have HY := Lib.hid hY
    have HN := Lib.hid hn
    have HM := Lib.hid hm
    have q1 : ((n : Int) != (n : Int)) = false := bne_self_eq_false _
    clear hX hY hn hm
    go_enter Tryd.func48, Tryd.ntmps48
    go_wp2_with fail
    go_loopg [5] (n) (fun g iv wr => ∃ k : Nat, k + g = n ∧ iv = .int .i64 k ∧ X.take k = Y.take k ∧ Below w.heap.size w wr)
    case atStart => exact ⟨0, by omega, rfl, rfl, Below.refl _ _⟩
    case round =>
      obtain ⟨k, hk, rfl, hp, hB⟩ := hrel
      have HB := Lib.hid hB
      have HXr := Lib.hid (HX.out.below hB)
      have HYr := Lib.hid (HY.out.below hB)
      have HK := Lib.hid hk
      have HP := Lib.hid hp
      have hle : k ≤ n := by omega
      clear hk hp hB
      by_cases hlt : k < n
      · have h1 : k < X.length := by rw [HN.out]; exact hlt
        have h2 : k < Y.length := by rw [HM.out]; exact hlt
        obtain ⟨ad, rfl, hpa, q0⟩ := HXr.out k h1
        obtain ⟨ae, rfl, hpb, q5⟩ := HYr.out k h2
        have HNo := Lib.hid (ne_at h1 h2)
        have HSu := Lib.hid (take_grow h1 h2 HP.out)
        generalize X[k] = x at *
        generalize Y[k] = y at *
        clear h1 h2
        by_cases hxy : x = y
        · have HV := Lib.hid (HSu.out hxy)
          subst hxy
          have q2 : (x != x) = false := bne_self_eq_false _
          clear HSu HNo
          go_wp2_with fail
          go_quiet (fail)
          go_wp2_with fail
          go_roundg (gk - 1)
          case measure => have := HK.out; omega
          case rel => exact ⟨k + 1, by have := HK.out; omega, by go_num, HV.out, below_then HB.out (below_drewN _ _)⟩
        · have HV := Lib.hid (HNo.out hxy)
          have q2 : (x != y) = true := by simpa using hxy
          clear HSu HNo hxy
          go_wp2_with fail
          go_quiet (fail)
          go_wp2_with fail
          go_ret
          exact ⟨ret_bool HV.out.symm, below_then HB.out (below_drewN _ _)⟩
      · have HV := Lib.hid (show X = Y by
          have := HP.out
          rwa [List.take_of_length_le (by rw [HN.out]; omega), List.take_of_length_le (by rw [HM.out]; omega)] at this)
        go_wp2_with fail
        go_ret
        exact ⟨ret_bool (by rw [decide_eq_true HV.out]), HB.out⟩
  · have q1 : ((n : Int) != (m : Int)) = true := by rw [bne_iff_ne]; omega
    have HV := Lib.hid (show decide (X = Y) = false by rw [decide_eq_false_iff_not]; rintro rfl; omega)
    clear hX hY hn hm hnm
    go_enter Tryd.func48, Tryd.ntmps48
    go_wp2_with fail
    go_ret
    exact ⟨ret_bool HV.out.symm, Below.refl _ _⟩
end Go.Proofs.YtjojmmabcjccdaaDoor
