/- places of the reference: what a call returns. -/
import Derived.Test.YtjojmmabcjccdaaDoorCe
namespace Go.Proofs.YtjojmmabcjccdaaDoor
open Go.RowKit

set_option maxHeartbeats 3200000 in
set_option maxRecDepth 100000 in
theorem rplaces_any (pl : Int) (Al : Option Addr) (m cl : Nat) (l : List Int) (w : World) (h : ZIn w Al l) (hm : l.length = m) (hmb : m ≤ 9223372036854775807) :
    Calls Tryd.prog 58 #[.int .i64 pl, .slice Al m cl] w fun e w' => e = .returned (.bool (plB pl l)) ∧ Below w.heap.size w w' := by
  have H0' := Lib.hid h
  have HM := Lib.hid hm
  clear h hm
  go_enter Tryd.func58, Tryd.ntmps58
  go_wp2_with fail
  go_loopg [5] (m) (fun g iv wr => ∃ k : Nat, k + g = m ∧ iv = .int .i64 k ∧ plTo pl l k = true ∧ Below w.heap.size w wr)
  case atStart => exact ⟨0, by omega, rfl, rfl, Below.refl _ _⟩
  case round =>
    obtain ⟨k, hk, rfl, hp, hB⟩ := hrel
    have HB := Lib.hid hB
    have H0 := Lib.hid (H0'.out.below hB)
    have HK := Lib.hid hk
    have HP := Lib.hid hp
    have hle : k ≤ m := by omega
    clear hk hp hB
    by_cases hlt : k < m
    · have hlt' : k < l.length := by rw [HM.out]; exact hlt
      obtain ⟨ad, rfl, hpa, q0⟩ := H0.out k hlt'
      have HNo := Lib.hid (plB_no pl l k hlt')
      have HSu := Lib.hid (plTo_succ pl l k)
      have HZ := Lib.hid (fun (h0 : k = 0) => show plAt pl l k = (decide (0 ≤ l[k]) && decide (l[k] < pl)) by subst h0; exact plAt_zero pl l hlt')
      have HY := Lib.hid (fun j (hj : j + 1 = k) => show ∃ y : Int, wr.cell? (ad.add j) = some (.int .i64 y) ∧ plAt pl l k = (decide (0 ≤ l[k]) && (decide (l[k] < pl) && decide (y < l[k]))) by
        subst hj
        obtain ⟨ad', had, _, q⟩ := H0.out j (by omega)
        cases had
        exact ⟨l[j], q, plAt_succ pl l j hlt'⟩)
      generalize l[k] = x at *
      clear hlt'
      by_cases hx0 : x < 0
      · have HV := Lib.hid (show plB pl l = false from HNo.out (by
          cases k with
          | zero => rw [HZ.out rfl, decide_eq_false (by omega)]; rfl
          | succ j => obtain ⟨y, _, e⟩ := HY.out j rfl; rw [e, decide_eq_false (by omega)]; rfl))
        clear HZ HY HSu
        go_wp2_with fail
        go_quiet (fail)
        go_wp2_with fail
        go_ret
        exact ⟨ret_bool HV.out.symm, below_then HB.out (below_drewN _ _)⟩
      · have d0 : decide (x < 0) = false := by simpa using hx0
        by_cases hx1 : pl ≤ x
        · have HV := Lib.hid (show plB pl l = false from HNo.out (by
            have e1 : decide (x < pl) = false := decide_eq_false (by omega)
            cases k with
            | zero => rw [HZ.out rfl, e1, Bool.and_false]
            | succ j => obtain ⟨y, _, e⟩ := HY.out j rfl; rw [e, e1, Bool.false_and, Bool.and_false]))
          clear HZ HY HSu
          go_wp2_with fail
          go_quiet (fail)
          go_wp2_with fail
          go_ret
          exact ⟨ret_bool HV.out.symm, below_then HB.out (below_drewN _ _)⟩
        · have d1 : decide (pl ≤ x) = false := by simpa using hx1
          have e0 : decide (0 ≤ x) = true := decide_eq_true (by omega)
          have e1 : decide (x < pl) = true := decide_eq_true (by omega)
          cases k with
          | zero =>
            have HV := Lib.hid (show plTo pl l 1 = true by rw [HSu.out, HP.out, HZ.out rfl, e0, e1]; rfl)
            clear HZ HY HSu e0 e1 hx0 hx1
            have q0' : wr.cell? ad = some (.int .i64 x) := by simpa [Addr.add] using q0
            clear q0
            go_wp2_with fail
            go_quiet (fail)
            go_wp2_with fail
            go_roundg (gk - 1)
            case measure => have := HK.out; omega
            case rel => exact ⟨1, by have := HK.out; omega, by go_num, HV.out, below_then HB.out (below_drewN _ _)⟩
          | succ j =>
            obtain ⟨y, qy, e⟩ := HY.out j rfl
            have HE := Lib.hid e
            clear HY HZ e
            by_cases hxy : x ≤ y
            · have HV := Lib.hid (show plB pl l = false from HNo.out (by rw [HE.out, decide_eq_false (show ¬ y < x by omega), Bool.and_false, Bool.and_false]))
              clear HSu e0 e1 hx0 hx1
              rw [add_prev] at q0
              go_wp2_with fail
              go_quiet (fail)
              go_wp2_with fail
              go_ret
              exact ⟨ret_bool HV.out.symm, below_then HB.out (below_drewN _ _)⟩
            · have dxy : decide (x ≤ y) = false := by simpa using hxy
              have HV := Lib.hid (show plTo pl l (j + 1 + 1) = true by rw [HSu.out, HP.out, HE.out, e0, e1, decide_eq_true (show y < x by omega)]; rfl)
              clear HSu e0 e1 hx0 hx1 hxy
              rw [add_prev] at q0
              go_wp2_with fail
              go_quiet (fail)
              go_wp2_with fail
              go_roundg (gk - 1)
              case measure => have := HK.out; omega
              case rel => exact ⟨j + 1 + 1, by have := HK.out; omega, by go_num, HV.out, below_then HB.out (below_drewN _ _)⟩
    · have HV := Lib.hid (show plB pl l = true by
        have := HP.out
        unfold plB
        rwa [show k = l.length by rw [HM.out]; omega] at this)
      go_wp2_with fail
      go_ret
      exact ⟨ret_bool HV.out.symm, HB.out⟩
end Go.Proofs.YtjojmmabcjccdaaDoor
