/- places of both packages: what a call returns. places of the reference: what a call returns. -/
import Derived.Test.YtpnhcimmlnjfaaaDoorCb
namespace Go.Proofs.YtpnhcimmlnjfaaaDoor
open Go.Lib (hid)
section
open Go.RowKit

/-- a block that holds a net -/
def NB (w : World) (b : Nat) (pl : Int) (A : Option Addr) (n c : Nat) (src snk : Int) : Prop := w.heap[b]? = some (.cells #[.int .i64 pl, .slice A n c, .int .i64 src, .int .i64 snk] 24 (0, 0))
section
variable {w w' : World} {b : Nat} {pl : Int} {A : Option Addr} {n c : Nat} {src snk : Int}
theorem NB.lt (h : NB w b pl A n c src snk) : b < w.heap.size := (Array.getElem?_eq_some_iff.1 h).1
theorem NB.cells (h : NB w b pl A n c src snk) : w.cell? ⟨b, 0, none⟩ = some (.int .i64 pl) ∧ w.cell? ⟨b, 1, none⟩ = some (.slice A n c) ∧ w.cell? ⟨b, 2, none⟩ = some (.int .i64 src) ∧ w.cell? ⟨b, 3, none⟩ = some (.int .i64 snk) := by
 unfold NB at h
 simp [World.cell?, h]
theorem NB.below (h : NB w b pl A n c src snk) (hb : Below w.heap.size w w') : NB w' b pl A n c src snk := by
 have hl := h.lt
 unfold NB at h ⊢
 rw [hb.block b hl]; exact h
end
theorem NB.new (w : World) (pl : Int) (A : Option Addr) (n c : Nat) (src snk : Int) : NB (w.alloc (.cells #[.int .i64 pl, .slice A n c, .int .i64 src, .int .i64 snk] 24)) w.heap.size pl A n c src snk := heap_alloc_new w _
theorem add_prev (ad : Addr) (j : Nat) : ad.add (j + 1) = ⟨ad.block, ad.off + (j + 1), none⟩ := by unfold Addr.add; rw [if_neg (by omega)]
set_option maxHeartbeats 3200000 in
set_option maxRecDepth 100000 in
theorem pplaces_any (pl : Int) (A : Option Addr) (n c : Nat) (src snk : Int) (Al : Option Addr) (m cl : Nat) (l : List Int) (w : World) (h : ZIn w Al l) (hm : l.length = m) (hmb : m ≤ 9223372036854775807) :
 Calls Tryd.prog 43 #[.agg #[.int .i64 pl, .slice A n c, .int .i64 src, .int .i64 snk], .slice Al m cl] w fun e w' => e = .returned (.bool (plB pl l)) ∧ Below w.heap.size w w' := by
 have HB := hid (below_alloc w (.cells #[.int .i64 pl, .slice A n c, .int .i64 src, .int .i64 snk] 24))
 have HN := hid (NB.new w pl A n c src snk)
 have H0 := hid (h.below HB.out)
 have HM := hid hm
 clear h hm
 go_enter Tryd.func43, Tryd.ntmps43
 go_wp2_with fail
 generalize w.alloc _ = w0 at HB HN H0 ⊢
 go_loopg [9] (m) (fun g iv wr => ∃ k : Nat, k + g = m ∧ iv = .int .i64 k ∧ plTo pl l k = true ∧ w0 = wr)
 case atStart => exact ⟨0, by omega, rfl, rfl, rfl⟩
 case round =>
  obtain ⟨k, hk, rfl, hp, rfl⟩ := hrel
  have HK := hid hk
  have HP := hid hp
  have hle : k ≤ m := by omega
  clear hk hp
  obtain ⟨c0, c1, c2, c3⟩ := HN.out.cells
  by_cases hlt : k < m
  · have hlt' : k < l.length := by rw [HM.out]; exact hlt
    obtain ⟨ad, rfl, hpa, q0⟩ := H0.out k hlt'
    have HNo := hid (plB_no pl l k hlt')
    have HSu := hid (plTo_succ pl l k)
    have HZ := hid (fun (h0 : k = 0) => show plAt pl l k = (decide (0 ≤ l[k]) && decide (l[k] < pl)) by subst h0; exact plAt_zero pl l hlt')
    have HY := hid (fun j (hj : j + 1 = k) => show ∃ y : Int, w0.cell? (ad.add j) = some (.int .i64 y) ∧ plAt pl l k = (decide (0 ≤ l[k]) && (decide (l[k] < pl) && decide (y < l[k]))) by
     subst hj
     obtain ⟨ad', had, _, q⟩ := H0.out j (by omega)
     cases had
     exact ⟨l[j], q, plAt_succ pl l j hlt'⟩)
    generalize l[k] = x at *
    clear hlt'
    by_cases hx0 : x < 0
    · have HV := hid (show plB pl l = false from HNo.out (by
       cases k with
       | zero => rw [HZ.out rfl, decide_eq_false (by omega)]; rfl
       | succ j => obtain ⟨y, _, e⟩ := HY.out j rfl; rw [e, decide_eq_false (by omega)]; rfl))
      clear HZ HY HSu
      go_wp2_with fail
      go_ret
      exact ⟨ret_bool HV.out.symm, HB.out⟩
    · have d0 : decide (x < 0) = false := by simpa using hx0
      by_cases hx1 : pl ≤ x
      · have HV := hid (show plB pl l = false from HNo.out (by
         have e1 : decide (x < pl) = false := decide_eq_false (by omega)
         cases k with
         | zero => rw [HZ.out rfl, e1, Bool.and_false]
         | succ j => obtain ⟨y, _, e⟩ := HY.out j rfl; rw [e, e1, Bool.false_and, Bool.and_false]))
        clear HZ HY HSu
        go_wp2_with fail
        go_ret
        exact ⟨ret_bool HV.out.symm, HB.out⟩
      · have d1 : decide (pl ≤ x) = false := by simpa using hx1
        have e0 : decide (0 ≤ x) = true := decide_eq_true (by omega)
        have e1 : decide (x < pl) = true := decide_eq_true (by omega)
        cases k with
        | zero =>
         have HV := hid (show plTo pl l 1 = true by rw [HSu.out, HP.out, HZ.out rfl, e0, e1]; rfl)
         clear HZ HY HSu e0 e1 hx0 hx1
         have q0' : w0.cell? ad = some (.int .i64 x) := by simpa [Addr.add] using q0
         clear q0
         go_wp2_with fail
         go_roundg (gk - 1)
         case measure => have := HK.out; omega
         case rel => exact ⟨1, by have := HK.out; omega, by go_num, HV.out, rfl⟩
        | succ j =>
         obtain ⟨y, qy, e⟩ := HY.out j rfl
         have HE := hid e
         clear HY HZ e
         by_cases hxy : x ≤ y
         · have HV := hid (show plB pl l = false from HNo.out (by rw [HE.out, decide_eq_false (show ¬ y < x by omega), Bool.and_false, Bool.and_false]))
           clear HSu e0 e1 hx0 hx1
           rw [add_prev] at q0
           go_wp2_with fail
           go_ret
           exact ⟨ret_bool HV.out.symm, HB.out⟩
         · have dxy : decide (x ≤ y) = false := by simpa using hxy
           have HV := hid (show plTo pl l (j + 1 + 1) = true by rw [HSu.out, HP.out, HE.out, e0, e1, decide_eq_true (show y < x by omega)]; rfl)
           clear HSu e0 e1 hx0 hx1 hxy
           rw [add_prev] at q0
           go_wp2_with fail
           go_roundg (gk - 1)
           case measure => have := HK.out; omega
           case rel => exact ⟨j + 1 + 1, by have := HK.out; omega, by go_num, HV.out, rfl⟩
  · have HV := hid (show plB pl l = true by
     have := HP.out
     unfold plB
     rwa [show k = l.length by rw [HM.out]; omega] at this)
    go_wp2_with fail
    go_ret
    exact ⟨ret_bool HV.out.symm, HB.out⟩
end
section
open Go.RowKit

set_option maxHeartbeats 3200000 in
set_option maxRecDepth 100000 in
theorem rplaces_any (pl : Int) (Al : Option Addr) (m cl : Nat) (l : List Int) (w : World) (h : ZIn w Al l) (hm : l.length = m) (hmb : m ≤ 9223372036854775807) :
 Calls Tryd.prog 22 #[.int .i64 pl, .slice Al m cl] w fun e w' => e = .returned (.bool (plB pl l)) ∧ Below w.heap.size w w' := by
 have H0' := hid h
 have HM := hid hm
 clear h hm
 go_enter Tryd.func22, Tryd.ntmps22
 go_wp2_with fail
 go_loopg [5] (m) (fun g iv wr => ∃ k : Nat, k + g = m ∧ iv = .int .i64 k ∧ plTo pl l k = true ∧ Below w.heap.size w wr)
 case atStart => exact ⟨0, by omega, rfl, rfl, Below.refl _ _⟩
 case round =>
  obtain ⟨k, hk, rfl, hp, hB⟩ := hrel
  have HB := hid hB
  have H0 := hid (H0'.out.below hB)
  have HK := hid hk
  have HP := hid hp
  have hle : k ≤ m := by omega
  clear hk hp hB
  by_cases hlt : k < m
  · have hlt' : k < l.length := by rw [HM.out]; exact hlt
    obtain ⟨ad, rfl, hpa, q0⟩ := H0.out k hlt'
    have HNo := hid (plB_no pl l k hlt')
    have HSu := hid (plTo_succ pl l k)
    have HZ := hid (fun (h0 : k = 0) => show plAt pl l k = (decide (0 ≤ l[k]) && decide (l[k] < pl)) by subst h0; exact plAt_zero pl l hlt')
    have HY := hid (fun j (hj : j + 1 = k) => show ∃ y : Int, wr.cell? (ad.add j) = some (.int .i64 y) ∧ plAt pl l k = (decide (0 ≤ l[k]) && (decide (l[k] < pl) && decide (y < l[k]))) by
     subst hj
     obtain ⟨ad', had, _, q⟩ := H0.out j (by omega)
     cases had
     exact ⟨l[j], q, plAt_succ pl l j hlt'⟩)
    generalize l[k] = x at *
    clear hlt'
    by_cases hx0 : x < 0
    · have HV := hid (show plB pl l = false from HNo.out (by
       cases k with
       | zero => rw [HZ.out rfl, decide_eq_false (by omega)]; rfl
       | succ j => obtain ⟨y, _, e⟩ := HY.out j rfl; rw [e, decide_eq_false (by omega)]; rfl))
      clear HZ HY HSu
      go_wp2_with fail
      go_quiet (fail)
      go_wp2_with fail
      go_ret
      exact ⟨ret_bool HV.out.symm, below_then HB.out (below_drewN _ _)⟩
    · have d0 : decide (x < 0) = false := by simpa using hx0
      by_cases hx1 : pl ≤ x
      · have HV := hid (show plB pl l = false from HNo.out (by
         have e1 : decide (x < pl) = false := decide_eq_false (by omega)
         cases k with
         | zero => rw [HZ.out rfl, e1, Bool.and_false]
         | succ j => obtain ⟨y, _, e⟩ := HY.out j rfl; rw [e, e1, Bool.false_and, Bool.and_false]))
        clear HZ HY HSu
        go_wp2_with fail
        go_quiet (fail)
        go_wp2_with fail
        go_ret
        exact ⟨ret_bool HV.out.symm, below_then HB.out (below_drewN _ _)⟩
      · have d1 : decide (pl ≤ x) = false := by simpa using hx1
        have e0 : decide (0 ≤ x) = true := decide_eq_true (by omega)
        have e1 : decide (x < pl) = true := decide_eq_true (by omega)
        cases k with
        | zero =>
         have HV := hid (show plTo pl l 1 = true by rw [HSu.out, HP.out, HZ.out rfl, e0, e1]; rfl)
         clear HZ HY HSu e0 e1 hx0 hx1
         have q0' : wr.cell? ad = some (.int .i64 x) := by simpa [Addr.add] using q0
         clear q0
         go_wp2_with fail
         go_quiet (fail)
         go_wp2_with fail
         go_roundg (gk - 1)
         case measure => have := HK.out; omega
         case rel => exact ⟨1, by have := HK.out; omega, by go_num, HV.out, below_then HB.out (below_drewN _ _)⟩
        | succ j =>
         obtain ⟨y, qy, e⟩ := HY.out j rfl
         have HE := hid e
         clear HY HZ e
         by_cases hxy : x ≤ y
         · have HV := hid (show plB pl l = false from HNo.out (by rw [HE.out, decide_eq_false (show ¬ y < x by omega), Bool.and_false, Bool.and_false]))
           clear HSu e0 e1 hx0 hx1
           rw [add_prev] at q0
           go_wp2_with fail
           go_quiet (fail)
           go_wp2_with fail
           go_ret
           exact ⟨ret_bool HV.out.symm, below_then HB.out (below_drewN _ _)⟩
         · have dxy : decide (x ≤ y) = false := by simpa using hxy
           have HV := hid (show plTo pl l (j + 1 + 1) = true by rw [HSu.out, HP.out, HE.out, e0, e1, decide_eq_true (show y < x by omega)]; rfl)
           clear HSu e0 e1 hx0 hx1 hxy
           rw [add_prev] at q0
           go_wp2_with fail
           go_quiet (fail)
           go_wp2_with fail
           go_roundg (gk - 1)
           case measure => have := HK.out; omega
           case rel => exact ⟨j + 1 + 1, by have := HK.out; omega, by go_num, HV.out, below_then HB.out (below_drewN _ _)⟩
  · have HV := hid (show plB pl l = true by
     have := HP.out
     unfold plB
     rwa [show k = l.length by rw [HM.out]; omega] at this)
    go_wp2_with fail
    go_ret
    exact ⟨ret_bool HV.out.symm, HB.out⟩
end
end Go.Proofs.YtpnhcimmlnjfaaaDoor
