/- Check of reference 24: what a call returns. IndexFunc and ContainsFunc on lists of lists; none, fits of the statements: what a call returns. A pump goes on from more tokens: plain. -/
import Derived.Test.YtpnhcimmlnjfaaaGreatDoorIg
import Derived.Test.YtpnhcimmlnjfaaaGreatDoorHe
namespace Go.Proofs.YtpnhcimmlnjfaaaGreatDoor
open Go.Lib (hid)
section
open Go.RowKit

/-- a certificate -/
structure Ct where
 cl : Int
 n : Int
 run : List Int
 pump : List Int
 marks : List (List Int)
/-- a certificate as a value -/
def CtIn (w : World) (v : Value) (C : Ct) : Prop :=
 ∃ Ar nr cr Ap np cp Ak nk ck A5 n5 c5 A6 n6 c6 A7 n7 c7, v = .agg #[.int .i64 C.cl, .int .i64 C.n, .slice Ar nr cr, .slice Ap np cp, .slice Ak nk ck, .slice A5 n5 c5, .slice A6 n6 c6, .slice A7 n7 c7] ∧
  (ZIn w Ar C.run ∧ C.run.length = nr) ∧ (ZIn w Ap C.pump ∧ C.pump.length = np) ∧ (LIn w Ak C.marks ∧ C.marks.length = nk ∧ nk ≤ 9223372036854775806)
/-- the end of a certificate that a net is not bounded -/
def endB (x y : List Int) (k : Int) : Bool := atMost x y && decide (x.getD k.toNat 0 < y.getD k.toNat 0)
/-- a certificate proves that a net is not bounded -/
def pumpB (N : Nt) (M : List Int) (C : Ct) : Bool := decide ((run21 N M C.run).2.2 = 0) && (decide ((run21 N (run21 N M C.run).1 C.pump).2.2 = 0) && endB (run21 N M C.run).1 (run21 N (run21 N M C.run).1 C.pump).1 C.n)
/-- a certificate is not one that a net is not bounded -/
def badC (N : Nt) (C : Ct) : Bool := decide (C.cl ≠ 6) || (decide (C.pump.length = 0) || (decide (C.n < 0) || decide (N.pl ≤ C.n)))
/-- a certificate proves its claim -/
def chkB (N : Nt) (M : List Int) (C : Ct) : Bool := mkB N M && (if C.cl = 5 then closedB N M C.marks else !badC N C && pumpB N M C)
theorem runV_mk {N : Nt} : ∀ (l : List Int) (M : List Int) (k : Nat), mkB N M = true → (runV N M k l).2.2 = 0 → mkB N (runV N M k l).1 = true := by
 intro l
 induction l with
 | nil => intro M k hm _; exact hm
 | cons t l ih =>
  intro M k hm h
  by_cases h0 : (fireV N M t).2 = 0
  · rw [runV_step h0] at h ⊢; exact ih _ _ (fire_mk hm h0) h
  · rw [runV_stop h0] at h; exact absurd h h0
theorem run21_mk {N : Nt} {M l : List Int} (h : (run21 N M l).2.2 = 0) : mkB N (run21 N M l).1 = true := by
 unfold run21 at h ⊢
 by_cases hm : mkB N M = true
 · rw [if_pos hm] at h ⊢
   by_cases hl : 1000 < l.length
   · rw [if_pos hl] at h; simp at h
   · rw [if_neg hl] at h ⊢; exact runV_mk l M 0 hm h
 · rw [if_neg hm] at h; simp at h
set_option maxHeartbeats 12800000 in
set_option maxRecDepth 100000 in
theorem rcheck_any (N : Nt) (A : Option Addr) (n c : Nat) (Am : Option Addr) (m cm : Nat) (M : List Int) (v : Value) (C : Ct) (w : World) (h : NtIn w A N) (hn : N.tr.length = n) (hn2 : n ≤ 9223372036854775807) (hM : ZIn w Am M) (hm : M.length = m) (hm2 : m ≤ 9223372036854775807) (hC : CtIn w v C) :
 Calls Tryz.prog 31 #[.agg #[.int .i64 N.pl, .slice A n c, .int .i64 N.src, .int .i64 N.snk], .slice Am m cm, v] w fun e w' => e = .returned (.bool (chkB N M C)) ∧ Below w.heap.size w w' := by
 obtain ⟨Ar, nr, cr, Ap, np, cp, Ak, nk, ck, A5, n5, c5, A6, n6, c6, A7, n7, c7, rfl, ⟨hr1, hr2⟩, ⟨hp1, hp2⟩, hq1, hq2, hq3⟩ := hC
 have HB := hid (two_boxes w (.cells #[.int .i64 N.pl, .slice A n c, .int .i64 N.src, .int .i64 N.snk] 24) (.cells #[.int .i64 C.cl, .int .i64 C.n, .slice Ar nr cr, .slice Ap np cp, .slice Ak nk ck, .slice A5 n5 c5, .slice A6 n6 c6, .slice A7 n7 c7] 29))
 have hnew := heap_alloc_new (w.alloc (.cells #[.int .i64 N.pl, .slice A n c, .int .i64 N.src, .int .i64 N.snk] 24)) (.cells #[.int .i64 C.cl, .int .i64 C.n, .slice Ar nr cr, .slice Ap np cp, .slice Ak nk ck, .slice A5 n5 c5, .slice A6 n6 c6, .slice A7 n7 c7] 29)
 rw [World.size_alloc] at hnew
 have HCt := hid (show CtB _ (w.heap.size + 1) #[.int .i64 C.cl, .int .i64 C.n, .slice Ar nr cr, .slice Ap np cp, .slice Ak nk ck, .slice A5 n5 c5, .slice A6 n6 c6, .slice A7 n7 c7] from hnew)
 have HNb := hid ((NB.new w N.pl A n c N.src N.snk).below (below_alloc _ (.cells #[.int .i64 C.cl, .int .i64 C.n, .slice Ar nr cr, .slice Ap np cp, .slice Ak nk ck, .slice A5 n5 c5, .slice A6 n6 c6, .slice A7 n7 c7] 29)))
 have HIn := hid (h.below HB.out)
 have HM := hid (hM.below HB.out)
 have HR := hid (hr1.below HB.out)
 have HP := hid (hp1.below HB.out)
 have HK := hid (hq1.below HB.out)
 have HRl := hid hr2
 have HPl := hid hp2
 have HKl := hid hq2
 have HMl := hid hm
 have HNl := hid hn
 clear h hn hM hm hr1 hp1 hq1 hr2 hp2 hq2 hnew
 go_enter Tryz.func31, Tryz.ntmps31
 go_wp2_with fail
 generalize (w.alloc _).alloc _ = wa at *
 obtain ⟨b0, b1, b2, b3⟩ := HNb.out.cells
 have HVd := hid (rvalid_any N A n c wa HIn.out HNl.out hn2)
 cases hv : ntB N with
 | false =>
  rw [hv] at HVd
  have HV := hid (show chkB N M C = false by unfold chkB mkB; rw [hv]; rfl)
  ((with_reducible refine HVd.out.mono ?_); rintro e w1 ⟨rfl, hb1⟩)
  have HFin := hid (below_then HB.out hb1)
  go_wp2_with fail
  go_ret
  exact ⟨ret_bool HV.out.symm, HFin.out⟩
 | true =>
  rw [hv] at HVd
  ((with_reducible refine HVd.out.mono ?_); rintro e w1 ⟨rfl, hb1⟩)
  have HB1 := hid (below_then HB.out hb1)
  have HNb1 := hid (HNb.out.below hb1)
  have HIn1 := hid (HIn.out.below hb1)
  have HM1 := hid (HM.out.below hb1)
  have HR1 := hid (HR.out.below hb1)
  have HP1 := hid (HP.out.below hb1)
  have HK1 := hid (HK.out.below hb1)
  have HCt1 := hid (HCt.out.below hb1)
  have HMk0 := hid (show mkB N M = (decide ((m : Int) = N.pl) && !(M.any badK)) by unfold mkB; rw [hv, HMl.out]; rfl)
  have HVt := hid hv
  clear hb1 HVd b0 b1 b2 b3 hv HB HNb HIn HM HR HP HK HCt
  obtain ⟨b0, b1, b2, b3⟩ := HNb1.out.cells
  have HRm := hid (rmarking_any N.pl A n c N.src N.snk Am m cm M w1 HM1.out HMl.out hm2)
  rw [← HMk0.out] at HRm
  go_wp2_with fail
  cases hk : mkB N M with
  | false =>
   rw [hk] at HRm
   have HV := hid (show chkB N M C = false by unfold chkB; rw [hk]; rfl)
   ((with_reducible refine HRm.out.mono ?_); rintro e w2 ⟨rfl, hb2⟩)
   have HFin := hid (below_then HB1.out hb2)
   go_wp2_with fail
   go_ret
   exact ⟨ret_bool HV.out.symm, HFin.out⟩
  | true =>
   rw [hk] at HRm
   have HMk := hid hk
   have hn60 : n ≤ 60 := by have := nt_small HVt.out; have := HNl.out; omega
   ((with_reducible refine HRm.out.mono ?_); rintro e w2 ⟨rfl, hb2⟩)
   have HB2 := hid (below_then HB1.out hb2)
   have HNb2 := hid (HNb1.out.below hb2)
   have HIn2 := hid (HIn1.out.below hb2)
   have HM2 := hid (HM1.out.below hb2)
   have HR2 := hid (HR1.out.below hb2)
   have HP2 := hid (HP1.out.below hb2)
   have HK2 := hid (HK1.out.below hb2)
   have HCt2 := hid (HCt1.out.below hb2)
   clear hb2 HRm b0 b1 b2 b3 hk HB1 HNb1 HIn1 HM1 HR1 HP1 HK1 HCt1
   obtain ⟨b0, b1, b2, b3⟩ := HNb2.out.cells
   obtain ⟨x0, x1, x2, x3, x4, x5, x6, x7⟩ := HCt2.out.cells
   by_cases h5 : C.cl = 5
   · have q1 : (C.cl == 5) = true := by rw [h5]; rfl
     have HX := hid (show chkB N M C = closedB N M C.marks by unfold chkB; rw [HMk.out, if_pos h5]; rfl)
     have HCl := hid (rclosed_any N A n c Am m cm M Ak nk ck C.marks w2 HIn2.out HNl.out (by omega) HM2.out HMl.out HVt.out HK2.out HKl.out hq3)
     clear h5
     go_wp2_with fail
     ((with_reducible refine HCl.out.mono ?_); rintro e w3 ⟨rfl, hb3⟩)
     have HB3 := hid (below_then HB2.out hb3)
     go_wp2_with fail
     go_ret
     exact ⟨ret_bool HX.out.symm, HB3.out⟩
   have q1 : (C.cl == 5) = false := by simpa using h5
   have HX := hid (show chkB N M C = (!badC N C && pumpB N M C) by unfold chkB; rw [HMk.out, if_neg h5]; rfl)
   clear h5
   by_cases h6 : ¬ C.cl = 6
   · have q2 : (C.cl != 6) = true := by simpa using h6
     have HV := hid (show chkB N M C = false by rw [HX.out]; unfold badC; rw [decide_eq_true h6]; rfl)
     clear h6
     go_wp2_with fail
     go_ret
     exact ⟨ret_bool HV.out.symm, HB2.out⟩
   replace h6 := Classical.not_not.1 h6
   have q2 : (C.cl != 6) = false := by rw [h6]; rfl
   by_cases hp : np = 0
   · have q3 : ((np : Int) == 0) = true := by rw [hp]; rfl
     have HV := hid (show chkB N M C = false by rw [HX.out]; unfold badC; rw [HPl.out, decide_eq_true hp]; simp)
     clear h6 hp
     go_wp2_with fail
     go_ret
     exact ⟨ret_bool HV.out.symm, HB2.out⟩
   have q3 : ((np : Int) == 0) = false := by rw [beq_eq_false_iff_ne]; omega
   by_cases hn0 : C.n < 0
   · have q4 : decide (C.n < 0) = true := by simpa using hn0
     have HV := hid (show chkB N M C = false by rw [HX.out]; unfold badC; rw [decide_eq_true hn0]; simp)
     clear h6 hp hn0
     go_wp2_with fail
     go_ret
     exact ⟨ret_bool HV.out.symm, HB2.out⟩
   have q4 : decide (C.n < 0) = false := by simpa using hn0
   by_cases hn1 : N.pl ≤ C.n
   · have q5 : decide (N.pl ≤ C.n) = true := by simpa using hn1
     have HV := hid (show chkB N M C = false by rw [HX.out]; unfold badC; rw [decide_eq_true hn1]; simp)
     clear h6 hp hn0 hn1
     go_wp2_with fail
     go_ret
     exact ⟨ret_bool HV.out.symm, HB2.out⟩
   have q5 : decide (N.pl ≤ C.n) = false := by simpa using hn1
   have HY := hid (show chkB N M C = pumpB N M C by
    rw [HX.out]; unfold badC
    rw [HPl.out, decide_eq_false (show ¬ C.cl ≠ 6 from fun h => h h6), decide_eq_false hp, decide_eq_false hn0, decide_eq_false hn1]; simp)
   have hk0 : 0 ≤ C.n := by omega
   have hk1 : C.n < N.pl := by omega
   clear h6 hp hn0 hn1 HX
   have HRn := hid (r21run_any N A n c Am m cm M Ar nr cr C.run w2 HIn2.out HNl.out hn2 HM2.out HMl.out hm2 HR2.out HRl.out)
   by_cases hr : ¬ (run21 N M C.run).2.2 = 0
   · have HRx := hid (rv_no HRn.out hr)
     have HV := hid (show chkB N M C = false by rw [HY.out]; unfold pumpB; rw [decide_eq_false hr]; rfl)
     have q6 : ((run21 N M C.run).2.2 != 0) = true := by rw [bne_iff_ne]; exact hr
     clear HRn hr HY
     generalize (run21 N M C.run).2.2 = er at *
     generalize (run21 N M C.run).2.1 = ei at *
     go_wp2_with fail
     ((with_reducible refine HRx.out.mono ?_); rintro e w3 ⟨rfl, hb3⟩)
     have HB3 := hid (below_then HB2.out hb3)
     go_wp2_with fail
     go_ret
     exact ⟨ret_bool HV.out.symm, HB3.out⟩
   replace hr := Classical.not_not.1 hr
   have HRx := hid (rv_yes HRn.out hr)
   have HMx := hid (run21_mk hr)
   have HZ := hid (show chkB N M C = (decide ((run21 N (run21 N M C.run).1 C.pump).2.2 = 0) && endB (run21 N M C.run).1 (run21 N (run21 N M C.run).1 C.pump).1 C.n) by rw [HY.out]; unfold pumpB; rw [decide_eq_true hr]; rfl)
   clear HRn hr HY
   generalize (run21 N M C.run).2.1 = ei at *
   generalize (run21 N M C.run).1 = X at *
   go_wp2_with fail
   ((with_reducible refine HRx.out.mono ?_); rintro e w3 ⟨vx, rfl, hSx⟩)
   have HB3 := hid (below_then HB2.out hSx.2)
   have HNb3 := hid (HNb2.out.below hSx.2)
   have HIn3 := hid (HIn2.out.below hSx.2)
   have HCt3 := hid (HCt2.out.below hSx.2)
   have HP3 := hid (HP2.out.below hSx.2)
   have hxl : (X.length : Int) = N.pl := mk_len HMx.out
   obtain ⟨Ax, cx, rfl⟩ := hSx.slice
   have HSx := hid (show ZIn w3 Ax X by obtain ⟨A', c', e, hz, _⟩ := hSx.zin; cases e; exact hz)
   clear hSx HRx HB2 HNb2 HIn2 HCt2 HP2 HM2 HR2 HK2 b0 b1 b2 b3 x0 x1 x2 x3 x4 x5 x6 x7
   obtain ⟨b0, b1, b2, b3⟩ := HNb3.out.cells
   obtain ⟨x0, x1, x2, x3, x4, x5, x6, x7⟩ := HCt3.out.cells
   have hx40 : X.length ≤ 40 := by have := nt_small (mk_nt HMx.out); omega
   have HXl := hid hxl
   clear hxl
   have HRn := hid (r21run_any N A n c Ax X.length cx X Ap np cp C.pump w3 HIn3.out HNl.out hn2 HSx.out rfl (by omega) HP3.out HPl.out)
   by_cases hr : ¬ (run21 N X C.pump).2.2 = 0
   · have HRy := hid (rv_no HRn.out hr)
     have HV := hid (show chkB N M C = false by rw [HZ.out, decide_eq_false hr]; rfl)
     have q6 : ((run21 N X C.pump).2.2 == 0) = false := by rw [beq_eq_false_iff_ne]; exact hr
     clear HRn hr HZ
     generalize (run21 N X C.pump).2.2 = er at *
     generalize (run21 N X C.pump).2.1 = ei2 at *
     go_wp2_with fail
     ((with_reducible refine HRy.out.mono ?_); rintro e w4 ⟨rfl, hb4⟩)
     have HB4 := hid (below_then HB3.out hb4)
     obtain ⟨x0, x1, x2, x3, x4, x5, x6, x7⟩ := HCt3.out.below hb4 |>.cells
     clear b0 b1 b2 b3
     go_wp2_with fail
     have a0 := fun d os => cell_regrown x1 d os
     refine wp_region_quiet_below (by kernel_rfl) (by kernel_rfl) ?_
     repeat (first | go_big_quiet_step (fail) | quiet_step (fail))
     refine wpQuiet_nil ?_
     intro _ hw'
     obtain ⟨⟨dq, osq⟩, hw''⟩ := hw'
     subst hw''
     clear a0
     have HB5 := hid (below_then HB4.out (below_regrown w4 dq osq))
     go_wp2_with fail
     go_ret
     exact ⟨ret_bool HV.out.symm, HB5.out⟩
   replace hr := Classical.not_not.1 hr
   have HRy := hid (rv_yes HRn.out hr)
   have HMy := hid (run21_mk hr)
   have HW := hid (show chkB N M C = endB X (run21 N X C.pump).1 C.n by rw [HZ.out, decide_eq_true hr]; rfl)
   clear HRn hr HZ
   generalize (run21 N X C.pump).2.1 = ei2 at *
   generalize (run21 N X C.pump).1 = Y at *
   go_wp2_with fail
   ((with_reducible refine HRy.out.mono ?_); rintro e w4 ⟨vy, rfl, hSy⟩)
   have HB4 := hid (below_then HB3.out hSy.2)
   have HCt4 := hid (HCt3.out.below hSy.2)
   have HSx4 := hid (HSx.out.below hSy.2)
   have hyl : (Y.length : Int) = N.pl := mk_len HMy.out
   have hxy : Y.length = X.length := by have := HXl.out; omega
   obtain ⟨Ay, cy, rfl⟩ := hSy.slice
   rw [hxy]
   have HYl := hid hxy
   have HSy := hid (show ZIn w4 Ay Y by obtain ⟨A', c', e, hz, _⟩ := hSy.zin; cases e; exact hz)
   obtain ⟨k, hk⟩ := Int.eq_ofNat_of_zero_le hk0
   have hkx : k < X.length := by have := HXl.out; omega
   have hky : k < Y.length := by omega
   have HEn := hid (show endB X Y C.n = (atMost X Y && decide (X[k] < Y[k])) by unfold endB; rw [hk]; simp [hkx, hky])
   rw [hk] at x1
   clear hSy HRy HB3 HNb3 HIn3 HP3 HSx b0 b1 b2 b3 x0 x1 x2 x3 x4 x5 x6 x7 hyl hxy
   obtain ⟨x0, x1, x2, x3, x4, x5, x6, x7⟩ := HCt4.out.cells
   rw [hk] at x1
   obtain ⟨ax, rfl, hpx, r0⟩ := HSx4.out k hkx
   obtain ⟨ay, rfl, hpy, r1⟩ := HSy.out k hky
   generalize X[k] = xk at *
   generalize Y[k] = yk at *
   have hk0' : (0 : Int) ≤ (k : Int) := by omega
   have hk1' : (k : Int) < (X.length : Int) := by omega
   go_wp2_with fail
   cases ha : atMost X Y with
   | false =>
    have HV := hid (show chkB N M C = false by rw [HW.out, HEn.out, ha]; rfl)
    have HAm := hid (fun d os => atmost_any (some ax) X.length cx (some ay) X.length cy X Y _ (HSx4.out.below (below_regrown w4 d os)) rfl (HSy.out.below (below_regrown w4 d os)) HYl.out (Nat.le_refl _) (by omega))
    rw [ha] at HAm
    clear ha
    have a0 := fun d os => cell_regrown x1 d os
    have a1 := fun d os => cell_regrown r0 d os
    have a2 := fun d os => cell_regrown r1 d os
    refine wp_region_quiet_below (by kernel_rfl) (by kernel_rfl) ?_
    repeat (first | go_big_quiet_step (exact Calls.regrown_of (HAm.out _ _)) | quiet_step (exact Calls.regrown_of (HAm.out _ _)))
    refine wpQuiet_nil ?_
    intro _ hw'
    obtain ⟨⟨dq, osq⟩, hw''⟩ := hw'
    subst hw''
    clear a0 a1 a2
    have HB5 := hid (below_then HB4.out (below_regrown w4 dq osq))
    go_wp2_with fail
    go_ret
    exact ⟨ret_bool HV.out.symm, HB5.out⟩
   | true =>
    have HV := hid (show chkB N M C = decide (xk < yk) by rw [HW.out, HEn.out, ha]; rfl)
    have HAm := hid (fun d os => atmost_any (some ax) X.length cx (some ay) X.length cy X Y _ (HSx4.out.below (below_regrown w4 d os)) rfl (HSy.out.below (below_regrown w4 d os)) HYl.out (Nat.le_refl _) (by omega))
    rw [ha] at HAm
    clear ha
    have a0 := fun d os => cell_regrown x1 d os
    have a1 := fun d os => cell_regrown r0 d os
    have a2 := fun d os => cell_regrown r1 d os
    refine wp_region_quiet_below (by kernel_rfl) (by kernel_rfl) ?_
    repeat (first | go_big_quiet_step (exact Calls.regrown_of (HAm.out _ _)) | quiet_step (exact Calls.regrown_of (HAm.out _ _)))
    refine wpQuiet_nil ?_
    intro _ hw'
    obtain ⟨⟨dq, osq⟩, hw''⟩ := hw'
    subst hw''
    clear a0 a1 a2
    have HB5 := hid (below_then HB4.out (below_regrown w4 dq osq))
    go_wp2_with fail
    go_ret
    exact ⟨ret_bool HV.out.symm, HB5.out⟩
end
section
open Go.RowKit

/-- the index of the first list that a test finds -/
def lidx (p : List Int → Bool) (L : List (List Int)) : Int := if L.findIdx p = L.length then -1 else ((L.findIdx p : Nat) : Int)
theorem lidx_at {p : List Int → Bool} {L : List (List Int)} {k : Nat} (h : k < L.length) (hp : p L[k] = true) (hno : ∀ s ∈ L.take k, p s = false) : lidx p L = (k : Int) := by
 have e : L.findIdx p = k := by
  rw [List.findIdx_eq h]
  exact ⟨hp, fun j hj => hno _ (by rw [List.mem_take_iff_getElem]; exact ⟨j, by omega, rfl⟩)⟩
 unfold lidx
 rw [e, if_neg (by omega)]
theorem lidx_no {p : List Int → Bool} {L : List (List Int)} (h : ∀ s ∈ L, p s = false) : lidx p L = -1 := by
 unfold lidx
 rw [if_pos (List.findIdx_eq_length_of_false h)]
theorem lidx_any (p : List Int → Bool) (L : List (List Int)) : decide (0 ≤ lidx p L) = L.any p := by
 rw [Bool.eq_iff_iff, decide_eq_true_eq, List.any_eq_true]
 constructor
 · intro h
   apply Classical.byContradiction
   intro hno
   rw [lidx_no (fun s hs => by
    cases hv : p s with
    | false => rfl
    | true => exact absurd ⟨s, hs, hv⟩ hno)] at h
   omega
 · rintro ⟨s, hs, hp⟩
   have := List.findIdx_lt_length_of_exists ⟨s, hs, hp⟩
   unfold lidx
   rw [if_neg (by omega)]; omega
end
section
theorem fireV_cases (N : Nt) (M : List Int) (t : Int) : (∃ (k : Nat) (x : Tr), t = (k : Int) ∧ N.tr[k]? = some x ∧ canT x M = true ∧ ((bigM (fireT x M) = true ∧ fireV N M t = ([], 5)) ∨ (bigM (fireT x M) = false ∧ fireV N M t = (fireT x M, 0)))) ∨ ((fireV N M t).2 ≠ 0 ∧ (∀ (k : Nat) (x : Tr), t = (k : Int) → N.tr[k]? = some x → canT x M = false)) := by
 by_cases ht : t < 0
 · exact .inr ⟨by simp [fireV, ht], fun k x h => by omega⟩
 obtain ⟨k, rfl⟩ := Int.eq_ofNat_of_zero_le (show 0 ≤ t by omega)
 cases hx : N.tr[k]? with
 | none => exact .inr ⟨by simp [fireV, ht, hx], fun j x h h2 => by rw [Int.ofNat.inj h] at hx; rw [hx] at h2; cases h2⟩
 | some x =>
  have e : fireV N M (k : Int) = if canT x M then (if bigM (fireT x M) then ([], 5) else (fireT x M, 0)) else ([], 12) := by
   unfold fireV; rw [if_neg ht, Int.toNat_natCast, hx]
  cases hc : canT x M with
  | false =>
   rw [hc] at e
   exact .inr ⟨by rw [e]; simp, fun j y h h2 => by rw [Int.ofNat.inj h] at hx; rw [hx] at h2; cases h2; exact hc⟩
  | true =>
   rw [hc] at e
   refine .inl ⟨k, x, rfl, hx, hc, ?_⟩
   cases hb : bigM (fireT x M) with
   | true => rw [hb] at e; exact .inl ⟨rfl, e⟩
   | false => rw [hb] at e; exact .inr ⟨rfl, e⟩
end
end Go.Proofs.YtpnhcimmlnjfaaaGreatDoor
