/- cover.Check: what a call returns. -/
import Derived.Test.YtkhmngljpfibcaaGreatDoorPIm
namespace Go.Proofs.YtkhmngljpfibcaaGreatDoor
set_option maxRecDepth 100000
set_option maxHeartbeats 12800000
open Go.Lib (hid)
open Go.RowKit

theorem ccheck_any (N : Nt) (A : Option Addr) (n c : Nat) (Am : Option Addr) (m cm : Nat) (M : List Int) (v : Value) (C : Ct) (w : World) (ht : Tb w) (h : NtIn w A N) (hn : N.tr.length = n) (hn2 : n ≤ 9223372036854775807) (hM : ZIn w Am M) (hm : M.length = m) (hm2 : m ≤ 9223372036854775807) (hC : CtIn w v C) :
 Calls Tryz.prog 97 #[.agg #[.int .i64 N.pl, .slice A n c, .int .i64 N.src, .int .i64 N.snk], .slice Am m cm, v] w fun e w' => e = .returned (.bool (chkB N M C)) ∧ Below w.heap.size w w' := by
 obtain ⟨Ar, nr, cr, Ap, np, cp, Ak, nk, ck, A5, n5, c5, A6, n6, c6, A7, n7, c7, rfl, ⟨hr1, hr2⟩, ⟨hp1, hp2⟩, hq1, hq2, hq3⟩ := hC;have HB := hid (two_boxes w (.cells #[.int .i64 N.pl, .slice A n c, .int .i64 N.src, .int .i64 N.snk] 24) (.cells #[.int .i64 C.cl, .int .i64 C.n, .slice Ar nr cr, .slice Ap np cp, .slice Ak nk ck, .slice A5 n5 c5, .slice A6 n6 c6, .slice A7 n7 c7] 31));have hnew := heap_alloc_new (w.alloc (.cells #[.int .i64 N.pl, .slice A n c, .int .i64 N.src, .int .i64 N.snk] 24)) (.cells #[.int .i64 C.cl, .int .i64 C.n, .slice Ar nr cr, .slice Ap np cp, .slice Ak nk ck, .slice A5 n5 c5, .slice A6 n6 c6, .slice A7 n7 c7] 31);rw [World.size_alloc] at hnew;have HCt := hid (show CtB _ (w.heap.size + 1) #[.int .i64 C.cl, .int .i64 C.n, .slice Ar nr cr, .slice Ap np cp, .slice Ak nk ck, .slice A5 n5 c5, .slice A6 n6 c6, .slice A7 n7 c7] from hnew);have HNb := hid ((NB.new w N.pl A n c N.src N.snk).below (below_alloc _ (.cells #[.int .i64 C.cl, .int .i64 C.n, .slice Ar nr cr, .slice Ap np cp, .slice Ak nk ck, .slice A5 n5 c5, .slice A6 n6 c6, .slice A7 n7 c7] 31)));have HIn := hid (h.below HB.out);have HM := hid (hM.below HB.out);have HR := hid (hr1.below HB.out);have HP := hid (hp1.below HB.out);have HK := hid (hq1.below HB.out);have HRl := hid hr2;have HPl := hid hp2;have HKl := hid hq2;have HMl := hid hm;have HNl := hid hn;have HT := hid (ht.below HB.out);clear ht h hn hM hm hr1 hp1 hq1 hr2 hp2 hq2 hnew;go_enter Tryz.func97, Tryz.ntmps97;go_wp2_with fail;generalize (w.alloc _).alloc _ = wa at *;obtain ⟨b0, b1, b2, b3⟩ := HNb.out.cells;have HEn := hid (penabled_any N A n c Am m cm M wa HIn.out HNl.out hn2 HM.out HMl.out hm2);cases hk : mkB N M with
 | false =>
  have HE := hid (show enE N M = 1 by unfold enE; rw [hk]; rfl);have HV := hid (show chkB N M C = false by unfold chkB; rw [hk]; rfl);((with_reducible refine HEn.out.mono ?_); rintro e w1 ⟨v, rfl, hS⟩)
  obtain ⟨Av, cv, rfl⟩ := hS.slice;have HFin := hid (below_then HB.out hS.2);rw [HE.out];go_wp2_with fail;go_ret;exact ⟨ret_bool HV.out.symm, HFin.out⟩
 | true =>
  have HE := hid (show enE N M = 0 by unfold enE; rw [hk]; rfl);have HMk := hid hk;have hn60 : n ≤ 60 := by have := nt_small (mk_nt hk); have := HNl.out; omega
  ((with_reducible refine HEn.out.mono ?_); rintro e w2 ⟨v, rfl, hS⟩)
  obtain ⟨Av, cv, rfl⟩ := hS.slice;have hb2 := hS.2;have HB2 := hid (below_then HB.out hb2);have HT2 := hid (HT.out.below hb2);rw [HE.out];have HNb2 := hid (HNb.out.below hb2);have HIn2 := hid (HIn.out.below hb2);have HM2 := hid (HM.out.below hb2);have HR2 := hid (HR.out.below hb2);have HP2 := hid (HP.out.below hb2);have HK2 := hid (HK.out.below hb2);have HCt2 := hid (HCt.out.below hb2);clear hb2 hS HEn b0 b1 b2 b3 hk HB HNb HIn HM HR HP HK HCt;obtain ⟨b0, b1, b2, b3⟩ := HNb2.out.cells;obtain ⟨x0, x1, x2, x3, x4, x5, x6, x7⟩ := HCt2.out.cells;by_cases h5 : C.cl = 5
  · have q1 : (C.cl == 5) = true := by rw [h5]; rfl
    have HX := hid (show chkB N M C = closedB N M C.marks by unfold chkB; rw [HMk.out, if_pos h5]; rfl);have HCl := hid (cclosed_any N A n c Am m cm M Ak nk ck C.marks w2 HT2.out HIn2.out HNl.out (by omega) HM2.out HMl.out HMk.out HK2.out HKl.out hq3);clear h5;go_wp2_with fail;((with_reducible refine HCl.out.mono ?_); rintro e w3 ⟨rfl, hb3⟩)
    have HB3 := hid (below_then HB2.out hb3);go_wp2_with fail;go_ret;exact ⟨ret_bool HX.out.symm, HB3.out⟩
  have q1 : (C.cl == 5) = false := by simpa using h5
  have HX := hid (show chkB N M C = (!badC N C && pumpB N M C) by unfold chkB; rw [HMk.out, if_neg h5]; rfl);clear h5;by_cases h6 : ¬ C.cl = 6
  · have q2 : (C.cl != 6) = true := by simpa using h6
    have HV := hid (show chkB N M C = false by rw [HX.out]; unfold badC; rw [decide_eq_true h6]; rfl);clear h6;go_wp2_with fail;go_ret;exact ⟨ret_bool HV.out.symm, HB2.out⟩
  replace h6 := Classical.not_not.1 h6;have q2 : (C.cl != 6) = false := by rw [h6]; rfl
  by_cases hp : np = 0
  · have q3 : ((np : Int) == 0) = true := by rw [hp]; rfl
    have HV := hid (show chkB N M C = false by rw [HX.out]; unfold badC; rw [HPl.out, decide_eq_true hp]; simp);clear h6 hp;go_wp2_with fail;go_ret;exact ⟨ret_bool HV.out.symm, HB2.out⟩
  have q3 : ((np : Int) == 0) = false := by rw [beq_eq_false_iff_ne]; omega
  by_cases hn0 : C.n < 0
  · have q4 : decide (C.n < 0) = true := by simpa using hn0
    have HV := hid (show chkB N M C = false by rw [HX.out]; unfold badC; rw [decide_eq_true hn0]; simp);clear h6 hp hn0;go_wp2_with fail;go_ret;exact ⟨ret_bool HV.out.symm, HB2.out⟩
  have q4 : decide (C.n < 0) = false := by simpa using hn0
  by_cases hn1 : N.pl ≤ C.n
  · have q5 : decide (N.pl ≤ C.n) = true := by simpa using hn1
    have HV := hid (show chkB N M C = false by rw [HX.out]; unfold badC; rw [decide_eq_true hn1]; simp);clear h6 hp hn0 hn1;go_wp2_with fail;go_ret;exact ⟨ret_bool HV.out.symm, HB2.out⟩
  have q5 : decide (N.pl ≤ C.n) = false := by simpa using hn1
  have HY := hid (show chkB N M C = pumpB N M C by
   rw [HX.out]; unfold badC;rw [HPl.out, decide_eq_false (show ¬ C.cl ≠ 6 from fun h => h h6), decide_eq_false hp, decide_eq_false hn0, decide_eq_false hn1]; simp)
  have hk0 : 0 ≤ C.n := by omega
  have hk1 : C.n < N.pl := by omega
  clear h6 hp hn0 hn1 HX;have HRn := hid (pRun_any N A n c Am m cm M Ar nr cr C.run w2 HIn2.out HNl.out hn2 HM2.out HMl.out hm2 HR2.out HRl.out);by_cases hr : ¬ (run21 N M C.run).2.2 = 0
  · have HRx := hid (rv_no HRn.out hr);have HV := hid (show chkB N M C = false by rw [HY.out]; unfold pumpB; rw [decide_eq_false hr]; rfl);have q6 : ((run21 N M C.run).2.2 != 0) = true := by rw [bne_iff_ne]; exact hr
    clear HRn hr HY;generalize (run21 N M C.run).2.2 = er at *;generalize (run21 N M C.run).2.1 = ei at *;go_wp2_with fail;((with_reducible refine HRx.out.mono ?_); rintro e w3 ⟨rfl, hb3⟩)
    have HB3 := hid (below_then HB2.out hb3);go_wp2_with fail;go_ret;exact ⟨ret_bool HV.out.symm, HB3.out⟩
  replace hr := Classical.not_not.1 hr;have HRx := hid (rv_yes HRn.out hr);have HMx := hid (run21_mk hr);have HZ := hid (show chkB N M C = (decide ((run21 N (run21 N M C.run).1 C.pump).2.2 = 0) && endB (run21 N M C.run).1 (run21 N (run21 N M C.run).1 C.pump).1 C.n) by rw [HY.out]; unfold pumpB; rw [decide_eq_true hr]; rfl);clear HRn hr HY;generalize (run21 N M C.run).2.1 = ei at *;generalize (run21 N M C.run).1 = X at *;go_wp2_with fail;((with_reducible refine HRx.out.mono ?_); rintro e w3 ⟨vx, rfl, hSx⟩)
  have HB3 := hid (below_then HB2.out hSx.2);have HNb3 := hid (HNb2.out.below hSx.2);have HIn3 := hid (HIn2.out.below hSx.2);have HCt3 := hid (HCt2.out.below hSx.2);have HP3 := hid (HP2.out.below hSx.2);have hxl : (X.length : Int) = N.pl := mk_len HMx.out;obtain ⟨Ax, cx, rfl⟩ := hSx.slice;have HSx := hid (show ZIn w3 Ax X by obtain ⟨A', c', e, hz, _⟩ := hSx.zin; cases e; exact hz);clear hSx HRx HB2 HNb2 HIn2 HCt2 HP2 HM2 HR2 HK2 b0 b1 b2 b3 x0 x1 x2 x3 x4 x5 x6 x7;obtain ⟨b0, b1, b2, b3⟩ := HNb3.out.cells;obtain ⟨x0, x1, x2, x3, x4, x5, x6, x7⟩ := HCt3.out.cells;have hx40 : X.length ≤ 40 := by have := nt_small (mk_nt HMx.out); omega
  have HXl := hid hxl;clear hxl;have HRn := hid (pRun_any N A n c Ax X.length cx X Ap np cp C.pump w3 HIn3.out HNl.out hn2 HSx.out rfl (by omega) HP3.out HPl.out);by_cases hr : ¬ (run21 N X C.pump).2.2 = 0
  · have HRy := hid (rv_no HRn.out hr);have HV := hid (show chkB N M C = false by rw [HZ.out, decide_eq_false hr]; rfl);have q6 : ((run21 N X C.pump).2.2 == 0) = false := by rw [beq_eq_false_iff_ne]; exact hr
    clear HRn hr HZ;generalize (run21 N X C.pump).2.2 = er at *;generalize (run21 N X C.pump).2.1 = ei2 at *;go_wp2_with fail;((with_reducible refine HRy.out.mono ?_); rintro e w4 ⟨rfl, hb4⟩)
    have HB4 := hid (below_then HB3.out hb4);obtain ⟨x0, x1, x2, x3, x4, x5, x6, x7⟩ := HCt3.out.below hb4 |>.cells;clear b0 b1 b2 b3;go_wp2_with fail;have a0 := fun d os => cell_regrown x1 d os
    refine wp_region_quiet_below (by kernel_rfl) (by kernel_rfl) ?_;repeat (first | go_big_quiet_step (fail) | quiet_step (fail))
    refine wpQuiet_nil ?_;intro _ hw';obtain ⟨⟨dq, osq⟩, hw''⟩ := hw';subst hw'';clear a0;have HB5 := hid (below_then HB4.out (below_regrown w4 dq osq));go_wp2_with fail;go_ret;exact ⟨ret_bool HV.out.symm, HB5.out⟩
  replace hr := Classical.not_not.1 hr;have HRy := hid (rv_yes HRn.out hr);have HMy := hid (run21_mk hr);have HW := hid (show chkB N M C = endB X (run21 N X C.pump).1 C.n by rw [HZ.out, decide_eq_true hr]; rfl);clear HRn hr HZ;generalize (run21 N X C.pump).2.1 = ei2 at *;generalize (run21 N X C.pump).1 = Y at *;go_wp2_with fail;((with_reducible refine HRy.out.mono ?_); rintro e w4 ⟨vy, rfl, hSy⟩)
  have HB4 := hid (below_then HB3.out hSy.2);have HCt4 := hid (HCt3.out.below hSy.2);have HSx4 := hid (HSx.out.below hSy.2);have hyl : (Y.length : Int) = N.pl := mk_len HMy.out;have hxy : Y.length = X.length := by have := HXl.out; omega
  obtain ⟨Ay, cy, rfl⟩ := hSy.slice;rw [hxy];have HYl := hid hxy;have HSy := hid (show ZIn w4 Ay Y by obtain ⟨A', c', e, hz, _⟩ := hSy.zin; cases e; exact hz);obtain ⟨k, hk⟩ := Int.eq_ofNat_of_zero_le hk0;have hkx : k < X.length := by have := HXl.out; omega
  have hky : k < Y.length := by omega
  have HEn := hid (show endB X Y C.n = (atMost X Y && decide (X[k] < Y[k])) by unfold endB; rw [hk]; simp [hkx, hky]);rw [hk] at x1;clear hSy HRy HB3 HNb3 HIn3 HP3 HSx b0 b1 b2 b3 x0 x1 x2 x3 x4 x5 x6 x7 hyl hxy;obtain ⟨x0, x1, x2, x3, x4, x5, x6, x7⟩ := HCt4.out.cells;rw [hk] at x1;obtain ⟨ax, rfl, hpx, r0⟩ := HSx4.out k hkx;obtain ⟨ay, rfl, hpy, r1⟩ := HSy.out k hky;generalize X[k] = xk at *;generalize Y[k] = yk at *;have hk0' : (0 : Int) ≤ (k : Int) := by omega
  have hk1' : (k : Int) < (X.length : Int) := by omega
  go_wp2_with fail;cases ha : atMost X Y with
  | false =>
   have HV := hid (show chkB N M C = false by rw [HW.out, HEn.out, ha]; rfl);have HAm := hid (fun d os => below_any (some ax) X.length cx (some ay) X.length cy X Y _ (HSx4.out.below (below_regrown w4 d os)) rfl (HSy.out.below (below_regrown w4 d os)) HYl.out (Nat.le_refl _) (by omega));rw [ha] at HAm;clear ha;have a0 := fun d os => cell_regrown x1 d os
   have a1 := fun d os => cell_regrown r0 d os
   have a2 := fun d os => cell_regrown r1 d os
   refine wp_region_quiet_below (by kernel_rfl) (by kernel_rfl) ?_;repeat (first | go_big_quiet_step (exact Calls.regrown_of (HAm.out _ _)) | quiet_step (exact Calls.regrown_of (HAm.out _ _)))
   refine wpQuiet_nil ?_;intro _ hw';obtain ⟨⟨dq, osq⟩, hw''⟩ := hw';subst hw'';clear a0 a1 a2;have HB5 := hid (below_then HB4.out (below_regrown w4 dq osq));go_wp2_with fail;go_ret;exact ⟨ret_bool HV.out.symm, HB5.out⟩
  | true =>
   have HV := hid (show chkB N M C = decide (xk < yk) by rw [HW.out, HEn.out, ha]; rfl);have HAm := hid (fun d os => below_any (some ax) X.length cx (some ay) X.length cy X Y _ (HSx4.out.below (below_regrown w4 d os)) rfl (HSy.out.below (below_regrown w4 d os)) HYl.out (Nat.le_refl _) (by omega));rw [ha] at HAm;clear ha;have a0 := fun d os => cell_regrown x1 d os
   have a1 := fun d os => cell_regrown r0 d os
   have a2 := fun d os => cell_regrown r1 d os
   refine wp_region_quiet_below (by kernel_rfl) (by kernel_rfl) ?_;repeat (first | go_big_quiet_step (exact Calls.regrown_of (HAm.out _ _)) | quiet_step (exact Calls.regrown_of (HAm.out _ _)))
   refine wpQuiet_nil ?_;intro _ hw';obtain ⟨⟨dq, osq⟩, hw''⟩ := hw';subst hw'';clear a0 a1 a2;have HB5 := hid (below_then HB4.out (below_regrown w4 dq osq));go_wp2_with fail;go_ret;exact ⟨ret_bool HV.out.symm, HB5.out⟩
end Go.Proofs.YtkhmngljpfibcaaGreatDoor
