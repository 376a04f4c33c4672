/- cover.Check: what a call returns. verdict: transition, run, pumps, dead: what a call returns. -/
import Derived.Test.YtkhmngljpfibcaaGreatDoorPQe
namespace Go.Proofs.YtkhmngljpfibcaaGreatDoor
set_option maxRecDepth 100000
set_option maxHeartbeats 12800000
open Go.Lib (hid)
section
open Go.RowKit

theorem ccheck_any (N : Nt) (A : Option Addr) (n c : Nat) (Am : Option Addr) (m cm : Nat) (M : List Int) (v : Value) (C : Ct) (w : World) (ht : Tb w) (h : NtIn w A N) (hn : N.tr.length = n) (hn2 : n ≤ 9223372036854775807) (hM : ZIn w Am M) (hm : M.length = m) (hm2 : m ≤ 9223372036854775807) (hC : CtIn w v C) :
 Calls Tryz.prog 97 #[.agg #[.int .i64 N.pl, .slice A n c, .int .i64 N.src, .int .i64 N.snk], .slice Am m cm, v] w fun e w' => e = .returned (.bool (chkB N M C)) ∧ Below w.heap.size w w' := by
 obtain ⟨Ar, nr, cr, Ap, np, cp, Ak, nk, ck, A5, n5, c5, A6, n6, c6, A7, n7, c7, rfl, ⟨hr1, hr2⟩, ⟨hp1, hp2⟩, hq1, hq2, hq3⟩ := hC;have HB := hid (two_boxes w (.cells #[.int .i64 N.pl, .slice A n c, .int .i64 N.src, .int .i64 N.snk] 24) (.cells #[.int .i64 C.cl, .int .i64 C.n, .slice Ar nr cr, .slice Ap np cp, .slice Ak nk ck, .slice A5 n5 c5, .slice A6 n6 c6, .slice A7 n7 c7] 31));have hnew := heap_alloc_new (w.alloc (.cells #[.int .i64 N.pl, .slice A n c, .int .i64 N.src, .int .i64 N.snk] 24)) (.cells #[.int .i64 C.cl, .int .i64 C.n, .slice Ar nr cr, .slice Ap np cp, .slice Ak nk ck, .slice A5 n5 c5, .slice A6 n6 c6, .slice A7 n7 c7] 31);rw [World.size_alloc] at hnew;have HCt := hid (show CtB _ (w.heap.size + 1) #[.int .i64 C.cl, .int .i64 C.n, .slice Ar nr cr, .slice Ap np cp, .slice Ak nk ck, .slice A5 n5 c5, .slice A6 n6 c6, .slice A7 n7 c7] from hnew);have HNb := hid ((NB.new w N.pl A n c N.src N.snk).below (below_alloc _ (.cells #[.int .i64 C.cl, .int .i64 C.n, .slice Ar nr cr, .slice Ap np cp, .slice Ak nk ck, .slice A5 n5 c5, .slice A6 n6 c6, .slice A7 n7 c7] 31)));have HIn := hid (h.below HB.out);have HM := hid (hM.below HB.out);have HR := hid (hr1.below HB.out);have HP := hid (hp1.below HB.out);have HK := hid (hq1.below HB.out);have HRl := hid hr2;have HPl := hid hp2;have HKl := hid hq2;have HMl := hid hm;have HNl := hid hn;have HT := hid (ht.below HB.out);clear ht h hn hM hm hr1 hp1 hq1 hr2 hp2 hq2 hnew;go_enter Tryz.func97, Tryz.ntmps97;go_wp2_with fail;generalize (w.alloc _).alloc _ = wa at *;obtain ⟨b0, b1, b2, b3⟩ := HNb.out.cells;have HEn := hid (penabled_any N A n c Am m cm M wa HIn.out HNl.out hn2 HM.out HMl.out hm2);cases hk : mkB N M with
 | false =>
  have HE := hid (show enE N M = 1 by unfold enE; rw [hk]; rfl);have HV := hid (show chkB N M C = false by unfold chkB; rw [hk]; rfl);((with_reducible refine HEn.out.mono ?_); rintro e w1 ⟨v, rfl, hS⟩)
  obtain ⟨Av, cv, rfl⟩ := hS.slice;have HFin := hid (below_then HB.out hS.2);rw [HE.out];go_wp2_with fail;go_ret;exact ⟨ret_bool HV.out.symm, HFin.out⟩
 | true =>
  have HE := hid (show enE N M = 0 by unfold enE; rw [hk]; rfl);have HMk := hid hk;have hn60 : n ≤ 60 := by have := nt_small (mk_nt hk); have := HNl.out; omega
  ((with_reducible refine HEn.out.mono ?_); rintro e w2 ⟨v, rfl, hS⟩)
  obtain ⟨Av, cv, rfl⟩ := hS.slice;have hb2 := hS.2;have HB2 := hid (below_then HB.out hb2);have HT2 := hid (HT.out.below hb2);rw [HE.out];have HNb2 := hid (HNb.out.below hb2);have HIn2 := hid (HIn.out.below hb2);have HM2 := hid (HM.out.below hb2);have HR2 := hid (HR.out.below hb2);have HP2 := hid (HP.out.below hb2);have HK2 := hid (HK.out.below hb2);have HCt2 := hid (HCt.out.below hb2);clear hb2 hS HEn b0 b1 b2 b3 hk HB HNb HIn HM HR HP HK HCt;obtain ⟨b0, b1, b2, b3⟩ := HNb2.out.cells;obtain ⟨x0, x1, x2, x3, x4, x5, x6, x7⟩ := HCt2.out.cells;by_cases h5 : C.cl = 5
  · have q1 : (C.cl == 5) = true := by rw [h5]; rfl
    have HX := hid (show chkB N M C = closedB N M C.marks by unfold chkB; rw [HMk.out, if_pos h5]; rfl);have HCl := hid (cclosed_any N A n c Am m cm M Ak nk ck C.marks w2 HT2.out HIn2.out HNl.out (by omega) HM2.out HMl.out HMk.out HK2.out HKl.out hq3);clear h5;go_wp2_with fail;((with_reducible refine HCl.out.mono ?_); rintro e w3 ⟨rfl, hb3⟩)
    have HB3 := hid (below_then HB2.out hb3);go_wp2_with fail;go_ret;exact ⟨ret_bool HX.out.symm, HB3.out⟩
  have q1 : (C.cl == 5) = false := by simpa using h5
  have HX := hid (show chkB N M C = (!badC N C && pumpB N M C) by unfold chkB; rw [HMk.out, if_neg h5]; rfl);clear h5;by_cases h6 : ¬ C.cl = 6
  · have q2 : (C.cl != 6) = true := by simpa using h6
    have HV := hid (show chkB N M C = false by rw [HX.out]; unfold badC; rw [decide_eq_true h6]; rfl);clear h6;go_wp2_with fail;go_ret;exact ⟨ret_bool HV.out.symm, HB2.out⟩
  replace h6 := Classical.not_not.1 h6;have q2 : (C.cl != 6) = false := by rw [h6]; rfl
  by_cases hp : np = 0
  · have q3 : ((np : Int) == 0) = true := by rw [hp]; rfl
    have HV := hid (show chkB N M C = false by rw [HX.out]; unfold badC; rw [HPl.out, decide_eq_true hp]; simp);clear h6 hp;go_wp2_with fail;go_ret;exact ⟨ret_bool HV.out.symm, HB2.out⟩
  have q3 : ((np : Int) == 0) = false := by rw [beq_eq_false_iff_ne]; omega
  by_cases hn0 : C.n < 0
  · have q4 : decide (C.n < 0) = true := by simpa using hn0
    have HV := hid (show chkB N M C = false by rw [HX.out]; unfold badC; rw [decide_eq_true hn0]; simp);clear h6 hp hn0;go_wp2_with fail;go_ret;exact ⟨ret_bool HV.out.symm, HB2.out⟩
  have q4 : decide (C.n < 0) = false := by simpa using hn0
  by_cases hn1 : N.pl ≤ C.n
  · have q5 : decide (N.pl ≤ C.n) = true := by simpa using hn1
    have HV := hid (show chkB N M C = false by rw [HX.out]; unfold badC; rw [decide_eq_true hn1]; simp);clear h6 hp hn0 hn1;go_wp2_with fail;go_ret;exact ⟨ret_bool HV.out.symm, HB2.out⟩
  have q5 : decide (N.pl ≤ C.n) = false := by simpa using hn1
  have HY := hid (show chkB N M C = pumpB N M C by
   rw [HX.out]; unfold badC;rw [HPl.out, decide_eq_false (show ¬ C.cl ≠ 6 from fun h => h h6), decide_eq_false hp, decide_eq_false hn0, decide_eq_false hn1]; simp)
  have hk0 : 0 ≤ C.n := by omega
  have hk1 : C.n < N.pl := by omega
  clear h6 hp hn0 hn1 HX;have HRn := hid (pRun_any N A n c Am m cm M Ar nr cr C.run w2 HIn2.out HNl.out hn2 HM2.out HMl.out hm2 HR2.out HRl.out);by_cases hr : ¬ (run21 N M C.run).2.2 = 0
  · have HRx := hid (rv_no HRn.out hr);have HV := hid (show chkB N M C = false by rw [HY.out]; unfold pumpB; rw [decide_eq_false hr]; rfl);have q6 : ((run21 N M C.run).2.2 != 0) = true := by rw [bne_iff_ne]; exact hr
    clear HRn hr HY;generalize (run21 N M C.run).2.2 = er at *;generalize (run21 N M C.run).2.1 = ei at *;go_wp2_with fail;((with_reducible refine HRx.out.mono ?_); rintro e w3 ⟨rfl, hb3⟩)
    have HB3 := hid (below_then HB2.out hb3);go_wp2_with fail;go_ret;exact ⟨ret_bool HV.out.symm, HB3.out⟩
  replace hr := Classical.not_not.1 hr;have HRx := hid (rv_yes HRn.out hr);have HMx := hid (run21_mk hr);have HZ := hid (show chkB N M C = (decide ((run21 N (run21 N M C.run).1 C.pump).2.2 = 0) && endB (run21 N M C.run).1 (run21 N (run21 N M C.run).1 C.pump).1 C.n) by rw [HY.out]; unfold pumpB; rw [decide_eq_true hr]; rfl);clear HRn hr HY;generalize (run21 N M C.run).2.1 = ei at *;generalize (run21 N M C.run).1 = X at *;go_wp2_with fail;((with_reducible refine HRx.out.mono ?_); rintro e w3 ⟨vx, rfl, hSx⟩)
  have HB3 := hid (below_then HB2.out hSx.2);have HNb3 := hid (HNb2.out.below hSx.2);have HIn3 := hid (HIn2.out.below hSx.2);have HCt3 := hid (HCt2.out.below hSx.2);have HP3 := hid (HP2.out.below hSx.2);have hxl : (X.length : Int) = N.pl := mk_len HMx.out;obtain ⟨Ax, cx, rfl⟩ := hSx.slice;have HSx := hid (show ZIn w3 Ax X by obtain ⟨A', c', e, hz, _⟩ := hSx.zin; cases e; exact hz);clear hSx HRx HB2 HNb2 HIn2 HCt2 HP2 HM2 HR2 HK2 b0 b1 b2 b3 x0 x1 x2 x3 x4 x5 x6 x7;obtain ⟨b0, b1, b2, b3⟩ := HNb3.out.cells;obtain ⟨x0, x1, x2, x3, x4, x5, x6, x7⟩ := HCt3.out.cells;have hx40 : X.length ≤ 40 := by have := nt_small (mk_nt HMx.out); omega
  have HXl := hid hxl;clear hxl;have HRn := hid (pRun_any N A n c Ax X.length cx X Ap np cp C.pump w3 HIn3.out HNl.out hn2 HSx.out rfl (by omega) HP3.out HPl.out);by_cases hr : ¬ (run21 N X C.pump).2.2 = 0
  · have HRy := hid (rv_no HRn.out hr);have HV := hid (show chkB N M C = false by rw [HZ.out, decide_eq_false hr]; rfl);have q6 : ((run21 N X C.pump).2.2 == 0) = false := by rw [beq_eq_false_iff_ne]; exact hr
    clear HRn hr HZ;generalize (run21 N X C.pump).2.2 = er at *;generalize (run21 N X C.pump).2.1 = ei2 at *;go_wp2_with fail;((with_reducible refine HRy.out.mono ?_); rintro e w4 ⟨rfl, hb4⟩)
    have HB4 := hid (below_then HB3.out hb4);obtain ⟨x0, x1, x2, x3, x4, x5, x6, x7⟩ := HCt3.out.below hb4 |>.cells;clear b0 b1 b2 b3;go_wp2_with fail;have a0 := fun d os => cell_regrown x1 d os
    refine wp_region_quiet_below (by kernel_rfl) (by kernel_rfl) ?_;repeat (first | go_big_quiet_step (fail) | quiet_step (fail))
    refine wpQuiet_nil ?_;intro _ hw';obtain ⟨⟨dq, osq⟩, hw''⟩ := hw';subst hw'';clear a0;have HB5 := hid (below_then HB4.out (below_regrown w4 dq osq));go_wp2_with fail;go_ret;exact ⟨ret_bool HV.out.symm, HB5.out⟩
  replace hr := Classical.not_not.1 hr;have HRy := hid (rv_yes HRn.out hr);have HMy := hid (run21_mk hr);have HW := hid (show chkB N M C = endB X (run21 N X C.pump).1 C.n by rw [HZ.out, decide_eq_true hr]; rfl);clear HRn hr HZ;generalize (run21 N X C.pump).2.1 = ei2 at *;generalize (run21 N X C.pump).1 = Y at *;go_wp2_with fail;((with_reducible refine HRy.out.mono ?_); rintro e w4 ⟨vy, rfl, hSy⟩)
  have HB4 := hid (below_then HB3.out hSy.2);have HCt4 := hid (HCt3.out.below hSy.2);have HSx4 := hid (HSx.out.below hSy.2);have hyl : (Y.length : Int) = N.pl := mk_len HMy.out;have hxy : Y.length = X.length := by have := HXl.out; omega
  obtain ⟨Ay, cy, rfl⟩ := hSy.slice;rw [hxy];have HYl := hid hxy;have HSy := hid (show ZIn w4 Ay Y by obtain ⟨A', c', e, hz, _⟩ := hSy.zin; cases e; exact hz);obtain ⟨k, hk⟩ := Int.eq_ofNat_of_zero_le hk0;have hkx : k < X.length := by have := HXl.out; omega
  have hky : k < Y.length := by omega
  have HEn := hid (show endB X Y C.n = (atMost X Y && decide (X[k] < Y[k])) by unfold endB; rw [hk]; simp [hkx, hky]);rw [hk] at x1;clear hSy HRy HB3 HNb3 HIn3 HP3 HSx b0 b1 b2 b3 x0 x1 x2 x3 x4 x5 x6 x7 hyl hxy;obtain ⟨x0, x1, x2, x3, x4, x5, x6, x7⟩ := HCt4.out.cells;rw [hk] at x1;obtain ⟨ax, rfl, hpx, r0⟩ := HSx4.out k hkx;obtain ⟨ay, rfl, hpy, r1⟩ := HSy.out k hky;generalize X[k] = xk at *;generalize Y[k] = yk at *;have hk0' : (0 : Int) ≤ (k : Int) := by omega
  have hk1' : (k : Int) < (X.length : Int) := by omega
  go_wp2_with fail;cases ha : atMost X Y with
  | false =>
   have HV := hid (show chkB N M C = false by rw [HW.out, HEn.out, ha]; rfl);have HAm := hid (fun d os => below_any (some ax) X.length cx (some ay) X.length cy X Y _ (HSx4.out.below (below_regrown w4 d os)) rfl (HSy.out.below (below_regrown w4 d os)) HYl.out (Nat.le_refl _) (by omega));rw [ha] at HAm;clear ha;have a0 := fun d os => cell_regrown x1 d os
   have a1 := fun d os => cell_regrown r0 d os
   have a2 := fun d os => cell_regrown r1 d os
   refine wp_region_quiet_below (by kernel_rfl) (by kernel_rfl) ?_;repeat (first | go_big_quiet_step (exact Calls.regrown_of (HAm.out _ _)) | quiet_step (exact Calls.regrown_of (HAm.out _ _)))
   refine wpQuiet_nil ?_;intro _ hw';obtain ⟨⟨dq, osq⟩, hw''⟩ := hw';subst hw'';clear a0 a1 a2;have HB5 := hid (below_then HB4.out (below_regrown w4 dq osq));go_wp2_with fail;go_ret;exact ⟨ret_bool HV.out.symm, HB5.out⟩
  | true =>
   have HV := hid (show chkB N M C = decide (xk < yk) by rw [HW.out, HEn.out, ha]; rfl);have HAm := hid (fun d os => below_any (some ax) X.length cx (some ay) X.length cy X Y _ (HSx4.out.below (below_regrown w4 d os)) rfl (HSy.out.below (below_regrown w4 d os)) HYl.out (Nat.le_refl _) (by omega));rw [ha] at HAm;clear ha;have a0 := fun d os => cell_regrown x1 d os
   have a1 := fun d os => cell_regrown r0 d os
   have a2 := fun d os => cell_regrown r1 d os
   refine wp_region_quiet_below (by kernel_rfl) (by kernel_rfl) ?_;repeat (first | go_big_quiet_step (exact Calls.regrown_of (HAm.out _ _)) | quiet_step (exact Calls.regrown_of (HAm.out _ _)))
   refine wpQuiet_nil ?_;intro _ hw';obtain ⟨⟨dq, osq⟩, hw''⟩ := hw';subst hw'';clear a0 a1 a2;have HB5 := hid (below_then HB4.out (below_regrown w4 dq osq));go_wp2_with fail;go_ret;exact ⟨ret_bool HV.out.symm, HB5.out⟩
end
section
open Go.RowKit

structure CfM (w : World) (Ar : Option Addr) (nr : Nat) (R : List Int) (Ap : Option Addr) (np : Nat) (P : List Int) (Ak : Option Addr) (nk : Nat) (K : List (List Int)) (Av : Option Addr) (nv : Nat) (V : List Mv) (As : Option Addr) (ns : Nat) (S : List (List Int)) (Aw : Option Addr) (nw : Nat) (X : List (List Int)) : Prop where
 r : ZIn w Ar R
 rl : R.length = nr
 rb : nr ≤ 9223372036854775806
 p : ZIn w Ap P
 pl : P.length = np
 pb : np ≤ 9223372036854775806
 k : LIn w Ak K
 kl : K.length = nk
 kb : nk ≤ 9223372036854775806
 v : Rd mvC 3 w Av V
 vl : V.length = nv
 vb : nv ≤ 9223372036854775806
 s : LIn w As S
 sl : S.length = ns
 sb : ns ≤ 9223372036854775806
 x : LIn w Aw X
 xl : X.length = nw
 xb : nw ≤ 9223372036854775806
theorem CfM.below {w w' : World} {Ar : Option Addr} {nr : Nat} {R : List Int} {Ap : Option Addr} {np : Nat} {P : List Int} {Ak : Option Addr} {nk : Nat} {K : List (List Int)} {Av : Option Addr} {nv : Nat} {V : List Mv} {As : Option Addr} {ns : Nat} {S : List (List Int)} {Aw : Option Addr} {nw : Nat} {X : List (List Int)} (h : CfM w Ar nr R Ap np P Ak nk K Av nv V As ns S Aw nw X) (hb : Below w.heap.size w w') : CfM w' Ar nr R Ap np P Ak nk K Av nv V As ns S Aw nw X :=
 ⟨h.r.below hb, h.rl, h.rb, h.p.below hb, h.pl, h.pb, h.k.below hb, h.kl, h.kb, h.v.below hb, h.vl, h.vb, h.s.below hb, h.sl, h.sb, h.x.below hb, h.xl, h.xb⟩
def trnB (N : Nt) (k : Int) : Bool := decide (0 ≤ k) && decide (k < (N.tr.length : Int))
theorem vtrans_any (N : Nt) (A : Option Addr) (n c : Nat) (k : Int) (w : World) (hn : N.tr.length = n) : Calls Tryz.prog 166 #[.agg #[.int .i64 N.pl, .slice A n c, .int .i64 N.src, .int .i64 N.snk], .int .i64 k] w fun e w' => e = .returned (.bool (trnB N k)) ∧ Below w.heap.size w w' := by
 have HB := hid (below_alloc w (.cells #[.int .i64 N.pl, .slice A n c, .int .i64 N.src, .int .i64 N.snk] 24));by_cases h0 : 0 ≤ k
 · have HV := hid (show trnB N k = decide (k < (n : Int)) by unfold trnB; rw [decide_eq_true h0, hn]; rfl);clear hn;have q0 : decide (0 ≤ k) = true := by simpa using h0
   go_enter Tryz.func166, Tryz.ntmps166
   go_wp2
   go_ret;exact ⟨ret_bool HV.out.symm, HB.out⟩
 · have HV := hid (show trnB N k = false by unfold trnB; rw [decide_eq_false h0]; rfl);clear hn;have q0 : decide (0 ≤ k) = false := by simpa using h0
   clear h0;go_enter Tryz.func166, Tryz.ntmps166
   go_wp2
   go_ret;exact ⟨ret_bool HV.out.symm, HB.out⟩
def iniM (N : Nt) : List Int := oneM N.pl.toNat N.src.toNat
def finM (N : Nt) : List Int := oneM N.pl.toNat N.snk.toNat
theorem one_mk {N : Nt} (hv : ntB N = true) (p : Nat) : mkB N (oneM N.pl.toNat p) = true := by
 have h1 := nt_small hv;unfold mkB;rw [hv, oneM_len, decide_eq_true (show ((N.pl.toNat : Nat) : Int) = N.pl by omega)];have : (oneM N.pl.toNat p).any badK = false := by
  rw [List.any_eq_false];intro x hx;have : x = 0 ∨ x = 1 := by
   unfold oneM at hx;rcases List.mem_or_eq_of_mem_set hx with h | h
   · exact .inl (List.eq_of_mem_replicate h)
   · exact .inr h
  unfold badK;rcases this with rfl | rfl <;> decide
 rw [this]; rfl
theorem vsrc_any (N : Nt) (A : Option Addr) (n c : Nat) (hv : ntB N = true) (w : World) : Calls Tryz.prog 98 #[.agg #[.int .i64 N.pl, .slice A n c, .int .i64 N.src, .int .i64 N.snk], .int .i64 N.src] w fun e w' => ∃ v, e = .returned v ∧ NS w w' v (iniM N) := by
 have h1 := nt_small hv;have h2 := nt_src hv;have h := vone_any N.pl.toNat A n c N.src N.snk N.src.toNat w (by omega) (by omega);rw [show ((N.pl.toNat : Nat) : Int) = N.pl by omega, show ((N.src.toNat : Nat) : Int) = N.src by omega] at h;exact h
theorem vsnk_any (N : Nt) (A : Option Addr) (n c : Nat) (hv : ntB N = true) (w : World) : Calls Tryz.prog 98 #[.agg #[.int .i64 N.pl, .slice A n c, .int .i64 N.src, .int .i64 N.snk], .int .i64 N.snk] w fun e w' => ∃ v, e = .returned v ∧ NS w w' v (finM N) := by
 have h1 := nt_small hv;have h2 := nt_src hv;have h := vone_any N.pl.toNat A n c N.src N.snk N.snk.toNat w (by omega) (by omega);rw [show ((N.pl.toNat : Nat) : Int) = N.pl by omega, show ((N.snk.toNat : Nat) : Int) = N.snk by omega] at h;exact h
theorem ini_len {N : Nt} (hv : ntB N = true) : ((iniM N).length : Int) = N.pl := by unfold iniM; rw [oneM_len]; have := nt_small hv; omega
theorem fin_len {N : Nt} (hv : ntB N = true) : ((finM N).length : Int) = N.pl := by unfold finM; rw [oneM_len]; have := nt_small hv; omega
def runI (N : Nt) (l : List Int) : List Int × Nat × Int := run21 N (iniM N) l
def VrPo (r : List Int × Nat × Int) (w : World) (e : Ending) (w' : World) : Prop := if r.2.2 = 0 then ∃ v, e = .returned (.tuple #[v, .bool true]) ∧ NS w w' v r.1 else e = .returned (.tuple #[.slice none 0 0, .bool false]) ∧ Below w.heap.size w w'
theorem vr_yes {P : Program} {f : FuncId} {args : Array Value} {w : World} {r : List Int × Nat × Int} (h : Calls P f args w (VrPo r w)) (h0 : r.2.2 = 0) : Calls P f args w fun e w' => ∃ v, e = .returned (.tuple #[v, .bool true]) ∧ NS w w' v r.1 :=
 h.mono fun e w' h1 => by unfold VrPo at h1; rw [if_pos h0] at h1; exact h1
theorem vr_no {P : Program} {f : FuncId} {args : Array Value} {w : World} {r : List Int × Nat × Int} (h : Calls P f args w (VrPo r w)) (h0 : r.2.2 ≠ 0) : Calls P f args w fun e w' => e = .returned (.tuple #[.slice none 0 0, .bool false]) ∧ Below w.heap.size w w' :=
 h.mono fun e w' h1 => by unfold VrPo at h1; rw [if_neg h0] at h1; exact h1
theorem VrPo.no {r : List Int × Nat × Int} {w w' : World} {e : Ending} (h : r.2.2 ≠ 0) (he : e = .returned (.tuple #[.slice none 0 0, .bool false])) (hb : Below w.heap.size w w') : VrPo r w e w' := by
 unfold VrPo; rw [if_neg h]; exact ⟨he, hb⟩
theorem VrPo.yes {r : List Int × Nat × Int} {w w' : World} {e : Ending} {v : Value} (h : r.2.2 = 0) (he : e = .returned (.tuple #[v, .bool true])) (hs : NS w w' v r.1) : VrPo r w e w' := by
 unfold VrPo; rw [if_pos h]; exact ⟨v, he, hs⟩
theorem vrun_any (N : Nt) (A : Option Addr) (n c : Nat) (Al : Option Addr) (nl cl : Nat) (l : List Int) (w : World) (h : NtIn w A N) (hn : N.tr.length = n) (hv : ntB N = true) (hL : ZIn w Al l) (hl : l.length = nl) :
 Calls Tryz.prog 100 #[.agg #[.int .i64 N.pl, .slice A n c, .int .i64 N.src, .int .i64 N.snk], .slice Al nl cl] w (VrPo (runI N l) w) := by
 have HB := hid (below_alloc w (.cells #[.int .i64 N.pl, .slice A n c, .int .i64 N.src, .int .i64 N.snk] 24));have HNb := hid (NB.new w N.pl A n c N.src N.snk);have HIn := hid (h.below HB.out);have HL := hid (hL.below HB.out);have HLl := hid hl;have HNl := hid hn;have HV := hid hv;have hps := nt_small hv;have hn60 : n ≤ 60 := by omega
 have HIl := hid (show (iniM N).length = N.pl.toNat from oneM_len _ _);have hpl40 : N.pl.toNat ≤ 40 := by omega
 clear h hn hv hL hl hps;go_enter Tryz.func100, Tryz.ntmps100;go_wp2_with fail;generalize w.alloc _ = w0 at *;have hbd : Below w0.heap.size w0 w0.drew := (Below.refl _ _).drew;have HB2 := hid (below_then HB.out hbd);have HNb2 := hid (HNb.out.below hbd);have HIn2 := hid (HIn.out.below hbd);have HL2 := hid (HL.out.below hbd);obtain ⟨b0, b1, b2, b3⟩ := HNb2.out.cells;have hS0 := And.intro b0 (And.intro b1 (And.intro b2 b3));by_cases h0 : (runI N l).2.2 = 0
 · refine rh4 hS0 (fun hHeld => ?_);clear hS0 hbd b0 b1 b2 b3 HB HNb HIn HL;generalize w0.drew = w2 at *;refine tkH 0 ?_;refine tkH 1 ?_;refine tkH 2 ?_;refine tkH 3 ?_;refine tkH 5 ?_;(try go_simp);refine tkR 4 (fun K9 hK => ?_);go_simp;((refine (vsrc_any N A n c HV.out w2).mono ?_); rintro e w3 ⟨v3, rfl, hS3⟩)
   obtain ⟨A3, c3, rfl⟩ := hS3.slice;have hb3 := hS3.2;have hS9 := hHeld;refine hK.out _ _ (ks4 hb3 hS9) (fun hHeld => ?_);clear hK K9 hS9;try go_simp
   have HZ3 := hid (show ZIn w3 A3 (iniM N) by obtain ⟨A', c', e, hz, _⟩ := hS3.zin; cases e; exact hz);have HB3 := hid (below_then HB2.out hb3);have HRn := hid (pRun_any N A n c A3 (iniM N).length c3 (iniM N) Al nl cl l w3 (HIn2.out.below hb3) HNl.out (by omega) HZ3.out rfl (by rw [HIl.out]; omega) (HL2.out.below hb3) HLl.out);rw [show run21 N (iniM N) l = runI N l from rfl] at HRn;clear hb3 hS3 HB2 HIn2 HL2;refine tkR 6 (fun K9 hK => ?_);go_simp;((refine (rv_yes HRn.out h0).mono ?_); rintro e w4 ⟨v4, rfl, hS4⟩); have hb4 := hS4.2
   have hS9 := hHeld;refine hK.out _ _ (ks4 hb4 hS9) (fun hHeld => ?_);clear hK K9 hS9;try go_simp
   have HB4 := hid (below_then HB3.out hb4);refine tkH 7 ?_;refine tkH 8 ?_;refine tkH 9 ?_;refine tkH 10 ?_;refine tkH 11 ?_;refine tkH 12 ?_;refine tkH 13 ?_;(try go_simp);refine wpAnyH_done (by kernel_rfl) ?_ _;clear hHeld;obtain ⟨A4, c4, rfl⟩ := hS4.slice;have HS4 := hid (NS.up HB3.out hS4);have HH := hid h0;clear hS4 hb4 h0 HRn;go_wp2_with fail;go_ret2;exact VrPo.yes HH.out rfl HS4.out
 · refine rh4 hS0 (fun hHeld => ?_);clear hS0 hbd b0 b1 b2 b3 HB HNb HIn HL;generalize w0.drew = w2 at *;refine tkH 0 ?_;refine tkH 1 ?_;refine tkH 2 ?_;refine tkH 3 ?_;refine tkH 5 ?_;(try go_simp);refine tkR 4 (fun K9 hK => ?_);go_simp;((refine (vsrc_any N A n c HV.out w2).mono ?_); rintro e w3 ⟨v3, rfl, hS3⟩)
   obtain ⟨A3, c3, rfl⟩ := hS3.slice;have hb3 := hS3.2;have hS9 := hHeld;refine hK.out _ _ (ks4 hb3 hS9) (fun hHeld => ?_);clear hK K9 hS9;try go_simp
   have HZ3 := hid (show ZIn w3 A3 (iniM N) by obtain ⟨A', c', e, hz, _⟩ := hS3.zin; cases e; exact hz);have HB3 := hid (below_then HB2.out hb3);have HRn := hid (pRun_any N A n c A3 (iniM N).length c3 (iniM N) Al nl cl l w3 (HIn2.out.below hb3) HNl.out (by omega) HZ3.out rfl (by rw [HIl.out]; omega) (HL2.out.below hb3) HLl.out);rw [show run21 N (iniM N) l = runI N l from rfl] at HRn;clear hb3 hS3 HB2 HIn2 HL2;refine tkR 6 (fun K9 hK => ?_);go_simp;((refine (rv_no HRn.out h0).mono ?_); rintro e w4 ⟨rfl, hb4⟩)
   have hS9 := hHeld;refine hK.out _ _ (ks4 hb4 hS9) (fun hHeld => ?_);clear hK K9 hS9;try go_simp
   have HB4 := hid (below_then HB3.out hb4);refine tkH 7 ?_;refine tkH 8 ?_;refine tkH 9 ?_;refine tkH 10 ?_;refine tkH 11 ?_;refine tkH 12 ?_;refine tkH 13 ?_;(try go_simp);refine wpAnyH_done (by kernel_rfl) ?_ _;clear hHeld;have HH := hid h0;have q9 : ((runI N l).2.2 == 0) = false := by rw [beq_eq_false_iff_ne]; exact h0
   clear hb4 h0 HRn;go_wp2_with fail;go_ret2;exact VrPo.no HH.out rfl HB4.out
end
end Go.Proofs.YtkhmngljpfibcaaGreatDoor
