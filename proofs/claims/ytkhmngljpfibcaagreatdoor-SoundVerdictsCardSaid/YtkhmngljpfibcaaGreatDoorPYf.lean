/- Has, some of reference 21; unsound, relaxed of reference 28: what a call returns. -/
import Derived.Test.YtkhmngljpfibcaaGreatDoorPUu
import Derived.Test.YtkhmngljpfibcaaGreatDoorPYc
namespace Go.Proofs.YtkhmngljpfibcaaGreatDoor
set_option maxRecDepth 100000
set_option maxHeartbeats 25600000
open Go.Lib (hid)
open Go.RowKit

theorem has21_any (Al : Option Addr) (nl cl : Nat) (l : List Int) (x : Int) (w : World) (hL : ZIn w Al l) (hl : l.length = nl) (hl2 : nl ≤ 9223372036854775807) :
 Calls Tryz.prog 125 #[.slice Al nl cl, .int .i64 x] w fun e w' => e = .returned (.bool (hasB l x)) ∧ Below w.heap.size w w' := by
 have HL := hid hL;have HLl := hid hl;clear hL hl;go_enter Tryz.func125, Tryz.ntmps125;go_wp2_with fail;go_loopg [5] (nl) (fun g iv wr => ∃ k : Nat, k + g = nl ∧ iv = .int .i64 k ∧ (l.take k).any (fun y => decide (y = x)) = false ∧ Below w.heap.size w wr);case atStart => exact ⟨0, by omega, rfl, by simp, Below.refl _ _⟩
 case round =>
  obtain ⟨k, hk, rfl, hp, hB⟩ := hrel;have HB := hid hB;have HK := hid hk;have HP := hid hp;have HLr := hid (HL.out.below hB);have hle : k ≤ nl := by omega
  clear hk hp hB;by_cases hlt : k < nl
  · have hlt' : k < l.length := by rw [HLl.out]; exact hlt
    obtain ⟨ad, rfl, hpa, q0⟩ := HLr.out k hlt';have HTk := hid (any_step (fun y => decide (y = x)) hlt');have HYes := hid (fun (hh : decide (l[k] = x) = true) => show hasB l x = true from List.any_eq_true.2 ⟨_, List.getElem_mem hlt', hh⟩);generalize l[k] = y at *;clear hlt';by_cases he : y = x
    · have q1 : (y == x) = true := by rw [he]; simp
      have HV := hid (HYes.out (decide_eq_true he));clear he HYes;go_wp2_with fail;go_ret;exact ⟨ret_bool HV.out.symm, HB.out⟩
    · have q1 : (y == x) = false := by rw [beq_eq_false_iff_ne]; exact he
      have HV := hid (show (l.take (k + 1)).any (fun y => decide (y = x)) = false by rw [HTk.out, HP.out, decide_eq_false he]; rfl);clear he HYes;go_wp2_with fail;go_roundg (gk - 1);case measure => have := HK.out; omega
      case rel => exact ⟨k + 1, by have := HK.out; omega, by go_num, HV.out, HB.out⟩
  · have HV := hid (show hasB l x = false by unfold hasB; have := HP.out; rwa [List.take_of_length_le (by rw [HLl.out]; omega)] at this);go_wp2_with fail;go_ret;exact ⟨ret_bool HV.out.symm, HB.out⟩
def someB (a b : List Int) : Bool := a.any (hasB b)
theorem some21_any (Aa : Option Addr) (na ca : Nat) (a : List Int) (Ab : Option Addr) (nb cb : Nat) (b : List Int) (w : World) (ha : ZIn w Aa a) (hal : a.length = na) (ha2 : na ≤ 9223372036854775807) (hb : ZIn w Ab b) (hbl : b.length = nb) (hb2 : nb ≤ 9223372036854775807) :
 Calls Tryz.prog 126 #[.slice Aa na ca, .slice Ab nb cb] w fun e w' => e = .returned (.bool (someB a b)) ∧ Below w.heap.size w w' := by
 have HL := hid ha;have HLl := hid hal;have HM := hid hb;have HMl := hid hbl;clear ha hal hb hbl;go_enter Tryz.func126, Tryz.ntmps126;go_wp2_with fail;go_loopg [5] (na) (fun g iv wr => ∃ k : Nat, k + g = na ∧ iv = .int .i64 k ∧ (a.take k).any (hasB b) = false ∧ Below w.heap.size w wr);case atStart => exact ⟨0, by omega, rfl, by simp, Below.refl _ _⟩
 case round =>
  obtain ⟨k, hk, rfl, hp, hB⟩ := hrel;have HB := hid hB;have HK := hid hk;have HP := hid hp;have HLr := hid (HL.out.below hB);have hle : k ≤ na := by omega
  clear hk hp hB;by_cases hlt : k < na
  · have hlt' : k < a.length := by rw [HLl.out]; exact hlt
    obtain ⟨ad, rfl, hpa, q0⟩ := HLr.out k hlt';have HTk := hid (any_step (hasB b) hlt');have HYes := hid (fun (hh : hasB b a[k] = true) => show someB a b = true from List.any_eq_true.2 ⟨_, List.getElem_mem hlt', hh⟩);generalize a[k] = y at *;have HHa := hid (has21_any Ab nb cb b y wr (HM.out.below HB.out) HMl.out hb2);clear hlt';cases he : hasB b y with
    | true =>
     rw [he] at HHa;have HV := hid (HYes.out he);clear he HYes;go_wp2_with fail;((with_reducible refine HHa.out.mono ?_); rintro e w1 ⟨rfl, hb1⟩)
     have HB1 := hid (below_then HB.out hb1);go_wp2_with fail;go_ret;exact ⟨ret_bool HV.out.symm, HB1.out⟩
    | false =>
     rw [he] at HHa;have HV := hid (show (a.take (k + 1)).any (hasB b) = false by rw [HTk.out, HP.out, he]; rfl);clear he HYes;go_wp2_with fail;((with_reducible refine HHa.out.mono ?_); rintro e w1 ⟨rfl, hb1⟩)
     have HB1 := hid (below_then HB.out hb1);clear hb1;go_wp2_with fail;go_roundg (gk - 1);case measure => have := HK.out; omega
     case rel => exact ⟨k + 1, by have := HK.out; omega, by go_num, HV.out, HB1.out⟩
  · have HV := hid (show someB a b = false by unfold someB; have := HP.out; rwa [List.take_of_length_le (by rw [HLl.out]; omega)] at this);go_wp2_with fail;go_ret;exact ⟨ret_bool HV.out.symm, HB.out⟩
def unsR (N : Nt) (cn : Int) (R P : List Int) (K : List (List Int)) : Bool :=
  if P.isEmpty then
    (if K.isEmpty then decide ((runI N R).2.2 = 0) && (decide (0 < (runI N R).1.getD N.snk.toNat 0) && !(decide ((runI N R).1 = finM N)))
     else (decide ((runI N R).2.2 = 0) && (mksX N.pl false K && (!(decide (findR K (runI N R).1 < 0)) && (closX N K && decide (findR K (finM N) < 0))))) || (R.isEmpty && (mksX N.pl true K && (covX N K && nevB N K cn))))
  else decide ((runI N R).2.2 = 0) && (decide ((run21 N (runI N R).1 P).2.2 = 0) && (atMost (runI N R).1 (run21 N (runI N R).1 P).1 && !(decide ((runI N R).1 = (run21 N (runI N R).1 P).1))))
theorem unsound28_any (N : Nt) (A : Option Addr) (n c : Nat) (cl cn : Int) (Ar : Option Addr) (nr cr : Nat) (R : List Int) (Ap : Option Addr) (np cp : Nat) (P : List Int) (Ak : Option Addr) (nk ck : Nat) (K : List (List Int)) (Av : Option Addr) (nv cv : Nat) (V : List Mv) (As : Option Addr) (ns cs : Nat) (S : List (List Int)) (Aw : Option Addr) (nw cw : Nat) (X : List (List Int)) (w : World) (h : NtIn w A N) (hn : N.tr.length = n) (hv : ntB N = true) (hC : CfM w Ar nr R Ap np P Ak nk K Av nv V As ns S Aw nw X) (hk2 : nk ≤ 2000) :
 Calls Tryz.prog 135 #[.agg #[.int .i64 N.pl, .slice A n c, .int .i64 N.src, .int .i64 N.snk], .agg #[.int .i64 cl, .int .i64 cn, .slice Ar nr cr, .slice Ap np cp, .slice Ak nk ck, .slice Av nv cv, .slice As ns cs, .slice Aw nw cw]] w fun e w' => e = .returned (.bool (unsR N cn R P K)) ∧ Below w.heap.size w w' := by
 have HB0 := hid (two_boxes w (.cells #[.int .i64 N.pl, .slice A n c, .int .i64 N.src, .int .i64 N.snk] 24) (.cells #[.int .i64 cl, .int .i64 cn, .slice Ar nr cr, .slice Ap np cp, .slice Ak nk ck, .slice Av nv cv, .slice As ns cs, .slice Aw nw cw] 31));have HNb0 := hid ((NB.new w N.pl A n c N.src N.snk).below (below_alloc _ (.cells #[.int .i64 cl, .int .i64 cn, .slice Ar nr cr, .slice Ap np cp, .slice Ak nk ck, .slice Av nv cv, .slice As ns cs, .slice Aw nw cw] 31)));have hcb := heap_alloc_new (w.alloc (.cells #[.int .i64 N.pl, .slice A n c, .int .i64 N.src, .int .i64 N.snk] 24)) (.cells #[.int .i64 cl, .int .i64 cn, .slice Ar nr cr, .slice Ap np cp, .slice Ak nk ck, .slice Av nv cv, .slice As ns cs, .slice Aw nw cw] 31);rw [World.size_alloc] at hcb;have HCb0 := hid (show CtB _ (w.heap.size + 1) #[.int .i64 cl, .int .i64 cn, .slice Ar nr cr, .slice Ap np cp, .slice Ak nk ck, .slice Av nv cv, .slice As ns cs, .slice Aw nw cw] from hcb);have HIn0 := hid (h.below HB0.out);have HC0 := hid (hC.below HB0.out);have HNl := hid hn;have HV := hid hv;have hps := nt_small hv;have hn60 : n ≤ 60 := by omega
 obtain ⟨Q, hQ⟩ : ∃ Q, Q = unsR N cn R P K := ⟨_, rfl⟩;rw [← hQ];unfold unsR at hQ;have HQ := hid hQ;have hpl1 : 1 ≤ N.pl := hps.1;have hpl40 : N.pl ≤ 40 := hps.2.1;have hpls := nt_src hv;have HFl := hid (fin_len hv);have hfl : (finM N).length ≤ 40 := by have := HFl.out; omega
 clear h hn hv hC hps hcb hQ;go_enter Tryz.func135, Tryz.ntmps135;go_wp2_with fail;generalize (w.alloc (.cells #[.int .i64 N.pl, .slice A n c, .int .i64 N.src, .int .i64 N.snk] 24)).alloc (.cells #[.int .i64 cl, .int .i64 cn, .slice Ar nr cr, .slice Ap np cp, .slice Ak nk ck, .slice Av nv cv, .slice As ns cs, .slice Aw nw cw] 31) = w0 at *;generalize w.heap.size + 1 = cb at *;have HFn := hid (fin28_any N A n c HV.out w0);obtain ⟨b0, b1, b2, b3⟩ := HNb0.out.cells;obtain ⟨d0, d1, d2, d3, d4, d5, d6, d7⟩ := HCb0.out.cells;go_wp2_with fail;((with_reducible refine HFn.out.mono ?_); rintro e w1 ⟨v1, rfl, hS1⟩)
 obtain ⟨Af, cf, rfl⟩ := hS1.slice;have hb1 := hS1.2;have HF1 := hid (show ZIn w1 Af (finM N) by obtain ⟨A', c', e, hz, _⟩ := hS1.zin; cases e; exact hz);have HB1 := hid (HB0.out.trans (hb1.mono HB0.out.size));have HNb1 := hid (HNb0.out.below hb1);have HCb1 := hid (HCb0.out.below hb1);have HIn1 := hid (HIn0.out.below hb1);have HC1 := hid (HC0.out.below hb1);clear HB0 HNb0 HCb0 HIn0 HC0;clear hS1 hb1 HFn b0 b1 b2 b3 d0 d1 d2 d3 d4 d5 d6 d7;go_wp2_with fail;by_cases hr : (runI N R).2.2 = 0;rotate_left
 · rw [decide_eq_false hr] at HQ;obtain ⟨b0, b1, b2, b3⟩ := HNb1.out.cells;obtain ⟨d0, d1, d2, d3, d4, d5, d6, d7⟩ := HCb1.out.cells;have hbd : Below w1.heap.size w1 w1.drew := (Below.refl _ _).drew;have HB2 := hid (HB1.out.trans (hbd.mono HB1.out.size));have HNb2 := hid (HNb1.out.below hbd);have HCb2 := hid (HCb1.out.below hbd);have HIn2 := hid (HIn1.out.below hbd);have HC2 := hid (HC1.out.below hbd);have HF2 := hid (HF1.out.below hbd);have hS0 := cs12 hbd b0 b1 b2 b3 d0 d1 d2 d3 d4 d5 d6 d7;refine rh12 hS0 (fun hHeld => ?_);clear hS0 hbd b0 b1 b2 b3 d0 d1 d2 d3 d4 d5 d6 d7;clear HB1 HNb1 HCb1 HIn1 HC1 HF1;generalize w1.drew = w2 at *;refine tkH 0 ?_;(try go_simp);refine tkH 1 ?_;(try go_simp);refine tkH 3 ?_;(try go_simp);refine tkH 4 ?_;(try go_simp);refine tkR 2 (fun K9 hK => ?_);go_simp;((refine (ini28_any N A n c HV.out w2).mono ?_); rintro e w3 ⟨v3, rfl, hS3⟩)
   obtain ⟨A3, c3, rfl⟩ := hS3.slice;have hb3 := hS3.2;have hS9 := hHeld;refine hK.out _ _ (ks12 hb3 hS9) (fun hHeld => ?_);clear hK K9 hS9;try go_simp
   have HB3 := hid (HB2.out.trans (hb3.mono HB2.out.size));have HNb3 := hid (HNb2.out.below hb3);have HCb3 := hid (HCb2.out.below hb3);have HIn3 := hid (HIn2.out.below hb3);have HC3 := hid (HC2.out.below hb3);have HF3 := hid (HF2.out.below hb3);clear HB2 HNb2 HCb2 HIn2 HC2 HF2;have HI3 := hid (show ZIn w3 A3 (iniM N) by obtain ⟨A', c', e, hz, _⟩ := hS3.zin; cases e; exact hz);clear hS3 hb3;refine tkR 5 (fun K9 hK => ?_);go_simp;have HRn := hid (run28_any N A n c A3 (iniM N).length c3 (iniM N) Ar nr cr R w3 HIn3.out HNl.out (by omega) HI3.out rfl (by have := ini_len HV.out; omega) HC3.out.r HC3.out.rl);rw [show run21 N (iniM N) R = runI N R from rfl] at HRn;((refine (vr_no HRn.out hr).mono ?_); rintro e w4 ⟨rfl, hb4⟩)
   have hS9 := hHeld;refine hK.out _ _ (ks12 hb4 hS9) (fun hHeld => ?_);clear hK K9 hS9;try go_simp
   have HB4 := hid (HB3.out.trans (hb4.mono HB3.out.size));have HNb4 := hid (HNb3.out.below hb4);have HCb4 := hid (HCb3.out.below hb4);have HIn4 := hid (HIn3.out.below hb4);have HC4 := hid (HC3.out.below hb4);have HF4 := hid (HF3.out.below hb4);clear HB3 HNb3 HCb3 HIn3 HC3 HF3;clear HRn;clear hb4;refine tkH 6 ?_;(try go_simp);refine tkH 7 ?_;(try go_simp);refine tkH 8 ?_;(try go_simp);refine tkH 9 ?_;(try go_simp);refine tkH 10 ?_;(try go_simp);refine wpAnyH_done (by kernel_rfl) ?_ _;clear hHeld;clear hr;by_cases hp0 : np = 0;rotate_left
   · rw [emp_no HC4.out.pl hp0] at HQ;have q1 : decide ((0 : Int) < (np : Int)) = true := by simp; omega
     have q2 : 0 < np := by omega
     clear hp0;obtain ⟨b0, b1, b2, b3⟩ := HNb4.out.cells;obtain ⟨d0, d1, d2, d3, d4, d5, d6, d7⟩ := HCb4.out.cells;go_wp2_with fail;go_ret;exact ⟨ret_bool (by rw [HQ.out]; try first | rfl | simp), HB4.out⟩
   rw [emp_yes HC4.out.pl hp0, if_pos rfl] at HQ;have q1 : decide ((0 : Int) < (np : Int)) = false := by simp; omega
   have q2 : ¬ 0 < np := by omega
   clear hp0;by_cases hk0 : nk = 0
   · rw [emp_yes HC4.out.kl hk0, if_pos rfl] at HQ;have q3 : ((nk : Int) == 0) = true := by simp [hk0]
     clear hk0;obtain ⟨b0, b1, b2, b3⟩ := HNb4.out.cells;obtain ⟨d0, d1, d2, d3, d4, d5, d6, d7⟩ := HCb4.out.cells;go_wp2_with fail;go_ret;exact ⟨ret_bool (by rw [HQ.out]; try first | rfl | simp), HB4.out⟩
   rw [emp_no HC4.out.kl hk0, if_neg (by simp), Bool.false_and, Bool.false_or] at HQ;have q3 : ((nk : Int) == 0) = false := by rw [beq_eq_false_iff_ne]; omega
   clear hk0;by_cases hr0 : nr = 0;rotate_left
   · have p0 : ((nr : Int) == 0) = false := by rw [beq_eq_false_iff_ne]; omega
     rw [emp_no HC4.out.rl hr0] at HQ;clear hr0;obtain ⟨b0, b1, b2, b3⟩ := HNb4.out.cells;obtain ⟨d0, d1, d2, d3, d4, d5, d6, d7⟩ := HCb4.out.cells;go_wp2_with fail;go_ret;exact ⟨ret_bool (by rw [HQ.out]; try first | rfl | simp), HB4.out⟩
   have p0 : ((nr : Int) == 0) = true := by simp [hr0]
   rw [emp_yes HC4.out.rl hr0] at HQ;clear hr0;have HMs := hid (mks28_any N A n c Ak nk ck K true w4 hpl1 (by omega) HC4.out.k HC4.out.kl HC4.out.kb);rw [decide_eq_true (show K.length ≤ 2000 by have := HC4.out.kl; omega), Bool.true_and] at HMs;cases hme : mksX N.pl true K with
   | false =>
    rw [hme] at HMs HQ;clear hme;obtain ⟨b0, b1, b2, b3⟩ := HNb4.out.cells;obtain ⟨d0, d1, d2, d3, d4, d5, d6, d7⟩ := HCb4.out.cells;go_wp2_with fail;((with_reducible refine (HMs.out).mono ?_); rintro e w5 ⟨rfl, hb5⟩)
    have HB5 := hid (HB4.out.trans (hb5.mono HB4.out.size));clear hb5 b0 b1 b2 b3 d0 d1 d2 d3 d4 d5 d6 d7;go_wp2_with fail;go_ret;exact ⟨ret_bool (by rw [HQ.out]; try first | rfl | simp), HB5.out⟩
   | true =>
    rw [hme] at HMs HQ;have HAl := hid (show ∀ s ∈ K, mkX N.pl true s = true from List.all_eq_true.1 hme);clear hme;obtain ⟨b0, b1, b2, b3⟩ := HNb4.out.cells;obtain ⟨d0, d1, d2, d3, d4, d5, d6, d7⟩ := HCb4.out.cells;go_wp2_with fail;((with_reducible refine (HMs.out).mono ?_); rintro e w5 ⟨rfl, hb5⟩)
    have HB5 := hid (HB4.out.trans (hb5.mono HB4.out.size));have HNb5 := hid (HNb4.out.below hb5);have HCb5 := hid (HCb4.out.below hb5);have HIn5 := hid (HIn4.out.below hb5);have HC5 := hid (HC4.out.below hb5);have HF5 := hid (HF4.out.below hb5);clear HB4 HNb4 HCb4 HIn4 HC4 HF4;clear hb5 b0 b1 b2 b3 d0 d1 d2 d3 d4 d5 d6 d7;have HCv := hid (covers28_any N A n c Ak nk ck K w5 HIn5.out HNl.out HV.out HC5.out.k HC5.out.kl HC5.out.kb HAl.out);cases hcv : covX N K with
    | false =>
     rw [hcv] at HCv HQ;clear hcv;obtain ⟨b0, b1, b2, b3⟩ := HNb5.out.cells;obtain ⟨d0, d1, d2, d3, d4, d5, d6, d7⟩ := HCb5.out.cells;go_wp2_with fail;((with_reducible refine (HCv.out).mono ?_); rintro e w6 ⟨rfl, hb6⟩)
     have HB6 := hid (HB5.out.trans (hb6.mono HB5.out.size));clear hb6 b0 b1 b2 b3 d0 d1 d2 d3 d4 d5 d6 d7;go_wp2_with fail;go_ret;exact ⟨ret_bool (by rw [HQ.out]; try first | rfl | simp), HB6.out⟩
    | true =>
     rw [hcv] at HCv HQ;clear hcv;obtain ⟨b0, b1, b2, b3⟩ := HNb5.out.cells;obtain ⟨d0, d1, d2, d3, d4, d5, d6, d7⟩ := HCb5.out.cells;go_wp2_with fail;((with_reducible refine (HCv.out).mono ?_); rintro e w6 ⟨rfl, hb6⟩)
     have HB6 := hid (HB5.out.trans (hb6.mono HB5.out.size));have HNb6 := hid (HNb5.out.below hb6);have HCb6 := hid (HCb5.out.below hb6);have HIn6 := hid (HIn5.out.below hb6);have HC6 := hid (HC5.out.below hb6);have HF6 := hid (HF5.out.below hb6);clear HB5 HNb5 HCb5 HIn5 HC5 HF5;clear hb6 b0 b1 b2 b3 d0 d1 d2 d3 d4 d5 d6 d7;have HNv := hid (never28_any N A n c Ak nk ck K cn w6 HIn6.out HNl.out HV.out HC6.out.k HC6.out.kl HC6.out.kb (fun s hs => mkX_len (HAl.out s hs)));generalize nevB N K cn = nv0 at *;obtain ⟨b0, b1, b2, b3⟩ := HNb6.out.cells;obtain ⟨d0, d1, d2, d3, d4, d5, d6, d7⟩ := HCb6.out.cells;go_wp2_with fail;((with_reducible refine (HNv.out).mono ?_); rintro e w7 ⟨rfl, hb7⟩)
     have HB7 := hid (HB6.out.trans (hb7.mono HB6.out.size));clear hb7 b0 b1 b2 b3 d0 d1 d2 d3 d4 d5 d6 d7;go_wp2_with fail;go_ret;exact ⟨ret_bool (by rw [HQ.out]; try first | rfl | simp), HB7.out⟩
 rw [decide_eq_true hr] at HQ;have HMx := hid (show mkB N (runI N R).1 = true from run21_mk hr);obtain ⟨b0, b1, b2, b3⟩ := HNb1.out.cells;obtain ⟨d0, d1, d2, d3, d4, d5, d6, d7⟩ := HCb1.out.cells;have hbd : Below w1.heap.size w1 w1.drew := (Below.refl _ _).drew;have HB2 := hid (HB1.out.trans (hbd.mono HB1.out.size));have HNb2 := hid (HNb1.out.below hbd);have HCb2 := hid (HCb1.out.below hbd);have HIn2 := hid (HIn1.out.below hbd);have HC2 := hid (HC1.out.below hbd);have HF2 := hid (HF1.out.below hbd);have hS0 := cs12 hbd b0 b1 b2 b3 d0 d1 d2 d3 d4 d5 d6 d7;refine rh12 hS0 (fun hHeld => ?_);clear hS0 hbd b0 b1 b2 b3 d0 d1 d2 d3 d4 d5 d6 d7;clear HB1 HNb1 HCb1 HIn1 HC1 HF1;generalize w1.drew = w2 at *;refine tkH 0 ?_;(try go_simp);refine tkH 1 ?_;(try go_simp);refine tkH 3 ?_;(try go_simp);refine tkH 4 ?_;(try go_simp);refine tkR 2 (fun K9 hK => ?_);go_simp;((refine (ini28_any N A n c HV.out w2).mono ?_); rintro e w3 ⟨v3, rfl, hS3⟩)
 obtain ⟨A3, c3, rfl⟩ := hS3.slice;have hb3 := hS3.2;have hS9 := hHeld;refine hK.out _ _ (ks12 hb3 hS9) (fun hHeld => ?_);clear hK K9 hS9;try go_simp
 have HB3 := hid (HB2.out.trans (hb3.mono HB2.out.size));have HNb3 := hid (HNb2.out.below hb3);have HCb3 := hid (HCb2.out.below hb3);have HIn3 := hid (HIn2.out.below hb3);have HC3 := hid (HC2.out.below hb3);have HF3 := hid (HF2.out.below hb3);clear HB2 HNb2 HCb2 HIn2 HC2 HF2;have HI3 := hid (show ZIn w3 A3 (iniM N) by obtain ⟨A', c', e, hz, _⟩ := hS3.zin; cases e; exact hz);clear hS3 hb3;refine tkR 5 (fun K9 hK => ?_);go_simp;have HRn := hid (run28_any N A n c A3 (iniM N).length c3 (iniM N) Ar nr cr R w3 HIn3.out HNl.out (by omega) HI3.out rfl (by have := ini_len HV.out; omega) HC3.out.r HC3.out.rl);rw [show run21 N (iniM N) R = runI N R from rfl] at HRn;((refine (vr_yes HRn.out hr).mono ?_); rintro e w4 ⟨v4, rfl, hS4⟩)
 obtain ⟨A4, c4, rfl⟩ := hS4.slice;have hb4 := hS4.2;have hS9 := hHeld;refine hK.out _ _ (ks12 hb4 hS9) (fun hHeld => ?_);clear hK K9 hS9;try go_simp
 have HB4 := hid (HB3.out.trans (hb4.mono HB3.out.size));have HNb4 := hid (HNb3.out.below hb4);have HCb4 := hid (HCb3.out.below hb4);have HIn4 := hid (HIn3.out.below hb4);have HC4 := hid (HC3.out.below hb4);have HF4 := hid (HF3.out.below hb4);clear HB3 HNb3 HCb3 HIn3 HC3 HF3;have HZ4 := hid (show ZIn w4 A4 (runI N R).1 by obtain ⟨A', c', e, hz, _⟩ := hS4.zin; cases e; exact hz);clear HRn;clear hS4 hb4;refine tkH 6 ?_;(try go_simp);refine tkH 7 ?_;(try go_simp);refine tkH 8 ?_;(try go_simp);refine tkH 9 ?_;(try go_simp);refine tkH 10 ?_;(try go_simp);refine wpAnyH_done (by kernel_rfl) ?_ _;clear hHeld;clear hr;generalize (runI N R).1 = Y at *;have HYp := hid (mk_len HMx.out);have hyl : Y.length ≤ 40 := by have := HYp.out; omega
 have HZ0 := HZ4;by_cases hp0 : np = 0;rotate_left
 · rw [emp_no HC4.out.pl hp0, if_neg (by simp), Bool.true_and] at HQ;have q1 : decide ((0 : Int) < (np : Int)) = true := by simp; omega
   have q2 : 0 < np := by omega
   have HR2 := hid (run28_any N A n c A4 Y.length c4 Y Ap np cp P w4 HIn4.out HNl.out (by omega) HZ4.out rfl (by omega) HC4.out.p HC4.out.pl);clear hp0;obtain ⟨b0, b1, b2, b3⟩ := HNb4.out.cells;obtain ⟨d0, d1, d2, d3, d4, d5, d6, d7⟩ := HCb4.out.cells;by_cases hr2 : (run21 N Y P).2.2 = 0;rotate_left
   · rw [decide_eq_false hr2] at HQ;have HR3 := hid (vr_no HR2.out hr2);clear HR2 hr2;go_wp2_with fail;((with_reducible refine HR3.out.mono ?_); rintro e w5 ⟨rfl, hb5⟩)
     have HB5 := hid (HB4.out.trans (hb5.mono HB4.out.size));clear b0 b1 b2 b3 d0 d1 d2 d3 d4 d5 d6 d7;go_wp2_with fail;go_ret;exact ⟨ret_bool (by rw [HQ.out]; rfl), HB5.out⟩
   rw [decide_eq_true hr2, Bool.true_and] at HQ;have HR3 := hid (vr_yes HR2.out hr2);have HMz := hid (run21_mk hr2);clear HR2 hr2;generalize (run21 N Y P).1 = Z at *;have hzl : Z.length ≤ 40 := by have := mk_len HMz.out; omega
   have hyz : Y.length ≤ Z.length := by have := mk_len HMz.out; have := HYp.out; omega
   go_wp2_with fail;((with_reducible refine HR3.out.mono ?_); rintro e w5 ⟨v5, rfl, hS5⟩)
   obtain ⟨A5, c5, rfl⟩ := hS5.slice;have hb5 := hS5.2;have HB5 := hid (HB4.out.trans (hb5.mono HB4.out.size));have HZ5 := hid (show ZIn w5 A5 Z by obtain ⟨A', c', e, hz, _⟩ := hS5.zin; cases e; exact hz);have HY5 := hid (HZ4.out.below hb5);have HMo := hid (atmost_any A4 Y.length c4 A5 Z.length c5 Y Z w5 HY5.out rfl HZ5.out rfl (by omega) (by omega));clear hS5 hb5 HR3 b0 b1 b2 b3 d0 d1 d2 d3 d4 d5 d6 d7;cases ha : atMost Y Z with
   | false =>
    rw [ha] at HMo HQ;clear ha;go_wp2_with fail;((with_reducible refine HMo.out.mono ?_); rintro e w6 ⟨rfl, hb6⟩)
    have HB6 := hid (HB5.out.trans (hb6.mono HB5.out.size));go_wp2_with fail;go_ret;exact ⟨ret_bool (by rw [HQ.out]; rfl), HB6.out⟩
   | true =>
    rw [ha] at HMo HQ;clear ha;go_wp2_with fail;((with_reducible refine HMo.out.mono ?_); rintro e w6 ⟨rfl, hb6⟩)
    have HB6 := hid (HB5.out.trans (hb6.mono HB5.out.size));have HEq := hid (same_any A4 Y.length c4 A5 Z.length c5 Y Z w6 (HY5.out.below hb6) rfl (HZ5.out.below hb6) rfl (by omega));generalize decide (Y = Z) = eq at *;clear hb6;go_wp2_with fail;((with_reducible refine HEq.out.mono ?_); rintro e w7 ⟨rfl, hb7⟩)
    have HB7 := hid (HB6.out.trans (hb7.mono HB6.out.size));go_wp2_with fail;go_ret;exact ⟨ret_bool (by rw [HQ.out]; rfl), HB7.out⟩
 rw [emp_yes HC4.out.pl hp0, if_pos rfl] at HQ;have q1 : decide ((0 : Int) < (np : Int)) = false := by simp; omega
 have q2 : ¬ 0 < np := by omega
 clear hp0;by_cases hk0 : nk = 0
 · rw [emp_yes HC4.out.kl hk0, if_pos rfl, Bool.true_and] at HQ;have q3 : ((nk : Int) == 0) = true := by simp [hk0]
   obtain ⟨sk, hsk⟩ := Int.eq_ofNat_of_zero_le hpls.2.2.1;have HSk := hid hsk;have hsl : sk < Y.length := by have := HYp.out; omega
   obtain ⟨ay, hay, hpy, y0⟩ := HZ4.out sk hsl;subst hay;rw [hsk, Int.toNat_natCast, show Y.getD sk 0 = Y[sk] by simp [hsl]] at HQ;have HEq := hid (same_any (some ay) Y.length c4 Af (finM N).length cf Y (finM N) w4 HZ4.out rfl HF4.out rfl (by omega));generalize Y[sk] = y at *;generalize decide (Y = finM N) = eq at *;have hsk0 : (0 : Int) ≤ (sk : Int) := by omega
   have hsk1 : (sk : Int) < (Y.length : Int) := by omega
   obtain ⟨b0, b1, b2, b3⟩ := HNb4.out.cells;obtain ⟨d0, d1, d2, d3, d4, d5, d6, d7⟩ := HCb4.out.cells;rw [hsk] at b3;clear hk0 hsk;by_cases hy : 0 < y
   · have q4 : decide (0 < y) = true := by simpa using hy
     rw [q4, Bool.true_and] at HQ;clear hy;go_wp2_with fail;((with_reducible refine HEq.out.mono ?_); rintro e w5 ⟨rfl, hb5⟩)
     have HB5 := hid (HB4.out.trans (hb5.mono HB4.out.size));clear b0 b1 b2 b3 d0 d1 d2 d3 d4 d5 d6 d7 y0;go_wp2_with fail;go_ret;exact ⟨ret_bool (by rw [HQ.out]), HB5.out⟩
   · have q4 : decide (0 < y) = false := by simpa using hy
     rw [q4] at HQ;clear hy;go_wp2_with fail;go_ret;exact ⟨ret_bool (by rw [HQ.out]; rfl), HB4.out⟩
 rw [emp_no HC4.out.kl hk0, if_neg (by simp), Bool.true_and] at HQ;have q3 : ((nk : Int) == 0) = false := by rw [beq_eq_false_iff_ne]; omega
 clear hk0;have HMs := hid (mks28_any N A n c Ak nk ck K false w4 hpl1 (by omega) HC4.out.k HC4.out.kl HC4.out.kb);rw [decide_eq_true (show K.length ≤ 2000 by have := HC4.out.kl; omega), Bool.true_and] at HMs;cases hme : mksX N.pl false K with
 | false =>
  rw [hme, Bool.false_and, Bool.false_or] at HQ;rw [hme] at HMs;clear hme;obtain ⟨b0, b1, b2, b3⟩ := HNb4.out.cells;obtain ⟨d0, d1, d2, d3, d4, d5, d6, d7⟩ := HCb4.out.cells;go_wp2_with fail;((with_reducible refine (HMs.out).mono ?_); rintro e w5 ⟨rfl, hb5⟩)
  have HB5 := hid (HB4.out.trans (hb5.mono HB4.out.size));have HNb5 := hid (HNb4.out.below hb5);have HCb5 := hid (HCb4.out.below hb5);have HIn5 := hid (HIn4.out.below hb5);have HC5 := hid (HC4.out.below hb5);have HF5 := hid (HF4.out.below hb5);clear HB4 HNb4 HCb4 HIn4 HC4 HF4;clear hb5 b0 b1 b2 b3 d0 d1 d2 d3 d4 d5 d6 d7;by_cases hr0 : nr = 0;rotate_left
  · have p0 : ((nr : Int) == 0) = false := by rw [beq_eq_false_iff_ne]; omega
    rw [emp_no HC5.out.rl hr0] at HQ;clear hr0;obtain ⟨b0, b1, b2, b3⟩ := HNb5.out.cells;obtain ⟨d0, d1, d2, d3, d4, d5, d6, d7⟩ := HCb5.out.cells;go_wp2_with fail;go_ret;exact ⟨ret_bool (by rw [HQ.out]; try first | rfl | simp), HB5.out⟩
  have p0 : ((nr : Int) == 0) = true := by simp [hr0]
  rw [emp_yes HC5.out.rl hr0] at HQ;clear hr0;have HMs := hid (mks28_any N A n c Ak nk ck K true w5 hpl1 (by omega) HC5.out.k HC5.out.kl HC5.out.kb);rw [decide_eq_true (show K.length ≤ 2000 by have := HC5.out.kl; omega), Bool.true_and] at HMs;cases hme : mksX N.pl true K with
  | false =>
   rw [hme] at HMs HQ;clear hme;obtain ⟨b0, b1, b2, b3⟩ := HNb5.out.cells;obtain ⟨d0, d1, d2, d3, d4, d5, d6, d7⟩ := HCb5.out.cells;go_wp2_with fail;((with_reducible refine (HMs.out).mono ?_); rintro e w6 ⟨rfl, hb6⟩)
   have HB6 := hid (HB5.out.trans (hb6.mono HB5.out.size));clear hb6 b0 b1 b2 b3 d0 d1 d2 d3 d4 d5 d6 d7;go_wp2_with fail;go_ret;exact ⟨ret_bool (by rw [HQ.out]; try first | rfl | simp), HB6.out⟩
  | true =>
   rw [hme] at HMs HQ;have HAl := hid (show ∀ s ∈ K, mkX N.pl true s = true from List.all_eq_true.1 hme);clear hme;obtain ⟨b0, b1, b2, b3⟩ := HNb5.out.cells;obtain ⟨d0, d1, d2, d3, d4, d5, d6, d7⟩ := HCb5.out.cells;go_wp2_with fail;((with_reducible refine (HMs.out).mono ?_); rintro e w6 ⟨rfl, hb6⟩)
   have HB6 := hid (HB5.out.trans (hb6.mono HB5.out.size));have HNb6 := hid (HNb5.out.below hb6);have HCb6 := hid (HCb5.out.below hb6);have HIn6 := hid (HIn5.out.below hb6);have HC6 := hid (HC5.out.below hb6);have HF6 := hid (HF5.out.below hb6);clear HB5 HNb5 HCb5 HIn5 HC5 HF5;clear hb6 b0 b1 b2 b3 d0 d1 d2 d3 d4 d5 d6 d7;have HCv := hid (covers28_any N A n c Ak nk ck K w6 HIn6.out HNl.out HV.out HC6.out.k HC6.out.kl HC6.out.kb HAl.out);cases hcv : covX N K with
   | false =>
    rw [hcv] at HCv HQ;clear hcv;obtain ⟨b0, b1, b2, b3⟩ := HNb6.out.cells;obtain ⟨d0, d1, d2, d3, d4, d5, d6, d7⟩ := HCb6.out.cells;go_wp2_with fail;((with_reducible refine (HCv.out).mono ?_); rintro e w7 ⟨rfl, hb7⟩)
    have HB7 := hid (HB6.out.trans (hb7.mono HB6.out.size));clear hb7 b0 b1 b2 b3 d0 d1 d2 d3 d4 d5 d6 d7;go_wp2_with fail;go_ret;exact ⟨ret_bool (by rw [HQ.out]; try first | rfl | simp), HB7.out⟩
   | true =>
    rw [hcv] at HCv HQ;clear hcv;obtain ⟨b0, b1, b2, b3⟩ := HNb6.out.cells;obtain ⟨d0, d1, d2, d3, d4, d5, d6, d7⟩ := HCb6.out.cells;go_wp2_with fail;((with_reducible refine (HCv.out).mono ?_); rintro e w7 ⟨rfl, hb7⟩)
    have HB7 := hid (HB6.out.trans (hb7.mono HB6.out.size));have HNb7 := hid (HNb6.out.below hb7);have HCb7 := hid (HCb6.out.below hb7);have HIn7 := hid (HIn6.out.below hb7);have HC7 := hid (HC6.out.below hb7);have HF7 := hid (HF6.out.below hb7);clear HB6 HNb6 HCb6 HIn6 HC6 HF6;clear hb7 b0 b1 b2 b3 d0 d1 d2 d3 d4 d5 d6 d7;have HNv := hid (never28_any N A n c Ak nk ck K cn w7 HIn7.out HNl.out HV.out HC7.out.k HC7.out.kl HC7.out.kb (fun s hs => mkX_len (HAl.out s hs)));generalize nevB N K cn = nv0 at *;obtain ⟨b0, b1, b2, b3⟩ := HNb7.out.cells;obtain ⟨d0, d1, d2, d3, d4, d5, d6, d7⟩ := HCb7.out.cells;go_wp2_with fail;((with_reducible refine (HNv.out).mono ?_); rintro e w8 ⟨rfl, hb8⟩)
    have HB8 := hid (HB7.out.trans (hb8.mono HB7.out.size));clear hb8 b0 b1 b2 b3 d0 d1 d2 d3 d4 d5 d6 d7;go_wp2_with fail;go_ret;exact ⟨ret_bool (by rw [HQ.out]; try first | rfl | simp), HB8.out⟩
 | true =>
  rw [hme, Bool.true_and] at HQ;rw [hme] at HMs;have HAll := hid (show ∀ s ∈ K, mkX N.pl false s = true from List.all_eq_true.1 hme);clear hme;obtain ⟨b0, b1, b2, b3⟩ := HNb4.out.cells;obtain ⟨d0, d1, d2, d3, d4, d5, d6, d7⟩ := HCb4.out.cells;go_wp2_with fail;((with_reducible refine (HMs.out).mono ?_); rintro e w5 ⟨rfl, hb5⟩)
  have HB5 := hid (HB4.out.trans (hb5.mono HB4.out.size));have HNb5 := hid (HNb4.out.below hb5);have HCb5 := hid (HCb4.out.below hb5);have HIn5 := hid (HIn4.out.below hb5);have HC5 := hid (HC4.out.below hb5);have HF5 := hid (HF4.out.below hb5);have HZ5 := hid (HZ4.out.below hb5);clear HB4 HNb4 HCb4 HIn4 HC4 HF4 HZ4;clear hb5 b0 b1 b2 b3 d0 d1 d2 d3 d4 d5 d6 d7;have HAt := hid (at28_any Ak nk ck K A4 Y.length c4 Y w5 HC5.out.k HC5.out.kl HC5.out.kb HZ5.out rfl);by_cases hf : findR K Y < 0
  · rw [decide_eq_true hf, Bool.not_true, Bool.false_and, Bool.false_or] at HQ;have q4 : decide (0 ≤ findR K Y) = false := by simp; omega
    generalize findR K Y = fi at *;clear hf;obtain ⟨b0, b1, b2, b3⟩ := HNb5.out.cells;obtain ⟨d0, d1, d2, d3, d4, d5, d6, d7⟩ := HCb5.out.cells;go_wp2_with fail;((with_reducible refine (HAt.out).mono ?_); rintro e w6 ⟨rfl, hb6⟩)
    have HB6 := hid (HB5.out.trans (hb6.mono HB5.out.size));have HNb6 := hid (HNb5.out.below hb6);have HCb6 := hid (HCb5.out.below hb6);have HIn6 := hid (HIn5.out.below hb6);have HC6 := hid (HC5.out.below hb6);have HF6 := hid (HF5.out.below hb6);clear HB5 HNb5 HCb5 HIn5 HC5 HF5;clear hb6 b0 b1 b2 b3 d0 d1 d2 d3 d4 d5 d6 d7;by_cases hr0 : nr = 0;rotate_left
    · have p0 : ((nr : Int) == 0) = false := by rw [beq_eq_false_iff_ne]; omega
      rw [emp_no HC6.out.rl hr0] at HQ;clear hr0;obtain ⟨b0, b1, b2, b3⟩ := HNb6.out.cells;obtain ⟨d0, d1, d2, d3, d4, d5, d6, d7⟩ := HCb6.out.cells;go_wp2_with fail;go_ret;exact ⟨ret_bool (by rw [HQ.out]; try first | rfl | simp), HB6.out⟩
    have p0 : ((nr : Int) == 0) = true := by simp [hr0]
    rw [emp_yes HC6.out.rl hr0] at HQ;clear hr0;have HMs := hid (mks28_any N A n c Ak nk ck K true w6 hpl1 (by omega) HC6.out.k HC6.out.kl HC6.out.kb);rw [decide_eq_true (show K.length ≤ 2000 by have := HC6.out.kl; omega), Bool.true_and] at HMs;cases hme : mksX N.pl true K with
    | false =>
     rw [hme] at HMs HQ;clear hme;obtain ⟨b0, b1, b2, b3⟩ := HNb6.out.cells;obtain ⟨d0, d1, d2, d3, d4, d5, d6, d7⟩ := HCb6.out.cells;go_wp2_with fail;((with_reducible refine (HMs.out).mono ?_); rintro e w7 ⟨rfl, hb7⟩)
     have HB7 := hid (HB6.out.trans (hb7.mono HB6.out.size));clear hb7 b0 b1 b2 b3 d0 d1 d2 d3 d4 d5 d6 d7;go_wp2_with fail;go_ret;exact ⟨ret_bool (by rw [HQ.out]; try first | rfl | simp), HB7.out⟩
    | true =>
     rw [hme] at HMs HQ;have HAl := hid (show ∀ s ∈ K, mkX N.pl true s = true from List.all_eq_true.1 hme);clear hme;obtain ⟨b0, b1, b2, b3⟩ := HNb6.out.cells;obtain ⟨d0, d1, d2, d3, d4, d5, d6, d7⟩ := HCb6.out.cells;go_wp2_with fail;((with_reducible refine (HMs.out).mono ?_); rintro e w7 ⟨rfl, hb7⟩)
     have HB7 := hid (HB6.out.trans (hb7.mono HB6.out.size));have HNb7 := hid (HNb6.out.below hb7);have HCb7 := hid (HCb6.out.below hb7);have HIn7 := hid (HIn6.out.below hb7);have HC7 := hid (HC6.out.below hb7);have HF7 := hid (HF6.out.below hb7);clear HB6 HNb6 HCb6 HIn6 HC6 HF6;clear hb7 b0 b1 b2 b3 d0 d1 d2 d3 d4 d5 d6 d7;have HCv := hid (covers28_any N A n c Ak nk ck K w7 HIn7.out HNl.out HV.out HC7.out.k HC7.out.kl HC7.out.kb HAl.out);cases hcv : covX N K with
     | false =>
      rw [hcv] at HCv HQ;clear hcv;obtain ⟨b0, b1, b2, b3⟩ := HNb7.out.cells;obtain ⟨d0, d1, d2, d3, d4, d5, d6, d7⟩ := HCb7.out.cells;go_wp2_with fail;((with_reducible refine (HCv.out).mono ?_); rintro e w8 ⟨rfl, hb8⟩)
      have HB8 := hid (HB7.out.trans (hb8.mono HB7.out.size));clear hb8 b0 b1 b2 b3 d0 d1 d2 d3 d4 d5 d6 d7;go_wp2_with fail;go_ret;exact ⟨ret_bool (by rw [HQ.out]; try first | rfl | simp), HB8.out⟩
     | true =>
      rw [hcv] at HCv HQ;clear hcv;obtain ⟨b0, b1, b2, b3⟩ := HNb7.out.cells;obtain ⟨d0, d1, d2, d3, d4, d5, d6, d7⟩ := HCb7.out.cells;go_wp2_with fail;((with_reducible refine (HCv.out).mono ?_); rintro e w8 ⟨rfl, hb8⟩)
      have HB8 := hid (HB7.out.trans (hb8.mono HB7.out.size));have HNb8 := hid (HNb7.out.below hb8);have HCb8 := hid (HCb7.out.below hb8);have HIn8 := hid (HIn7.out.below hb8);have HC8 := hid (HC7.out.below hb8);have HF8 := hid (HF7.out.below hb8);clear HB7 HNb7 HCb7 HIn7 HC7 HF7;clear hb8 b0 b1 b2 b3 d0 d1 d2 d3 d4 d5 d6 d7;have HNv := hid (never28_any N A n c Ak nk ck K cn w8 HIn8.out HNl.out HV.out HC8.out.k HC8.out.kl HC8.out.kb (fun s hs => mkX_len (HAl.out s hs)));generalize nevB N K cn = nv0 at *;obtain ⟨b0, b1, b2, b3⟩ := HNb8.out.cells;obtain ⟨d0, d1, d2, d3, d4, d5, d6, d7⟩ := HCb8.out.cells;go_wp2_with fail;((with_reducible refine (HNv.out).mono ?_); rintro e w9 ⟨rfl, hb9⟩)
      have HB9 := hid (HB8.out.trans (hb9.mono HB8.out.size));clear hb9 b0 b1 b2 b3 d0 d1 d2 d3 d4 d5 d6 d7;go_wp2_with fail;go_ret;exact ⟨ret_bool (by rw [HQ.out]; try first | rfl | simp), HB9.out⟩
  rw [decide_eq_false hf, Bool.not_false, Bool.true_and] at HQ;have q4 : decide (0 ≤ findR K Y) = true := by simp; omega
  generalize findR K Y = fi at *;clear hf;obtain ⟨b0, b1, b2, b3⟩ := HNb5.out.cells;obtain ⟨d0, d1, d2, d3, d4, d5, d6, d7⟩ := HCb5.out.cells;go_wp2_with fail;((with_reducible refine (HAt.out).mono ?_); rintro e w6 ⟨rfl, hb6⟩)
  have HB6 := hid (HB5.out.trans (hb6.mono HB5.out.size));have HNb6 := hid (HNb5.out.below hb6);have HCb6 := hid (HCb5.out.below hb6);have HIn6 := hid (HIn5.out.below hb6);have HC6 := hid (HC5.out.below hb6);have HF6 := hid (HF5.out.below hb6);clear HB5 HNb5 HCb5 HIn5 HC5 HF5;clear hb6 b0 b1 b2 b3 d0 d1 d2 d3 d4 d5 d6 d7;have HCl := hid (closed28_any N A n c Ak nk ck K w6 HIn6.out HNl.out HV.out HC6.out.k HC6.out.kl HC6.out.kb HAll.out);cases hcl : closX N K with
  | false =>
   rw [hcl, Bool.false_and, Bool.false_or] at HQ;rw [hcl] at HCl;clear hcl;obtain ⟨b0, b1, b2, b3⟩ := HNb6.out.cells;obtain ⟨d0, d1, d2, d3, d4, d5, d6, d7⟩ := HCb6.out.cells;go_wp2_with fail;((with_reducible refine (HCl.out).mono ?_); rintro e w7 ⟨rfl, hb7⟩)
   have HB7 := hid (HB6.out.trans (hb7.mono HB6.out.size));have HNb7 := hid (HNb6.out.below hb7);have HCb7 := hid (HCb6.out.below hb7);have HIn7 := hid (HIn6.out.below hb7);have HC7 := hid (HC6.out.below hb7);have HF7 := hid (HF6.out.below hb7);clear HB6 HNb6 HCb6 HIn6 HC6 HF6;clear hb7 b0 b1 b2 b3 d0 d1 d2 d3 d4 d5 d6 d7;by_cases hr0 : nr = 0;rotate_left
   · have p0 : ((nr : Int) == 0) = false := by rw [beq_eq_false_iff_ne]; omega
     rw [emp_no HC7.out.rl hr0] at HQ;clear hr0;obtain ⟨b0, b1, b2, b3⟩ := HNb7.out.cells;obtain ⟨d0, d1, d2, d3, d4, d5, d6, d7⟩ := HCb7.out.cells;go_wp2_with fail;go_ret;exact ⟨ret_bool (by rw [HQ.out]; try first | rfl | simp), HB7.out⟩
   have p0 : ((nr : Int) == 0) = true := by simp [hr0]
   rw [emp_yes HC7.out.rl hr0] at HQ;clear hr0;have HMs := hid (mks28_any N A n c Ak nk ck K true w7 hpl1 (by omega) HC7.out.k HC7.out.kl HC7.out.kb);rw [decide_eq_true (show K.length ≤ 2000 by have := HC7.out.kl; omega), Bool.true_and] at HMs;cases hme : mksX N.pl true K with
   | false =>
    rw [hme] at HMs HQ;clear hme;obtain ⟨b0, b1, b2, b3⟩ := HNb7.out.cells;obtain ⟨d0, d1, d2, d3, d4, d5, d6, d7⟩ := HCb7.out.cells;go_wp2_with fail;((with_reducible refine (HMs.out).mono ?_); rintro e w8 ⟨rfl, hb8⟩)
    have HB8 := hid (HB7.out.trans (hb8.mono HB7.out.size));clear hb8 b0 b1 b2 b3 d0 d1 d2 d3 d4 d5 d6 d7;go_wp2_with fail;go_ret;exact ⟨ret_bool (by rw [HQ.out]; try first | rfl | simp), HB8.out⟩
   | true =>
    rw [hme] at HMs HQ;have HAl := hid (show ∀ s ∈ K, mkX N.pl true s = true from List.all_eq_true.1 hme);clear hme;obtain ⟨b0, b1, b2, b3⟩ := HNb7.out.cells;obtain ⟨d0, d1, d2, d3, d4, d5, d6, d7⟩ := HCb7.out.cells;go_wp2_with fail;((with_reducible refine (HMs.out).mono ?_); rintro e w8 ⟨rfl, hb8⟩)
    have HB8 := hid (HB7.out.trans (hb8.mono HB7.out.size));have HNb8 := hid (HNb7.out.below hb8);have HCb8 := hid (HCb7.out.below hb8);have HIn8 := hid (HIn7.out.below hb8);have HC8 := hid (HC7.out.below hb8);have HF8 := hid (HF7.out.below hb8);clear HB7 HNb7 HCb7 HIn7 HC7 HF7;clear hb8 b0 b1 b2 b3 d0 d1 d2 d3 d4 d5 d6 d7;have HCv := hid (covers28_any N A n c Ak nk ck K w8 HIn8.out HNl.out HV.out HC8.out.k HC8.out.kl HC8.out.kb HAl.out);cases hcv : covX N K with
    | false =>
     rw [hcv] at HCv HQ;clear hcv;obtain ⟨b0, b1, b2, b3⟩ := HNb8.out.cells;obtain ⟨d0, d1, d2, d3, d4, d5, d6, d7⟩ := HCb8.out.cells;go_wp2_with fail;((with_reducible refine (HCv.out).mono ?_); rintro e w9 ⟨rfl, hb9⟩)
     have HB9 := hid (HB8.out.trans (hb9.mono HB8.out.size));clear hb9 b0 b1 b2 b3 d0 d1 d2 d3 d4 d5 d6 d7;go_wp2_with fail;go_ret;exact ⟨ret_bool (by rw [HQ.out]; try first | rfl | simp), HB9.out⟩
    | true =>
     rw [hcv] at HCv HQ;clear hcv;obtain ⟨b0, b1, b2, b3⟩ := HNb8.out.cells;obtain ⟨d0, d1, d2, d3, d4, d5, d6, d7⟩ := HCb8.out.cells;go_wp2_with fail;((with_reducible refine (HCv.out).mono ?_); rintro e w9 ⟨rfl, hb9⟩)
     have HB9 := hid (HB8.out.trans (hb9.mono HB8.out.size));have HNb9 := hid (HNb8.out.below hb9);have HCb9 := hid (HCb8.out.below hb9);have HIn9 := hid (HIn8.out.below hb9);have HC9 := hid (HC8.out.below hb9);have HF9 := hid (HF8.out.below hb9);clear HB8 HNb8 HCb8 HIn8 HC8 HF8;clear hb9 b0 b1 b2 b3 d0 d1 d2 d3 d4 d5 d6 d7;have HNv := hid (never28_any N A n c Ak nk ck K cn w9 HIn9.out HNl.out HV.out HC9.out.k HC9.out.kl HC9.out.kb (fun s hs => mkX_len (HAl.out s hs)));generalize nevB N K cn = nv0 at *;obtain ⟨b0, b1, b2, b3⟩ := HNb9.out.cells;obtain ⟨d0, d1, d2, d3, d4, d5, d6, d7⟩ := HCb9.out.cells;go_wp2_with fail;((with_reducible refine (HNv.out).mono ?_); rintro e w10 ⟨rfl, hb10⟩)
     have HB10 := hid (HB9.out.trans (hb10.mono HB9.out.size));clear hb10 b0 b1 b2 b3 d0 d1 d2 d3 d4 d5 d6 d7;go_wp2_with fail;go_ret;exact ⟨ret_bool (by rw [HQ.out]; try first | rfl | simp), HB10.out⟩
  | true =>
   rw [hcl, Bool.true_and] at HQ;rw [hcl] at HCl;clear hcl;obtain ⟨b0, b1, b2, b3⟩ := HNb6.out.cells;obtain ⟨d0, d1, d2, d3, d4, d5, d6, d7⟩ := HCb6.out.cells;go_wp2_with fail;((with_reducible refine (HCl.out).mono ?_); rintro e w7 ⟨rfl, hb7⟩)
   have HB7 := hid (HB6.out.trans (hb7.mono HB6.out.size));have HNb7 := hid (HNb6.out.below hb7);have HCb7 := hid (HCb6.out.below hb7);have HIn7 := hid (HIn6.out.below hb7);have HC7 := hid (HC6.out.below hb7);have HF7 := hid (HF6.out.below hb7);clear HB6 HNb6 HCb6 HIn6 HC6 HF6;clear hb7 b0 b1 b2 b3 d0 d1 d2 d3 d4 d5 d6 d7;have HAf := hid (at28_any Ak nk ck K Af (finM N).length cf (finM N) w7 HC7.out.k HC7.out.kl HC7.out.kb HF7.out rfl);by_cases hff : findR K (finM N) < 0
   · rw [decide_eq_true hff] at HQ;have q5 : decide (findR K (finM N) < 0) = true := by simpa using hff
     generalize findR K (finM N) = ff at *;clear hff;obtain ⟨b0, b1, b2, b3⟩ := HNb7.out.cells;obtain ⟨d0, d1, d2, d3, d4, d5, d6, d7⟩ := HCb7.out.cells;go_wp2_with fail;((with_reducible refine (HAf.out).mono ?_); rintro e w8 ⟨rfl, hb8⟩)
     have HB8 := hid (HB7.out.trans (hb8.mono HB7.out.size));clear hb8 b0 b1 b2 b3 d0 d1 d2 d3 d4 d5 d6 d7;go_wp2_with fail;go_ret;exact ⟨ret_bool (by rw [HQ.out]; try first | rfl | simp), HB8.out⟩
   · rw [decide_eq_false hff, Bool.false_or] at HQ;have q5 : decide (findR K (finM N) < 0) = false := by simpa using hff
     generalize findR K (finM N) = ff at *;clear hff;obtain ⟨b0, b1, b2, b3⟩ := HNb7.out.cells;obtain ⟨d0, d1, d2, d3, d4, d5, d6, d7⟩ := HCb7.out.cells;go_wp2_with fail;((with_reducible refine (HAf.out).mono ?_); rintro e w8 ⟨rfl, hb8⟩)
     have HB8 := hid (HB7.out.trans (hb8.mono HB7.out.size));have HNb8 := hid (HNb7.out.below hb8);have HCb8 := hid (HCb7.out.below hb8);have HIn8 := hid (HIn7.out.below hb8);have HC8 := hid (HC7.out.below hb8);have HF8 := hid (HF7.out.below hb8);clear HB7 HNb7 HCb7 HIn7 HC7 HF7;clear hb8 b0 b1 b2 b3 d0 d1 d2 d3 d4 d5 d6 d7;by_cases hr0 : nr = 0;rotate_left
     · have p0 : ((nr : Int) == 0) = false := by rw [beq_eq_false_iff_ne]; omega
       rw [emp_no HC8.out.rl hr0] at HQ;clear hr0;obtain ⟨b0, b1, b2, b3⟩ := HNb8.out.cells;obtain ⟨d0, d1, d2, d3, d4, d5, d6, d7⟩ := HCb8.out.cells;go_wp2_with fail;go_ret;exact ⟨ret_bool (by rw [HQ.out]; try first | rfl | simp), HB8.out⟩
     have p0 : ((nr : Int) == 0) = true := by simp [hr0]
     rw [emp_yes HC8.out.rl hr0] at HQ;clear hr0;have HMs := hid (mks28_any N A n c Ak nk ck K true w8 hpl1 (by omega) HC8.out.k HC8.out.kl HC8.out.kb);rw [decide_eq_true (show K.length ≤ 2000 by have := HC8.out.kl; omega), Bool.true_and] at HMs;cases hme : mksX N.pl true K with
     | false =>
      rw [hme] at HMs HQ;clear hme;obtain ⟨b0, b1, b2, b3⟩ := HNb8.out.cells;obtain ⟨d0, d1, d2, d3, d4, d5, d6, d7⟩ := HCb8.out.cells;go_wp2_with fail;((with_reducible refine (HMs.out).mono ?_); rintro e w9 ⟨rfl, hb9⟩)
      have HB9 := hid (HB8.out.trans (hb9.mono HB8.out.size));clear hb9 b0 b1 b2 b3 d0 d1 d2 d3 d4 d5 d6 d7;go_wp2_with fail;go_ret;exact ⟨ret_bool (by rw [HQ.out]; try first | rfl | simp), HB9.out⟩
     | true =>
      rw [hme] at HMs HQ;have HAl := hid (show ∀ s ∈ K, mkX N.pl true s = true from List.all_eq_true.1 hme);clear hme;obtain ⟨b0, b1, b2, b3⟩ := HNb8.out.cells;obtain ⟨d0, d1, d2, d3, d4, d5, d6, d7⟩ := HCb8.out.cells;go_wp2_with fail;((with_reducible refine (HMs.out).mono ?_); rintro e w9 ⟨rfl, hb9⟩)
      have HB9 := hid (HB8.out.trans (hb9.mono HB8.out.size));have HNb9 := hid (HNb8.out.below hb9);have HCb9 := hid (HCb8.out.below hb9);have HIn9 := hid (HIn8.out.below hb9);have HC9 := hid (HC8.out.below hb9);have HF9 := hid (HF8.out.below hb9);clear HB8 HNb8 HCb8 HIn8 HC8 HF8;clear hb9 b0 b1 b2 b3 d0 d1 d2 d3 d4 d5 d6 d7;have HCv := hid (covers28_any N A n c Ak nk ck K w9 HIn9.out HNl.out HV.out HC9.out.k HC9.out.kl HC9.out.kb HAl.out);cases hcv : covX N K with
      | false =>
       rw [hcv] at HCv HQ;clear hcv;obtain ⟨b0, b1, b2, b3⟩ := HNb9.out.cells;obtain ⟨d0, d1, d2, d3, d4, d5, d6, d7⟩ := HCb9.out.cells;go_wp2_with fail;((with_reducible refine (HCv.out).mono ?_); rintro e w10 ⟨rfl, hb10⟩)
       have HB10 := hid (HB9.out.trans (hb10.mono HB9.out.size));clear hb10 b0 b1 b2 b3 d0 d1 d2 d3 d4 d5 d6 d7;go_wp2_with fail;go_ret;exact ⟨ret_bool (by rw [HQ.out]; try first | rfl | simp), HB10.out⟩
      | true =>
       rw [hcv] at HCv HQ;clear hcv;obtain ⟨b0, b1, b2, b3⟩ := HNb9.out.cells;obtain ⟨d0, d1, d2, d3, d4, d5, d6, d7⟩ := HCb9.out.cells;go_wp2_with fail;((with_reducible refine (HCv.out).mono ?_); rintro e w10 ⟨rfl, hb10⟩)
       have HB10 := hid (HB9.out.trans (hb10.mono HB9.out.size));have HNb10 := hid (HNb9.out.below hb10);have HCb10 := hid (HCb9.out.below hb10);have HIn10 := hid (HIn9.out.below hb10);have HC10 := hid (HC9.out.below hb10);have HF10 := hid (HF9.out.below hb10);clear HB9 HNb9 HCb9 HIn9 HC9 HF9;clear hb10 b0 b1 b2 b3 d0 d1 d2 d3 d4 d5 d6 d7;have HNv := hid (never28_any N A n c Ak nk ck K cn w10 HIn10.out HNl.out HV.out HC10.out.k HC10.out.kl HC10.out.kb (fun s hs => mkX_len (HAl.out s hs)));generalize nevB N K cn = nv0 at *;obtain ⟨b0, b1, b2, b3⟩ := HNb10.out.cells;obtain ⟨d0, d1, d2, d3, d4, d5, d6, d7⟩ := HCb10.out.cells;go_wp2_with fail;((with_reducible refine (HNv.out).mono ?_); rintro e w11 ⟨rfl, hb11⟩)
       have HB11 := hid (HB10.out.trans (hb11.mono HB10.out.size));clear hb11 b0 b1 b2 b3 d0 d1 d2 d3 d4 d5 d6 d7;go_wp2_with fail;go_ret;exact ⟨ret_bool (by rw [HQ.out]; try first | rfl | simp), HB11.out⟩
end Go.Proofs.YtkhmngljpfibcaaGreatDoor
