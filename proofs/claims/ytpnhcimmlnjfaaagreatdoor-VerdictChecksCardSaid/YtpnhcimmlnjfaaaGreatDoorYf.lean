/- Has, some of reference 21; unsound, relaxed of reference 28: what a call returns. -/
import Derived.Test.YtpnhcimmlnjfaaaGreatDoorUt
import Derived.Test.YtpnhcimmlnjfaaaGreatDoorYc
namespace Go.Proofs.YtpnhcimmlnjfaaaGreatDoor
open Go.Lib (hid)
open Go.RowKit

set_option maxHeartbeats 3200000 in
set_option maxRecDepth 100000 in
theorem has21_any (Al : Option Addr) (nl cl : Nat) (l : List Int) (x : Int) (w : World) (hL : ZIn w Al l) (hl : l.length = nl) (hl2 : nl ≤ 9223372036854775807) :
 Calls Tryz.prog 115 #[.slice Al nl cl, .int .i64 x] w fun e w' => e = .returned (.bool (hasB l x)) ∧ Below w.heap.size w w' := by
 have HL := hid hL
 have HLl := hid hl
 clear hL hl
 go_enter Tryz.func115, Tryz.ntmps115
 go_wp2_with fail
 go_loopg [5] (nl) (fun g iv wr => ∃ k : Nat, k + g = nl ∧ iv = .int .i64 k ∧ (l.take k).any (fun y => decide (y = x)) = false ∧ Below w.heap.size w wr)
 case atStart => exact ⟨0, by omega, rfl, by simp, Below.refl _ _⟩
 case round =>
  obtain ⟨k, hk, rfl, hp, hB⟩ := hrel
  have HB := hid hB
  have HK := hid hk
  have HP := hid hp
  have HLr := hid (HL.out.below hB)
  have hle : k ≤ nl := by omega
  clear hk hp hB
  by_cases hlt : k < nl
  · have hlt' : k < l.length := by rw [HLl.out]; exact hlt
    obtain ⟨ad, rfl, hpa, q0⟩ := HLr.out k hlt'
    have HTk := hid (any_step (fun y => decide (y = x)) hlt')
    have HYes := hid (fun (hh : decide (l[k] = x) = true) => show hasB l x = true from List.any_eq_true.2 ⟨_, List.getElem_mem hlt', hh⟩)
    generalize l[k] = y at *
    clear hlt'
    by_cases he : y = x
    · have q1 : (y == x) = true := by rw [he]; simp
      have HV := hid (HYes.out (decide_eq_true he))
      clear he HYes
      go_wp2_with fail
      go_ret
      exact ⟨ret_bool HV.out.symm, HB.out⟩
    · have q1 : (y == x) = false := by rw [beq_eq_false_iff_ne]; exact he
      have HV := hid (show (l.take (k + 1)).any (fun y => decide (y = x)) = false by rw [HTk.out, HP.out, decide_eq_false he]; rfl)
      clear he HYes
      go_wp2_with fail
      go_roundg (gk - 1)
      case measure => have := HK.out; omega
      case rel => exact ⟨k + 1, by have := HK.out; omega, by go_num, HV.out, HB.out⟩
  · have HV := hid (show hasB l x = false by unfold hasB; have := HP.out; rwa [List.take_of_length_le (by rw [HLl.out]; omega)] at this)
    go_wp2_with fail
    go_ret
    exact ⟨ret_bool HV.out.symm, HB.out⟩
/-- two lists have a common element -/
def someB (a b : List Int) : Bool := a.any (hasB b)
set_option maxHeartbeats 3200000 in
set_option maxRecDepth 100000 in
theorem some21_any (Aa : Option Addr) (na ca : Nat) (a : List Int) (Ab : Option Addr) (nb cb : Nat) (b : List Int) (w : World) (ha : ZIn w Aa a) (hal : a.length = na) (ha2 : na ≤ 9223372036854775807) (hb : ZIn w Ab b) (hbl : b.length = nb) (hb2 : nb ≤ 9223372036854775807) :
 Calls Tryz.prog 116 #[.slice Aa na ca, .slice Ab nb cb] w fun e w' => e = .returned (.bool (someB a b)) ∧ Below w.heap.size w w' := by
 have HL := hid ha
 have HLl := hid hal
 have HM := hid hb
 have HMl := hid hbl
 clear ha hal hb hbl
 go_enter Tryz.func116, Tryz.ntmps116
 go_wp2_with fail
 go_loopg [5] (na) (fun g iv wr => ∃ k : Nat, k + g = na ∧ iv = .int .i64 k ∧ (a.take k).any (hasB b) = false ∧ Below w.heap.size w wr)
 case atStart => exact ⟨0, by omega, rfl, by simp, Below.refl _ _⟩
 case round =>
  obtain ⟨k, hk, rfl, hp, hB⟩ := hrel
  have HB := hid hB
  have HK := hid hk
  have HP := hid hp
  have HLr := hid (HL.out.below hB)
  have hle : k ≤ na := by omega
  clear hk hp hB
  by_cases hlt : k < na
  · have hlt' : k < a.length := by rw [HLl.out]; exact hlt
    obtain ⟨ad, rfl, hpa, q0⟩ := HLr.out k hlt'
    have HTk := hid (any_step (hasB b) hlt')
    have HYes := hid (fun (hh : hasB b a[k] = true) => show someB a b = true from List.any_eq_true.2 ⟨_, List.getElem_mem hlt', hh⟩)
    generalize a[k] = y at *
    have HHa := hid (has21_any Ab nb cb b y wr (HM.out.below HB.out) HMl.out hb2)
    clear hlt'
    cases he : hasB b y with
    | true =>
     rw [he] at HHa
     have HV := hid (HYes.out he)
     clear he HYes
     go_wp2_with fail
     ((with_reducible refine HHa.out.mono ?_); rintro e w1 ⟨rfl, hb1⟩)
     have HB1 := hid (below_then HB.out hb1)
     go_wp2_with fail
     go_ret
     exact ⟨ret_bool HV.out.symm, HB1.out⟩
    | false =>
     rw [he] at HHa
     have HV := hid (show (a.take (k + 1)).any (hasB b) = false by rw [HTk.out, HP.out, he]; rfl)
     clear he HYes
     go_wp2_with fail
     ((with_reducible refine HHa.out.mono ?_); rintro e w1 ⟨rfl, hb1⟩)
     have HB1 := hid (below_then HB.out hb1)
     clear hb1
     go_wp2_with fail
     go_roundg (gk - 1)
     case measure => have := HK.out; omega
     case rel => exact ⟨k + 1, by have := HK.out; omega, by go_num, HV.out, HB1.out⟩
  · have HV := hid (show someB a b = false by unfold someB; have := HP.out; rwa [List.take_of_length_le (by rw [HLl.out]; omega)] at this)
    go_wp2_with fail
    go_ret
    exact ⟨ret_bool HV.out.symm, HB.out⟩
/-- the certificate proves that a net is not sound: the reference's way -/
def unsR (N : Nt) (cn : Int) (R P : List Int) (K : List (List Int)) : Bool :=
  if P.isEmpty then
    (if K.isEmpty then decide ((runI N R).2.2 = 0) && (decide (0 < (runI N R).1.getD N.snk.toNat 0) && !(decide ((runI N R).1 = finM N)))
     else (decide ((runI N R).2.2 = 0) && (mksX N.pl false K && (!(decide (findR K (runI N R).1 < 0)) && (closX N K && decide (findR K (finM N) < 0))))) || (R.isEmpty && (mksX N.pl true K && (covX N K && nevB N K cn))))
  else decide ((runI N R).2.2 = 0) && (decide ((run21 N (runI N R).1 P).2.2 = 0) && (atMost (runI N R).1 (run21 N (runI N R).1 P).1 && !(decide ((runI N R).1 = (run21 N (runI N R).1 P).1))))
set_option maxHeartbeats 25600000 in
set_option maxRecDepth 100000 in
theorem unsound28_any (N : Nt) (A : Option Addr) (n c : Nat) (cl cn : Int) (Ar : Option Addr) (nr cr : Nat) (R : List Int) (Ap : Option Addr) (np cp : Nat) (P : List Int) (Ak : Option Addr) (nk ck : Nat) (K : List (List Int)) (Av : Option Addr) (nv cv : Nat) (V : List Mv) (As : Option Addr) (ns cs : Nat) (S : List (List Int)) (Aw : Option Addr) (nw cw : Nat) (X : List (List Int)) (w : World) (h : NtIn w A N) (hn : N.tr.length = n) (hv : ntB N = true) (hC : CfM w Ar nr R Ap np P Ak nk K Av nv V As ns S Aw nw X) (hk2 : nk ≤ 2000) :
 Calls Tryz.prog 79 #[.agg #[.int .i64 N.pl, .slice A n c, .int .i64 N.src, .int .i64 N.snk], .agg #[.int .i64 cl, .int .i64 cn, .slice Ar nr cr, .slice Ap np cp, .slice Ak nk ck, .slice Av nv cv, .slice As ns cs, .slice Aw nw cw]] w fun e w' => e = .returned (.bool (unsR N cn R P K)) ∧ Below w.heap.size w w' := by
 have HB0 := hid (two_boxes w (.cells #[.int .i64 N.pl, .slice A n c, .int .i64 N.src, .int .i64 N.snk] 24) (.cells #[.int .i64 cl, .int .i64 cn, .slice Ar nr cr, .slice Ap np cp, .slice Ak nk ck, .slice Av nv cv, .slice As ns cs, .slice Aw nw cw] 29))
 have HNb0 := hid ((NB.new w N.pl A n c N.src N.snk).below (below_alloc _ (.cells #[.int .i64 cl, .int .i64 cn, .slice Ar nr cr, .slice Ap np cp, .slice Ak nk ck, .slice Av nv cv, .slice As ns cs, .slice Aw nw cw] 29)))
 have hcb := heap_alloc_new (w.alloc (.cells #[.int .i64 N.pl, .slice A n c, .int .i64 N.src, .int .i64 N.snk] 24)) (.cells #[.int .i64 cl, .int .i64 cn, .slice Ar nr cr, .slice Ap np cp, .slice Ak nk ck, .slice Av nv cv, .slice As ns cs, .slice Aw nw cw] 29)
 rw [World.size_alloc] at hcb
 have HCb0 := hid (show CtB _ (w.heap.size + 1) #[.int .i64 cl, .int .i64 cn, .slice Ar nr cr, .slice Ap np cp, .slice Ak nk ck, .slice Av nv cv, .slice As ns cs, .slice Aw nw cw] from hcb)
 have HIn0 := hid (h.below HB0.out)
 have HC0 := hid (hC.below HB0.out)
 have HNl := hid hn
 have HV := hid hv
 have hps := nt_small hv
 have hn60 : n ≤ 60 := by omega
 obtain ⟨Q, hQ⟩ : ∃ Q, Q = unsR N cn R P K := ⟨_, rfl⟩
 rw [← hQ]
 unfold unsR at hQ
 have HQ := hid hQ
 have hpl1 : 1 ≤ N.pl := hps.1
 have hpl40 : N.pl ≤ 40 := hps.2.1
 have hpls := nt_src hv
 have HFl := hid (fin_len hv)
 have hfl : (finM N).length ≤ 40 := by have := HFl.out; omega
 clear h hn hv hC hps hcb hQ
 go_enter Tryz.func79, Tryz.ntmps79
 go_wp2_with fail
 generalize (w.alloc (.cells #[.int .i64 N.pl, .slice A n c, .int .i64 N.src, .int .i64 N.snk] 24)).alloc (.cells #[.int .i64 cl, .int .i64 cn, .slice Ar nr cr, .slice Ap np cp, .slice Ak nk ck, .slice Av nv cv, .slice As ns cs, .slice Aw nw cw] 29) = w0 at *
 generalize w.heap.size + 1 = cb at *
 have HFn := hid (fin28_any N A n c HV.out w0)
 obtain ⟨b0, b1, b2, b3⟩ := HNb0.out.cells
 obtain ⟨d0, d1, d2, d3, d4, d5, d6, d7⟩ := HCb0.out.cells
 go_wp2_with fail
 ((with_reducible refine HFn.out.mono ?_); rintro e w1 ⟨v1, rfl, hS1⟩)
 obtain ⟨Af, cf, rfl⟩ := hS1.slice
 have hb1 := hS1.2
 have HF1 := hid (show ZIn w1 Af (finM N) by obtain ⟨A', c', e, hz, _⟩ := hS1.zin; cases e; exact hz)
 have HB1 := hid (HB0.out.trans (hb1.mono HB0.out.size))
 have HNb1 := hid (HNb0.out.below hb1)
 have HCb1 := hid (HCb0.out.below hb1)
 have HIn1 := hid (HIn0.out.below hb1)
 have HC1 := hid (HC0.out.below hb1)
 clear HB0 HNb0 HCb0 HIn0 HC0
 clear hS1 hb1 HFn b0 b1 b2 b3 d0 d1 d2 d3 d4 d5 d6 d7
 go_wp2_with fail
 by_cases hr : (runI N R).2.2 = 0
 rotate_left
 · rw [decide_eq_false hr] at HQ
   obtain ⟨b0, b1, b2, b3⟩ := HNb1.out.cells
   obtain ⟨d0, d1, d2, d3, d4, d5, d6, d7⟩ := HCb1.out.cells
   have hbd : Below w1.heap.size w1 w1.drew := (Below.refl _ _).drew
   have HB2 := hid (HB1.out.trans (hbd.mono HB1.out.size))
   have HNb2 := hid (HNb1.out.below hbd)
   have HCb2 := hid (HCb1.out.below hbd)
   have HIn2 := hid (HIn1.out.below hbd)
   have HC2 := hid (HC1.out.below hbd)
   have HF2 := hid (HF1.out.below hbd)
   have hS0 := And.intro (cell_stays hbd b0) (And.intro (cell_stays hbd b1) (And.intro (cell_stays hbd b2) (And.intro (cell_stays hbd b3) (And.intro (cell_stays hbd d0) (And.intro (cell_stays hbd d1) (And.intro (cell_stays hbd d2) (And.intro (cell_stays hbd d3) (And.intro (cell_stays hbd d4) (And.intro (cell_stays hbd d5) (And.intro (cell_stays hbd d6) ((cell_stays hbd d7))))))))))))
   refine wp_region_held_drew (S := fun w' => w'.cell? ⟨w.heap.size, 0, none⟩ = some (.int .i64 N.pl) ∧ w'.cell? ⟨w.heap.size, 1, none⟩ = some (.slice A n c) ∧ w'.cell? ⟨w.heap.size, 2, none⟩ = some (.int .i64 N.src) ∧ w'.cell? ⟨w.heap.size, 3, none⟩ = some (.int .i64 N.snk) ∧ w'.cell? ⟨cb, 0, none⟩ = some (.int .i64 cl) ∧ w'.cell? ⟨cb, 1, none⟩ = some (.int .i64 cn) ∧ w'.cell? ⟨cb, 2, none⟩ = some (.slice Ar nr cr) ∧ w'.cell? ⟨cb, 3, none⟩ = some (.slice Ap np cp) ∧ w'.cell? ⟨cb, 4, none⟩ = some (.slice Ak nk ck) ∧ w'.cell? ⟨cb, 5, none⟩ = some (.slice Av nv cv) ∧ w'.cell? ⟨cb, 6, none⟩ = some (.slice As ns cs) ∧ w'.cell? ⟨cb, 7, none⟩ = some (.slice Aw nw cw)) (by kernel_rfl) hS0 (fun hHeld => ?_)
   clear hS0 hbd b0 b1 b2 b3 d0 d1 d2 d3 d4 d5 d6 d7
   clear HB1 HNb1 HCb1 HIn1 HC1 HF1
   generalize w1.drew = w2 at *
   refine tkH 0 ?_; try go_simp
   refine tkH 1 ?_; try go_simp
   refine tkH 3 ?_; try go_simp
   refine tkH 4 ?_; try go_simp
   refine tkR 2 (fun K9 hK => ?_)
   go_simp
   ((refine (ini28_any N A n c HV.out w2).mono ?_); rintro e w3 ⟨v3, rfl, hS3⟩)
   obtain ⟨A3, c3, rfl⟩ := hS3.slice
   have hb3 := hS3.2
   have hS9 := hHeld
   refine hK.out _ _ ⟨cell_stays hb3 hS9.1, cell_stays hb3 hS9.2.1, cell_stays hb3 hS9.2.2.1, cell_stays hb3 hS9.2.2.2.1, cell_stays hb3 hS9.2.2.2.2.1, cell_stays hb3 hS9.2.2.2.2.2.1, cell_stays hb3 hS9.2.2.2.2.2.2.1, cell_stays hb3 hS9.2.2.2.2.2.2.2.1, cell_stays hb3 hS9.2.2.2.2.2.2.2.2.1, cell_stays hb3 hS9.2.2.2.2.2.2.2.2.2.1, cell_stays hb3 hS9.2.2.2.2.2.2.2.2.2.2.1, cell_stays hb3 hS9.2.2.2.2.2.2.2.2.2.2.2⟩ (fun hHeld => ?_)
   clear hK K9 hS9
   try go_simp
   have HB3 := hid (HB2.out.trans (hb3.mono HB2.out.size))
   have HNb3 := hid (HNb2.out.below hb3)
   have HCb3 := hid (HCb2.out.below hb3)
   have HIn3 := hid (HIn2.out.below hb3)
   have HC3 := hid (HC2.out.below hb3)
   have HF3 := hid (HF2.out.below hb3)
   clear HB2 HNb2 HCb2 HIn2 HC2 HF2
   have HI3 := hid (show ZIn w3 A3 (iniM N) by obtain ⟨A', c', e, hz, _⟩ := hS3.zin; cases e; exact hz)
   clear hS3 hb3
   refine tkR 5 (fun K9 hK => ?_)
   go_simp
   have HRn := hid (run28_any N A n c A3 (iniM N).length c3 (iniM N) Ar nr cr R w3 HIn3.out HNl.out (by omega) HI3.out rfl (by have := ini_len HV.out; omega) HC3.out.r HC3.out.rl)
   rw [show run21 N (iniM N) R = runI N R from rfl] at HRn
   ((refine (vr_no HRn.out hr).mono ?_); rintro e w4 ⟨rfl, hb4⟩)
   have hS9 := hHeld
   refine hK.out _ _ ⟨cell_stays hb4 hS9.1, cell_stays hb4 hS9.2.1, cell_stays hb4 hS9.2.2.1, cell_stays hb4 hS9.2.2.2.1, cell_stays hb4 hS9.2.2.2.2.1, cell_stays hb4 hS9.2.2.2.2.2.1, cell_stays hb4 hS9.2.2.2.2.2.2.1, cell_stays hb4 hS9.2.2.2.2.2.2.2.1, cell_stays hb4 hS9.2.2.2.2.2.2.2.2.1, cell_stays hb4 hS9.2.2.2.2.2.2.2.2.2.1, cell_stays hb4 hS9.2.2.2.2.2.2.2.2.2.2.1, cell_stays hb4 hS9.2.2.2.2.2.2.2.2.2.2.2⟩ (fun hHeld => ?_)
   clear hK K9 hS9
   try go_simp
   have HB4 := hid (HB3.out.trans (hb4.mono HB3.out.size))
   have HNb4 := hid (HNb3.out.below hb4)
   have HCb4 := hid (HCb3.out.below hb4)
   have HIn4 := hid (HIn3.out.below hb4)
   have HC4 := hid (HC3.out.below hb4)
   have HF4 := hid (HF3.out.below hb4)
   clear HB3 HNb3 HCb3 HIn3 HC3 HF3
   clear HRn
   clear hb4
   refine tkH 6 ?_; try go_simp
   refine tkH 7 ?_; try go_simp
   refine tkH 8 ?_; try go_simp
   refine tkH 9 ?_; try go_simp
   refine tkH 10 ?_; try go_simp
   refine wpAnyH_done (by kernel_rfl) ?_ _
   clear hHeld
   clear hr
   by_cases hp0 : np = 0
   rotate_left
   · rw [emp_no HC4.out.pl hp0] at HQ
     have q1 : decide ((0 : Int) < (np : Int)) = true := by simp; omega
     have q2 : 0 < np := by omega
     clear hp0
     obtain ⟨b0, b1, b2, b3⟩ := HNb4.out.cells
     obtain ⟨d0, d1, d2, d3, d4, d5, d6, d7⟩ := HCb4.out.cells
     go_wp2_with fail
     go_ret
     exact ⟨ret_bool (by rw [HQ.out]; try first | rfl | simp), HB4.out⟩
   rw [emp_yes HC4.out.pl hp0, if_pos rfl] at HQ
   have q1 : decide ((0 : Int) < (np : Int)) = false := by simp; omega
   have q2 : ¬ 0 < np := by omega
   clear hp0
   by_cases hk0 : nk = 0
   · rw [emp_yes HC4.out.kl hk0, if_pos rfl] at HQ
     have q3 : ((nk : Int) == 0) = true := by simp [hk0]
     clear hk0
     obtain ⟨b0, b1, b2, b3⟩ := HNb4.out.cells
     obtain ⟨d0, d1, d2, d3, d4, d5, d6, d7⟩ := HCb4.out.cells
     go_wp2_with fail
     go_ret
     exact ⟨ret_bool (by rw [HQ.out]; try first | rfl | simp), HB4.out⟩
   rw [emp_no HC4.out.kl hk0, if_neg (by simp), Bool.false_and, Bool.false_or] at HQ
   have q3 : ((nk : Int) == 0) = false := by rw [beq_eq_false_iff_ne]; omega
   clear hk0
   by_cases hr0 : nr = 0
   rotate_left
   · have p0 : ((nr : Int) == 0) = false := by rw [beq_eq_false_iff_ne]; omega
     rw [emp_no HC4.out.rl hr0] at HQ
     clear hr0
     obtain ⟨b0, b1, b2, b3⟩ := HNb4.out.cells
     obtain ⟨d0, d1, d2, d3, d4, d5, d6, d7⟩ := HCb4.out.cells
     go_wp2_with fail
     go_ret
     exact ⟨ret_bool (by rw [HQ.out]; try first | rfl | simp), HB4.out⟩
   have p0 : ((nr : Int) == 0) = true := by simp [hr0]
   rw [emp_yes HC4.out.rl hr0] at HQ
   clear hr0
   have HMs := hid (mks28_any N A n c Ak nk ck K true w4 hpl1 (by omega) HC4.out.k HC4.out.kl HC4.out.kb)
   rw [decide_eq_true (show K.length ≤ 2000 by have := HC4.out.kl; omega), Bool.true_and] at HMs
   cases hme : mksX N.pl true K with
   | false =>
    rw [hme] at HMs HQ
    clear hme
    obtain ⟨b0, b1, b2, b3⟩ := HNb4.out.cells
    obtain ⟨d0, d1, d2, d3, d4, d5, d6, d7⟩ := HCb4.out.cells
    go_wp2_with fail
    ((with_reducible refine (HMs.out).mono ?_); rintro e w5 ⟨rfl, hb5⟩)
    have HB5 := hid (HB4.out.trans (hb5.mono HB4.out.size))
    clear hb5 b0 b1 b2 b3 d0 d1 d2 d3 d4 d5 d6 d7
    go_wp2_with fail
    go_ret
    exact ⟨ret_bool (by rw [HQ.out]; try first | rfl | simp), HB5.out⟩
   | true =>
    rw [hme] at HMs HQ
    have HAl := hid (show ∀ s ∈ K, mkX N.pl true s = true from List.all_eq_true.1 hme)
    clear hme
    obtain ⟨b0, b1, b2, b3⟩ := HNb4.out.cells
    obtain ⟨d0, d1, d2, d3, d4, d5, d6, d7⟩ := HCb4.out.cells
    go_wp2_with fail
    ((with_reducible refine (HMs.out).mono ?_); rintro e w5 ⟨rfl, hb5⟩)
    have HB5 := hid (HB4.out.trans (hb5.mono HB4.out.size))
    have HNb5 := hid (HNb4.out.below hb5)
    have HCb5 := hid (HCb4.out.below hb5)
    have HIn5 := hid (HIn4.out.below hb5)
    have HC5 := hid (HC4.out.below hb5)
    have HF5 := hid (HF4.out.below hb5)
    clear HB4 HNb4 HCb4 HIn4 HC4 HF4
    clear hb5 b0 b1 b2 b3 d0 d1 d2 d3 d4 d5 d6 d7
    have HCv := hid (covers28_any N A n c Ak nk ck K w5 HIn5.out HNl.out HV.out HC5.out.k HC5.out.kl HC5.out.kb HAl.out)
    cases hcv : covX N K with
    | false =>
     rw [hcv] at HCv HQ
     clear hcv
     obtain ⟨b0, b1, b2, b3⟩ := HNb5.out.cells
     obtain ⟨d0, d1, d2, d3, d4, d5, d6, d7⟩ := HCb5.out.cells
     go_wp2_with fail
     ((with_reducible refine (HCv.out).mono ?_); rintro e w6 ⟨rfl, hb6⟩)
     have HB6 := hid (HB5.out.trans (hb6.mono HB5.out.size))
     clear hb6 b0 b1 b2 b3 d0 d1 d2 d3 d4 d5 d6 d7
     go_wp2_with fail
     go_ret
     exact ⟨ret_bool (by rw [HQ.out]; try first | rfl | simp), HB6.out⟩
    | true =>
     rw [hcv] at HCv HQ
     clear hcv
     obtain ⟨b0, b1, b2, b3⟩ := HNb5.out.cells
     obtain ⟨d0, d1, d2, d3, d4, d5, d6, d7⟩ := HCb5.out.cells
     go_wp2_with fail
     ((with_reducible refine (HCv.out).mono ?_); rintro e w6 ⟨rfl, hb6⟩)
     have HB6 := hid (HB5.out.trans (hb6.mono HB5.out.size))
     have HNb6 := hid (HNb5.out.below hb6)
     have HCb6 := hid (HCb5.out.below hb6)
     have HIn6 := hid (HIn5.out.below hb6)
     have HC6 := hid (HC5.out.below hb6)
     have HF6 := hid (HF5.out.below hb6)
     clear HB5 HNb5 HCb5 HIn5 HC5 HF5
     clear hb6 b0 b1 b2 b3 d0 d1 d2 d3 d4 d5 d6 d7
     have HNv := hid (never28_any N A n c Ak nk ck K cn w6 HIn6.out HNl.out HV.out HC6.out.k HC6.out.kl HC6.out.kb (fun s hs => mkX_len (HAl.out s hs)))
     generalize nevB N K cn = nv0 at *
     obtain ⟨b0, b1, b2, b3⟩ := HNb6.out.cells
     obtain ⟨d0, d1, d2, d3, d4, d5, d6, d7⟩ := HCb6.out.cells
     go_wp2_with fail
     ((with_reducible refine (HNv.out).mono ?_); rintro e w7 ⟨rfl, hb7⟩)
     have HB7 := hid (HB6.out.trans (hb7.mono HB6.out.size))
     clear hb7 b0 b1 b2 b3 d0 d1 d2 d3 d4 d5 d6 d7
     go_wp2_with fail
     go_ret
     exact ⟨ret_bool (by rw [HQ.out]; try first | rfl | simp), HB7.out⟩
 rw [decide_eq_true hr] at HQ
 have HMx := hid (show mkB N (runI N R).1 = true from run21_mk hr)
 obtain ⟨b0, b1, b2, b3⟩ := HNb1.out.cells
 obtain ⟨d0, d1, d2, d3, d4, d5, d6, d7⟩ := HCb1.out.cells
 have hbd : Below w1.heap.size w1 w1.drew := (Below.refl _ _).drew
 have HB2 := hid (HB1.out.trans (hbd.mono HB1.out.size))
 have HNb2 := hid (HNb1.out.below hbd)
 have HCb2 := hid (HCb1.out.below hbd)
 have HIn2 := hid (HIn1.out.below hbd)
 have HC2 := hid (HC1.out.below hbd)
 have HF2 := hid (HF1.out.below hbd)
 have hS0 := And.intro (cell_stays hbd b0) (And.intro (cell_stays hbd b1) (And.intro (cell_stays hbd b2) (And.intro (cell_stays hbd b3) (And.intro (cell_stays hbd d0) (And.intro (cell_stays hbd d1) (And.intro (cell_stays hbd d2) (And.intro (cell_stays hbd d3) (And.intro (cell_stays hbd d4) (And.intro (cell_stays hbd d5) (And.intro (cell_stays hbd d6) ((cell_stays hbd d7))))))))))))
 refine wp_region_held_drew (S := fun w' => w'.cell? ⟨w.heap.size, 0, none⟩ = some (.int .i64 N.pl) ∧ w'.cell? ⟨w.heap.size, 1, none⟩ = some (.slice A n c) ∧ w'.cell? ⟨w.heap.size, 2, none⟩ = some (.int .i64 N.src) ∧ w'.cell? ⟨w.heap.size, 3, none⟩ = some (.int .i64 N.snk) ∧ w'.cell? ⟨cb, 0, none⟩ = some (.int .i64 cl) ∧ w'.cell? ⟨cb, 1, none⟩ = some (.int .i64 cn) ∧ w'.cell? ⟨cb, 2, none⟩ = some (.slice Ar nr cr) ∧ w'.cell? ⟨cb, 3, none⟩ = some (.slice Ap np cp) ∧ w'.cell? ⟨cb, 4, none⟩ = some (.slice Ak nk ck) ∧ w'.cell? ⟨cb, 5, none⟩ = some (.slice Av nv cv) ∧ w'.cell? ⟨cb, 6, none⟩ = some (.slice As ns cs) ∧ w'.cell? ⟨cb, 7, none⟩ = some (.slice Aw nw cw)) (by kernel_rfl) hS0 (fun hHeld => ?_)
 clear hS0 hbd b0 b1 b2 b3 d0 d1 d2 d3 d4 d5 d6 d7
 clear HB1 HNb1 HCb1 HIn1 HC1 HF1
 generalize w1.drew = w2 at *
 refine tkH 0 ?_; try go_simp
 refine tkH 1 ?_; try go_simp
 refine tkH 3 ?_; try go_simp
 refine tkH 4 ?_; try go_simp
 refine tkR 2 (fun K9 hK => ?_)
 go_simp
 ((refine (ini28_any N A n c HV.out w2).mono ?_); rintro e w3 ⟨v3, rfl, hS3⟩)
 obtain ⟨A3, c3, rfl⟩ := hS3.slice
 have hb3 := hS3.2
 have hS9 := hHeld
 refine hK.out _ _ ⟨cell_stays hb3 hS9.1, cell_stays hb3 hS9.2.1, cell_stays hb3 hS9.2.2.1, cell_stays hb3 hS9.2.2.2.1, cell_stays hb3 hS9.2.2.2.2.1, cell_stays hb3 hS9.2.2.2.2.2.1, cell_stays hb3 hS9.2.2.2.2.2.2.1, cell_stays hb3 hS9.2.2.2.2.2.2.2.1, cell_stays hb3 hS9.2.2.2.2.2.2.2.2.1, cell_stays hb3 hS9.2.2.2.2.2.2.2.2.2.1, cell_stays hb3 hS9.2.2.2.2.2.2.2.2.2.2.1, cell_stays hb3 hS9.2.2.2.2.2.2.2.2.2.2.2⟩ (fun hHeld => ?_)
 clear hK K9 hS9
 try go_simp
 have HB3 := hid (HB2.out.trans (hb3.mono HB2.out.size))
 have HNb3 := hid (HNb2.out.below hb3)
 have HCb3 := hid (HCb2.out.below hb3)
 have HIn3 := hid (HIn2.out.below hb3)
 have HC3 := hid (HC2.out.below hb3)
 have HF3 := hid (HF2.out.below hb3)
 clear HB2 HNb2 HCb2 HIn2 HC2 HF2
 have HI3 := hid (show ZIn w3 A3 (iniM N) by obtain ⟨A', c', e, hz, _⟩ := hS3.zin; cases e; exact hz)
 clear hS3 hb3
 refine tkR 5 (fun K9 hK => ?_)
 go_simp
 have HRn := hid (run28_any N A n c A3 (iniM N).length c3 (iniM N) Ar nr cr R w3 HIn3.out HNl.out (by omega) HI3.out rfl (by have := ini_len HV.out; omega) HC3.out.r HC3.out.rl)
 rw [show run21 N (iniM N) R = runI N R from rfl] at HRn
 ((refine (vr_yes HRn.out hr).mono ?_); rintro e w4 ⟨v4, rfl, hS4⟩)
 obtain ⟨A4, c4, rfl⟩ := hS4.slice
 have hb4 := hS4.2
 have hS9 := hHeld
 refine hK.out _ _ ⟨cell_stays hb4 hS9.1, cell_stays hb4 hS9.2.1, cell_stays hb4 hS9.2.2.1, cell_stays hb4 hS9.2.2.2.1, cell_stays hb4 hS9.2.2.2.2.1, cell_stays hb4 hS9.2.2.2.2.2.1, cell_stays hb4 hS9.2.2.2.2.2.2.1, cell_stays hb4 hS9.2.2.2.2.2.2.2.1, cell_stays hb4 hS9.2.2.2.2.2.2.2.2.1, cell_stays hb4 hS9.2.2.2.2.2.2.2.2.2.1, cell_stays hb4 hS9.2.2.2.2.2.2.2.2.2.2.1, cell_stays hb4 hS9.2.2.2.2.2.2.2.2.2.2.2⟩ (fun hHeld => ?_)
 clear hK K9 hS9
 try go_simp
 have HB4 := hid (HB3.out.trans (hb4.mono HB3.out.size))
 have HNb4 := hid (HNb3.out.below hb4)
 have HCb4 := hid (HCb3.out.below hb4)
 have HIn4 := hid (HIn3.out.below hb4)
 have HC4 := hid (HC3.out.below hb4)
 have HF4 := hid (HF3.out.below hb4)
 clear HB3 HNb3 HCb3 HIn3 HC3 HF3
 have HZ4 := hid (show ZIn w4 A4 (runI N R).1 by obtain ⟨A', c', e, hz, _⟩ := hS4.zin; cases e; exact hz)
 clear HRn
 clear hS4 hb4
 refine tkH 6 ?_; try go_simp
 refine tkH 7 ?_; try go_simp
 refine tkH 8 ?_; try go_simp
 refine tkH 9 ?_; try go_simp
 refine tkH 10 ?_; try go_simp
 refine wpAnyH_done (by kernel_rfl) ?_ _
 clear hHeld
 clear hr
 generalize (runI N R).1 = Y at *
 have HYp := hid (mk_len HMx.out)
 have hyl : Y.length ≤ 40 := by have := HYp.out; omega
 have HZ0 := HZ4
 by_cases hp0 : np = 0
 rotate_left
 · rw [emp_no HC4.out.pl hp0, if_neg (by simp), Bool.true_and] at HQ
   have q1 : decide ((0 : Int) < (np : Int)) = true := by simp; omega
   have q2 : 0 < np := by omega
   have HR2 := hid (run28_any N A n c A4 Y.length c4 Y Ap np cp P w4 HIn4.out HNl.out (by omega) HZ4.out rfl (by omega) HC4.out.p HC4.out.pl)
   clear hp0
   obtain ⟨b0, b1, b2, b3⟩ := HNb4.out.cells
   obtain ⟨d0, d1, d2, d3, d4, d5, d6, d7⟩ := HCb4.out.cells
   by_cases hr2 : (run21 N Y P).2.2 = 0
   rotate_left
   · rw [decide_eq_false hr2] at HQ
     have HR3 := hid (vr_no HR2.out hr2)
     clear HR2 hr2
     go_wp2_with fail
     ((with_reducible refine HR3.out.mono ?_); rintro e w5 ⟨rfl, hb5⟩)
     have HB5 := hid (HB4.out.trans (hb5.mono HB4.out.size))
     clear b0 b1 b2 b3 d0 d1 d2 d3 d4 d5 d6 d7
     go_wp2_with fail
     go_ret
     exact ⟨ret_bool (by rw [HQ.out]; rfl), HB5.out⟩
   rw [decide_eq_true hr2, Bool.true_and] at HQ
   have HR3 := hid (vr_yes HR2.out hr2)
   have HMz := hid (run21_mk hr2)
   clear HR2 hr2
   generalize (run21 N Y P).1 = Z at *
   have hzl : Z.length ≤ 40 := by have := mk_len HMz.out; omega
   have hyz : Y.length ≤ Z.length := by have := mk_len HMz.out; have := HYp.out; omega
   go_wp2_with fail
   ((with_reducible refine HR3.out.mono ?_); rintro e w5 ⟨v5, rfl, hS5⟩)
   obtain ⟨A5, c5, rfl⟩ := hS5.slice
   have hb5 := hS5.2
   have HB5 := hid (HB4.out.trans (hb5.mono HB4.out.size))
   have HZ5 := hid (show ZIn w5 A5 Z by obtain ⟨A', c', e, hz, _⟩ := hS5.zin; cases e; exact hz)
   have HY5 := hid (HZ4.out.below hb5)
   have HMo := hid (atmost_any A4 Y.length c4 A5 Z.length c5 Y Z w5 HY5.out rfl HZ5.out rfl (by omega) (by omega))
   clear hS5 hb5 HR3 b0 b1 b2 b3 d0 d1 d2 d3 d4 d5 d6 d7
   cases ha : atMost Y Z with
   | false =>
    rw [ha] at HMo HQ
    clear ha
    go_wp2_with fail
    ((with_reducible refine HMo.out.mono ?_); rintro e w6 ⟨rfl, hb6⟩)
    have HB6 := hid (HB5.out.trans (hb6.mono HB5.out.size))
    go_wp2_with fail
    go_ret
    exact ⟨ret_bool (by rw [HQ.out]; rfl), HB6.out⟩
   | true =>
    rw [ha] at HMo HQ
    clear ha
    go_wp2_with fail
    ((with_reducible refine HMo.out.mono ?_); rintro e w6 ⟨rfl, hb6⟩)
    have HB6 := hid (HB5.out.trans (hb6.mono HB5.out.size))
    have HEq := hid (same_any A4 Y.length c4 A5 Z.length c5 Y Z w6 (HY5.out.below hb6) rfl (HZ5.out.below hb6) rfl (by omega))
    generalize decide (Y = Z) = eq at *
    clear hb6
    go_wp2_with fail
    ((with_reducible refine HEq.out.mono ?_); rintro e w7 ⟨rfl, hb7⟩)
    have HB7 := hid (HB6.out.trans (hb7.mono HB6.out.size))
    go_wp2_with fail
    go_ret
    exact ⟨ret_bool (by rw [HQ.out]; rfl), HB7.out⟩
 rw [emp_yes HC4.out.pl hp0, if_pos rfl] at HQ
 have q1 : decide ((0 : Int) < (np : Int)) = false := by simp; omega
 have q2 : ¬ 0 < np := by omega
 clear hp0
 by_cases hk0 : nk = 0
 · rw [emp_yes HC4.out.kl hk0, if_pos rfl, Bool.true_and] at HQ
   have q3 : ((nk : Int) == 0) = true := by simp [hk0]
   obtain ⟨sk, hsk⟩ := Int.eq_ofNat_of_zero_le hpls.2.2.1
   have HSk := hid hsk
   have hsl : sk < Y.length := by have := HYp.out; omega
   obtain ⟨ay, hay, hpy, y0⟩ := HZ4.out sk hsl
   subst hay
   rw [hsk, Int.toNat_natCast, show Y.getD sk 0 = Y[sk] by simp [hsl]] at HQ
   have HEq := hid (same_any (some ay) Y.length c4 Af (finM N).length cf Y (finM N) w4 HZ4.out rfl HF4.out rfl (by omega))
   generalize Y[sk] = y at *
   generalize decide (Y = finM N) = eq at *
   have hsk0 : (0 : Int) ≤ (sk : Int) := by omega
   have hsk1 : (sk : Int) < (Y.length : Int) := by omega
   obtain ⟨b0, b1, b2, b3⟩ := HNb4.out.cells
   obtain ⟨d0, d1, d2, d3, d4, d5, d6, d7⟩ := HCb4.out.cells
   rw [hsk] at b3
   clear hk0 hsk
   by_cases hy : 0 < y
   · have q4 : decide (0 < y) = true := by simpa using hy
     rw [q4, Bool.true_and] at HQ
     clear hy
     go_wp2_with fail
     ((with_reducible refine HEq.out.mono ?_); rintro e w5 ⟨rfl, hb5⟩)
     have HB5 := hid (HB4.out.trans (hb5.mono HB4.out.size))
     clear b0 b1 b2 b3 d0 d1 d2 d3 d4 d5 d6 d7 y0
     go_wp2_with fail
     go_ret
     exact ⟨ret_bool (by rw [HQ.out]), HB5.out⟩
   · have q4 : decide (0 < y) = false := by simpa using hy
     rw [q4] at HQ
     clear hy
     go_wp2_with fail
     go_ret
     exact ⟨ret_bool (by rw [HQ.out]; rfl), HB4.out⟩
 rw [emp_no HC4.out.kl hk0, if_neg (by simp), Bool.true_and] at HQ
 have q3 : ((nk : Int) == 0) = false := by rw [beq_eq_false_iff_ne]; omega
 clear hk0
 have HMs := hid (mks28_any N A n c Ak nk ck K false w4 hpl1 (by omega) HC4.out.k HC4.out.kl HC4.out.kb)
 rw [decide_eq_true (show K.length ≤ 2000 by have := HC4.out.kl; omega), Bool.true_and] at HMs
 cases hme : mksX N.pl false K with
 | false =>
  rw [hme, Bool.false_and, Bool.false_or] at HQ
  rw [hme] at HMs
  clear hme
  obtain ⟨b0, b1, b2, b3⟩ := HNb4.out.cells
  obtain ⟨d0, d1, d2, d3, d4, d5, d6, d7⟩ := HCb4.out.cells
  go_wp2_with fail
  ((with_reducible refine (HMs.out).mono ?_); rintro e w5 ⟨rfl, hb5⟩)
  have HB5 := hid (HB4.out.trans (hb5.mono HB4.out.size))
  have HNb5 := hid (HNb4.out.below hb5)
  have HCb5 := hid (HCb4.out.below hb5)
  have HIn5 := hid (HIn4.out.below hb5)
  have HC5 := hid (HC4.out.below hb5)
  have HF5 := hid (HF4.out.below hb5)
  clear HB4 HNb4 HCb4 HIn4 HC4 HF4
  clear hb5 b0 b1 b2 b3 d0 d1 d2 d3 d4 d5 d6 d7
  by_cases hr0 : nr = 0
  rotate_left
  · have p0 : ((nr : Int) == 0) = false := by rw [beq_eq_false_iff_ne]; omega
    rw [emp_no HC5.out.rl hr0] at HQ
    clear hr0
    obtain ⟨b0, b1, b2, b3⟩ := HNb5.out.cells
    obtain ⟨d0, d1, d2, d3, d4, d5, d6, d7⟩ := HCb5.out.cells
    go_wp2_with fail
    go_ret
    exact ⟨ret_bool (by rw [HQ.out]; try first | rfl | simp), HB5.out⟩
  have p0 : ((nr : Int) == 0) = true := by simp [hr0]
  rw [emp_yes HC5.out.rl hr0] at HQ
  clear hr0
  have HMs := hid (mks28_any N A n c Ak nk ck K true w5 hpl1 (by omega) HC5.out.k HC5.out.kl HC5.out.kb)
  rw [decide_eq_true (show K.length ≤ 2000 by have := HC5.out.kl; omega), Bool.true_and] at HMs
  cases hme : mksX N.pl true K with
  | false =>
   rw [hme] at HMs HQ
   clear hme
   obtain ⟨b0, b1, b2, b3⟩ := HNb5.out.cells
   obtain ⟨d0, d1, d2, d3, d4, d5, d6, d7⟩ := HCb5.out.cells
   go_wp2_with fail
   ((with_reducible refine (HMs.out).mono ?_); rintro e w6 ⟨rfl, hb6⟩)
   have HB6 := hid (HB5.out.trans (hb6.mono HB5.out.size))
   clear hb6 b0 b1 b2 b3 d0 d1 d2 d3 d4 d5 d6 d7
   go_wp2_with fail
   go_ret
   exact ⟨ret_bool (by rw [HQ.out]; try first | rfl | simp), HB6.out⟩
  | true =>
   rw [hme] at HMs HQ
   have HAl := hid (show ∀ s ∈ K, mkX N.pl true s = true from List.all_eq_true.1 hme)
   clear hme
   obtain ⟨b0, b1, b2, b3⟩ := HNb5.out.cells
   obtain ⟨d0, d1, d2, d3, d4, d5, d6, d7⟩ := HCb5.out.cells
   go_wp2_with fail
   ((with_reducible refine (HMs.out).mono ?_); rintro e w6 ⟨rfl, hb6⟩)
   have HB6 := hid (HB5.out.trans (hb6.mono HB5.out.size))
   have HNb6 := hid (HNb5.out.below hb6)
   have HCb6 := hid (HCb5.out.below hb6)
   have HIn6 := hid (HIn5.out.below hb6)
   have HC6 := hid (HC5.out.below hb6)
   have HF6 := hid (HF5.out.below hb6)
   clear HB5 HNb5 HCb5 HIn5 HC5 HF5
   clear hb6 b0 b1 b2 b3 d0 d1 d2 d3 d4 d5 d6 d7
   have HCv := hid (covers28_any N A n c Ak nk ck K w6 HIn6.out HNl.out HV.out HC6.out.k HC6.out.kl HC6.out.kb HAl.out)
   cases hcv : covX N K with
   | false =>
    rw [hcv] at HCv HQ
    clear hcv
    obtain ⟨b0, b1, b2, b3⟩ := HNb6.out.cells
    obtain ⟨d0, d1, d2, d3, d4, d5, d6, d7⟩ := HCb6.out.cells
    go_wp2_with fail
    ((with_reducible refine (HCv.out).mono ?_); rintro e w7 ⟨rfl, hb7⟩)
    have HB7 := hid (HB6.out.trans (hb7.mono HB6.out.size))
    clear hb7 b0 b1 b2 b3 d0 d1 d2 d3 d4 d5 d6 d7
    go_wp2_with fail
    go_ret
    exact ⟨ret_bool (by rw [HQ.out]; try first | rfl | simp), HB7.out⟩
   | true =>
    rw [hcv] at HCv HQ
    clear hcv
    obtain ⟨b0, b1, b2, b3⟩ := HNb6.out.cells
    obtain ⟨d0, d1, d2, d3, d4, d5, d6, d7⟩ := HCb6.out.cells
    go_wp2_with fail
    ((with_reducible refine (HCv.out).mono ?_); rintro e w7 ⟨rfl, hb7⟩)
    have HB7 := hid (HB6.out.trans (hb7.mono HB6.out.size))
    have HNb7 := hid (HNb6.out.below hb7)
    have HCb7 := hid (HCb6.out.below hb7)
    have HIn7 := hid (HIn6.out.below hb7)
    have HC7 := hid (HC6.out.below hb7)
    have HF7 := hid (HF6.out.below hb7)
    clear HB6 HNb6 HCb6 HIn6 HC6 HF6
    clear hb7 b0 b1 b2 b3 d0 d1 d2 d3 d4 d5 d6 d7
    have HNv := hid (never28_any N A n c Ak nk ck K cn w7 HIn7.out HNl.out HV.out HC7.out.k HC7.out.kl HC7.out.kb (fun s hs => mkX_len (HAl.out s hs)))
    generalize nevB N K cn = nv0 at *
    obtain ⟨b0, b1, b2, b3⟩ := HNb7.out.cells
    obtain ⟨d0, d1, d2, d3, d4, d5, d6, d7⟩ := HCb7.out.cells
    go_wp2_with fail
    ((with_reducible refine (HNv.out).mono ?_); rintro e w8 ⟨rfl, hb8⟩)
    have HB8 := hid (HB7.out.trans (hb8.mono HB7.out.size))
    clear hb8 b0 b1 b2 b3 d0 d1 d2 d3 d4 d5 d6 d7
    go_wp2_with fail
    go_ret
    exact ⟨ret_bool (by rw [HQ.out]; try first | rfl | simp), HB8.out⟩
 | true =>
  rw [hme, Bool.true_and] at HQ
  rw [hme] at HMs
  have HAll := hid (show ∀ s ∈ K, mkX N.pl false s = true from List.all_eq_true.1 hme)
  clear hme
  obtain ⟨b0, b1, b2, b3⟩ := HNb4.out.cells
  obtain ⟨d0, d1, d2, d3, d4, d5, d6, d7⟩ := HCb4.out.cells
  go_wp2_with fail
  ((with_reducible refine (HMs.out).mono ?_); rintro e w5 ⟨rfl, hb5⟩)
  have HB5 := hid (HB4.out.trans (hb5.mono HB4.out.size))
  have HNb5 := hid (HNb4.out.below hb5)
  have HCb5 := hid (HCb4.out.below hb5)
  have HIn5 := hid (HIn4.out.below hb5)
  have HC5 := hid (HC4.out.below hb5)
  have HF5 := hid (HF4.out.below hb5)
  have HZ5 := hid (HZ4.out.below hb5)
  clear HB4 HNb4 HCb4 HIn4 HC4 HF4 HZ4
  clear hb5 b0 b1 b2 b3 d0 d1 d2 d3 d4 d5 d6 d7
  have HAt := hid (at28_any Ak nk ck K A4 Y.length c4 Y w5 HC5.out.k HC5.out.kl HC5.out.kb HZ5.out rfl)
  by_cases hf : findR K Y < 0
  · rw [decide_eq_true hf, Bool.not_true, Bool.false_and, Bool.false_or] at HQ
    have q4 : decide (0 ≤ findR K Y) = false := by simp; omega
    generalize findR K Y = fi at *
    clear hf
    obtain ⟨b0, b1, b2, b3⟩ := HNb5.out.cells
    obtain ⟨d0, d1, d2, d3, d4, d5, d6, d7⟩ := HCb5.out.cells
    go_wp2_with fail
    ((with_reducible refine (HAt.out).mono ?_); rintro e w6 ⟨rfl, hb6⟩)
    have HB6 := hid (HB5.out.trans (hb6.mono HB5.out.size))
    have HNb6 := hid (HNb5.out.below hb6)
    have HCb6 := hid (HCb5.out.below hb6)
    have HIn6 := hid (HIn5.out.below hb6)
    have HC6 := hid (HC5.out.below hb6)
    have HF6 := hid (HF5.out.below hb6)
    clear HB5 HNb5 HCb5 HIn5 HC5 HF5
    clear hb6 b0 b1 b2 b3 d0 d1 d2 d3 d4 d5 d6 d7
    by_cases hr0 : nr = 0
    rotate_left
    · have p0 : ((nr : Int) == 0) = false := by rw [beq_eq_false_iff_ne]; omega
      rw [emp_no HC6.out.rl hr0] at HQ
      clear hr0
      obtain ⟨b0, b1, b2, b3⟩ := HNb6.out.cells
      obtain ⟨d0, d1, d2, d3, d4, d5, d6, d7⟩ := HCb6.out.cells
      go_wp2_with fail
      go_ret
      exact ⟨ret_bool (by rw [HQ.out]; try first | rfl | simp), HB6.out⟩
    have p0 : ((nr : Int) == 0) = true := by simp [hr0]
    rw [emp_yes HC6.out.rl hr0] at HQ
    clear hr0
    have HMs := hid (mks28_any N A n c Ak nk ck K true w6 hpl1 (by omega) HC6.out.k HC6.out.kl HC6.out.kb)
    rw [decide_eq_true (show K.length ≤ 2000 by have := HC6.out.kl; omega), Bool.true_and] at HMs
    cases hme : mksX N.pl true K with
    | false =>
     rw [hme] at HMs HQ
     clear hme
     obtain ⟨b0, b1, b2, b3⟩ := HNb6.out.cells
     obtain ⟨d0, d1, d2, d3, d4, d5, d6, d7⟩ := HCb6.out.cells
     go_wp2_with fail
     ((with_reducible refine (HMs.out).mono ?_); rintro e w7 ⟨rfl, hb7⟩)
     have HB7 := hid (HB6.out.trans (hb7.mono HB6.out.size))
     clear hb7 b0 b1 b2 b3 d0 d1 d2 d3 d4 d5 d6 d7
     go_wp2_with fail
     go_ret
     exact ⟨ret_bool (by rw [HQ.out]; try first | rfl | simp), HB7.out⟩
    | true =>
     rw [hme] at HMs HQ
     have HAl := hid (show ∀ s ∈ K, mkX N.pl true s = true from List.all_eq_true.1 hme)
     clear hme
     obtain ⟨b0, b1, b2, b3⟩ := HNb6.out.cells
     obtain ⟨d0, d1, d2, d3, d4, d5, d6, d7⟩ := HCb6.out.cells
     go_wp2_with fail
     ((with_reducible refine (HMs.out).mono ?_); rintro e w7 ⟨rfl, hb7⟩)
     have HB7 := hid (HB6.out.trans (hb7.mono HB6.out.size))
     have HNb7 := hid (HNb6.out.below hb7)
     have HCb7 := hid (HCb6.out.below hb7)
     have HIn7 := hid (HIn6.out.below hb7)
     have HC7 := hid (HC6.out.below hb7)
     have HF7 := hid (HF6.out.below hb7)
     clear HB6 HNb6 HCb6 HIn6 HC6 HF6
     clear hb7 b0 b1 b2 b3 d0 d1 d2 d3 d4 d5 d6 d7
     have HCv := hid (covers28_any N A n c Ak nk ck K w7 HIn7.out HNl.out HV.out HC7.out.k HC7.out.kl HC7.out.kb HAl.out)
     cases hcv : covX N K with
     | false =>
      rw [hcv] at HCv HQ
      clear hcv
      obtain ⟨b0, b1, b2, b3⟩ := HNb7.out.cells
      obtain ⟨d0, d1, d2, d3, d4, d5, d6, d7⟩ := HCb7.out.cells
      go_wp2_with fail
      ((with_reducible refine (HCv.out).mono ?_); rintro e w8 ⟨rfl, hb8⟩)
      have HB8 := hid (HB7.out.trans (hb8.mono HB7.out.size))
      clear hb8 b0 b1 b2 b3 d0 d1 d2 d3 d4 d5 d6 d7
      go_wp2_with fail
      go_ret
      exact ⟨ret_bool (by rw [HQ.out]; try first | rfl | simp), HB8.out⟩
     | true =>
      rw [hcv] at HCv HQ
      clear hcv
      obtain ⟨b0, b1, b2, b3⟩ := HNb7.out.cells
      obtain ⟨d0, d1, d2, d3, d4, d5, d6, d7⟩ := HCb7.out.cells
      go_wp2_with fail
      ((with_reducible refine (HCv.out).mono ?_); rintro e w8 ⟨rfl, hb8⟩)
      have HB8 := hid (HB7.out.trans (hb8.mono HB7.out.size))
      have HNb8 := hid (HNb7.out.below hb8)
      have HCb8 := hid (HCb7.out.below hb8)
      have HIn8 := hid (HIn7.out.below hb8)
      have HC8 := hid (HC7.out.below hb8)
      have HF8 := hid (HF7.out.below hb8)
      clear HB7 HNb7 HCb7 HIn7 HC7 HF7
      clear hb8 b0 b1 b2 b3 d0 d1 d2 d3 d4 d5 d6 d7
      have HNv := hid (never28_any N A n c Ak nk ck K cn w8 HIn8.out HNl.out HV.out HC8.out.k HC8.out.kl HC8.out.kb (fun s hs => mkX_len (HAl.out s hs)))
      generalize nevB N K cn = nv0 at *
      obtain ⟨b0, b1, b2, b3⟩ := HNb8.out.cells
      obtain ⟨d0, d1, d2, d3, d4, d5, d6, d7⟩ := HCb8.out.cells
      go_wp2_with fail
      ((with_reducible refine (HNv.out).mono ?_); rintro e w9 ⟨rfl, hb9⟩)
      have HB9 := hid (HB8.out.trans (hb9.mono HB8.out.size))
      clear hb9 b0 b1 b2 b3 d0 d1 d2 d3 d4 d5 d6 d7
      go_wp2_with fail
      go_ret
      exact ⟨ret_bool (by rw [HQ.out]; try first | rfl | simp), HB9.out⟩
  rw [decide_eq_false hf, Bool.not_false, Bool.true_and] at HQ
  have q4 : decide (0 ≤ findR K Y) = true := by simp; omega
  generalize findR K Y = fi at *
  clear hf
  obtain ⟨b0, b1, b2, b3⟩ := HNb5.out.cells
  obtain ⟨d0, d1, d2, d3, d4, d5, d6, d7⟩ := HCb5.out.cells
  go_wp2_with fail
  ((with_reducible refine (HAt.out).mono ?_); rintro e w6 ⟨rfl, hb6⟩)
  have HB6 := hid (HB5.out.trans (hb6.mono HB5.out.size))
  have HNb6 := hid (HNb5.out.below hb6)
  have HCb6 := hid (HCb5.out.below hb6)
  have HIn6 := hid (HIn5.out.below hb6)
  have HC6 := hid (HC5.out.below hb6)
  have HF6 := hid (HF5.out.below hb6)
  clear HB5 HNb5 HCb5 HIn5 HC5 HF5
  clear hb6 b0 b1 b2 b3 d0 d1 d2 d3 d4 d5 d6 d7
  have HCl := hid (closed28_any N A n c Ak nk ck K w6 HIn6.out HNl.out HV.out HC6.out.k HC6.out.kl HC6.out.kb HAll.out)
  cases hcl : closX N K with
  | false =>
   rw [hcl, Bool.false_and, Bool.false_or] at HQ
   rw [hcl] at HCl
   clear hcl
   obtain ⟨b0, b1, b2, b3⟩ := HNb6.out.cells
   obtain ⟨d0, d1, d2, d3, d4, d5, d6, d7⟩ := HCb6.out.cells
   go_wp2_with fail
   ((with_reducible refine (HCl.out).mono ?_); rintro e w7 ⟨rfl, hb7⟩)
   have HB7 := hid (HB6.out.trans (hb7.mono HB6.out.size))
   have HNb7 := hid (HNb6.out.below hb7)
   have HCb7 := hid (HCb6.out.below hb7)
   have HIn7 := hid (HIn6.out.below hb7)
   have HC7 := hid (HC6.out.below hb7)
   have HF7 := hid (HF6.out.below hb7)
   clear HB6 HNb6 HCb6 HIn6 HC6 HF6
   clear hb7 b0 b1 b2 b3 d0 d1 d2 d3 d4 d5 d6 d7
   by_cases hr0 : nr = 0
   rotate_left
   · have p0 : ((nr : Int) == 0) = false := by rw [beq_eq_false_iff_ne]; omega
     rw [emp_no HC7.out.rl hr0] at HQ
     clear hr0
     obtain ⟨b0, b1, b2, b3⟩ := HNb7.out.cells
     obtain ⟨d0, d1, d2, d3, d4, d5, d6, d7⟩ := HCb7.out.cells
     go_wp2_with fail
     go_ret
     exact ⟨ret_bool (by rw [HQ.out]; try first | rfl | simp), HB7.out⟩
   have p0 : ((nr : Int) == 0) = true := by simp [hr0]
   rw [emp_yes HC7.out.rl hr0] at HQ
   clear hr0
   have HMs := hid (mks28_any N A n c Ak nk ck K true w7 hpl1 (by omega) HC7.out.k HC7.out.kl HC7.out.kb)
   rw [decide_eq_true (show K.length ≤ 2000 by have := HC7.out.kl; omega), Bool.true_and] at HMs
   cases hme : mksX N.pl true K with
   | false =>
    rw [hme] at HMs HQ
    clear hme
    obtain ⟨b0, b1, b2, b3⟩ := HNb7.out.cells
    obtain ⟨d0, d1, d2, d3, d4, d5, d6, d7⟩ := HCb7.out.cells
    go_wp2_with fail
    ((with_reducible refine (HMs.out).mono ?_); rintro e w8 ⟨rfl, hb8⟩)
    have HB8 := hid (HB7.out.trans (hb8.mono HB7.out.size))
    clear hb8 b0 b1 b2 b3 d0 d1 d2 d3 d4 d5 d6 d7
    go_wp2_with fail
    go_ret
    exact ⟨ret_bool (by rw [HQ.out]; try first | rfl | simp), HB8.out⟩
   | true =>
    rw [hme] at HMs HQ
    have HAl := hid (show ∀ s ∈ K, mkX N.pl true s = true from List.all_eq_true.1 hme)
    clear hme
    obtain ⟨b0, b1, b2, b3⟩ := HNb7.out.cells
    obtain ⟨d0, d1, d2, d3, d4, d5, d6, d7⟩ := HCb7.out.cells
    go_wp2_with fail
    ((with_reducible refine (HMs.out).mono ?_); rintro e w8 ⟨rfl, hb8⟩)
    have HB8 := hid (HB7.out.trans (hb8.mono HB7.out.size))
    have HNb8 := hid (HNb7.out.below hb8)
    have HCb8 := hid (HCb7.out.below hb8)
    have HIn8 := hid (HIn7.out.below hb8)
    have HC8 := hid (HC7.out.below hb8)
    have HF8 := hid (HF7.out.below hb8)
    clear HB7 HNb7 HCb7 HIn7 HC7 HF7
    clear hb8 b0 b1 b2 b3 d0 d1 d2 d3 d4 d5 d6 d7
    have HCv := hid (covers28_any N A n c Ak nk ck K w8 HIn8.out HNl.out HV.out HC8.out.k HC8.out.kl HC8.out.kb HAl.out)
    cases hcv : covX N K with
    | false =>
     rw [hcv] at HCv HQ
     clear hcv
     obtain ⟨b0, b1, b2, b3⟩ := HNb8.out.cells
     obtain ⟨d0, d1, d2, d3, d4, d5, d6, d7⟩ := HCb8.out.cells
     go_wp2_with fail
     ((with_reducible refine (HCv.out).mono ?_); rintro e w9 ⟨rfl, hb9⟩)
     have HB9 := hid (HB8.out.trans (hb9.mono HB8.out.size))
     clear hb9 b0 b1 b2 b3 d0 d1 d2 d3 d4 d5 d6 d7
     go_wp2_with fail
     go_ret
     exact ⟨ret_bool (by rw [HQ.out]; try first | rfl | simp), HB9.out⟩
    | true =>
     rw [hcv] at HCv HQ
     clear hcv
     obtain ⟨b0, b1, b2, b3⟩ := HNb8.out.cells
     obtain ⟨d0, d1, d2, d3, d4, d5, d6, d7⟩ := HCb8.out.cells
     go_wp2_with fail
     ((with_reducible refine (HCv.out).mono ?_); rintro e w9 ⟨rfl, hb9⟩)
     have HB9 := hid (HB8.out.trans (hb9.mono HB8.out.size))
     have HNb9 := hid (HNb8.out.below hb9)
     have HCb9 := hid (HCb8.out.below hb9)
     have HIn9 := hid (HIn8.out.below hb9)
     have HC9 := hid (HC8.out.below hb9)
     have HF9 := hid (HF8.out.below hb9)
     clear HB8 HNb8 HCb8 HIn8 HC8 HF8
     clear hb9 b0 b1 b2 b3 d0 d1 d2 d3 d4 d5 d6 d7
     have HNv := hid (never28_any N A n c Ak nk ck K cn w9 HIn9.out HNl.out HV.out HC9.out.k HC9.out.kl HC9.out.kb (fun s hs => mkX_len (HAl.out s hs)))
     generalize nevB N K cn = nv0 at *
     obtain ⟨b0, b1, b2, b3⟩ := HNb9.out.cells
     obtain ⟨d0, d1, d2, d3, d4, d5, d6, d7⟩ := HCb9.out.cells
     go_wp2_with fail
     ((with_reducible refine (HNv.out).mono ?_); rintro e w10 ⟨rfl, hb10⟩)
     have HB10 := hid (HB9.out.trans (hb10.mono HB9.out.size))
     clear hb10 b0 b1 b2 b3 d0 d1 d2 d3 d4 d5 d6 d7
     go_wp2_with fail
     go_ret
     exact ⟨ret_bool (by rw [HQ.out]; try first | rfl | simp), HB10.out⟩
  | true =>
   rw [hcl, Bool.true_and] at HQ
   rw [hcl] at HCl
   clear hcl
   obtain ⟨b0, b1, b2, b3⟩ := HNb6.out.cells
   obtain ⟨d0, d1, d2, d3, d4, d5, d6, d7⟩ := HCb6.out.cells
   go_wp2_with fail
   ((with_reducible refine (HCl.out).mono ?_); rintro e w7 ⟨rfl, hb7⟩)
   have HB7 := hid (HB6.out.trans (hb7.mono HB6.out.size))
   have HNb7 := hid (HNb6.out.below hb7)
   have HCb7 := hid (HCb6.out.below hb7)
   have HIn7 := hid (HIn6.out.below hb7)
   have HC7 := hid (HC6.out.below hb7)
   have HF7 := hid (HF6.out.below hb7)
   clear HB6 HNb6 HCb6 HIn6 HC6 HF6
   clear hb7 b0 b1 b2 b3 d0 d1 d2 d3 d4 d5 d6 d7
   have HAf := hid (at28_any Ak nk ck K Af (finM N).length cf (finM N) w7 HC7.out.k HC7.out.kl HC7.out.kb HF7.out rfl)
   by_cases hff : findR K (finM N) < 0
   · rw [decide_eq_true hff] at HQ
     have q5 : decide (findR K (finM N) < 0) = true := by simpa using hff
     generalize findR K (finM N) = ff at *
     clear hff
     obtain ⟨b0, b1, b2, b3⟩ := HNb7.out.cells
     obtain ⟨d0, d1, d2, d3, d4, d5, d6, d7⟩ := HCb7.out.cells
     go_wp2_with fail
     ((with_reducible refine (HAf.out).mono ?_); rintro e w8 ⟨rfl, hb8⟩)
     have HB8 := hid (HB7.out.trans (hb8.mono HB7.out.size))
     clear hb8 b0 b1 b2 b3 d0 d1 d2 d3 d4 d5 d6 d7
     go_wp2_with fail
     go_ret
     exact ⟨ret_bool (by rw [HQ.out]; try first | rfl | simp), HB8.out⟩
   · rw [decide_eq_false hff, Bool.false_or] at HQ
     have q5 : decide (findR K (finM N) < 0) = false := by simpa using hff
     generalize findR K (finM N) = ff at *
     clear hff
     obtain ⟨b0, b1, b2, b3⟩ := HNb7.out.cells
     obtain ⟨d0, d1, d2, d3, d4, d5, d6, d7⟩ := HCb7.out.cells
     go_wp2_with fail
     ((with_reducible refine (HAf.out).mono ?_); rintro e w8 ⟨rfl, hb8⟩)
     have HB8 := hid (HB7.out.trans (hb8.mono HB7.out.size))
     have HNb8 := hid (HNb7.out.below hb8)
     have HCb8 := hid (HCb7.out.below hb8)
     have HIn8 := hid (HIn7.out.below hb8)
     have HC8 := hid (HC7.out.below hb8)
     have HF8 := hid (HF7.out.below hb8)
     clear HB7 HNb7 HCb7 HIn7 HC7 HF7
     clear hb8 b0 b1 b2 b3 d0 d1 d2 d3 d4 d5 d6 d7
     by_cases hr0 : nr = 0
     rotate_left
     · have p0 : ((nr : Int) == 0) = false := by rw [beq_eq_false_iff_ne]; omega
       rw [emp_no HC8.out.rl hr0] at HQ
       clear hr0
       obtain ⟨b0, b1, b2, b3⟩ := HNb8.out.cells
       obtain ⟨d0, d1, d2, d3, d4, d5, d6, d7⟩ := HCb8.out.cells
       go_wp2_with fail
       go_ret
       exact ⟨ret_bool (by rw [HQ.out]; try first | rfl | simp), HB8.out⟩
     have p0 : ((nr : Int) == 0) = true := by simp [hr0]
     rw [emp_yes HC8.out.rl hr0] at HQ
     clear hr0
     have HMs := hid (mks28_any N A n c Ak nk ck K true w8 hpl1 (by omega) HC8.out.k HC8.out.kl HC8.out.kb)
     rw [decide_eq_true (show K.length ≤ 2000 by have := HC8.out.kl; omega), Bool.true_and] at HMs
     cases hme : mksX N.pl true K with
     | false =>
      rw [hme] at HMs HQ
      clear hme
      obtain ⟨b0, b1, b2, b3⟩ := HNb8.out.cells
      obtain ⟨d0, d1, d2, d3, d4, d5, d6, d7⟩ := HCb8.out.cells
      go_wp2_with fail
      ((with_reducible refine (HMs.out).mono ?_); rintro e w9 ⟨rfl, hb9⟩)
      have HB9 := hid (HB8.out.trans (hb9.mono HB8.out.size))
      clear hb9 b0 b1 b2 b3 d0 d1 d2 d3 d4 d5 d6 d7
      go_wp2_with fail
      go_ret
      exact ⟨ret_bool (by rw [HQ.out]; try first | rfl | simp), HB9.out⟩
     | true =>
      rw [hme] at HMs HQ
      have HAl := hid (show ∀ s ∈ K, mkX N.pl true s = true from List.all_eq_true.1 hme)
      clear hme
      obtain ⟨b0, b1, b2, b3⟩ := HNb8.out.cells
      obtain ⟨d0, d1, d2, d3, d4, d5, d6, d7⟩ := HCb8.out.cells
      go_wp2_with fail
      ((with_reducible refine (HMs.out).mono ?_); rintro e w9 ⟨rfl, hb9⟩)
      have HB9 := hid (HB8.out.trans (hb9.mono HB8.out.size))
      have HNb9 := hid (HNb8.out.below hb9)
      have HCb9 := hid (HCb8.out.below hb9)
      have HIn9 := hid (HIn8.out.below hb9)
      have HC9 := hid (HC8.out.below hb9)
      have HF9 := hid (HF8.out.below hb9)
      clear HB8 HNb8 HCb8 HIn8 HC8 HF8
      clear hb9 b0 b1 b2 b3 d0 d1 d2 d3 d4 d5 d6 d7
      have HCv := hid (covers28_any N A n c Ak nk ck K w9 HIn9.out HNl.out HV.out HC9.out.k HC9.out.kl HC9.out.kb HAl.out)
      cases hcv : covX N K with
      | false =>
       rw [hcv] at HCv HQ
       clear hcv
       obtain ⟨b0, b1, b2, b3⟩ := HNb9.out.cells
       obtain ⟨d0, d1, d2, d3, d4, d5, d6, d7⟩ := HCb9.out.cells
       go_wp2_with fail
       ((with_reducible refine (HCv.out).mono ?_); rintro e w10 ⟨rfl, hb10⟩)
       have HB10 := hid (HB9.out.trans (hb10.mono HB9.out.size))
       clear hb10 b0 b1 b2 b3 d0 d1 d2 d3 d4 d5 d6 d7
       go_wp2_with fail
       go_ret
       exact ⟨ret_bool (by rw [HQ.out]; try first | rfl | simp), HB10.out⟩
      | true =>
       rw [hcv] at HCv HQ
       clear hcv
       obtain ⟨b0, b1, b2, b3⟩ := HNb9.out.cells
       obtain ⟨d0, d1, d2, d3, d4, d5, d6, d7⟩ := HCb9.out.cells
       go_wp2_with fail
       ((with_reducible refine (HCv.out).mono ?_); rintro e w10 ⟨rfl, hb10⟩)
       have HB10 := hid (HB9.out.trans (hb10.mono HB9.out.size))
       have HNb10 := hid (HNb9.out.below hb10)
       have HCb10 := hid (HCb9.out.below hb10)
       have HIn10 := hid (HIn9.out.below hb10)
       have HC10 := hid (HC9.out.below hb10)
       have HF10 := hid (HF9.out.below hb10)
       clear HB9 HNb9 HCb9 HIn9 HC9 HF9
       clear hb10 b0 b1 b2 b3 d0 d1 d2 d3 d4 d5 d6 d7
       have HNv := hid (never28_any N A n c Ak nk ck K cn w10 HIn10.out HNl.out HV.out HC10.out.k HC10.out.kl HC10.out.kb (fun s hs => mkX_len (HAl.out s hs)))
       generalize nevB N K cn = nv0 at *
       obtain ⟨b0, b1, b2, b3⟩ := HNb10.out.cells
       obtain ⟨d0, d1, d2, d3, d4, d5, d6, d7⟩ := HCb10.out.cells
       go_wp2_with fail
       ((with_reducible refine (HNv.out).mono ?_); rintro e w11 ⟨rfl, hb11⟩)
       have HB11 := hid (HB10.out.trans (hb11.mono HB10.out.size))
       clear hb11 b0 b1 b2 b3 d0 d1 d2 d3 d4 d5 d6 d7
       go_wp2_with fail
       go_ret
       exact ⟨ret_bool (by rw [HQ.out]; try first | rfl | simp), HB11.out⟩
set_option maxHeartbeats 12800000 in
set_option maxRecDepth 100000 in
theorem relaxed28_any (N : Nt) (A : Option Addr) (n c : Nat) (cl cn : Int) (Ar : Option Addr) (nr cr : Nat) (R : List Int) (Ap : Option Addr) (np cp : Nat) (P : List Int) (Ak : Option Addr) (nk ck : Nat) (K : List (List Int)) (Av : Option Addr) (nv cv : Nat) (V : List Mv) (As : Option Addr) (ns cs : Nat) (S : List (List Int)) (Aw : Option Addr) (nw cw : Nat) (X : List (List Int)) (w : World) (h : NtIn w A N) (hn : N.tr.length = n) (hv : ntB N = true) (hC : CfM w Ar nr R Ap np P Ak nk K Av nv V As ns S Aw nw X) :
 Calls Tryz.prog 80 #[.agg #[.int .i64 N.pl, .slice A n c, .int .i64 N.src, .int .i64 N.snk], .agg #[.int .i64 cl, .int .i64 cn, .slice Ar nr cr, .slice Ap np cp, .slice Ak nk ck, .slice Av nv cv, .slice As ns cs, .slice Aw nw cw]] w fun e w' => e = .returned (.bool (relB N S)) ∧ Below w.heap.size w w' := by
 have HB0 := hid (two_boxes w (.cells #[.int .i64 N.pl, .slice A n c, .int .i64 N.src, .int .i64 N.snk] 24) (.cells #[.int .i64 cl, .int .i64 cn, .slice Ar nr cr, .slice Ap np cp, .slice Ak nk ck, .slice Av nv cv, .slice As ns cs, .slice Aw nw cw] 29))
 have HNb0 := hid ((NB.new w N.pl A n c N.src N.snk).below (below_alloc _ (.cells #[.int .i64 cl, .int .i64 cn, .slice Ar nr cr, .slice Ap np cp, .slice Ak nk ck, .slice Av nv cv, .slice As ns cs, .slice Aw nw cw] 29)))
 have hcb := heap_alloc_new (w.alloc (.cells #[.int .i64 N.pl, .slice A n c, .int .i64 N.src, .int .i64 N.snk] 24)) (.cells #[.int .i64 cl, .int .i64 cn, .slice Ar nr cr, .slice Ap np cp, .slice Ak nk ck, .slice Av nv cv, .slice As ns cs, .slice Aw nw cw] 29)
 rw [World.size_alloc] at hcb
 have HCb0 := hid (show CtB _ (w.heap.size + 1) #[.int .i64 cl, .int .i64 cn, .slice Ar nr cr, .slice Ap np cp, .slice Ak nk ck, .slice Av nv cv, .slice As ns cs, .slice Aw nw cw] from hcb)
 have HIn0 := hid (h.below HB0.out)
 have HC0 := hid (hC.below HB0.out)
 have HNl := hid hn
 have HV := hid hv
 have hps := nt_small hv
 have hn60 : n ≤ 60 := by omega
 have HQ := hid (show relB N S = (decide (S.length = N.tr.length) && (List.range S.length).all (relAt N S)) from rfl)
 generalize relB N S = Q at *
 have hpl1 : 1 ≤ N.pl := hps.1
 have hpl40 : N.pl ≤ 40 := hps.2.1
 have HFl := hid (fin_len hv)
 have hfl : (finM N).length ≤ 40 := by have := HFl.out; omega
 clear h hn hv hC hps hcb
 by_cases hs : ns = n
 rotate_left
 · have q1 : ((ns : Int) != (n : Int)) = true := by rw [bne_iff_ne]; omega
   rw [HC0.out.sl, HNl.out, decide_eq_false hs] at HQ
   clear hs
   go_enter Tryz.func80, Tryz.ntmps80
   go_wp2_with fail
   go_ret
   exact ⟨ret_bool (by rw [HQ.out]; rfl), HB0.out⟩
 have q1 : ((ns : Int) != (n : Int)) = false := by simp; omega
 rw [HC0.out.sl, HNl.out, decide_eq_true hs, Bool.true_and] at HQ
 have HSn := hid hs
 clear hs
 go_enter Tryz.func80, Tryz.ntmps80
 go_wp2_with fail
 generalize (w.alloc (.cells #[.int .i64 N.pl, .slice A n c, .int .i64 N.src, .int .i64 N.snk] 24)).alloc (.cells #[.int .i64 cl, .int .i64 cn, .slice Ar nr cr, .slice Ap np cp, .slice Ak nk ck, .slice Av nv cv, .slice As ns cs, .slice Aw nw cw] 29) = w0 at *
 generalize w.heap.size + 1 = cb at *
 clear q1
 have HBl0 := hid (Below.refl w0.heap.size w0)
 go_loopg [5] (n) (fun g iv wr => ∃ t : Nat, t + g = n ∧ iv = .int .i64 (t : Int) ∧ (List.range t).all (relAt N S) = true ∧ Below w0.heap.size w0 wr)
 case atStart => exact ⟨0, by omega, rfl, rfl, HBl0.out⟩
 case round =>
  clear HBl0
  obtain ⟨t, ht, rfl, hp, hB⟩ := hrel
  have HJ := hid ht
  have HP := hid hp
  have HBl20 := hid hB
  have hle : t ≤ n := by omega
  clear ht hp hB
  obtain ⟨w20, rfl⟩ : ∃ w20, w20 = wr := ⟨_, rfl⟩
  have HB20 := hid (HB0.out.trans (HBl20.out.mono HB0.out.size))
  have HNb20 := hid (HNb0.out.below HBl20.out)
  have HCb20 := hid (HCb0.out.below HBl20.out)
  have HIn20 := hid (HIn0.out.below HBl20.out)
  have HC20 := hid (HC0.out.below HBl20.out)
  obtain ⟨b0, b1, b2, b3⟩ := HNb20.out.cells
  obtain ⟨d0, d1, d2, d3, d4, d5, d6, d7⟩ := HCb20.out.cells
  by_cases hlt : t < n
  · have hts : t < S.length := by rw [HC0.out.sl, HSn.out]; exact hlt
    have htn : t < ns := by rw [HSn.out]; exact hlt
    have hnsb := HC0.out.sb
    have HSt := hid (range_step (relAt N S) t)
    have HNo := hid (fun hh => range_no (relAt N S) (n := ns) htn hh)
    have HRe := hid (show relAt N S t = (decide ((runI N S[t]).2.2 = 0) && (decide ((runI N S[t]).1 = finM N) && hasB S[t] (t : Int))) by unfold relAt; rw [List.getElem?_eq_getElem hts])
    obtain ⟨as_, rfl⟩ : ∃ as_, As = some as_ := by
     obtain ⟨ad, e, _⟩ := HC0.out.s t hts
     exact ⟨ad, e⟩
    obtain ⟨Al, nl, cl0, hy0, hzl, hl1, hl2, hl3⟩ := lin_at HC0.out.s hts
    have HY20 := hid (hy0.below HBl20.out)
    have HZl := hid hzl
    have HLl := hid hl1
    generalize S[t] = L at *
    have ht0 : (0 : Int) ≤ (t : Int) := by omega
    have ht1 : (t : Int) < (ns : Int) := by omega
    clear hy0 hzl hl1 hts
    go_wp2_with fail
    clear b0 b1 b2 b3 d0 d1 d2 d3 d4 d5 d6 d7
    by_cases hr : (runI N L).2.2 = 0
    rotate_left
    · rw [HNo.out (by rw [HRe.out, decide_eq_false hr]; rfl)] at HQ
      obtain ⟨b0, b1, b2, b3⟩ := HNb20.out.cells
      obtain ⟨d0, d1, d2, d3, d4, d5, d6, d7⟩ := HCb20.out.cells
      have y0 : w20.cell? (as_.add t) = some (.slice Al nl cl0) := HY20.out
      clear d0 d1 d2 d3 d4 d5 d7
      have hbd : Below w20.heap.size w20 w20.drew := (Below.refl _ _).drew
      have HB21 := hid (HB20.out.trans (hbd.mono HB20.out.size))
      have HNb21 := hid (HNb20.out.below hbd)
      have HCb21 := hid (HCb20.out.below hbd)
      have HIn21 := hid (HIn20.out.below hbd)
      have HC21 := hid (HC20.out.below hbd)
      have HBl21 := hid (HBl20.out.trans (hbd.mono HBl20.out.size))
      have HY21 := hid (HY20.out.below hbd)
      have hS0 := And.intro (cell_stays hbd b0) (And.intro (cell_stays hbd b1) (And.intro (cell_stays hbd b2) (And.intro (cell_stays hbd b3) (And.intro (cell_stays hbd d6) ((cell_stays hbd y0))))))
      refine wp_region_held_drew (S := fun w' => w'.cell? ⟨w.heap.size, 0, none⟩ = some (.int .i64 N.pl) ∧ w'.cell? ⟨w.heap.size, 1, none⟩ = some (.slice A n c) ∧ w'.cell? ⟨w.heap.size, 2, none⟩ = some (.int .i64 N.src) ∧ w'.cell? ⟨w.heap.size, 3, none⟩ = some (.int .i64 N.snk) ∧ w'.cell? ⟨cb, 6, none⟩ = some (.slice (some as_) ns cs) ∧ w'.cell? (as_.add t) = some (.slice Al nl cl0)) (by kernel_rfl) hS0 (fun hHeld => ?_)
      clear hS0 hbd b0 b1 b2 b3 d6 y0
      clear HB20 HNb20 HCb20 HIn20 HC20 HBl20 HY20
      generalize w20.drew = w21 at *
      refine tkH 0 ?_; try go_simp
      refine tkH 1 ?_; try go_simp
      refine tkH 3 ?_; try go_simp
      refine tkH 4 ?_; try go_simp
      refine tkH 5 ?_; try go_simp
      refine tkH 6 ?_; try go_simp
      refine tkH 7 ?_; try go_simp
      refine tkR 2 (fun K9 hK => ?_)
      go_simp
      ((refine (ini28_any N A n c HV.out w21).mono ?_); rintro e w22 ⟨v22, rfl, hS22⟩)
      obtain ⟨A22, c22, rfl⟩ := hS22.slice
      have hb22 := hS22.2
      have hS9 := hHeld
      refine hK.out _ _ ⟨cell_stays hb22 hS9.1, cell_stays hb22 hS9.2.1, cell_stays hb22 hS9.2.2.1, cell_stays hb22 hS9.2.2.2.1, cell_stays hb22 hS9.2.2.2.2.1, cell_stays hb22 hS9.2.2.2.2.2⟩ (fun hHeld => ?_)
      clear hK K9 hS9
      try go_simp
      have HB22 := hid (HB21.out.trans (hb22.mono HB21.out.size))
      have HNb22 := hid (HNb21.out.below hb22)
      have HCb22 := hid (HCb21.out.below hb22)
      have HIn22 := hid (HIn21.out.below hb22)
      have HC22 := hid (HC21.out.below hb22)
      have HBl22 := hid (HBl21.out.trans (hb22.mono HBl21.out.size))
      have HY22 := hid (HY21.out.below hb22)
      clear HB21 HNb21 HCb21 HIn21 HC21 HBl21 HY21
      have HI22 := hid (show ZIn w22 A22 (iniM N) by obtain ⟨A', c', e, hz, _⟩ := hS22.zin; cases e; exact hz)
      clear hS22 hb22
      refine tkR 8 (fun K9 hK => ?_)
      go_simp
      have HRn := hid (run28_any N A n c A22 (iniM N).length c22 (iniM N) Al nl cl0 L w22 HIn22.out HNl.out (by omega) HI22.out rfl (by have := ini_len HV.out; omega) (HZl.out.below HBl22.out) HLl.out)
      rw [show run21 N (iniM N) L = runI N L from rfl] at HRn
      ((refine (vr_no HRn.out hr).mono ?_); rintro e w23 ⟨rfl, hb23⟩)
      have hS9 := hHeld
      refine hK.out _ _ ⟨cell_stays hb23 hS9.1, cell_stays hb23 hS9.2.1, cell_stays hb23 hS9.2.2.1, cell_stays hb23 hS9.2.2.2.1, cell_stays hb23 hS9.2.2.2.2.1, cell_stays hb23 hS9.2.2.2.2.2⟩ (fun hHeld => ?_)
      clear hK K9 hS9
      try go_simp
      have HB23 := hid (HB22.out.trans (hb23.mono HB22.out.size))
      have HNb23 := hid (HNb22.out.below hb23)
      have HCb23 := hid (HCb22.out.below hb23)
      have HIn23 := hid (HIn22.out.below hb23)
      have HC23 := hid (HC22.out.below hb23)
      have HBl23 := hid (HBl22.out.trans (hb23.mono HBl22.out.size))
      have HY23 := hid (HY22.out.below hb23)
      clear HB22 HNb22 HCb22 HIn22 HC22 HBl22 HY22
      clear HRn
      clear hb23
      refine tkH 9 ?_; try go_simp
      refine tkH 10 ?_; try go_simp
      refine tkH 11 ?_; try go_simp
      refine tkH 12 ?_; try go_simp
      refine tkH 13 ?_; try go_simp
      refine wpAnyH_done (by kernel_rfl) ?_ _
      clear hHeld
      go_wp2_with fail
      go_ret
      exact ⟨ret_bool (by rw [HQ.out]), HB23.out⟩
    rw [decide_eq_true hr, Bool.true_and] at HRe
    have HMx := hid (show mkB N (runI N L).1 = true from run21_mk hr)
    obtain ⟨b0, b1, b2, b3⟩ := HNb20.out.cells
    obtain ⟨d0, d1, d2, d3, d4, d5, d6, d7⟩ := HCb20.out.cells
    have y0 : w20.cell? (as_.add t) = some (.slice Al nl cl0) := HY20.out
    clear d0 d1 d2 d3 d4 d5 d7
    have hbd : Below w20.heap.size w20 w20.drew := (Below.refl _ _).drew
    have HB21 := hid (HB20.out.trans (hbd.mono HB20.out.size))
    have HNb21 := hid (HNb20.out.below hbd)
    have HCb21 := hid (HCb20.out.below hbd)
    have HIn21 := hid (HIn20.out.below hbd)
    have HC21 := hid (HC20.out.below hbd)
    have HBl21 := hid (HBl20.out.trans (hbd.mono HBl20.out.size))
    have HY21 := hid (HY20.out.below hbd)
    have hS0 := And.intro (cell_stays hbd b0) (And.intro (cell_stays hbd b1) (And.intro (cell_stays hbd b2) (And.intro (cell_stays hbd b3) (And.intro (cell_stays hbd d6) ((cell_stays hbd y0))))))
    refine wp_region_held_drew (S := fun w' => w'.cell? ⟨w.heap.size, 0, none⟩ = some (.int .i64 N.pl) ∧ w'.cell? ⟨w.heap.size, 1, none⟩ = some (.slice A n c) ∧ w'.cell? ⟨w.heap.size, 2, none⟩ = some (.int .i64 N.src) ∧ w'.cell? ⟨w.heap.size, 3, none⟩ = some (.int .i64 N.snk) ∧ w'.cell? ⟨cb, 6, none⟩ = some (.slice (some as_) ns cs) ∧ w'.cell? (as_.add t) = some (.slice Al nl cl0)) (by kernel_rfl) hS0 (fun hHeld => ?_)
    clear hS0 hbd b0 b1 b2 b3 d6 y0
    clear HB20 HNb20 HCb20 HIn20 HC20 HBl20 HY20
    generalize w20.drew = w21 at *
    refine tkH 0 ?_; try go_simp
    refine tkH 1 ?_; try go_simp
    refine tkH 3 ?_; try go_simp
    refine tkH 4 ?_; try go_simp
    refine tkH 5 ?_; try go_simp
    refine tkH 6 ?_; try go_simp
    refine tkH 7 ?_; try go_simp
    refine tkR 2 (fun K9 hK => ?_)
    go_simp
    ((refine (ini28_any N A n c HV.out w21).mono ?_); rintro e w22 ⟨v22, rfl, hS22⟩)
    obtain ⟨A22, c22, rfl⟩ := hS22.slice
    have hb22 := hS22.2
    have hS9 := hHeld
    refine hK.out _ _ ⟨cell_stays hb22 hS9.1, cell_stays hb22 hS9.2.1, cell_stays hb22 hS9.2.2.1, cell_stays hb22 hS9.2.2.2.1, cell_stays hb22 hS9.2.2.2.2.1, cell_stays hb22 hS9.2.2.2.2.2⟩ (fun hHeld => ?_)
    clear hK K9 hS9
    try go_simp
    have HB22 := hid (HB21.out.trans (hb22.mono HB21.out.size))
    have HNb22 := hid (HNb21.out.below hb22)
    have HCb22 := hid (HCb21.out.below hb22)
    have HIn22 := hid (HIn21.out.below hb22)
    have HC22 := hid (HC21.out.below hb22)
    have HBl22 := hid (HBl21.out.trans (hb22.mono HBl21.out.size))
    have HY22 := hid (HY21.out.below hb22)
    clear HB21 HNb21 HCb21 HIn21 HC21 HBl21 HY21
    have HI22 := hid (show ZIn w22 A22 (iniM N) by obtain ⟨A', c', e, hz, _⟩ := hS22.zin; cases e; exact hz)
    clear hS22 hb22
    refine tkR 8 (fun K9 hK => ?_)
    go_simp
    have HRn := hid (run28_any N A n c A22 (iniM N).length c22 (iniM N) Al nl cl0 L w22 HIn22.out HNl.out (by omega) HI22.out rfl (by have := ini_len HV.out; omega) (HZl.out.below HBl22.out) HLl.out)
    rw [show run21 N (iniM N) L = runI N L from rfl] at HRn
    ((refine (vr_yes HRn.out hr).mono ?_); rintro e w23 ⟨v23, rfl, hS23⟩)
    obtain ⟨A23, c23, rfl⟩ := hS23.slice
    have hb23 := hS23.2
    have hS9 := hHeld
    refine hK.out _ _ ⟨cell_stays hb23 hS9.1, cell_stays hb23 hS9.2.1, cell_stays hb23 hS9.2.2.1, cell_stays hb23 hS9.2.2.2.1, cell_stays hb23 hS9.2.2.2.2.1, cell_stays hb23 hS9.2.2.2.2.2⟩ (fun hHeld => ?_)
    clear hK K9 hS9
    try go_simp
    have HB23 := hid (HB22.out.trans (hb23.mono HB22.out.size))
    have HNb23 := hid (HNb22.out.below hb23)
    have HCb23 := hid (HCb22.out.below hb23)
    have HIn23 := hid (HIn22.out.below hb23)
    have HC23 := hid (HC22.out.below hb23)
    have HBl23 := hid (HBl22.out.trans (hb23.mono HBl22.out.size))
    have HY23 := hid (HY22.out.below hb23)
    clear HB22 HNb22 HCb22 HIn22 HC22 HBl22 HY22
    have HZ23 := hid (show ZIn w23 A23 (runI N L).1 by obtain ⟨A', c', e, hz, _⟩ := hS23.zin; cases e; exact hz)
    clear HRn
    clear hS23 hb23
    refine tkH 9 ?_; try go_simp
    refine tkH 10 ?_; try go_simp
    refine tkH 11 ?_; try go_simp
    refine tkH 12 ?_; try go_simp
    refine tkH 13 ?_; try go_simp
    refine wpAnyH_done (by kernel_rfl) ?_ _
    clear hHeld
    clear hr
    generalize (runI N L).1 = Y at *
    have hyl : Y.length ≤ 40 := by have := mk_len HMx.out; omega
    have HFn := hid (fin28_any N A n c HV.out w23)
    obtain ⟨b0, b1, b2, b3⟩ := HNb23.out.cells
    obtain ⟨d0, d1, d2, d3, d4, d5, d6, d7⟩ := HCb23.out.cells
    go_wp2_with fail
    ((with_reducible refine HFn.out.mono ?_); rintro e w24 ⟨v24, rfl, hS24⟩)
    obtain ⟨A24, c24, rfl⟩ := hS24.slice
    have hb24 := hS24.2
    have HF24 := hid (show ZIn w24 A24 (finM N) by obtain ⟨A', c', e, hz, _⟩ := hS24.zin; cases e; exact hz)
    have HB24 := hid (HB23.out.trans (hb24.mono HB23.out.size))
    have HNb24 := hid (HNb23.out.below hb24)
    have HCb24 := hid (HCb23.out.below hb24)
    have HIn24 := hid (HIn23.out.below hb24)
    have HC24 := hid (HC23.out.below hb24)
    have HBl24 := hid (HBl23.out.trans (hb24.mono HBl23.out.size))
    have HY24 := hid (HY23.out.below hb24)
    have HZ24 := hid (HZ23.out.below hb24)
    clear HB23 HNb23 HCb23 HIn23 HC23 HBl23 HY23 HZ23
    clear hS24 hb24 HFn b0 b1 b2 b3 d0 d1 d2 d3 d4 d5 d6 d7
    have HEq := hid (same_any A23 Y.length c23 A24 (finM N).length c24 Y (finM N) w24 HZ24.out rfl HF24.out rfl (by omega))
    by_cases he : Y = finM N
    rotate_left
    · rw [decide_eq_false he] at HEq HRe
      rw [HNo.out HRe.out] at HQ
      clear he
      obtain ⟨b0, b1, b2, b3⟩ := HNb24.out.cells
      obtain ⟨d0, d1, d2, d3, d4, d5, d6, d7⟩ := HCb24.out.cells
      go_wp2_with fail
      ((with_reducible refine (HEq.out).mono ?_); rintro e w25 ⟨rfl, hb25⟩)
      have HB25 := hid (HB24.out.trans (hb25.mono HB24.out.size))
      clear hb25 b0 b1 b2 b3 d0 d1 d2 d3 d4 d5 d6 d7
      go_wp2_with fail
      go_ret
      exact ⟨ret_bool (by rw [HQ.out]; try first | rfl | simp), HB25.out⟩
    rw [decide_eq_true he] at HEq
    rw [decide_eq_true he, Bool.true_and] at HRe
    clear he
    obtain ⟨b0, b1, b2, b3⟩ := HNb24.out.cells
    obtain ⟨d0, d1, d2, d3, d4, d5, d6, d7⟩ := HCb24.out.cells
    go_wp2_with fail
    ((with_reducible refine (HEq.out).mono ?_); rintro e w25 ⟨rfl, hb25⟩)
    have HB25 := hid (HB24.out.trans (hb25.mono HB24.out.size))
    have HNb25 := hid (HNb24.out.below hb25)
    have HCb25 := hid (HCb24.out.below hb25)
    have HIn25 := hid (HIn24.out.below hb25)
    have HC25 := hid (HC24.out.below hb25)
    have HBl25 := hid (HBl24.out.trans (hb25.mono HBl24.out.size))
    have HY25 := hid (HY24.out.below hb25)
    clear HB24 HNb24 HCb24 HIn24 HC24 HBl24 HY24
    clear hb25 b0 b1 b2 b3 d0 d1 d2 d3 d4 d5 d6 d7
    have HHa := hid (has21_any Al nl cl0 L (t : Int) w25 (HZl.out.below HBl25.out) HLl.out (by omega))
    have y0 : w25.cell? (as_.add t) = some (.slice Al nl cl0) := HY25.out
    cases hh : hasB L (t : Int) with
    | false =>
     rw [hh] at HHa HRe
     rw [HNo.out HRe.out] at HQ
     clear hh
     obtain ⟨b0, b1, b2, b3⟩ := HNb25.out.cells
     obtain ⟨d0, d1, d2, d3, d4, d5, d6, d7⟩ := HCb25.out.cells
     go_wp2_with fail
     ((with_reducible refine (HHa.out).mono ?_); rintro e w26 ⟨rfl, hb26⟩)
     have HB26 := hid (HB25.out.trans (hb26.mono HB25.out.size))
     clear hb26 b0 b1 b2 b3 d0 d1 d2 d3 d4 d5 d6 d7
     go_wp2_with fail
     go_ret
     exact ⟨ret_bool (by rw [HQ.out]; try first | rfl | simp), HB26.out⟩
    | true =>
     rw [hh] at HHa HRe
     clear hh
     obtain ⟨b0, b1, b2, b3⟩ := HNb25.out.cells
     obtain ⟨d0, d1, d2, d3, d4, d5, d6, d7⟩ := HCb25.out.cells
     go_wp2_with fail
     ((with_reducible refine HHa.out.mono ?_); rintro e w26 ⟨rfl, hb26⟩)
     have HBl26 := hid (HBl25.out.trans (hb26.mono HBl25.out.size))
     clear hb26 b0 b1 b2 b3 d0 d1 d2 d3 d4 d5 d6 d7 y0
     go_wp2_with fail
     go_roundg (gk - 1)
     case measure => have := HJ.out; omega
     case rel => exact ⟨t + 1, by have := HJ.out; omega, by go_num, by rw [HSt.out, HP.out, HRe.out]; rfl, HBl26.out⟩
  · have hE : (List.range n).all (relAt N S) = true := by
     have := HP.out
     rwa [show t = n by omega] at this
    rw [HSn.out, hE] at HQ
    go_wp2_with fail
    go_ret
    exact ⟨ret_bool (by rw [HQ.out]), HB20.out⟩
end Go.Proofs.YtpnhcimmlnjfaaaGreatDoor
