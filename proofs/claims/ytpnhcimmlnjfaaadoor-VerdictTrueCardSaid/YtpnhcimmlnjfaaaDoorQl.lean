/- verdict: sound: what a call returns. -/
import Derived.Test.YtpnhcimmlnjfaaaDoorUt
import Derived.Test.YtpnhcimmlnjfaaaDoorQn
namespace Go.Proofs.YtpnhcimmlnjfaaaDoor
open Go.Lib (hid)
open Go.RowKit

set_option maxHeartbeats 25600000 in
set_option maxRecDepth 100000 in
theorem vsound_any (N : Nt) (A : Option Addr) (n c : Nat) (cl cn : Int) (Ar : Option Addr) (nr cr : Nat) (R : List Int) (Ap : Option Addr) (np cp : Nat) (P : List Int) (Ak : Option Addr) (nk ck : Nat) (K : List (List Int)) (Av : Option Addr) (nv cv : Nat) (V : List Mv) (As : Option Addr) (ns cs : Nat) (S : List (List Int)) (Aw : Option Addr) (nw cw : Nat) (X : List (List Int)) (w : World) (h : NtIn w A N) (hn : N.tr.length = n) (hv : ntB N = true) (hC : CfM w Ar nr R Ap np P Ak nk K Av nv V As ns S Aw nw X) :
 Calls Tryd.prog 25 #[.agg #[.int .i64 N.pl, .slice A n c, .int .i64 N.src, .int .i64 N.snk], .agg #[.int .i64 cl, .int .i64 cn, .slice Ar nr cr, .slice Ap np cp, .slice Ak nk ck, .slice Av nv cv, .slice As ns cs, .slice Aw nw cw]] w fun e w' => e = .returned (.bool (sndB N K V X)) ∧ Below w.heap.size w w' := by
 have HB0 := hid (two_boxes w (.cells #[.int .i64 N.pl, .slice A n c, .int .i64 N.src, .int .i64 N.snk] 24) (.cells #[.int .i64 cl, .int .i64 cn, .slice Ar nr cr, .slice Ap np cp, .slice Ak nk ck, .slice Av nv cv, .slice As ns cs, .slice Aw nw cw] 29))
 have HNb0 := hid ((NB.new w N.pl A n c N.src N.snk).below (below_alloc _ (.cells #[.int .i64 cl, .int .i64 cn, .slice Ar nr cr, .slice Ap np cp, .slice Ak nk ck, .slice Av nv cv, .slice As ns cs, .slice Aw nw cw] 29)))
 have hcb := heap_alloc_new (w.alloc (.cells #[.int .i64 N.pl, .slice A n c, .int .i64 N.src, .int .i64 N.snk] 24)) (.cells #[.int .i64 cl, .int .i64 cn, .slice Ar nr cr, .slice Ap np cp, .slice Ak nk ck, .slice Av nv cv, .slice As ns cs, .slice Aw nw cw] 29)
 rw [World.size_alloc] at hcb
 have HCb0 := hid (show CtB _ (w.heap.size + 1) #[.int .i64 cl, .int .i64 cn, .slice Ar nr cr, .slice Ap np cp, .slice Ak nk ck, .slice Av nv cv, .slice As ns cs, .slice Aw nw cw] from hcb)
 have HIn0 := hid (h.below HB0.out)
 have HC0 := hid (hC.below HB0.out)
 have HNl := hid hn
 have HV := hid hv
 have hps := nt_small hv
 have hn60 : n ≤ 60 := by omega
 obtain ⟨Q, hQ⟩ : ∃ Q, Q = sndB N K V X := ⟨_, rfl⟩
 rw [← hQ]
 unfold sndB at hQ
 have HQ := hid hQ
 clear hQ
 have hpls := nt_src hv
 have hpl40 : N.pl ≤ 40 := hps.2.1
 clear h hn hv hC hps hcb
 go_enter Tryd.func25, Tryd.ntmps25
 go_wp2_with fail
 generalize (w.alloc (.cells #[.int .i64 N.pl, .slice A n c, .int .i64 N.src, .int .i64 N.snk] 24)).alloc (.cells #[.int .i64 cl, .int .i64 cn, .slice Ar nr cr, .slice Ap np cp, .slice Ak nk ck, .slice Av nv cv, .slice As ns cs, .slice Aw nw cw] 29) = w0 at *
 generalize w.heap.size + 1 = cb at *
 ((with_reducible refine (vsnk_any N A n c HV.out w0).mono ?_); rintro e w1 ⟨v1, rfl, hS1⟩)
 obtain ⟨Af, cf, rfl⟩ := hS1.slice
 have hb1 := hS1.2
 have HF1 := hid (show ZIn w1 Af (finM N) by obtain ⟨A', c', e, hz, _⟩ := hS1.zin; cases e; exact hz)
 have HB1 := hid (HB0.out.trans (hb1.mono HB0.out.size))
 have HNb1 := hid (HNb0.out.below hb1)
 have HCb1 := hid (HCb0.out.below hb1)
 have HIn1 := hid (HIn0.out.below hb1)
 have HC1 := hid (HC0.out.below hb1)
 clear HB0 HNb0 HCb0 HIn0 HC0
 have HBt1 := hid (Below.refl w1.heap.size w1)
 have HFl := hid (fin_len HV.out)
 have hfl : (finM N).length ≤ 40 := by have := HFl.out; omega
 clear hS1 hb1
 go_wp2_with fail
 by_cases hk0 : nk = 0
 · have HE := hid (emp_yes HC1.out.kl hk0)
   rw [HE.out] at HQ
   have q1 : ((nk : Int) == 0) = true := by simp [hk0]
   clear hk0
   have hbd : Below w1.heap.size w1 w1.drew := (Below.refl _ _).drew
   have HB2 := hid (HB1.out.trans (hbd.mono HB1.out.size))
   have HNb2 := hid (HNb1.out.below hbd)
   have HCb2 := hid (HCb1.out.below hbd)
   have HIn2 := hid (HIn1.out.below hbd)
   have HC2 := hid (HC1.out.below hbd)
   have HF2 := hid (HF1.out.below hbd)
   have HBt2 := hid (HBt1.out.trans (hbd.mono HBt1.out.size))
   obtain ⟨b0, b1, b2, b3⟩ := HNb2.out.cells
   obtain ⟨d0, d1, d2, d3, d4, d5, d6, d7⟩ := HCb2.out.cells
   have hS0 := And.intro b0 (And.intro b1 (And.intro b2 (And.intro b3 (And.intro d0 (And.intro d1 (And.intro d2 (And.intro d3 (And.intro d4 (And.intro d5 (And.intro d6 (d7)))))))))))
   refine wp_region_held_drew (S := fun w' => w'.cell? ⟨w.heap.size, 0, none⟩ = some (.int .i64 N.pl) ∧ w'.cell? ⟨w.heap.size, 1, none⟩ = some (.slice A n c) ∧ w'.cell? ⟨w.heap.size, 2, none⟩ = some (.int .i64 N.src) ∧ w'.cell? ⟨w.heap.size, 3, none⟩ = some (.int .i64 N.snk) ∧ w'.cell? ⟨cb, 0, none⟩ = some (.int .i64 cl) ∧ w'.cell? ⟨cb, 1, none⟩ = some (.int .i64 cn) ∧ w'.cell? ⟨cb, 2, none⟩ = some (.slice Ar nr cr) ∧ w'.cell? ⟨cb, 3, none⟩ = some (.slice Ap np cp) ∧ w'.cell? ⟨cb, 4, none⟩ = some (.slice Ak nk ck) ∧ w'.cell? ⟨cb, 5, none⟩ = some (.slice Av nv cv) ∧ w'.cell? ⟨cb, 6, none⟩ = some (.slice As ns cs) ∧ w'.cell? ⟨cb, 7, none⟩ = some (.slice Aw nw cw)) (by kernel_rfl) hS0 (fun hHeld => ?_)
   clear hS0 hbd b0 b1 b2 b3 d0 d1 d2 d3 d4 d5 d6 d7 HBt2
   clear HB1 HNb1 HCb1 HIn1 HC1 HF1
   generalize w1.drew = w2 at *
   refine tkH 0 ?_; try go_simp
   refine tkH 1 ?_; try go_simp
   refine tkH 2 ?_; try go_simp
   refine tkH 3 ?_; try go_simp
   refine tkH 4 ?_; try go_simp
   refine tkU 5 ?_; try go_simp
   refine tkU 6 ?_; try go_simp
   refine tkU 7 ?_; try go_simp
   refine tkU 8 ?_; try go_simp
   refine tkU 9 ?_; try go_simp
   refine tkH 10 ?_; try go_simp
   refine tkH 11 ?_; try go_simp
   refine tkU 12 ?_; try go_simp
   refine tkU 13 ?_; try go_simp
   refine tkU 14 ?_; try go_simp
   refine tkU 15 ?_; try go_simp
   refine tkU 16 ?_; try go_simp
   refine tkU 17 ?_; try go_simp
   refine tkU 18 ?_; try go_simp
   refine tkU 19 ?_; try go_simp
   refine tkU 20 ?_; try go_simp
   refine tkU 21 ?_; try go_simp
   refine tkH 22 ?_; try go_simp
   refine tkH 23 ?_; try go_simp
   refine tkU 24 ?_; try go_simp
   refine tkU 25 ?_; try go_simp
   refine tkU 26 ?_; try go_simp
   refine tkU 27 ?_; try go_simp
   refine tkU 28 ?_; try go_simp
   refine tkU 29 ?_; try go_simp
   refine tkU 30 ?_; try go_simp
   refine tkU 31 ?_; try go_simp
   refine tkH 32 ?_; try go_simp
   refine tkH 33 ?_; try go_simp
   refine tkU 34 ?_; try go_simp
   refine tkU 35 ?_; try go_simp
   refine tkU 36 ?_; try go_simp
   refine tkU 37 ?_; try go_simp
   refine tkH 38 ?_; try go_simp
   refine tkH 39 ?_; try go_simp
   refine tkU 40 ?_; try go_simp
   refine tkU 41 ?_; try go_simp
   refine tkU 42 ?_; try go_simp
   refine tkU 43 ?_; try go_simp
   refine tkU 44 ?_; try go_simp
   refine tkU 45 ?_; try go_simp
   refine tkU 46 ?_; try go_simp
   refine tkU 47 ?_; try go_simp
   refine tkU 48 ?_; try go_simp
   refine tkH 49 ?_; try go_simp
   refine wpAnyH_done (by kernel_rfl) ?_ _
   clear hHeld
   go_wp2_with fail
   go_ret
   exact ⟨ret_bool (by rw [HQ.out]; rfl), HB2.out⟩
 rw [emp_no HC1.out.kl hk0] at HQ
 have q1 : ((nk : Int) == 0) = false := by rw [beq_eq_false_iff_ne]; omega
 have hk1 : 0 < K.length := by rw [HC1.out.kl]; omega
 have hnk0 : 0 < nk := by omega
 have hnk1 : (0 : Int) < (nk : Int) := by omega
 obtain ⟨ak, rfl, hpk, u0, k0, A0, n0, c0, rfl, z0, hy1, hy2, hy3⟩ := HC1.out.k 0 hk1
 have HK0 := hid (fun w' (hb : Below w1.heap.size w1 w') => cell_stays hb k0)
 have HM1 := hid z0
 have HY0 := hid hy1
 have hg0 : K.getD 0 [] = K[0] := by simp [hk1]
 rw [hg0] at HQ
 generalize K[0] = Y0 at *
 clear hk0 z0 hy1 k0 hg0 hpk
 cases hm : mksX N.pl false K with
 | false =>
  rw [hm] at HQ
  have HM0 := hid hm
  clear hm
  have hbd : Below w1.heap.size w1 w1.drew := (Below.refl _ _).drew
  have HB2 := hid (HB1.out.trans (hbd.mono HB1.out.size))
  have HNb2 := hid (HNb1.out.below hbd)
  have HCb2 := hid (HCb1.out.below hbd)
  have HIn2 := hid (HIn1.out.below hbd)
  have HC2 := hid (HC1.out.below hbd)
  have HF2 := hid (HF1.out.below hbd)
  have HM2 := hid (HM1.out.below hbd)
  have HBt2 := hid (HBt1.out.trans (hbd.mono HBt1.out.size))
  obtain ⟨b0, b1, b2, b3⟩ := HNb2.out.cells
  obtain ⟨d0, d1, d2, d3, d4, d5, d6, d7⟩ := HCb2.out.cells
  have k0b : w1.drew.cell? ak = some (.slice A0 n0 c0) := by simpa [Addr.add] using HK0.out w1.drew HBt2.out
  have hS0 := And.intro b0 (And.intro b1 (And.intro b2 (And.intro b3 (And.intro d0 (And.intro d1 (And.intro d2 (And.intro d3 (And.intro d4 (And.intro d5 (And.intro d6 (And.intro d7 (k0b))))))))))))
  refine wp_region_held_drew (S := fun w' => w'.cell? ⟨w.heap.size, 0, none⟩ = some (.int .i64 N.pl) ∧ w'.cell? ⟨w.heap.size, 1, none⟩ = some (.slice A n c) ∧ w'.cell? ⟨w.heap.size, 2, none⟩ = some (.int .i64 N.src) ∧ w'.cell? ⟨w.heap.size, 3, none⟩ = some (.int .i64 N.snk) ∧ w'.cell? ⟨cb, 0, none⟩ = some (.int .i64 cl) ∧ w'.cell? ⟨cb, 1, none⟩ = some (.int .i64 cn) ∧ w'.cell? ⟨cb, 2, none⟩ = some (.slice Ar nr cr) ∧ w'.cell? ⟨cb, 3, none⟩ = some (.slice Ap np cp) ∧ w'.cell? ⟨cb, 4, none⟩ = some (.slice (some ak) nk ck) ∧ w'.cell? ⟨cb, 5, none⟩ = some (.slice Av nv cv) ∧ w'.cell? ⟨cb, 6, none⟩ = some (.slice As ns cs) ∧ w'.cell? ⟨cb, 7, none⟩ = some (.slice Aw nw cw) ∧ w'.cell? ak = some (.slice A0 n0 c0)) (by kernel_rfl) hS0 (fun hHeld => ?_)
  clear hS0 hbd b0 b1 b2 b3 d0 d1 d2 d3 d4 d5 d6 d7 k0b HBt2
  clear HB1 HNb1 HCb1 HIn1 HC1 HF1 HM1
  generalize w1.drew = w2 at *
  refine tkH 0 ?_; try go_simp
  refine tkH 1 ?_; try go_simp
  refine tkH 2 ?_; try go_simp
  refine tkH 3 ?_; try go_simp
  refine tkH 4 ?_; try go_simp
  refine tkH 5 ?_; try go_simp
  refine tkH 6 ?_; try go_simp
  refine tkH 7 ?_; try go_simp
  refine tkR 8 (fun K9 hK => ?_)
  go_simp
  have HMs := hid (vmarkings_any N.pl A n c N.src N.snk (some ak) nk ck K false w2 HC2.out.k HC2.out.kl HC2.out.kb)
  rw [HM0.out] at HMs
  ((refine (HMs.out).mono ?_); rintro e w3 ⟨rfl, hb3⟩)
  have hS9 := hHeld
  refine hK.out _ _ ⟨cell_stays hb3 hS9.1, cell_stays hb3 hS9.2.1, cell_stays hb3 hS9.2.2.1, cell_stays hb3 hS9.2.2.2.1, cell_stays hb3 hS9.2.2.2.2.1, cell_stays hb3 hS9.2.2.2.2.2.1, cell_stays hb3 hS9.2.2.2.2.2.2.1, cell_stays hb3 hS9.2.2.2.2.2.2.2.1, cell_stays hb3 hS9.2.2.2.2.2.2.2.2.1, cell_stays hb3 hS9.2.2.2.2.2.2.2.2.2.1, cell_stays hb3 hS9.2.2.2.2.2.2.2.2.2.2.1, cell_stays hb3 hS9.2.2.2.2.2.2.2.2.2.2.2.1, cell_stays hb3 hS9.2.2.2.2.2.2.2.2.2.2.2.2⟩ (fun hHeld => ?_)
  clear hK K9 hS9
  try go_simp
  have HB3 := hid (HB2.out.trans (hb3.mono HB2.out.size))
  have HNb3 := hid (HNb2.out.below hb3)
  have HCb3 := hid (HCb2.out.below hb3)
  have HIn3 := hid (HIn2.out.below hb3)
  have HC3 := hid (HC2.out.below hb3)
  have HF3 := hid (HF2.out.below hb3)
  have HM3 := hid (HM2.out.below hb3)
  clear HB2 HNb2 HCb2 HIn2 HC2 HF2 HM2
  clear hb3
  refine tkH 9 ?_; try go_simp
  refine tkH 10 ?_; try go_simp
  refine tkH 11 ?_; try go_simp
  refine tkU 12 ?_; try go_simp
  refine tkU 13 ?_; try go_simp
  refine tkU 14 ?_; try go_simp
  refine tkU 15 ?_; try go_simp
  refine tkU 16 ?_; try go_simp
  refine tkU 17 ?_; try go_simp
  refine tkU 18 ?_; try go_simp
  refine tkU 19 ?_; try go_simp
  refine tkU 20 ?_; try go_simp
  refine tkU 21 ?_; try go_simp
  refine tkH 22 ?_; try go_simp
  refine tkH 23 ?_; try go_simp
  refine tkU 24 ?_; try go_simp
  refine tkU 25 ?_; try go_simp
  refine tkU 26 ?_; try go_simp
  refine tkU 27 ?_; try go_simp
  refine tkU 28 ?_; try go_simp
  refine tkU 29 ?_; try go_simp
  refine tkU 30 ?_; try go_simp
  refine tkU 31 ?_; try go_simp
  refine tkH 32 ?_; try go_simp
  refine tkH 33 ?_; try go_simp
  refine tkU 34 ?_; try go_simp
  refine tkU 35 ?_; try go_simp
  refine tkU 36 ?_; try go_simp
  refine tkU 37 ?_; try go_simp
  refine tkH 38 ?_; try go_simp
  refine tkH 39 ?_; try go_simp
  refine tkU 40 ?_; try go_simp
  refine tkU 41 ?_; try go_simp
  refine tkU 42 ?_; try go_simp
  refine tkU 43 ?_; try go_simp
  refine tkU 44 ?_; try go_simp
  refine tkU 45 ?_; try go_simp
  refine tkU 46 ?_; try go_simp
  refine tkU 47 ?_; try go_simp
  refine tkU 48 ?_; try go_simp
  refine tkH 49 ?_; try go_simp
  refine wpAnyH_done (by kernel_rfl) ?_ _
  clear hHeld
  go_wp2_with fail
  go_ret
  exact ⟨ret_bool (by rw [HQ.out]; rfl), HB3.out⟩
 | true =>
  rw [hm] at HQ
  have HAll := hid (show ∀ s ∈ K, mkX N.pl false s = true from List.all_eq_true.1 hm)
  have HM0 := hid hm
  clear hm
  by_cases he : Y0 = iniM N
  rotate_left
  · have HE0 := hid (decide_eq_false he)
    rw [HE0.out] at HQ
    clear he
    have hbd : Below w1.heap.size w1 w1.drew := (Below.refl _ _).drew
    have HB2 := hid (HB1.out.trans (hbd.mono HB1.out.size))
    have HNb2 := hid (HNb1.out.below hbd)
    have HCb2 := hid (HCb1.out.below hbd)
    have HIn2 := hid (HIn1.out.below hbd)
    have HC2 := hid (HC1.out.below hbd)
    have HF2 := hid (HF1.out.below hbd)
    have HM2 := hid (HM1.out.below hbd)
    have HBt2 := hid (HBt1.out.trans (hbd.mono HBt1.out.size))
    obtain ⟨b0, b1, b2, b3⟩ := HNb2.out.cells
    obtain ⟨d0, d1, d2, d3, d4, d5, d6, d7⟩ := HCb2.out.cells
    have k0b : w1.drew.cell? ak = some (.slice A0 n0 c0) := by simpa [Addr.add] using HK0.out w1.drew HBt2.out
    have hS0 := And.intro b0 (And.intro b1 (And.intro b2 (And.intro b3 (And.intro d0 (And.intro d1 (And.intro d2 (And.intro d3 (And.intro d4 (And.intro d5 (And.intro d6 (And.intro d7 (k0b))))))))))))
    refine wp_region_held_drew (S := fun w' => w'.cell? ⟨w.heap.size, 0, none⟩ = some (.int .i64 N.pl) ∧ w'.cell? ⟨w.heap.size, 1, none⟩ = some (.slice A n c) ∧ w'.cell? ⟨w.heap.size, 2, none⟩ = some (.int .i64 N.src) ∧ w'.cell? ⟨w.heap.size, 3, none⟩ = some (.int .i64 N.snk) ∧ w'.cell? ⟨cb, 0, none⟩ = some (.int .i64 cl) ∧ w'.cell? ⟨cb, 1, none⟩ = some (.int .i64 cn) ∧ w'.cell? ⟨cb, 2, none⟩ = some (.slice Ar nr cr) ∧ w'.cell? ⟨cb, 3, none⟩ = some (.slice Ap np cp) ∧ w'.cell? ⟨cb, 4, none⟩ = some (.slice (some ak) nk ck) ∧ w'.cell? ⟨cb, 5, none⟩ = some (.slice Av nv cv) ∧ w'.cell? ⟨cb, 6, none⟩ = some (.slice As ns cs) ∧ w'.cell? ⟨cb, 7, none⟩ = some (.slice Aw nw cw) ∧ w'.cell? ak = some (.slice A0 n0 c0)) (by kernel_rfl) hS0 (fun hHeld => ?_)
    clear hS0 hbd b0 b1 b2 b3 d0 d1 d2 d3 d4 d5 d6 d7 k0b HBt2
    clear HB1 HNb1 HCb1 HIn1 HC1 HF1 HM1
    generalize w1.drew = w2 at *
    refine tkH 0 ?_; try go_simp
    refine tkH 1 ?_; try go_simp
    refine tkH 2 ?_; try go_simp
    refine tkH 3 ?_; try go_simp
    refine tkH 4 ?_; try go_simp
    refine tkH 5 ?_; try go_simp
    refine tkH 6 ?_; try go_simp
    refine tkH 7 ?_; try go_simp
    refine tkR 8 (fun K9 hK => ?_)
    go_simp
    have HMs := hid (vmarkings_any N.pl A n c N.src N.snk (some ak) nk ck K false w2 HC2.out.k HC2.out.kl HC2.out.kb)
    rw [HM0.out] at HMs
    ((refine (HMs.out).mono ?_); rintro e w3 ⟨rfl, hb3⟩)
    have hS9 := hHeld
    refine hK.out _ _ ⟨cell_stays hb3 hS9.1, cell_stays hb3 hS9.2.1, cell_stays hb3 hS9.2.2.1, cell_stays hb3 hS9.2.2.2.1, cell_stays hb3 hS9.2.2.2.2.1, cell_stays hb3 hS9.2.2.2.2.2.1, cell_stays hb3 hS9.2.2.2.2.2.2.1, cell_stays hb3 hS9.2.2.2.2.2.2.2.1, cell_stays hb3 hS9.2.2.2.2.2.2.2.2.1, cell_stays hb3 hS9.2.2.2.2.2.2.2.2.2.1, cell_stays hb3 hS9.2.2.2.2.2.2.2.2.2.2.1, cell_stays hb3 hS9.2.2.2.2.2.2.2.2.2.2.2.1, cell_stays hb3 hS9.2.2.2.2.2.2.2.2.2.2.2.2⟩ (fun hHeld => ?_)
    clear hK K9 hS9
    try go_simp
    have HB3 := hid (HB2.out.trans (hb3.mono HB2.out.size))
    have HNb3 := hid (HNb2.out.below hb3)
    have HCb3 := hid (HCb2.out.below hb3)
    have HIn3 := hid (HIn2.out.below hb3)
    have HC3 := hid (HC2.out.below hb3)
    have HF3 := hid (HF2.out.below hb3)
    have HM3 := hid (HM2.out.below hb3)
    clear HB2 HNb2 HCb2 HIn2 HC2 HF2 HM2
    clear hb3
    refine tkH 9 ?_; try go_simp
    refine tkH 10 ?_; try go_simp
    refine tkH 11 ?_; try go_simp
    refine tkH 12 ?_; try go_simp
    refine tkH 13 ?_; try go_simp
    refine tkH 14 ?_; try go_simp
    refine tkH 15 ?_; try go_simp
    refine tkH 16 ?_; try go_simp
    refine tkH 17 ?_; try go_simp
    refine tkH 18 ?_; try go_simp
    refine tkR 19 (fun K9 hK => ?_)
    go_simp
    ((refine (vsrc_any N A n c HV.out w3).mono ?_); rintro e w4 ⟨v4, rfl, hS4⟩); (obtain ⟨A4, c4, rfl⟩ := hS4.slice); (have hb4 := hS4.2)
    have hS9 := hHeld
    refine hK.out _ _ ⟨cell_stays hb4 hS9.1, cell_stays hb4 hS9.2.1, cell_stays hb4 hS9.2.2.1, cell_stays hb4 hS9.2.2.2.1, cell_stays hb4 hS9.2.2.2.2.1, cell_stays hb4 hS9.2.2.2.2.2.1, cell_stays hb4 hS9.2.2.2.2.2.2.1, cell_stays hb4 hS9.2.2.2.2.2.2.2.1, cell_stays hb4 hS9.2.2.2.2.2.2.2.2.1, cell_stays hb4 hS9.2.2.2.2.2.2.2.2.2.1, cell_stays hb4 hS9.2.2.2.2.2.2.2.2.2.2.1, cell_stays hb4 hS9.2.2.2.2.2.2.2.2.2.2.2.1, cell_stays hb4 hS9.2.2.2.2.2.2.2.2.2.2.2.2⟩ (fun hHeld => ?_)
    clear hK K9 hS9
    try go_simp
    have HB4 := hid (HB3.out.trans (hb4.mono HB3.out.size))
    have HNb4 := hid (HNb3.out.below hb4)
    have HCb4 := hid (HCb3.out.below hb4)
    have HIn4 := hid (HIn3.out.below hb4)
    have HC4 := hid (HC3.out.below hb4)
    have HF4 := hid (HF3.out.below hb4)
    have HM4 := hid (HM3.out.below hb4)
    clear HB3 HNb3 HCb3 HIn3 HC3 HF3 HM3
    clear hb4
    have HI4 := hid (show ZIn w4 A4 (iniM N) by obtain ⟨A', c', e, hz, _⟩ := hS4.zin; cases e; exact hz)
    clear hS4
    refine tkR 20 (fun K9 hK => ?_)
    go_simp
    have HEq := hid (equal_any A0 n0 c0 A4 (iniM N).length c4 Y0 (iniM N) w4 HM4.out HY0.out HI4.out rfl (by omega) (by have := ini_len HV.out; omega))
    rw [HE0.out] at HEq
    ((refine (HEq.out).mono ?_); rintro e w5 ⟨rfl, hb5⟩)
    have hS9 := hHeld
    refine hK.out _ _ ⟨cell_stays hb5 hS9.1, cell_stays hb5 hS9.2.1, cell_stays hb5 hS9.2.2.1, cell_stays hb5 hS9.2.2.2.1, cell_stays hb5 hS9.2.2.2.2.1, cell_stays hb5 hS9.2.2.2.2.2.1, cell_stays hb5 hS9.2.2.2.2.2.2.1, cell_stays hb5 hS9.2.2.2.2.2.2.2.1, cell_stays hb5 hS9.2.2.2.2.2.2.2.2.1, cell_stays hb5 hS9.2.2.2.2.2.2.2.2.2.1, cell_stays hb5 hS9.2.2.2.2.2.2.2.2.2.2.1, cell_stays hb5 hS9.2.2.2.2.2.2.2.2.2.2.2.1, cell_stays hb5 hS9.2.2.2.2.2.2.2.2.2.2.2.2⟩ (fun hHeld => ?_)
    clear hK K9 hS9
    try go_simp
    have HB5 := hid (HB4.out.trans (hb5.mono HB4.out.size))
    have HNb5 := hid (HNb4.out.below hb5)
    have HCb5 := hid (HCb4.out.below hb5)
    have HIn5 := hid (HIn4.out.below hb5)
    have HC5 := hid (HC4.out.below hb5)
    have HF5 := hid (HF4.out.below hb5)
    have HM5 := hid (HM4.out.below hb5)
    clear HB4 HNb4 HCb4 HIn4 HC4 HF4 HM4
    clear hb5
    refine tkH 21 ?_; try go_simp
    refine tkH 22 ?_; try go_simp
    refine tkH 23 ?_; try go_simp
    refine tkU 24 ?_; try go_simp
    refine tkU 25 ?_; try go_simp
    refine tkU 26 ?_; try go_simp
    refine tkU 27 ?_; try go_simp
    refine tkU 28 ?_; try go_simp
    refine tkU 29 ?_; try go_simp
    refine tkU 30 ?_; try go_simp
    refine tkU 31 ?_; try go_simp
    refine tkH 32 ?_; try go_simp
    refine tkH 33 ?_; try go_simp
    refine tkU 34 ?_; try go_simp
    refine tkU 35 ?_; try go_simp
    refine tkU 36 ?_; try go_simp
    refine tkU 37 ?_; try go_simp
    refine tkH 38 ?_; try go_simp
    refine tkH 39 ?_; try go_simp
    refine tkU 40 ?_; try go_simp
    refine tkU 41 ?_; try go_simp
    refine tkU 42 ?_; try go_simp
    refine tkU 43 ?_; try go_simp
    refine tkU 44 ?_; try go_simp
    refine tkU 45 ?_; try go_simp
    refine tkU 46 ?_; try go_simp
    refine tkU 47 ?_; try go_simp
    refine tkU 48 ?_; try go_simp
    refine tkH 49 ?_; try go_simp
    refine wpAnyH_done (by kernel_rfl) ?_ _
    clear hHeld
    go_wp2_with fail
    go_ret
    exact ⟨ret_bool (by rw [HQ.out]; rfl), HB5.out⟩
  have HE0 := hid (decide_eq_true he)
  rw [HE0.out] at HQ
  clear he
  have hkw : IntKind.i64.wrap ((nk : Int) - 1) = (nk : Int) - 1 := IntWalk.i64_in _ (by have := HC1.out.kb; omega)
  by_cases hv : nv + 1 = nk
  rotate_left
  · have q2 : ((nv : Int) != (nk : Int) - 1) = true := by rw [bne_iff_ne]; omega
    rw [HC1.out.vl, HC1.out.kl, decide_eq_false hv] at HQ
    clear hv
    have hbd : Below w1.heap.size w1 w1.drew := (Below.refl _ _).drew
    have HB2 := hid (HB1.out.trans (hbd.mono HB1.out.size))
    have HNb2 := hid (HNb1.out.below hbd)
    have HCb2 := hid (HCb1.out.below hbd)
    have HIn2 := hid (HIn1.out.below hbd)
    have HC2 := hid (HC1.out.below hbd)
    have HF2 := hid (HF1.out.below hbd)
    have HM2 := hid (HM1.out.below hbd)
    have HBt2 := hid (HBt1.out.trans (hbd.mono HBt1.out.size))
    obtain ⟨b0, b1, b2, b3⟩ := HNb2.out.cells
    obtain ⟨d0, d1, d2, d3, d4, d5, d6, d7⟩ := HCb2.out.cells
    have k0b : w1.drew.cell? ak = some (.slice A0 n0 c0) := by simpa [Addr.add] using HK0.out w1.drew HBt2.out
    have hS0 := And.intro b0 (And.intro b1 (And.intro b2 (And.intro b3 (And.intro d0 (And.intro d1 (And.intro d2 (And.intro d3 (And.intro d4 (And.intro d5 (And.intro d6 (And.intro d7 (k0b))))))))))))
    refine wp_region_held_drew (S := fun w' => w'.cell? ⟨w.heap.size, 0, none⟩ = some (.int .i64 N.pl) ∧ w'.cell? ⟨w.heap.size, 1, none⟩ = some (.slice A n c) ∧ w'.cell? ⟨w.heap.size, 2, none⟩ = some (.int .i64 N.src) ∧ w'.cell? ⟨w.heap.size, 3, none⟩ = some (.int .i64 N.snk) ∧ w'.cell? ⟨cb, 0, none⟩ = some (.int .i64 cl) ∧ w'.cell? ⟨cb, 1, none⟩ = some (.int .i64 cn) ∧ w'.cell? ⟨cb, 2, none⟩ = some (.slice Ar nr cr) ∧ w'.cell? ⟨cb, 3, none⟩ = some (.slice Ap np cp) ∧ w'.cell? ⟨cb, 4, none⟩ = some (.slice (some ak) nk ck) ∧ w'.cell? ⟨cb, 5, none⟩ = some (.slice Av nv cv) ∧ w'.cell? ⟨cb, 6, none⟩ = some (.slice As ns cs) ∧ w'.cell? ⟨cb, 7, none⟩ = some (.slice Aw nw cw) ∧ w'.cell? ak = some (.slice A0 n0 c0)) (by kernel_rfl) hS0 (fun hHeld => ?_)
    clear hS0 hbd b0 b1 b2 b3 d0 d1 d2 d3 d4 d5 d6 d7 k0b HBt2
    clear HB1 HNb1 HCb1 HIn1 HC1 HF1 HM1
    generalize w1.drew = w2 at *
    refine tkH 0 ?_; try go_simp
    refine tkH 1 ?_; try go_simp
    refine tkH 2 ?_; try go_simp
    refine tkH 3 ?_; try go_simp
    refine tkH 4 ?_; try go_simp
    refine tkH 5 ?_; try go_simp
    refine tkH 6 ?_; try go_simp
    refine tkH 7 ?_; try go_simp
    refine tkR 8 (fun K9 hK => ?_)
    go_simp
    have HMs := hid (vmarkings_any N.pl A n c N.src N.snk (some ak) nk ck K false w2 HC2.out.k HC2.out.kl HC2.out.kb)
    rw [HM0.out] at HMs
    ((refine (HMs.out).mono ?_); rintro e w3 ⟨rfl, hb3⟩)
    have hS9 := hHeld
    refine hK.out _ _ ⟨cell_stays hb3 hS9.1, cell_stays hb3 hS9.2.1, cell_stays hb3 hS9.2.2.1, cell_stays hb3 hS9.2.2.2.1, cell_stays hb3 hS9.2.2.2.2.1, cell_stays hb3 hS9.2.2.2.2.2.1, cell_stays hb3 hS9.2.2.2.2.2.2.1, cell_stays hb3 hS9.2.2.2.2.2.2.2.1, cell_stays hb3 hS9.2.2.2.2.2.2.2.2.1, cell_stays hb3 hS9.2.2.2.2.2.2.2.2.2.1, cell_stays hb3 hS9.2.2.2.2.2.2.2.2.2.2.1, cell_stays hb3 hS9.2.2.2.2.2.2.2.2.2.2.2.1, cell_stays hb3 hS9.2.2.2.2.2.2.2.2.2.2.2.2⟩ (fun hHeld => ?_)
    clear hK K9 hS9
    try go_simp
    have HB3 := hid (HB2.out.trans (hb3.mono HB2.out.size))
    have HNb3 := hid (HNb2.out.below hb3)
    have HCb3 := hid (HCb2.out.below hb3)
    have HIn3 := hid (HIn2.out.below hb3)
    have HC3 := hid (HC2.out.below hb3)
    have HF3 := hid (HF2.out.below hb3)
    have HM3 := hid (HM2.out.below hb3)
    clear HB2 HNb2 HCb2 HIn2 HC2 HF2 HM2
    clear hb3
    refine tkH 9 ?_; try go_simp
    refine tkH 10 ?_; try go_simp
    refine tkH 11 ?_; try go_simp
    refine tkH 12 ?_; try go_simp
    refine tkH 13 ?_; try go_simp
    refine tkH 14 ?_; try go_simp
    refine tkH 15 ?_; try go_simp
    refine tkH 16 ?_; try go_simp
    refine tkH 17 ?_; try go_simp
    refine tkH 18 ?_; try go_simp
    refine tkR 19 (fun K9 hK => ?_)
    go_simp
    ((refine (vsrc_any N A n c HV.out w3).mono ?_); rintro e w4 ⟨v4, rfl, hS4⟩); (obtain ⟨A4, c4, rfl⟩ := hS4.slice); (have hb4 := hS4.2)
    have hS9 := hHeld
    refine hK.out _ _ ⟨cell_stays hb4 hS9.1, cell_stays hb4 hS9.2.1, cell_stays hb4 hS9.2.2.1, cell_stays hb4 hS9.2.2.2.1, cell_stays hb4 hS9.2.2.2.2.1, cell_stays hb4 hS9.2.2.2.2.2.1, cell_stays hb4 hS9.2.2.2.2.2.2.1, cell_stays hb4 hS9.2.2.2.2.2.2.2.1, cell_stays hb4 hS9.2.2.2.2.2.2.2.2.1, cell_stays hb4 hS9.2.2.2.2.2.2.2.2.2.1, cell_stays hb4 hS9.2.2.2.2.2.2.2.2.2.2.1, cell_stays hb4 hS9.2.2.2.2.2.2.2.2.2.2.2.1, cell_stays hb4 hS9.2.2.2.2.2.2.2.2.2.2.2.2⟩ (fun hHeld => ?_)
    clear hK K9 hS9
    try go_simp
    have HB4 := hid (HB3.out.trans (hb4.mono HB3.out.size))
    have HNb4 := hid (HNb3.out.below hb4)
    have HCb4 := hid (HCb3.out.below hb4)
    have HIn4 := hid (HIn3.out.below hb4)
    have HC4 := hid (HC3.out.below hb4)
    have HF4 := hid (HF3.out.below hb4)
    have HM4 := hid (HM3.out.below hb4)
    clear HB3 HNb3 HCb3 HIn3 HC3 HF3 HM3
    clear hb4
    have HI4 := hid (show ZIn w4 A4 (iniM N) by obtain ⟨A', c', e, hz, _⟩ := hS4.zin; cases e; exact hz)
    clear hS4
    refine tkR 20 (fun K9 hK => ?_)
    go_simp
    have HEq := hid (equal_any A0 n0 c0 A4 (iniM N).length c4 Y0 (iniM N) w4 HM4.out HY0.out HI4.out rfl (by omega) (by have := ini_len HV.out; omega))
    rw [HE0.out] at HEq
    ((refine (HEq.out).mono ?_); rintro e w5 ⟨rfl, hb5⟩)
    have hS9 := hHeld
    refine hK.out _ _ ⟨cell_stays hb5 hS9.1, cell_stays hb5 hS9.2.1, cell_stays hb5 hS9.2.2.1, cell_stays hb5 hS9.2.2.2.1, cell_stays hb5 hS9.2.2.2.2.1, cell_stays hb5 hS9.2.2.2.2.2.1, cell_stays hb5 hS9.2.2.2.2.2.2.1, cell_stays hb5 hS9.2.2.2.2.2.2.2.1, cell_stays hb5 hS9.2.2.2.2.2.2.2.2.1, cell_stays hb5 hS9.2.2.2.2.2.2.2.2.2.1, cell_stays hb5 hS9.2.2.2.2.2.2.2.2.2.2.1, cell_stays hb5 hS9.2.2.2.2.2.2.2.2.2.2.2.1, cell_stays hb5 hS9.2.2.2.2.2.2.2.2.2.2.2.2⟩ (fun hHeld => ?_)
    clear hK K9 hS9
    try go_simp
    have HB5 := hid (HB4.out.trans (hb5.mono HB4.out.size))
    have HNb5 := hid (HNb4.out.below hb5)
    have HCb5 := hid (HCb4.out.below hb5)
    have HIn5 := hid (HIn4.out.below hb5)
    have HC5 := hid (HC4.out.below hb5)
    have HF5 := hid (HF4.out.below hb5)
    have HM5 := hid (HM4.out.below hb5)
    clear HB4 HNb4 HCb4 HIn4 HC4 HF4 HM4
    clear hb5
    refine tkH 21 ?_; try go_simp
    refine tkH 22 ?_; try go_simp
    refine tkH 23 ?_; try go_simp
    refine tkH 24 ?_; try go_simp
    refine tkH 25 ?_; try go_simp
    refine tkH 26 ?_; try go_simp
    refine tkH 27 ?_; try go_simp
    refine tkH 28 ?_; try go_simp
    refine tkH 29 ?_; try go_simp
    refine tkH 30 ?_; try go_simp
    refine tkH 31 ?_; try go_simp
    refine tkH 32 ?_; try go_simp
    refine tkH 33 ?_; try go_simp
    refine tkU 34 ?_; try go_simp
    refine tkU 35 ?_; try go_simp
    refine tkU 36 ?_; try go_simp
    refine tkU 37 ?_; try go_simp
    refine tkH 38 ?_; try go_simp
    refine tkH 39 ?_; try go_simp
    refine tkU 40 ?_; try go_simp
    refine tkU 41 ?_; try go_simp
    refine tkU 42 ?_; try go_simp
    refine tkU 43 ?_; try go_simp
    refine tkU 44 ?_; try go_simp
    refine tkU 45 ?_; try go_simp
    refine tkU 46 ?_; try go_simp
    refine tkU 47 ?_; try go_simp
    refine tkU 48 ?_; try go_simp
    refine tkH 49 ?_; try go_simp
    refine wpAnyH_done (by kernel_rfl) ?_ _
    clear hHeld
    go_wp2_with fail
    go_ret
    exact ⟨ret_bool (by rw [HQ.out]; rfl), HB5.out⟩
  have q2 : ((nv : Int) != (nk : Int) - 1) = false := by simp; omega
  have HVk := hid hv
  rw [HC1.out.vl, HC1.out.kl, decide_eq_true hv] at HQ
  clear hv
  by_cases hw : nw = 1
  rotate_left
  · have q3 : ((nw : Int) != 1) = true := by rw [bne_iff_ne]; omega
    rw [HC1.out.xl, decide_eq_false hw] at HQ
    clear hw
    have hbd : Below w1.heap.size w1 w1.drew := (Below.refl _ _).drew
    have HB2 := hid (HB1.out.trans (hbd.mono HB1.out.size))
    have HNb2 := hid (HNb1.out.below hbd)
    have HCb2 := hid (HCb1.out.below hbd)
    have HIn2 := hid (HIn1.out.below hbd)
    have HC2 := hid (HC1.out.below hbd)
    have HF2 := hid (HF1.out.below hbd)
    have HM2 := hid (HM1.out.below hbd)
    have HBt2 := hid (HBt1.out.trans (hbd.mono HBt1.out.size))
    obtain ⟨b0, b1, b2, b3⟩ := HNb2.out.cells
    obtain ⟨d0, d1, d2, d3, d4, d5, d6, d7⟩ := HCb2.out.cells
    have k0b : w1.drew.cell? ak = some (.slice A0 n0 c0) := by simpa [Addr.add] using HK0.out w1.drew HBt2.out
    have hS0 := And.intro b0 (And.intro b1 (And.intro b2 (And.intro b3 (And.intro d0 (And.intro d1 (And.intro d2 (And.intro d3 (And.intro d4 (And.intro d5 (And.intro d6 (And.intro d7 (k0b))))))))))))
    refine wp_region_held_drew (S := fun w' => w'.cell? ⟨w.heap.size, 0, none⟩ = some (.int .i64 N.pl) ∧ w'.cell? ⟨w.heap.size, 1, none⟩ = some (.slice A n c) ∧ w'.cell? ⟨w.heap.size, 2, none⟩ = some (.int .i64 N.src) ∧ w'.cell? ⟨w.heap.size, 3, none⟩ = some (.int .i64 N.snk) ∧ w'.cell? ⟨cb, 0, none⟩ = some (.int .i64 cl) ∧ w'.cell? ⟨cb, 1, none⟩ = some (.int .i64 cn) ∧ w'.cell? ⟨cb, 2, none⟩ = some (.slice Ar nr cr) ∧ w'.cell? ⟨cb, 3, none⟩ = some (.slice Ap np cp) ∧ w'.cell? ⟨cb, 4, none⟩ = some (.slice (some ak) nk ck) ∧ w'.cell? ⟨cb, 5, none⟩ = some (.slice Av nv cv) ∧ w'.cell? ⟨cb, 6, none⟩ = some (.slice As ns cs) ∧ w'.cell? ⟨cb, 7, none⟩ = some (.slice Aw nw cw) ∧ w'.cell? ak = some (.slice A0 n0 c0)) (by kernel_rfl) hS0 (fun hHeld => ?_)
    clear hS0 hbd b0 b1 b2 b3 d0 d1 d2 d3 d4 d5 d6 d7 k0b HBt2
    clear HB1 HNb1 HCb1 HIn1 HC1 HF1 HM1
    generalize w1.drew = w2 at *
    refine tkH 0 ?_; try go_simp
    refine tkH 1 ?_; try go_simp
    refine tkH 2 ?_; try go_simp
    refine tkH 3 ?_; try go_simp
    refine tkH 4 ?_; try go_simp
    refine tkH 5 ?_; try go_simp
    refine tkH 6 ?_; try go_simp
    refine tkH 7 ?_; try go_simp
    refine tkR 8 (fun K9 hK => ?_)
    go_simp
    have HMs := hid (vmarkings_any N.pl A n c N.src N.snk (some ak) nk ck K false w2 HC2.out.k HC2.out.kl HC2.out.kb)
    rw [HM0.out] at HMs
    ((refine (HMs.out).mono ?_); rintro e w3 ⟨rfl, hb3⟩)
    have hS9 := hHeld
    refine hK.out _ _ ⟨cell_stays hb3 hS9.1, cell_stays hb3 hS9.2.1, cell_stays hb3 hS9.2.2.1, cell_stays hb3 hS9.2.2.2.1, cell_stays hb3 hS9.2.2.2.2.1, cell_stays hb3 hS9.2.2.2.2.2.1, cell_stays hb3 hS9.2.2.2.2.2.2.1, cell_stays hb3 hS9.2.2.2.2.2.2.2.1, cell_stays hb3 hS9.2.2.2.2.2.2.2.2.1, cell_stays hb3 hS9.2.2.2.2.2.2.2.2.2.1, cell_stays hb3 hS9.2.2.2.2.2.2.2.2.2.2.1, cell_stays hb3 hS9.2.2.2.2.2.2.2.2.2.2.2.1, cell_stays hb3 hS9.2.2.2.2.2.2.2.2.2.2.2.2⟩ (fun hHeld => ?_)
    clear hK K9 hS9
    try go_simp
    have HB3 := hid (HB2.out.trans (hb3.mono HB2.out.size))
    have HNb3 := hid (HNb2.out.below hb3)
    have HCb3 := hid (HCb2.out.below hb3)
    have HIn3 := hid (HIn2.out.below hb3)
    have HC3 := hid (HC2.out.below hb3)
    have HF3 := hid (HF2.out.below hb3)
    have HM3 := hid (HM2.out.below hb3)
    clear HB2 HNb2 HCb2 HIn2 HC2 HF2 HM2
    clear hb3
    refine tkH 9 ?_; try go_simp
    refine tkH 10 ?_; try go_simp
    refine tkH 11 ?_; try go_simp
    refine tkH 12 ?_; try go_simp
    refine tkH 13 ?_; try go_simp
    refine tkH 14 ?_; try go_simp
    refine tkH 15 ?_; try go_simp
    refine tkH 16 ?_; try go_simp
    refine tkH 17 ?_; try go_simp
    refine tkH 18 ?_; try go_simp
    refine tkR 19 (fun K9 hK => ?_)
    go_simp
    ((refine (vsrc_any N A n c HV.out w3).mono ?_); rintro e w4 ⟨v4, rfl, hS4⟩); (obtain ⟨A4, c4, rfl⟩ := hS4.slice); (have hb4 := hS4.2)
    have hS9 := hHeld
    refine hK.out _ _ ⟨cell_stays hb4 hS9.1, cell_stays hb4 hS9.2.1, cell_stays hb4 hS9.2.2.1, cell_stays hb4 hS9.2.2.2.1, cell_stays hb4 hS9.2.2.2.2.1, cell_stays hb4 hS9.2.2.2.2.2.1, cell_stays hb4 hS9.2.2.2.2.2.2.1, cell_stays hb4 hS9.2.2.2.2.2.2.2.1, cell_stays hb4 hS9.2.2.2.2.2.2.2.2.1, cell_stays hb4 hS9.2.2.2.2.2.2.2.2.2.1, cell_stays hb4 hS9.2.2.2.2.2.2.2.2.2.2.1, cell_stays hb4 hS9.2.2.2.2.2.2.2.2.2.2.2.1, cell_stays hb4 hS9.2.2.2.2.2.2.2.2.2.2.2.2⟩ (fun hHeld => ?_)
    clear hK K9 hS9
    try go_simp
    have HB4 := hid (HB3.out.trans (hb4.mono HB3.out.size))
    have HNb4 := hid (HNb3.out.below hb4)
    have HCb4 := hid (HCb3.out.below hb4)
    have HIn4 := hid (HIn3.out.below hb4)
    have HC4 := hid (HC3.out.below hb4)
    have HF4 := hid (HF3.out.below hb4)
    have HM4 := hid (HM3.out.below hb4)
    clear HB3 HNb3 HCb3 HIn3 HC3 HF3 HM3
    clear hb4
    have HI4 := hid (show ZIn w4 A4 (iniM N) by obtain ⟨A', c', e, hz, _⟩ := hS4.zin; cases e; exact hz)
    clear hS4
    refine tkR 20 (fun K9 hK => ?_)
    go_simp
    have HEq := hid (equal_any A0 n0 c0 A4 (iniM N).length c4 Y0 (iniM N) w4 HM4.out HY0.out HI4.out rfl (by omega) (by have := ini_len HV.out; omega))
    rw [HE0.out] at HEq
    ((refine (HEq.out).mono ?_); rintro e w5 ⟨rfl, hb5⟩)
    have hS9 := hHeld
    refine hK.out _ _ ⟨cell_stays hb5 hS9.1, cell_stays hb5 hS9.2.1, cell_stays hb5 hS9.2.2.1, cell_stays hb5 hS9.2.2.2.1, cell_stays hb5 hS9.2.2.2.2.1, cell_stays hb5 hS9.2.2.2.2.2.1, cell_stays hb5 hS9.2.2.2.2.2.2.1, cell_stays hb5 hS9.2.2.2.2.2.2.2.1, cell_stays hb5 hS9.2.2.2.2.2.2.2.2.1, cell_stays hb5 hS9.2.2.2.2.2.2.2.2.2.1, cell_stays hb5 hS9.2.2.2.2.2.2.2.2.2.2.1, cell_stays hb5 hS9.2.2.2.2.2.2.2.2.2.2.2.1, cell_stays hb5 hS9.2.2.2.2.2.2.2.2.2.2.2.2⟩ (fun hHeld => ?_)
    clear hK K9 hS9
    try go_simp
    have HB5 := hid (HB4.out.trans (hb5.mono HB4.out.size))
    have HNb5 := hid (HNb4.out.below hb5)
    have HCb5 := hid (HCb4.out.below hb5)
    have HIn5 := hid (HIn4.out.below hb5)
    have HC5 := hid (HC4.out.below hb5)
    have HF5 := hid (HF4.out.below hb5)
    have HM5 := hid (HM4.out.below hb5)
    clear HB4 HNb4 HCb4 HIn4 HC4 HF4 HM4
    clear hb5
    refine tkH 21 ?_; try go_simp
    refine tkH 22 ?_; try go_simp
    refine tkH 23 ?_; try go_simp
    refine tkH 24 ?_; try go_simp
    refine tkH 25 ?_; try go_simp
    refine tkH 26 ?_; try go_simp
    refine tkH 27 ?_; try go_simp
    refine tkH 28 ?_; try go_simp
    refine tkH 29 ?_; try go_simp
    refine tkH 30 ?_; try go_simp
    refine tkH 31 ?_; try go_simp
    refine tkH 32 ?_; try go_simp
    refine tkH 33 ?_; try go_simp
    refine tkH 34 ?_; try go_simp
    refine tkH 35 ?_; try go_simp
    refine tkH 36 ?_; try go_simp
    refine tkH 37 ?_; try go_simp
    refine tkH 38 ?_; try go_simp
    refine tkH 39 ?_; try go_simp
    refine tkU 40 ?_; try go_simp
    refine tkU 41 ?_; try go_simp
    refine tkU 42 ?_; try go_simp
    refine tkU 43 ?_; try go_simp
    refine tkU 44 ?_; try go_simp
    refine tkU 45 ?_; try go_simp
    refine tkU 46 ?_; try go_simp
    refine tkU 47 ?_; try go_simp
    refine tkU 48 ?_; try go_simp
    refine tkH 49 ?_; try go_simp
    refine wpAnyH_done (by kernel_rfl) ?_ _
    clear hHeld
    go_wp2_with fail
    go_ret
    exact ⟨ret_bool (by rw [HQ.out]; rfl), HB5.out⟩
  have q3 : ((nw : Int) != 1) = false := by simp; omega
  obtain ⟨Z, rfl⟩ : ∃ Z, X = [Z] := by
   have := HC1.out.xl
   rw [hw] at this
   match X, this with
   | [x], _ => exact ⟨x, rfl⟩
  have hnw0 : 0 < nw := by omega
  have hnw1 : (0 : Int) < (nw : Int) := by omega
  rw [show decide (([Z] : List (List Int)).length = 1) = true from rfl, show ([Z] : List (List Int)).headD [] = Z from rfl] at HQ
  obtain ⟨aw, rfl, _, u1, x0, A1, n1, c1, rfl, z1, hz1, hz2, hz3⟩ := HC1.out.x 0 (by simp)
  replace z1 : ZIn w1 A1 Z := z1
  replace hz1 : Z.length = n1 := hz1
  have HX0 := hid (fun w' (hb : Below w1.heap.size w1 w') => cell_stays hb x0)
  have HZl := hid hz1
  have HZ1 := hid z1
  clear x0 z1 hz1 hw
  by_cases hz : n1 = nk
  rotate_left
  · have q4 : ((n1 : Int) != (nk : Int)) = true := by rw [bne_iff_ne]; omega
    rw [HZl.out, decide_eq_false hz] at HQ
    clear hz
    have hbd : Below w1.heap.size w1 w1.drew := (Below.refl _ _).drew
    have HB2 := hid (HB1.out.trans (hbd.mono HB1.out.size))
    have HNb2 := hid (HNb1.out.below hbd)
    have HCb2 := hid (HCb1.out.below hbd)
    have HIn2 := hid (HIn1.out.below hbd)
    have HC2 := hid (HC1.out.below hbd)
    have HF2 := hid (HF1.out.below hbd)
    have HM2 := hid (HM1.out.below hbd)
    have HBt2 := hid (HBt1.out.trans (hbd.mono HBt1.out.size))
    obtain ⟨b0, b1, b2, b3⟩ := HNb2.out.cells
    obtain ⟨d0, d1, d2, d3, d4, d5, d6, d7⟩ := HCb2.out.cells
    have k0b : w1.drew.cell? ak = some (.slice A0 n0 c0) := by simpa [Addr.add] using HK0.out w1.drew HBt2.out
    have x0b : w1.drew.cell? aw = some (.slice A1 n1 c1) := by simpa [Addr.add] using HX0.out w1.drew HBt2.out
    have hS0 := And.intro b0 (And.intro b1 (And.intro b2 (And.intro b3 (And.intro d0 (And.intro d1 (And.intro d2 (And.intro d3 (And.intro d4 (And.intro d5 (And.intro d6 (And.intro d7 (And.intro k0b (x0b)))))))))))))
    refine wp_region_held_drew (S := fun w' => w'.cell? ⟨w.heap.size, 0, none⟩ = some (.int .i64 N.pl) ∧ w'.cell? ⟨w.heap.size, 1, none⟩ = some (.slice A n c) ∧ w'.cell? ⟨w.heap.size, 2, none⟩ = some (.int .i64 N.src) ∧ w'.cell? ⟨w.heap.size, 3, none⟩ = some (.int .i64 N.snk) ∧ w'.cell? ⟨cb, 0, none⟩ = some (.int .i64 cl) ∧ w'.cell? ⟨cb, 1, none⟩ = some (.int .i64 cn) ∧ w'.cell? ⟨cb, 2, none⟩ = some (.slice Ar nr cr) ∧ w'.cell? ⟨cb, 3, none⟩ = some (.slice Ap np cp) ∧ w'.cell? ⟨cb, 4, none⟩ = some (.slice (some ak) nk ck) ∧ w'.cell? ⟨cb, 5, none⟩ = some (.slice Av nv cv) ∧ w'.cell? ⟨cb, 6, none⟩ = some (.slice As ns cs) ∧ w'.cell? ⟨cb, 7, none⟩ = some (.slice (some aw) nw cw) ∧ w'.cell? ak = some (.slice A0 n0 c0) ∧ w'.cell? aw = some (.slice A1 n1 c1)) (by kernel_rfl) hS0 (fun hHeld => ?_)
    clear hS0 hbd b0 b1 b2 b3 d0 d1 d2 d3 d4 d5 d6 d7 k0b x0b HBt2
    clear HB1 HNb1 HCb1 HIn1 HC1 HF1 HM1
    generalize w1.drew = w2 at *
    refine tkH 0 ?_; try go_simp
    refine tkH 1 ?_; try go_simp
    refine tkH 2 ?_; try go_simp
    refine tkH 3 ?_; try go_simp
    refine tkH 4 ?_; try go_simp
    refine tkH 5 ?_; try go_simp
    refine tkH 6 ?_; try go_simp
    refine tkH 7 ?_; try go_simp
    refine tkR 8 (fun K9 hK => ?_)
    go_simp
    have HMs := hid (vmarkings_any N.pl A n c N.src N.snk (some ak) nk ck K false w2 HC2.out.k HC2.out.kl HC2.out.kb)
    rw [HM0.out] at HMs
    ((refine (HMs.out).mono ?_); rintro e w3 ⟨rfl, hb3⟩)
    have hS9 := hHeld
    refine hK.out _ _ ⟨cell_stays hb3 hS9.1, cell_stays hb3 hS9.2.1, cell_stays hb3 hS9.2.2.1, cell_stays hb3 hS9.2.2.2.1, cell_stays hb3 hS9.2.2.2.2.1, cell_stays hb3 hS9.2.2.2.2.2.1, cell_stays hb3 hS9.2.2.2.2.2.2.1, cell_stays hb3 hS9.2.2.2.2.2.2.2.1, cell_stays hb3 hS9.2.2.2.2.2.2.2.2.1, cell_stays hb3 hS9.2.2.2.2.2.2.2.2.2.1, cell_stays hb3 hS9.2.2.2.2.2.2.2.2.2.2.1, cell_stays hb3 hS9.2.2.2.2.2.2.2.2.2.2.2.1, cell_stays hb3 hS9.2.2.2.2.2.2.2.2.2.2.2.2.1, cell_stays hb3 hS9.2.2.2.2.2.2.2.2.2.2.2.2.2⟩ (fun hHeld => ?_)
    clear hK K9 hS9
    try go_simp
    have HB3 := hid (HB2.out.trans (hb3.mono HB2.out.size))
    have HNb3 := hid (HNb2.out.below hb3)
    have HCb3 := hid (HCb2.out.below hb3)
    have HIn3 := hid (HIn2.out.below hb3)
    have HC3 := hid (HC2.out.below hb3)
    have HF3 := hid (HF2.out.below hb3)
    have HM3 := hid (HM2.out.below hb3)
    clear HB2 HNb2 HCb2 HIn2 HC2 HF2 HM2
    clear hb3
    refine tkH 9 ?_; try go_simp
    refine tkH 10 ?_; try go_simp
    refine tkH 11 ?_; try go_simp
    refine tkH 12 ?_; try go_simp
    refine tkH 13 ?_; try go_simp
    refine tkH 14 ?_; try go_simp
    refine tkH 15 ?_; try go_simp
    refine tkH 16 ?_; try go_simp
    refine tkH 17 ?_; try go_simp
    refine tkH 18 ?_; try go_simp
    refine tkR 19 (fun K9 hK => ?_)
    go_simp
    ((refine (vsrc_any N A n c HV.out w3).mono ?_); rintro e w4 ⟨v4, rfl, hS4⟩); (obtain ⟨A4, c4, rfl⟩ := hS4.slice); (have hb4 := hS4.2)
    have hS9 := hHeld
    refine hK.out _ _ ⟨cell_stays hb4 hS9.1, cell_stays hb4 hS9.2.1, cell_stays hb4 hS9.2.2.1, cell_stays hb4 hS9.2.2.2.1, cell_stays hb4 hS9.2.2.2.2.1, cell_stays hb4 hS9.2.2.2.2.2.1, cell_stays hb4 hS9.2.2.2.2.2.2.1, cell_stays hb4 hS9.2.2.2.2.2.2.2.1, cell_stays hb4 hS9.2.2.2.2.2.2.2.2.1, cell_stays hb4 hS9.2.2.2.2.2.2.2.2.2.1, cell_stays hb4 hS9.2.2.2.2.2.2.2.2.2.2.1, cell_stays hb4 hS9.2.2.2.2.2.2.2.2.2.2.2.1, cell_stays hb4 hS9.2.2.2.2.2.2.2.2.2.2.2.2.1, cell_stays hb4 hS9.2.2.2.2.2.2.2.2.2.2.2.2.2⟩ (fun hHeld => ?_)
    clear hK K9 hS9
    try go_simp
    have HB4 := hid (HB3.out.trans (hb4.mono HB3.out.size))
    have HNb4 := hid (HNb3.out.below hb4)
    have HCb4 := hid (HCb3.out.below hb4)
    have HIn4 := hid (HIn3.out.below hb4)
    have HC4 := hid (HC3.out.below hb4)
    have HF4 := hid (HF3.out.below hb4)
    have HM4 := hid (HM3.out.below hb4)
    clear HB3 HNb3 HCb3 HIn3 HC3 HF3 HM3
    clear hb4
    have HI4 := hid (show ZIn w4 A4 (iniM N) by obtain ⟨A', c', e, hz, _⟩ := hS4.zin; cases e; exact hz)
    clear hS4
    refine tkR 20 (fun K9 hK => ?_)
    go_simp
    have HEq := hid (equal_any A0 n0 c0 A4 (iniM N).length c4 Y0 (iniM N) w4 HM4.out HY0.out HI4.out rfl (by omega) (by have := ini_len HV.out; omega))
    rw [HE0.out] at HEq
    ((refine (HEq.out).mono ?_); rintro e w5 ⟨rfl, hb5⟩)
    have hS9 := hHeld
    refine hK.out _ _ ⟨cell_stays hb5 hS9.1, cell_stays hb5 hS9.2.1, cell_stays hb5 hS9.2.2.1, cell_stays hb5 hS9.2.2.2.1, cell_stays hb5 hS9.2.2.2.2.1, cell_stays hb5 hS9.2.2.2.2.2.1, cell_stays hb5 hS9.2.2.2.2.2.2.1, cell_stays hb5 hS9.2.2.2.2.2.2.2.1, cell_stays hb5 hS9.2.2.2.2.2.2.2.2.1, cell_stays hb5 hS9.2.2.2.2.2.2.2.2.2.1, cell_stays hb5 hS9.2.2.2.2.2.2.2.2.2.2.1, cell_stays hb5 hS9.2.2.2.2.2.2.2.2.2.2.2.1, cell_stays hb5 hS9.2.2.2.2.2.2.2.2.2.2.2.2.1, cell_stays hb5 hS9.2.2.2.2.2.2.2.2.2.2.2.2.2⟩ (fun hHeld => ?_)
    clear hK K9 hS9
    try go_simp
    have HB5 := hid (HB4.out.trans (hb5.mono HB4.out.size))
    have HNb5 := hid (HNb4.out.below hb5)
    have HCb5 := hid (HCb4.out.below hb5)
    have HIn5 := hid (HIn4.out.below hb5)
    have HC5 := hid (HC4.out.below hb5)
    have HF5 := hid (HF4.out.below hb5)
    have HM5 := hid (HM4.out.below hb5)
    clear HB4 HNb4 HCb4 HIn4 HC4 HF4 HM4
    clear hb5
    refine tkH 21 ?_; try go_simp
    refine tkH 22 ?_; try go_simp
    refine tkH 23 ?_; try go_simp
    refine tkH 24 ?_; try go_simp
    refine tkH 25 ?_; try go_simp
    refine tkH 26 ?_; try go_simp
    refine tkH 27 ?_; try go_simp
    refine tkH 28 ?_; try go_simp
    refine tkH 29 ?_; try go_simp
    refine tkH 30 ?_; try go_simp
    refine tkH 31 ?_; try go_simp
    refine tkH 32 ?_; try go_simp
    refine tkH 33 ?_; try go_simp
    refine tkH 34 ?_; try go_simp
    refine tkH 35 ?_; try go_simp
    refine tkH 36 ?_; try go_simp
    refine tkH 37 ?_; try go_simp
    refine tkH 38 ?_; try go_simp
    refine tkH 39 ?_; try go_simp
    refine tkH 40 ?_; try go_simp
    refine tkH 41 ?_; try go_simp
    refine tkH 42 ?_; try go_simp
    refine tkH 43 ?_; try go_simp
    refine tkH 44 ?_; try go_simp
    refine tkH 45 ?_; try go_simp
    refine tkH 46 ?_; try go_simp
    refine tkH 47 ?_; try go_simp
    refine tkH 48 ?_; try go_simp
    refine tkH 49 ?_; try go_simp
    refine wpAnyH_done (by kernel_rfl) ?_ _
    clear hHeld
    go_wp2_with fail
    go_ret
    exact ⟨ret_bool (by rw [HQ.out]; rfl), HB5.out⟩
  have q4 : ((n1 : Int) != (nk : Int)) = false := by simp; omega
  rw [HZl.out, decide_eq_true hz] at HQ
  obtain rfl : nk = n1 := hz.symm
  have hbd : Below w1.heap.size w1 w1.drew := (Below.refl _ _).drew
  have HB2 := hid (HB1.out.trans (hbd.mono HB1.out.size))
  have HNb2 := hid (HNb1.out.below hbd)
  have HCb2 := hid (HCb1.out.below hbd)
  have HIn2 := hid (HIn1.out.below hbd)
  have HC2 := hid (HC1.out.below hbd)
  have HF2 := hid (HF1.out.below hbd)
  have HM2 := hid (HM1.out.below hbd)
  have HBt2 := hid (HBt1.out.trans (hbd.mono HBt1.out.size))
  obtain ⟨b0, b1, b2, b3⟩ := HNb2.out.cells
  obtain ⟨d0, d1, d2, d3, d4, d5, d6, d7⟩ := HCb2.out.cells
  have k0b : w1.drew.cell? ak = some (.slice A0 n0 c0) := by simpa [Addr.add] using HK0.out w1.drew HBt2.out
  have x0b : w1.drew.cell? aw = some (.slice A1 nk c1) := by simpa [Addr.add] using HX0.out w1.drew HBt2.out
  have hS0 := And.intro b0 (And.intro b1 (And.intro b2 (And.intro b3 (And.intro d0 (And.intro d1 (And.intro d2 (And.intro d3 (And.intro d4 (And.intro d5 (And.intro d6 (And.intro d7 (And.intro k0b (x0b)))))))))))))
  refine wp_region_held_drew (S := fun w' => w'.cell? ⟨w.heap.size, 0, none⟩ = some (.int .i64 N.pl) ∧ w'.cell? ⟨w.heap.size, 1, none⟩ = some (.slice A n c) ∧ w'.cell? ⟨w.heap.size, 2, none⟩ = some (.int .i64 N.src) ∧ w'.cell? ⟨w.heap.size, 3, none⟩ = some (.int .i64 N.snk) ∧ w'.cell? ⟨cb, 0, none⟩ = some (.int .i64 cl) ∧ w'.cell? ⟨cb, 1, none⟩ = some (.int .i64 cn) ∧ w'.cell? ⟨cb, 2, none⟩ = some (.slice Ar nr cr) ∧ w'.cell? ⟨cb, 3, none⟩ = some (.slice Ap np cp) ∧ w'.cell? ⟨cb, 4, none⟩ = some (.slice (some ak) nk ck) ∧ w'.cell? ⟨cb, 5, none⟩ = some (.slice Av nv cv) ∧ w'.cell? ⟨cb, 6, none⟩ = some (.slice As ns cs) ∧ w'.cell? ⟨cb, 7, none⟩ = some (.slice (some aw) nw cw) ∧ w'.cell? ak = some (.slice A0 n0 c0) ∧ w'.cell? aw = some (.slice A1 nk c1)) (by kernel_rfl) hS0 (fun hHeld => ?_)
  clear hS0 hbd b0 b1 b2 b3 d0 d1 d2 d3 d4 d5 d6 d7 k0b x0b HBt2
  clear HB1 HNb1 HCb1 HIn1 HC1 HF1 HM1
  generalize w1.drew = w2 at *
  refine tkH 0 ?_; try go_simp
  refine tkH 1 ?_; try go_simp
  refine tkH 2 ?_; try go_simp
  refine tkH 3 ?_; try go_simp
  refine tkH 4 ?_; try go_simp
  refine tkH 5 ?_; try go_simp
  refine tkH 6 ?_; try go_simp
  refine tkH 7 ?_; try go_simp
  refine tkR 8 (fun K9 hK => ?_)
  go_simp
  have HMs := hid (vmarkings_any N.pl A n c N.src N.snk (some ak) nk ck K false w2 HC2.out.k HC2.out.kl HC2.out.kb)
  rw [HM0.out] at HMs
  ((refine (HMs.out).mono ?_); rintro e w3 ⟨rfl, hb3⟩)
  have hS9 := hHeld
  refine hK.out _ _ ⟨cell_stays hb3 hS9.1, cell_stays hb3 hS9.2.1, cell_stays hb3 hS9.2.2.1, cell_stays hb3 hS9.2.2.2.1, cell_stays hb3 hS9.2.2.2.2.1, cell_stays hb3 hS9.2.2.2.2.2.1, cell_stays hb3 hS9.2.2.2.2.2.2.1, cell_stays hb3 hS9.2.2.2.2.2.2.2.1, cell_stays hb3 hS9.2.2.2.2.2.2.2.2.1, cell_stays hb3 hS9.2.2.2.2.2.2.2.2.2.1, cell_stays hb3 hS9.2.2.2.2.2.2.2.2.2.2.1, cell_stays hb3 hS9.2.2.2.2.2.2.2.2.2.2.2.1, cell_stays hb3 hS9.2.2.2.2.2.2.2.2.2.2.2.2.1, cell_stays hb3 hS9.2.2.2.2.2.2.2.2.2.2.2.2.2⟩ (fun hHeld => ?_)
  clear hK K9 hS9
  try go_simp
  have HB3 := hid (HB2.out.trans (hb3.mono HB2.out.size))
  have HNb3 := hid (HNb2.out.below hb3)
  have HCb3 := hid (HCb2.out.below hb3)
  have HIn3 := hid (HIn2.out.below hb3)
  have HC3 := hid (HC2.out.below hb3)
  have HF3 := hid (HF2.out.below hb3)
  have HM3 := hid (HM2.out.below hb3)
  clear HB2 HNb2 HCb2 HIn2 HC2 HF2 HM2
  clear hb3
  refine tkH 9 ?_; try go_simp
  refine tkH 10 ?_; try go_simp
  refine tkH 11 ?_; try go_simp
  refine tkH 12 ?_; try go_simp
  refine tkH 13 ?_; try go_simp
  refine tkH 14 ?_; try go_simp
  refine tkH 15 ?_; try go_simp
  refine tkH 16 ?_; try go_simp
  refine tkH 17 ?_; try go_simp
  refine tkH 18 ?_; try go_simp
  refine tkR 19 (fun K9 hK => ?_)
  go_simp
  ((refine (vsrc_any N A n c HV.out w3).mono ?_); rintro e w4 ⟨v4, rfl, hS4⟩); (obtain ⟨A4, c4, rfl⟩ := hS4.slice); (have hb4 := hS4.2)
  have hS9 := hHeld
  refine hK.out _ _ ⟨cell_stays hb4 hS9.1, cell_stays hb4 hS9.2.1, cell_stays hb4 hS9.2.2.1, cell_stays hb4 hS9.2.2.2.1, cell_stays hb4 hS9.2.2.2.2.1, cell_stays hb4 hS9.2.2.2.2.2.1, cell_stays hb4 hS9.2.2.2.2.2.2.1, cell_stays hb4 hS9.2.2.2.2.2.2.2.1, cell_stays hb4 hS9.2.2.2.2.2.2.2.2.1, cell_stays hb4 hS9.2.2.2.2.2.2.2.2.2.1, cell_stays hb4 hS9.2.2.2.2.2.2.2.2.2.2.1, cell_stays hb4 hS9.2.2.2.2.2.2.2.2.2.2.2.1, cell_stays hb4 hS9.2.2.2.2.2.2.2.2.2.2.2.2.1, cell_stays hb4 hS9.2.2.2.2.2.2.2.2.2.2.2.2.2⟩ (fun hHeld => ?_)
  clear hK K9 hS9
  try go_simp
  have HB4 := hid (HB3.out.trans (hb4.mono HB3.out.size))
  have HNb4 := hid (HNb3.out.below hb4)
  have HCb4 := hid (HCb3.out.below hb4)
  have HIn4 := hid (HIn3.out.below hb4)
  have HC4 := hid (HC3.out.below hb4)
  have HF4 := hid (HF3.out.below hb4)
  have HM4 := hid (HM3.out.below hb4)
  clear HB3 HNb3 HCb3 HIn3 HC3 HF3 HM3
  clear hb4
  have HI4 := hid (show ZIn w4 A4 (iniM N) by obtain ⟨A', c', e, hz, _⟩ := hS4.zin; cases e; exact hz)
  clear hS4
  refine tkR 20 (fun K9 hK => ?_)
  go_simp
  have HEq := hid (equal_any A0 n0 c0 A4 (iniM N).length c4 Y0 (iniM N) w4 HM4.out HY0.out HI4.out rfl (by omega) (by have := ini_len HV.out; omega))
  rw [HE0.out] at HEq
  ((refine (HEq.out).mono ?_); rintro e w5 ⟨rfl, hb5⟩)
  have hS9 := hHeld
  refine hK.out _ _ ⟨cell_stays hb5 hS9.1, cell_stays hb5 hS9.2.1, cell_stays hb5 hS9.2.2.1, cell_stays hb5 hS9.2.2.2.1, cell_stays hb5 hS9.2.2.2.2.1, cell_stays hb5 hS9.2.2.2.2.2.1, cell_stays hb5 hS9.2.2.2.2.2.2.1, cell_stays hb5 hS9.2.2.2.2.2.2.2.1, cell_stays hb5 hS9.2.2.2.2.2.2.2.2.1, cell_stays hb5 hS9.2.2.2.2.2.2.2.2.2.1, cell_stays hb5 hS9.2.2.2.2.2.2.2.2.2.2.1, cell_stays hb5 hS9.2.2.2.2.2.2.2.2.2.2.2.1, cell_stays hb5 hS9.2.2.2.2.2.2.2.2.2.2.2.2.1, cell_stays hb5 hS9.2.2.2.2.2.2.2.2.2.2.2.2.2⟩ (fun hHeld => ?_)
  clear hK K9 hS9
  try go_simp
  have HB5 := hid (HB4.out.trans (hb5.mono HB4.out.size))
  have HNb5 := hid (HNb4.out.below hb5)
  have HCb5 := hid (HCb4.out.below hb5)
  have HIn5 := hid (HIn4.out.below hb5)
  have HC5 := hid (HC4.out.below hb5)
  have HF5 := hid (HF4.out.below hb5)
  have HM5 := hid (HM4.out.below hb5)
  clear HB4 HNb4 HCb4 HIn4 HC4 HF4 HM4
  clear hb5
  refine tkH 21 ?_; try go_simp
  refine tkH 22 ?_; try go_simp
  refine tkH 23 ?_; try go_simp
  refine tkH 24 ?_; try go_simp
  refine tkH 25 ?_; try go_simp
  refine tkH 26 ?_; try go_simp
  refine tkH 27 ?_; try go_simp
  refine tkH 28 ?_; try go_simp
  refine tkH 29 ?_; try go_simp
  refine tkH 30 ?_; try go_simp
  refine tkH 31 ?_; try go_simp
  refine tkH 32 ?_; try go_simp
  refine tkH 33 ?_; try go_simp
  refine tkH 34 ?_; try go_simp
  refine tkH 35 ?_; try go_simp
  refine tkH 36 ?_; try go_simp
  refine tkH 37 ?_; try go_simp
  refine tkH 38 ?_; try go_simp
  refine tkH 39 ?_; try go_simp
  refine tkH 40 ?_; try go_simp
  refine tkH 41 ?_; try go_simp
  refine tkH 42 ?_; try go_simp
  refine tkH 43 ?_; try go_simp
  refine tkH 44 ?_; try go_simp
  refine tkH 45 ?_; try go_simp
  refine tkH 46 ?_; try go_simp
  refine tkH 47 ?_; try go_simp
  refine tkH 48 ?_; try go_simp
  refine tkH 49 ?_; try go_simp
  refine wpAnyH_done (by kernel_rfl) ?_ _
  clear hHeld
  obtain ⟨b0, b1, b2, b3⟩ := HNb5.out.cells
  obtain ⟨d0, d1, d2, d3, d4, d5, d6, d7⟩ := HCb5.out.cells
  go_wp2_with fail
  clear b0 b1 b2 b3 d0 d1 d2 d3 d4 d5 d6 d7
  go_loopg [76] (nv) (fun g iv wr => ∃ k : Nat, k + g = nv ∧ iv = .int .i64 (k : Int) ∧ (List.range k).all (mvOkAt N K V) = true ∧ Below w5.heap.size w5 wr)
  case atStart => exact ⟨0, by omega, rfl, rfl, Below.refl _ _⟩
  case round =>
   obtain ⟨k, hk, rfl, hp, hB⟩ := hrel
   have HK := hid hk
   have HP := hid hp
   have HBr := hid hB
   have hle : k ≤ nv := by omega
   have hnv60 := HC5.out.vb
   clear hk hp hB
   by_cases hlt : k < nv
   · have hlt' : k < V.length := by rw [HC5.out.vl]; exact hlt
     obtain ⟨av, rfl, hpv, m0, m1, m2⟩ := mv_at (HC5.out.below HBr.out).v hlt'
     have HSt := hid (range_step (mvOkAt N K V) k)
     have HNo := hid (fun hh => range_no (mvOkAt N K V) (n := nv) hlt hh)
     have HMo := hid (mvOk_get (N := N) (K := K) hlt')
     generalize V[k].f = xf at *
     generalize V[k].t = xt at *
     generalize V[k].s = xs at *
     clear hlt'
     have hk1K : k + 1 < K.length := by have := HC5.out.kl; have := HVk.out; omega
     have HA10 := hid (HBr.out.trans ((below_alloc wr (.cells #[.int .i64 xf, .int .i64 xt, .int .i64 xs] 50)).mono HBr.out.size))
     have HMb10 := hid (show MvB _ wr.heap.size xf xt xs from heap_alloc_new wr (.cells #[.int .i64 xf, .int .i64 xt, .int .i64 xs] 50))
     have HBa := hid (HB5.out.trans (HA10.out.mono HB5.out.size))
     by_cases h1 : xt = (k : Int) + 1
     rotate_left
     · have p1 : (xt != (k : Int) + 1) = true := by rw [bne_iff_ne]; exact h1
       rw [HNo.out (by rw [HMo.out]; unfold mvT; rw [decide_eq_false h1]; rfl)] at HQ
       clear h1 HNo HSt HMo
       go_wp2_with fail
       go_ret
       exact ⟨ret_bool (by rw [HQ.out]; rfl), HBa.out⟩
     have p1 : (xt != (k : Int) + 1) = false := by simp [h1]
     have e1 := decide_eq_true h1
     by_cases h2 : xf < 0
     · have p2 : decide (xf < 0) = true := by simpa using h2
       rw [HNo.out (by rw [HMo.out]; unfold mvT; rw [e1, decide_eq_false (show ¬ 0 ≤ xf by omega)]; rfl)] at HQ
       clear h1 h2 e1 HNo HSt HMo
       go_wp2_with fail
       go_ret
       exact ⟨ret_bool (by rw [HQ.out]; rfl), HBa.out⟩
     have p2 : decide (xf < 0) = false := by simpa using h2
     have e2 := decide_eq_true (show 0 ≤ xf by omega)
     obtain ⟨f, rfl⟩ := Int.eq_ofNat_of_zero_le (show 0 ≤ xf by omega)
     by_cases h3 : (k : Int) < (f : Int)
     · have p3 : decide ((k : Int) < (f : Int)) = true := by simpa using h3
       have p3' : decide (k < f) = true := by simp; omega
       rw [HNo.out (by rw [HMo.out]; unfold mvT; rw [e1, e2, decide_eq_false (show ¬ (f : Int) ≤ (k : Int) by omega)]; rfl)] at HQ
       clear h1 h2 h3 e1 e2 HNo HSt HMo
       go_wp2_with fail
       go_ret
       exact ⟨ret_bool (by rw [HQ.out]; rfl), HBa.out⟩
     have p3 : decide ((k : Int) < (f : Int)) = false := by simp; omega
     have p3' : decide (k < f) = false := by simp; omega
     have e3 := decide_eq_true (show (f : Int) ≤ (k : Int) by omega)
     have hfK : f < K.length := by have := HC5.out.kl; have := HVk.out; omega
     have hfn : f < nk := by have := HC5.out.kl; omega
     have hf0 : (0 : Int) ≤ (f : Int) := by omega
     have hf1 : (f : Int) < (nk : Int) := by omega
     have hgf : K.getD (f : Int).toNat [] = K[f] := by rw [Int.toNat_natCast]; simp [hfK]
     have hgk : K.getD (k + 1) [] = K[k + 1] := by simp [hk1K]
     have HMk := hid (show mkB N K[f] = true by rw [← mkX_mk HV.out]; exact HAll.out _ (List.getElem_mem hfK))
     have HMz := hid (show mkB N K[k + 1] = true by rw [← mkX_mk HV.out]; exact HAll.out _ (List.getElem_mem hk1K))
     obtain ⟨Ay, ny, cy, y0, zy, hy1, hy2, hy3⟩ := lin_at HC5.out.k hfK
     obtain ⟨Az, nz, cz, z0, zz, hz1, hz2, hz3⟩ := lin_at HC5.out.k hk1K
     have HV2 := hid (show mvOkAt N K V k = (decide ((fireV N K[f] xs).2 = 0) && decide ((fireV N K[f] xs).1 = K[k + 1])) by rw [HMo.out]; unfold mvT; rw [e1, e2, e3, hgf, hgk]; rfl)
     have HYl := hid hy1
     have HZl2 := hid hz1
     generalize K[f] = Y at *
     generalize K[k + 1] = Zk at *
     have HF21 := hid (show fire21 N Y xs = fireV N Y xs by unfold fire21; rw [HMk.out]; rfl)
     have HKf5 := hid y0
     have HKz5 := hid z0
     have HY5 := hid zy
     have HZk5 := hid zz
     clear h1 h2 h3 e1 e2 e3 hgf hgk HMo y0 z0 zy zz hy1 hz1
     go_wp2_with fail
     clear m0 m1 m2
     have HB10 := hid (HB5.out.trans (HA10.out.mono HB5.out.size))
     have HNb10 := hid (HNb5.out.below HA10.out)
     have HCb10 := hid (HCb5.out.below HA10.out)
     have HIn10 := hid (HIn5.out.below HA10.out)
     have HC10 := hid (HC5.out.below HA10.out)
     have HF10 := hid (HF5.out.below HA10.out)
     have HKf10 := hid (HKf5.out.below HA10.out)
     have HKz10 := hid (HKz5.out.below HA10.out)
     have HY10 := hid (HY5.out.below HA10.out)
     have HZk10 := hid (HZk5.out.below HA10.out)
     have HBl10 := hid HA10.out
     obtain ⟨tb, htb⟩ : ∃ tb, wr.heap.size = tb := ⟨_, rfl⟩
     rw [htb] at HMb10 ⊢
     clear HA10 HBa
     generalize wr.alloc _ = w10 at *
     have hny : ny ≤ 40 := by have := mk_len HMk.out; have := HYl.out; omega
     have hnz : nz ≤ 40 := by have := mk_len HMz.out; have := HZl2.out; omega
     have hk10 : (0 : Int) ≤ (k : Int) + 1 := by omega
     have hkt : ((k : Int) + 1).toNat = k + 1 := by omega
     have hk11 : (k : Int) + 1 < (nk : Int) := by have := HVk.out; omega
     by_cases h0 : (fireV N Y xs).2 = 0
     rotate_left
     · have p4 : ((fireV N Y xs).2 != 0) = true := by rw [bne_iff_ne]; exact h0
       rw [HNo.out (by rw [HV2.out, decide_eq_false h0]; rfl)] at HQ
       have hbd : Below w10.heap.size w10 w10.drew := (Below.refl _ _).drew
       have HB11 := hid (HB10.out.trans (hbd.mono HB10.out.size))
       have HNb11 := hid (HNb10.out.below hbd)
       have HCb11 := hid (HCb10.out.below hbd)
       have HIn11 := hid (HIn10.out.below hbd)
       have HC11 := hid (HC10.out.below hbd)
       have HF11 := hid (HF10.out.below hbd)
       have HBl11 := hid (HBl10.out.trans (hbd.mono HBl10.out.size))
       have HMb11 := hid (HMb10.out.below hbd)
       have HKf11 := hid (HKf10.out.below hbd)
       have HKz11 := hid (HKz10.out.below hbd)
       have HY11 := hid (HY10.out.below hbd)
       have HZk11 := hid (HZk10.out.below hbd)
       obtain ⟨b0, b1, b2, b3⟩ := HNb11.out.cells
       obtain ⟨d0, d1, d2, d3, d4, d5, d6, d7⟩ := HCb11.out.cells
       obtain ⟨m0, m2⟩ := HMb11.out.cells
       have y0 : w10.drew.cell? (ak.add f) = some (.slice Ay ny cy) := HKf11.out
       have hS0 := And.intro b0 (And.intro b1 (And.intro b2 (And.intro b3 (And.intro d4 (And.intro y0 (And.intro m0 (m2)))))))
       refine wp_region_held_drew (S := fun w' => w'.cell? ⟨w.heap.size, 0, none⟩ = some (.int .i64 N.pl) ∧ w'.cell? ⟨w.heap.size, 1, none⟩ = some (.slice A n c) ∧ w'.cell? ⟨w.heap.size, 2, none⟩ = some (.int .i64 N.src) ∧ w'.cell? ⟨w.heap.size, 3, none⟩ = some (.int .i64 N.snk) ∧ w'.cell? ⟨cb, 4, none⟩ = some (.slice (some ak) nk ck) ∧ w'.cell? (ak.add f) = some (.slice Ay ny cy) ∧ w'.cell? ⟨tb, 0, none⟩ = some (.int .i64 (f : Int)) ∧ w'.cell? ⟨tb, 2, none⟩ = some (.int .i64 xs)) (by kernel_rfl) hS0 (fun hHeld => ?_)
       clear hS0 hbd b0 b1 b2 b3 d0 d1 d2 d3 d4 d5 d6 d7 m0 m2 y0
       clear HB10 HNb10 HCb10 HIn10 HC10 HF10 HBl10 HMb10 HKf10 HKz10 HY10 HZk10
       generalize w10.drew = w11 at *
       refine tkH 0 ?_; try go_simp
       refine tkH 1 ?_; try go_simp
       refine tkH 2 ?_; try go_simp
       refine tkH 3 ?_; try go_simp
       refine tkH 4 ?_; try go_simp
       refine tkH 5 ?_; try go_simp
       refine tkH 6 ?_; try go_simp
       refine tkH 7 ?_; try go_simp
       refine tkH 8 ?_; try go_simp
       refine tkR 9 (fun K9 hK => ?_)
       go_simp
       have hfi := pFire_any N A n c Ay ny cy Y xs w11 HIn11.out HNl.out (by omega) HY11.out HYl.out (by omega)
       rw [HF21.out] at hfi
       ((refine (fv_no hfi h0).mono ?_); rintro e w12 ⟨rfl, hb12⟩)
       have hS9 := hHeld
       refine hK.out _ _ ⟨cell_stays hb12 hS9.1, cell_stays hb12 hS9.2.1, cell_stays hb12 hS9.2.2.1, cell_stays hb12 hS9.2.2.2.1, cell_stays hb12 hS9.2.2.2.2.1, cell_stays hb12 hS9.2.2.2.2.2.1, cell_stays hb12 hS9.2.2.2.2.2.2.1, cell_stays hb12 hS9.2.2.2.2.2.2.2⟩ (fun hHeld => ?_)
       clear hK K9 hS9
       try go_simp
       have HB12 := hid (HB11.out.trans (hb12.mono HB11.out.size))
       have HNb12 := hid (HNb11.out.below hb12)
       have HCb12 := hid (HCb11.out.below hb12)
       have HIn12 := hid (HIn11.out.below hb12)
       have HC12 := hid (HC11.out.below hb12)
       have HF12 := hid (HF11.out.below hb12)
       have HBl12 := hid (HBl11.out.trans (hb12.mono HBl11.out.size))
       have HMb12 := hid (HMb11.out.below hb12)
       have HKf12 := hid (HKf11.out.below hb12)
       have HKz12 := hid (HKz11.out.below hb12)
       have HY12 := hid (HY11.out.below hb12)
       have HZk12 := hid (HZk11.out.below hb12)
       clear HB11 HNb11 HCb11 HIn11 HC11 HF11 HBl11 HMb11 HKf11 HKz11 HY11 HZk11
       clear hfi
       clear hb12
       refine tkH 10 ?_; try go_simp
       refine tkH 11 ?_; try go_simp
       refine tkH 12 ?_; try go_simp
       refine tkH 13 ?_; try go_simp
       refine tkH 14 ?_; try go_simp
       refine wpAnyH_done (by kernel_rfl) ?_ _
       clear hHeld
       go_wp2_with fail
       go_ret
       exact ⟨ret_bool (by rw [HQ.out]; rfl), HB12.out⟩
     have hbd : Below w10.heap.size w10 w10.drew := (Below.refl _ _).drew
     have HB11 := hid (HB10.out.trans (hbd.mono HB10.out.size))
     have HNb11 := hid (HNb10.out.below hbd)
     have HCb11 := hid (HCb10.out.below hbd)
     have HIn11 := hid (HIn10.out.below hbd)
     have HC11 := hid (HC10.out.below hbd)
     have HF11 := hid (HF10.out.below hbd)
     have HBl11 := hid (HBl10.out.trans (hbd.mono HBl10.out.size))
     have HMb11 := hid (HMb10.out.below hbd)
     have HKf11 := hid (HKf10.out.below hbd)
     have HKz11 := hid (HKz10.out.below hbd)
     have HY11 := hid (HY10.out.below hbd)
     have HZk11 := hid (HZk10.out.below hbd)
     obtain ⟨b0, b1, b2, b3⟩ := HNb11.out.cells
     obtain ⟨d0, d1, d2, d3, d4, d5, d6, d7⟩ := HCb11.out.cells
     obtain ⟨m0, m2⟩ := HMb11.out.cells
     have y0 : w10.drew.cell? (ak.add f) = some (.slice Ay ny cy) := HKf11.out
     have hS0 := And.intro b0 (And.intro b1 (And.intro b2 (And.intro b3 (And.intro d4 (And.intro y0 (And.intro m0 (m2)))))))
     refine wp_region_held_drew (S := fun w' => w'.cell? ⟨w.heap.size, 0, none⟩ = some (.int .i64 N.pl) ∧ w'.cell? ⟨w.heap.size, 1, none⟩ = some (.slice A n c) ∧ w'.cell? ⟨w.heap.size, 2, none⟩ = some (.int .i64 N.src) ∧ w'.cell? ⟨w.heap.size, 3, none⟩ = some (.int .i64 N.snk) ∧ w'.cell? ⟨cb, 4, none⟩ = some (.slice (some ak) nk ck) ∧ w'.cell? (ak.add f) = some (.slice Ay ny cy) ∧ w'.cell? ⟨tb, 0, none⟩ = some (.int .i64 (f : Int)) ∧ w'.cell? ⟨tb, 2, none⟩ = some (.int .i64 xs)) (by kernel_rfl) hS0 (fun hHeld => ?_)
     clear hS0 hbd b0 b1 b2 b3 d0 d1 d2 d3 d4 d5 d6 d7 m0 m2 y0
     clear HB10 HNb10 HCb10 HIn10 HC10 HF10 HBl10 HMb10 HKf10 HKz10 HY10 HZk10
     generalize w10.drew = w11 at *
     refine tkH 0 ?_; try go_simp
     refine tkH 1 ?_; try go_simp
     refine tkH 2 ?_; try go_simp
     refine tkH 3 ?_; try go_simp
     refine tkH 4 ?_; try go_simp
     refine tkH 5 ?_; try go_simp
     refine tkH 6 ?_; try go_simp
     refine tkH 7 ?_; try go_simp
     refine tkH 8 ?_; try go_simp
     refine tkR 9 (fun K9 hK => ?_)
     go_simp
     have hfi := pFire_any N A n c Ay ny cy Y xs w11 HIn11.out HNl.out (by omega) HY11.out HYl.out (by omega)
     rw [HF21.out] at hfi
     ((refine (fv_yes hfi h0).mono ?_); rintro e w12 ⟨v12, rfl, hS12⟩)
     obtain ⟨A12, c12, rfl⟩ := hS12.slice
     have hb12 := hS12.2
     have hS9 := hHeld
     refine hK.out _ _ ⟨cell_stays hb12 hS9.1, cell_stays hb12 hS9.2.1, cell_stays hb12 hS9.2.2.1, cell_stays hb12 hS9.2.2.2.1, cell_stays hb12 hS9.2.2.2.2.1, cell_stays hb12 hS9.2.2.2.2.2.1, cell_stays hb12 hS9.2.2.2.2.2.2.1, cell_stays hb12 hS9.2.2.2.2.2.2.2⟩ (fun hHeld => ?_)
     clear hK K9 hS9
     try go_simp
     have HB12 := hid (HB11.out.trans (hb12.mono HB11.out.size))
     have HNb12 := hid (HNb11.out.below hb12)
     have HCb12 := hid (HCb11.out.below hb12)
     have HIn12 := hid (HIn11.out.below hb12)
     have HC12 := hid (HC11.out.below hb12)
     have HF12 := hid (HF11.out.below hb12)
     have HBl12 := hid (HBl11.out.trans (hb12.mono HBl11.out.size))
     have HMb12 := hid (HMb11.out.below hb12)
     have HKf12 := hid (HKf11.out.below hb12)
     have HKz12 := hid (HKz11.out.below hb12)
     have HY12 := hid (HY11.out.below hb12)
     have HZk12 := hid (HZk11.out.below hb12)
     clear HB11 HNb11 HCb11 HIn11 HC11 HF11 HBl11 HMb11 HKf11 HKz11 HY11 HZk11
     have HM12 := hid (show ZIn w12 A12 (fireV N Y xs).1 by obtain ⟨A', c', e, hz, _⟩ := hS12.zin; cases e; exact hz)
     clear hfi
     clear hS12 hb12
     refine tkH 10 ?_; try go_simp
     refine tkH 11 ?_; try go_simp
     refine tkH 12 ?_; try go_simp
     refine tkH 13 ?_; try go_simp
     refine tkH 14 ?_; try go_simp
     refine wpAnyH_done (by kernel_rfl) ?_ _
     clear hHeld
     have HMf := hid (fire_mk HMk.out h0)
     have hfl : (fireV N Y xs).1.length ≤ 40 := by have := mk_len HMf.out; omega
     have e0 := decide_eq_true h0
     clear h0 HMf
     generalize (fireV N Y xs).1 = Yf at *
     obtain ⟨b0, b1, b2, b3⟩ := HNb12.out.cells
     obtain ⟨d0, d1, d2, d3, d4, d5, d6, d7⟩ := HCb12.out.cells
     have z0 : w12.cell? ⟨ak.block, ak.off + (k + 1), none⟩ = some (.slice Az nz cz) := by rw [← add_prev]; exact HKz12.out
     have HEq := hid (equal_any A12 Yf.length c12 Az nz cz Yf Zk w12 HM12.out rfl HZk12.out HZl2.out (by omega) (by omega))
     by_cases he : Yf = Zk
     rotate_left
     · rw [decide_eq_false he] at HEq
       rw [HNo.out (by rw [HV2.out, e0, decide_eq_false he]; rfl)] at HQ
       clear he e0
       go_wp2_with fail
       ((with_reducible refine HEq.out.mono ?_); rintro e w13 ⟨rfl, hb13⟩)
       have HB13 := hid (HB12.out.trans (hb13.mono HB12.out.size))
       clear b0 b1 b2 b3 d0 d1 d2 d3 d4 d5 d6 d7 z0
       go_wp2_with fail
       go_ret
       exact ⟨ret_bool (by rw [HQ.out]; rfl), HB13.out⟩
     rw [decide_eq_true he] at HEq
     have HVk2 := hid (show (List.range (k + 1)).all (mvOkAt N K V) = true by rw [HSt.out, HP.out, HV2.out, e0, decide_eq_true he]; rfl)
     clear he e0 HSt HNo HV2
     go_wp2_with fail
     ((with_reducible refine HEq.out.mono ?_); rintro e w13 ⟨rfl, hb13⟩)
     have HBl13 := hid (HBl12.out.trans (hb13.mono HBl12.out.size))
     clear b0 b1 b2 b3 d0 d1 d2 d3 d4 d5 d6 d7 z0
     go_wp2_with fail
     go_roundg (gk - 1)
     case measure => have := HK.out; omega
     case rel => exact ⟨k + 1, by have := HK.out; omega, by go_num, HVk2.out, HBl13.out⟩
   · have hE : (List.range nv).all (mvOkAt N K V) = true := by
      have := HP.out
      rwa [show k = nv by omega] at this
     rw [hE] at HQ
     clear hE HP HK
     obtain ⟨w20, rfl⟩ : ∃ w20, w20 = wr := ⟨_, rfl⟩
     have HB20 := hid (HB5.out.trans (HBr.out.mono HB5.out.size))
     have HNb20 := hid (HNb5.out.below HBr.out)
     have HCb20 := hid (HCb5.out.below HBr.out)
     have HIn20 := hid (HIn5.out.below HBr.out)
     have HC20 := hid (HC5.out.below HBr.out)
     have HF20 := hid (HF5.out.below HBr.out)
     clear HB5 HNb5 HCb5 HIn5 HC5 HF5
     have HCl := hid (vclosed_any N A n c (some ak) nk ck K w20 HIn20.out HNl.out HV.out HC20.out.k HC20.out.kl HC20.out.kb HAll.out)
     clear HBr
     obtain ⟨b0, b1, b2, b3⟩ := HNb20.out.cells
     obtain ⟨d0, d1, d2, d3, d4, d5, d6, d7⟩ := HCb20.out.cells
     cases hcl : closX N K with
     | false =>
      rw [hcl] at HQ HCl
      clear hcl
      go_wp2_with fail
      ((with_reducible refine HCl.out.mono ?_); rintro e w21 ⟨rfl, hb21⟩)
      have HB21 := hid (HB20.out.trans (hb21.mono HB20.out.size))
      clear b0 b1 b2 b3 d0 d1 d2 d3 d4 d5 d6 d7
      go_wp2_with fail
      go_ret
      exact ⟨ret_bool (by rw [HQ.out]; rfl), HB21.out⟩
     | true =>
      have HCx := hid (fun s hs t ht hc => clos_mem hcl (s := s) hs (t := t) ht hc)
      rw [hcl] at HQ HCl
      clear hcl
      go_wp2_with fail
      ((with_reducible refine HCl.out.mono ?_); rintro e w21 ⟨rfl, hb21⟩)
      have HB21 := hid (HB20.out.trans (hb21.mono HB20.out.size))
      have HNb21 := hid (HNb20.out.below hb21)
      have HCb21 := hid (HCb20.out.below hb21)
      have HIn21 := hid (HIn20.out.below hb21)
      have HC21 := hid (HC20.out.below hb21)
      have HF21 := hid (HF20.out.below hb21)
      clear HB20 HNb20 HCb20 HIn20 HC20 HF20
      clear b0 b1 b2 b3 d0 d1 d2 d3 d4 d5 d6 d7 hb21 HCl
      obtain ⟨b0, b1, b2, b3⟩ := HNb21.out.cells
      obtain ⟨d0, d1, d2, d3, d4, d5, d6, d7⟩ := HCb21.out.cells
      have hmk := mk_bools n (by omega)
      have hn0 : (0 : Int) ≤ (n : Int) := by omega
      have hcbl := HCb21.out.lt
      have hnbl := HNb21.out.lt
      have HA22 := hid (below_alloc w21 (.cells (madeCells #[.bool false] n) 4))
      have HFb22 := hid (BL.made w21 n)
      go_wp2_with fail
      clear b0 b1 b2 b3 d0 d1 d2 d3 d4 d5 d6 d7 hmk
      rw [show List.replicate n false = frL N K 0 0 by rw [frL_zero, HNl.out]] at HFb22
      obtain ⟨fb, hfb⟩ : ∃ fb, w21.heap.size = fb := ⟨_, rfl⟩
      have HFs := hid hfb
      have HA22' := hid (show Below w21.heap.size w21 (w21.alloc (.cells (madeCells #[.bool false] n) 4)) from HA22.out)
      rw [hfb] at HFb22 ⊢
      clear HA22 hcbl hnbl hfb
      generalize w21.alloc _ = w22 at *
      go_loopg [136] (nk) (fun g iv wr => ∃ k : Nat, k + g = nk ∧ iv = .int .i64 (k : Int) ∧ (List.range k).all (mrkOk N K Z) = true ∧ BL wr fb (frL N K k 0) ∧ Below w21.heap.size w21 wr)
      case atStart => exact ⟨0, by omega, rfl, rfl, HFb22.out, HA22'.out⟩
      case round =>
       clear HFb22 HA22'
       obtain ⟨k, hk, rfl, hp, hF, hB⟩ := hrel
       obtain ⟨go1, rfl⟩ : ∃ go1, go1 = gk := ⟨_, rfl⟩
       have HK := hid hk
       have HP := hid hp
       have HFb30 := hid hF
       have HBl30 := hid hB
       have hle : k ≤ nk := by omega
       have hnkb := HC21.out.kb
       clear hk hp hF hB
       obtain ⟨w30, rfl⟩ : ∃ w30, w30 = wr := ⟨_, rfl⟩
       have HB30 := hid (HB21.out.trans (HBl30.out.mono HB21.out.size))
       have HNb30 := hid (HNb21.out.below HBl30.out)
       have HCb30 := hid (HCb21.out.below HBl30.out)
       have HIn30 := hid (HIn21.out.below HBl30.out)
       have HC30 := hid (HC21.out.below HBl30.out)
       have HF30 := hid (HF21.out.below HBl30.out)
       by_cases hlt : k < nk
       · have hkK : k < K.length := by rw [HC21.out.kl]; exact hlt
         have hkZ : k < Z.length := by rw [HZl.out]; exact hlt
         have HSt := hid (range_step (mrkOk N K Z) k)
         have HNo := hid (fun hh => range_no (mrkOk N K Z) (n := nk) hlt hh)
         have HMg := hid (mrk_get (N := N) hkK hkZ)
         have HNg := hid (fun (t : Tr) (x : Nat) hx hx2 hc => near_get (K := K) (Z := Z) hkK hkZ (t := t) (x := x) hx hx2 hc)
         have HNn := hid (fun (t : Tr) hc => near_no (K := K) (Z := Z) hkK (t := t) hc)
         have HCm := hid (HCx.out K[k] (List.getElem_mem hkK))
         have HKe := hid (show K.getD k [] = K[k] by simp [hkK])
         have HMm := hid (HAll.out _ (List.getElem_mem hkK))
         obtain ⟨Am, nm, cm, y0, zm, hm1, hm2, hm3⟩ := lin_at HC21.out.k hkK
         have HMl := hid hm1
         have HZm21 := hid zm
         have HZm30 := hid (zm.below HBl30.out)
         have hnm40 : nm ≤ 40 := by have := mkX_len HMm.out; omega
         have HMn := hid (show (nm : Int) = N.pl by have := mkX_len HMm.out; omega)
         generalize K[k] = M at *
         have y0' : w30.cell? (ak.add k) = some (.slice Am nm cm) := y0.below HBl30.out
         clear y0 zm hm1
         obtain ⟨b0, b1, b2, b3⟩ := HNb30.out.cells
         obtain ⟨d0, d1, d2, d3, d4, d5, d6, d7⟩ := HCb30.out.cells
         have HIx := hid (vindex_any (some ak) nk ck K Am nm cm M w30 HC30.out.k HC30.out.kl HC30.out.kb HZm30.out HMl.out (by omega))
         by_cases hi : lidx (isL M) K = (k : Int)
         rotate_left
         · have p1 : (lidx (isL M) K != (k : Int)) = true := by rw [bne_iff_ne]; exact hi
           rw [HNo.out (by rw [HMg.out, decide_eq_false hi]; rfl)] at HQ
           generalize lidx (isL M) K = ix at *
           clear hi
           go_wp2_with fail
           ((with_reducible refine HIx.out.mono ?_); rintro e w31 ⟨rfl, hb31⟩)
           have HB31 := hid (HB30.out.trans (hb31.mono HB30.out.size))
           clear b0 b1 b2 b3 d0 d1 d2 d3 d4 d5 d6 d7 y0'
           go_wp2_with fail
           go_ret
           exact ⟨ret_bool (by rw [HQ.out]; rfl), HB31.out⟩
         rw [decide_eq_true hi] at HMg
         rw [hi] at HIx
         clear hi
         go_wp2_with fail
         ((with_reducible refine HIx.out.mono ?_); rintro e w31 ⟨rfl, hb31⟩)
         have HB31 := hid (HB30.out.trans (hb31.mono HB30.out.size))
         have HNb31 := hid (HNb30.out.below hb31)
         have HCb31 := hid (HCb30.out.below hb31)
         have HIn31 := hid (HIn30.out.below hb31)
         have HC31 := hid (HC30.out.below hb31)
         have HF31 := hid (HF30.out.below hb31)
         have HBl31 := hid (HBl30.out.trans (hb31.mono HBl30.out.size))
         have HFb31 := hid (HFb30.out.below hb31)
         have HZm31 := hid (HZm30.out.below hb31)
         clear HB30 HNb30 HCb30 HIn30 HC30 HF30 HBl30 HFb30 HZm30
         clear b0 b1 b2 b3 d0 d1 d2 d3 d4 d5 d6 d7 y0' hb31 HIx
         have HEq := hid (equal_any Am nm cm Af (finM N).length cf M (finM N) w31 HZm31.out HMl.out HF31.out rfl (by omega) (by omega))
         generalize hen : decide (M = finM N) = en at *
         clear hen
         go_wp2_with fail
         ((with_reducible refine HEq.out.mono ?_); rintro e w32 ⟨rfl, hb32⟩)
         have HB32 := hid (HB31.out.trans (hb32.mono HB31.out.size))
         have HNb32 := hid (HNb31.out.below hb32)
         have HCb32 := hid (HCb31.out.below hb32)
         have HIn32 := hid (HIn31.out.below hb32)
         have HC32 := hid (HC31.out.below hb32)
         have HF32 := hid (HF31.out.below hb32)
         have HBl32 := hid (HBl31.out.trans (hb32.mono HBl31.out.size))
         have HFb32 := hid (HFb31.out.below hb32)
         have HZm32 := hid (HZm31.out.below hb32)
         clear HB31 HNb31 HCb31 HIn31 HC31 HF31 HBl31 HFb31 HZm31
         clear hb32 HEq
         obtain ⟨b0, b1, b2, b3⟩ := HNb32.out.cells
         obtain ⟨d0, d1, d2, d3, d4, d5, d6, d7⟩ := HCb32.out.cells
         go_wp2_with fail
         clear b0 b1 b2 b3 d0 d1 d2 d3 d4 d5 d6 d7
         go_loopg [153, 14] (n) (fun g jv nv wr => ∃ j : Nat, j + g = n ∧ jv = .int .i64 (j : Int) ∧ nv = .bool ((N.tr.take j).any (nearT K Z k)) ∧ BL wr fb (frL N K k j) ∧ Below w21.heap.size w21 wr)
         case atStart => exact ⟨0, by omega, rfl, rfl, HFb32.out, HBl32.out⟩
         case round =>
          clear HB32 HNb32 HCb32 HIn32 HC32 HF32 HBl32 HFb32 HZm32
          skip
          obtain ⟨j, hj, rfl, rfl, hF, hB⟩ := hrel
          have HJ := hid hj
          have HFb40 := hid hF
          have HBl40 := hid hB
          have hje : j ≤ n := by omega
          clear hj hF hB
          obtain ⟨w40, rfl⟩ : ∃ w40, w40 = wr := ⟨_, rfl⟩
          have HB40 := hid (HB21.out.trans (HBl40.out.mono HB21.out.size))
          have HNb40 := hid (HNb21.out.below HBl40.out)
          have HCb40 := hid (HCb21.out.below HBl40.out)
          have HIn40 := hid (HIn21.out.below HBl40.out)
          have HC40 := hid (HC21.out.below HBl40.out)
          have HF40 := hid (HF21.out.below HBl40.out)
          have HZm40 := hid (HZm21.out.below HBl40.out)
          by_cases hlj : j < n
          · have hjt : j < N.tr.length := by rw [HNl.out]; exact hlj
            obtain ⟨ad, rfl, hpt, t0', ⟨u1, t1', s1⟩, u2, t2', s2⟩ := HIn21.out.1 j hjt
            have t0 := cell_stays HBl40.out t0'
            have t1 := cell_stays HBl40.out t1'
            have t2 := cell_stays HBl40.out t2'
            clear t0' t1' t2'
            have HInK := hid (nt_inM HV.out HMn.out _ (List.getElem_mem hjt))
            have HTm := hid (List.getElem_mem hjt)
            have HAs := hid (any_step (nearT K Z k) hjt)
            have HFy := hid (fun hc => frL_yes (K := K) (i := k) hjt hc)
            have HFo := hid (fun hc => frL_no (K := K) (i := k) hjt hc)
            rw [HKe.out] at HFy HFo
            have HjL := hid (show j < (frL N K k j).length by rw [frL_len]; exact hjt)
            generalize N.tr[j] = T at *
            obtain ⟨Ai, nti, ci, rfl, zi, hti1, hti2, hti3⟩ := s1
            obtain ⟨Ao, nto, co, rfl, zo, hto1, hto2, hto3⟩ := s2
            have hli : T.i.length ≤ 1000 := by have := pls_len (trOk_mem (netOk_of HV.out (m := N.pl.toNat) (by omega)) HTm.out).1; omega
            have hlo : T.o.length ≤ 1000 := by have := pls_len (trOk_mem (netOk_of HV.out (m := N.pl.toNat) (by omega)) HTm.out).2; omega
            have HA41 := hid (below_alloc w40 (.cells #[.string T.lb, .slice Ai nti ci, .slice Ao nto co] 48))
            have HTB41 := hid (TB.new w40 T.lb Ai nti ci Ao nto co)
            have HTi := hid hti1
            have HTo := hid hto1
            have Hzi21 := hid zi
            have Hzo21 := hid zo
            have Hzi40 := hid (zi.below HBl40.out)
            have Hzo40 := hid (zo.below HBl40.out)
            have hti4 : nti ≤ 1000 := by omega
            have hto4 : nto ≤ 1000 := by omega
            have HB41 := hid (HB40.out.trans (HA41.out.mono HB40.out.size))
            have HNb41 := hid (HNb40.out.below HA41.out)
            have HCb41 := hid (HCb40.out.below HA41.out)
            have HIn41 := hid (HIn40.out.below HA41.out)
            have HC41 := hid (HC40.out.below HA41.out)
            have HF41 := hid (HF40.out.below HA41.out)
            have HBl41 := hid (HBl40.out.trans (HA41.out.mono HBl40.out.size))
            have HZm41 := hid (HZm40.out.below HA41.out)
            have HFb41 := hid (HFb40.out.below HA41.out)
            have Hzi41 := hid (Hzi40.out.below HA41.out)
            have Hzo41 := hid (Hzo40.out.below HA41.out)
            have HEn := enabled_verdict T.lb Ai Ao Am nti ci nto co nm cm T.i T.o M _ Hzi41.out HTi.out (by omega) HZm41.out HMl.out HInK.out.1
            rw [show (⟨T.lb, T.i, T.o⟩ : Tr) = T from rfl] at HEn
            replace HEn := hid HEn
            have hfbl := HFb40.out.lt
            clear hti1 hto1 zi zo hjt
            cases hcan : canT T M with
            | false =>
             rw [hcan] at HEn
             have HFn40 := hid (show BL w40 fb (frL N K k (j + 1)) by rw [HFo.out hcan]; exact HFb40.out)
             have HNe := hid (show (N.tr.take j).any (nearT K Z k) = (N.tr.take (j + 1)).any (nearT K Z k) by rw [HAs.out, HNn.out T hcan]; simp)
             clear hcan HFy HFo
             go_wp2_with fail
             ((with_reducible refine HEn.out.mono ?_); rintro e w42 ⟨rfl, hb42⟩)
             have HBl42 := hid (HBl41.out.trans (hb42.mono HBl41.out.size))
             have HFn42 := hid ((HFn40.out.below HA41.out).below hb42)
             clear t0 t1 t2 hb42
             go_wp2_with fail
             go_roundg (gk - 1)
             case measure => have := HJ.out; omega
             case rel => exact ⟨j + 1, by have := HJ.out; omega, by go_num, by rw [HNe.out], HFn42.out, HBl42.out⟩
            | true =>
             rw [hcan] at HEn
             have HCa := hid hcan
             clear hcan
             obtain ⟨tb2, htb2⟩ : ∃ tb2, w40.heap.size = tb2 := ⟨_, rfl⟩
             have hne2 : tb2 ≠ fb := by omega
             go_wp2_with fail
             rw [htb2] at HTB41
             clear t0 t1 t2
             clear HB40 HNb40 HCb40 HIn40 HC40 HF40 HBl40 HZm40 HFb40 Hzi40 Hzo40
             generalize w40.alloc _ = w41 at *
             ((with_reducible refine HEn.out.mono ?_); rintro e w42 ⟨rfl, hb42⟩)
             have HB42 := hid (HB41.out.trans (hb42.mono HB41.out.size))
             have HNb42 := hid (HNb41.out.below hb42)
             have HCb42 := hid (HCb41.out.below hb42)
             have HIn42 := hid (HIn41.out.below hb42)
             have HC42 := hid (HC41.out.below hb42)
             have HF42 := hid (HF41.out.below hb42)
             have HBl42 := hid (HBl41.out.trans (hb42.mono HBl41.out.size))
             have HZm42 := hid (HZm41.out.below hb42)
             have HFb42 := hid (HFb41.out.below hb42)
             have HTB42 := hid (HTB41.out.below hb42)
             have Hzi42 := hid (Hzi41.out.below hb42)
             have Hzo42 := hid (Hzo41.out.below hb42)
             clear HB41 HNb41 HCb41 HIn41 HC41 HF41 HBl41 HZm41 HFb41 HTB41 Hzi41 Hzo41
             clear hb42 HEn
             have f0 := HFb42.out.soft j
             have f1 := HFb42.out.cell HjL.out
             have HFb43 := hid (HFb42.out.set j true)
             rw [← HFy.out HCa.out] at HFb43
             have HTB43 := hid (tb_set (o := j) HTB42.out hne2 (.bool true))
             have hfs := HFs.out
             have HBl43 := hid (HBl42.out.setCell (p := ⟨fb, j, none⟩) (by show w21.heap.size ≤ fb; omega) (.bool true))
             generalize (frL N K k j)[j]'HjL.out = fj at *
             go_upto_region 27 with (fail)
             clear f0 f1
             clear HB42 HNb42 HCb42 HIn42 HC42 HF42 HBl42 HZm42 HFb42 HTB42 Hzi42 Hzo42
             generalize w42.setCell ⟨fb, j, none⟩ (.bool true) = w43 at *
             have HB43 := hid (HB21.out.trans (HBl43.out.mono HB21.out.size))
             have HNb43 := hid (HNb21.out.below HBl43.out)
             have HCb43 := hid (HCb21.out.below HBl43.out)
             have HIn43 := hid (HIn21.out.below HBl43.out)
             have HC43 := hid (HC21.out.below HBl43.out)
             have HF43 := hid (HF21.out.below HBl43.out)
             have HZm43 := hid (HZm21.out.below HBl43.out)
             have Hzi43 := hid (Hzi21.out.below HBl43.out)
             have Hzo43 := hid (Hzo21.out.below HBl43.out)
             obtain ⟨ix, hix, hixK⟩ := lidx_lt _ _ (HCm.out T HTm.out HCa.out).2
             have hixZ : ix < Z.length := by have := HZl.out; have := HC21.out.kl; omega
             have hbg := (HCm.out T HTm.out HCa.out).1
             have HIe := hid hix
             have HNv := hid (HNg.out T ix hix hixZ HCa.out)
             obtain ⟨zk, hzk0⟩ : ∃ zk, Z[k] = zk := ⟨_, rfl⟩
             obtain ⟨zx, hzx0⟩ : ∃ zx, Z[ix] = zx := ⟨_, rfl⟩
             rw [hzk0, hzx0] at HNv
             have HIn2 := (HIn43.out.1 j (by rw [HNl.out]; exact hlj))
             have HYl := hid (show (fireT T M).length = nm by rw [fireT_len]; exact HMl.out)
             have HFi := vfire_any T.lb Ai Ao Am nti ci nto co nm cm T.i T.o M w43 Hzi43.out HTi.out (by omega) Hzo43.out HTo.out (by omega) HZm43.out HMl.out (by have := HMn.out; have := nt_small HV.out; omega) (by omega) HInK.out.1 HInK.out.2 (mkX_bnd HMm.out)
             rw [show (⟨T.lb, T.i, T.o⟩ : Tr) = T from rfl, hbg] at HFi
             replace HFi := hid HFi
             clear hix hbg HIn2 HFy HFo
             generalize fireT T M = Yf at *
             obtain ⟨t0, t1, t2⟩ := HTB43.out
             have hyl : Yf.length ≤ 40 := by have := HYl.out; omega
             go_wp2_with fail
             ((with_reducible refine HFi.out.mono ?_); rintro e w44 ⟨v44, rfl, hS44⟩)
             obtain ⟨A44, c44, rfl⟩ := hS44.slice
             have hb44 := hS44.2
             have HB44 := hid (HB43.out.trans (hb44.mono HB43.out.size))
             have HNb44 := hid (HNb43.out.below hb44)
             have HCb44 := hid (HCb43.out.below hb44)
             have HIn44 := hid (HIn43.out.below hb44)
             have HC44 := hid (HC43.out.below hb44)
             have HF44 := hid (HF43.out.below hb44)
             have HBl44 := hid (HBl43.out.trans (hb44.mono HBl43.out.size))
             have HZm44 := hid (HZm43.out.below hb44)
             have HFb44 := hid (HFb43.out.below hb44)
             clear HB43 HNb43 HCb43 HIn43 HC43 HF43 HBl43 HZm43 HFb43 HTB43
             have HY44 := hid (show ZIn w44 A44 Yf by obtain ⟨A', c', e, hz, _⟩ := hS44.zin; cases e; exact hz)
             clear hS44 hb44 HFi t0 t1 t2
             go_wp2_with fail
             cases hnr : (N.tr.take j).any (nearT K Z k) with
             | true =>
              have HNe := hid (show true = (N.tr.take (j + 1)).any (nearT K Z k) by rw [HAs.out, hnr]; rfl)
              clear hnr HAs
              have hbd : Below w44.heap.size w44 w44.drew := (Below.refl _ _).drew
              have HB45 := hid (HB44.out.trans (hbd.mono HB44.out.size))
              have HNb45 := hid (HNb44.out.below hbd)
              have HCb45 := hid (HCb44.out.below hbd)
              have HIn45 := hid (HIn44.out.below hbd)
              have HC45 := hid (HC44.out.below hbd)
              have HF45 := hid (HF44.out.below hbd)
              have HBl45 := hid (HBl44.out.trans (hbd.mono HBl44.out.size))
              have HZm45 := hid (HZm44.out.below hbd)
              have HFb45 := hid (HFb44.out.below hbd)
              have HY45 := hid (HY44.out.below hbd)
              obtain ⟨d0, d1, d2, d3, d4, d5, d6, d7⟩ := HCb45.out.cells
              obtain ⟨Az, nz, cz, x0, zz, hz1, hz2, hz3⟩ := lin_at HC45.out.x (i := 0) (by simp)
              replace zz : ZIn w44.drew Az Z := zz
              replace hz1 : Z.length = nz := hz1
              obtain ⟨az, rfl, _, z0⟩ := zz ix hixZ
              obtain ⟨az', e', _, z1⟩ := zz k hkZ
              obtain rfl : az = az' := by cases e'; rfl
              clear e'
              replace x0 : w44.drew.cell? aw = some (.slice (some az) nz cz) := by simpa [CA, Addr.add] using x0
              have hzk : Z[k] = zk := hzk0
              have hzx : Z[ix] = zx := hzx0
              rw [hzk] at z1
              rw [hzx] at z0
              have hix0 : (0 : Int) ≤ (ix : Int) := by omega
              have hix1 : (ix : Int) < (nz : Int) := by have := HZl.out; omega
              have hk0 : (0 : Int) ≤ (k : Int) := by omega
              have hk1 : (k : Int) < (nz : Int) := by omega
              have hixn : ix < nz := by omega
              have hkz : k < nz := by omega
              clear zz hz1 hzk hzx
              have hS0 := And.intro d4 (And.intro d7 (And.intro x0 (And.intro z0 (z1))))
              refine wp_region_held_drew (S := fun w' => w'.cell? ⟨cb, 4, none⟩ = some (.slice (some ak) nk ck) ∧ w'.cell? ⟨cb, 7, none⟩ = some (.slice (some aw) nw cw) ∧ w'.cell? aw = some (.slice (some az) nz cz) ∧ w'.cell? (az.add ix) = some (.int .i64 zx) ∧ w'.cell? (az.add k) = some (.int .i64 zk)) (by kernel_rfl) hS0 (fun hHeld => ?_)
              clear hS0 hbd d0 d1 d2 d3 d4 d5 d6 d7 x0 z0 z1
              clear HB44 HNb44 HCb44 HIn44 HC44 HF44 HBl44 HZm44 HFb44 HY44
              generalize w44.drew = w45 at *
              refine tkH 0 ?_; try go_simp
              refine tkH 1 ?_; try go_simp
              refine tkU 2 ?_; try go_simp
              refine tkU 3 ?_; try go_simp
              refine tkU 4 ?_; try go_simp
              refine tkU 5 ?_; try go_simp
              refine tkU 6 ?_; try go_simp
              refine tkU 7 ?_; try go_simp
              refine tkU 8 ?_; try go_simp
              refine tkU 9 ?_; try go_simp
              refine tkU 10 ?_; try go_simp
              refine tkU 11 ?_; try go_simp
              refine tkU 12 ?_; try go_simp
              refine tkU 13 ?_; try go_simp
              refine tkU 14 ?_; try go_simp
              refine tkU 15 ?_; try go_simp
              refine tkU 16 ?_; try go_simp
              refine tkU 17 ?_; try go_simp
              refine tkU 18 ?_; try go_simp
              refine tkU 19 ?_; try go_simp
              refine tkH 20 ?_; try go_simp
              refine tkH 21 ?_; try go_simp
              refine wpAnyH_done (by kernel_rfl) ?_ _
              clear hHeld
              go_wp2_with fail
              go_roundg (gk - 1)
              case measure => have := HJ.out; omega
              case rel => exact ⟨j + 1, by have := HJ.out; omega, by go_num, by rw [← HNe.out], HFb45.out, HBl45.out⟩
             | false =>
              have HNe := hid (show decide (zx < zk) = (N.tr.take (j + 1)).any (nearT K Z k) by rw [HAs.out, hnr, HNv.out]; rfl)
              clear hnr HAs HNv
              have hbd : Below w44.heap.size w44 w44.drew := (Below.refl _ _).drew
              have HB45 := hid (HB44.out.trans (hbd.mono HB44.out.size))
              have HNb45 := hid (HNb44.out.below hbd)
              have HCb45 := hid (HCb44.out.below hbd)
              have HIn45 := hid (HIn44.out.below hbd)
              have HC45 := hid (HC44.out.below hbd)
              have HF45 := hid (HF44.out.below hbd)
              have HBl45 := hid (HBl44.out.trans (hbd.mono HBl44.out.size))
              have HZm45 := hid (HZm44.out.below hbd)
              have HFb45 := hid (HFb44.out.below hbd)
              have HY45 := hid (HY44.out.below hbd)
              obtain ⟨d0, d1, d2, d3, d4, d5, d6, d7⟩ := HCb45.out.cells
              obtain ⟨Az, nz, cz, x0, zz, hz1, hz2, hz3⟩ := lin_at HC45.out.x (i := 0) (by simp)
              replace zz : ZIn w44.drew Az Z := zz
              replace hz1 : Z.length = nz := hz1
              obtain ⟨az, rfl, _, z0⟩ := zz ix hixZ
              obtain ⟨az', e', _, z1⟩ := zz k hkZ
              obtain rfl : az = az' := by cases e'; rfl
              clear e'
              replace x0 : w44.drew.cell? aw = some (.slice (some az) nz cz) := by simpa [CA, Addr.add] using x0
              have hzk : Z[k] = zk := hzk0
              have hzx : Z[ix] = zx := hzx0
              rw [hzk] at z1
              rw [hzx] at z0
              have hix0 : (0 : Int) ≤ (ix : Int) := by omega
              have hix1 : (ix : Int) < (nz : Int) := by have := HZl.out; omega
              have hk0 : (0 : Int) ≤ (k : Int) := by omega
              have hk1 : (k : Int) < (nz : Int) := by omega
              have hixn : ix < nz := by omega
              have hkz : k < nz := by omega
              clear zz hz1 hzk hzx
              have hS0 := And.intro d4 (And.intro d7 (And.intro x0 (And.intro z0 (z1))))
              refine wp_region_held_drew (S := fun w' => w'.cell? ⟨cb, 4, none⟩ = some (.slice (some ak) nk ck) ∧ w'.cell? ⟨cb, 7, none⟩ = some (.slice (some aw) nw cw) ∧ w'.cell? aw = some (.slice (some az) nz cz) ∧ w'.cell? (az.add ix) = some (.int .i64 zx) ∧ w'.cell? (az.add k) = some (.int .i64 zk)) (by kernel_rfl) hS0 (fun hHeld => ?_)
              clear hS0 hbd d0 d1 d2 d3 d4 d5 d6 d7 x0 z0 z1
              clear HB44 HNb44 HCb44 HIn44 HC44 HF44 HBl44 HZm44 HFb44 HY44
              generalize w44.drew = w45 at *
              refine tkH 0 ?_; try go_simp
              refine tkH 1 ?_; try go_simp
              refine tkH 2 ?_; try go_simp
              refine tkH 3 ?_; try go_simp
              refine tkH 4 ?_; try go_simp
              refine tkH 5 ?_; try go_simp
              refine tkH 6 ?_; try go_simp
              refine tkH 7 ?_; try go_simp
              refine tkH 8 ?_; try go_simp
              refine tkH 12 ?_; try go_simp
              refine tkH 13 ?_; try go_simp
              refine tkH 14 ?_; try go_simp
              refine tkH 15 ?_; try go_simp
              refine tkH 16 ?_; try go_simp
              refine tkH 17 ?_; try go_simp
              refine tkH 18 ?_; try go_simp
              refine tkR 9 (fun K9 hK => ?_)
              go_simp
              have HIx := hid (vindex_any (some ak) nk ck K A44 Yf.length c44 Yf w45 HC45.out.k HC45.out.kl HC45.out.kb HY45.out rfl (by omega))
              rw [HIe.out] at HIx
              ((refine (HIx.out).mono ?_); rintro e w46 ⟨rfl, hb46⟩)
              have hS9 := hHeld
              refine hK.out _ _ ⟨cell_stays hb46 hS9.1, cell_stays hb46 hS9.2.1, cell_stays hb46 hS9.2.2.1, cell_stays hb46 hS9.2.2.2.1, cell_stays hb46 hS9.2.2.2.2⟩ (fun hHeld => ?_)
              clear hK K9 hS9
              try go_simp
              have HB46 := hid (HB45.out.trans (hb46.mono HB45.out.size))
              have HNb46 := hid (HNb45.out.below hb46)
              have HCb46 := hid (HCb45.out.below hb46)
              have HIn46 := hid (HIn45.out.below hb46)
              have HC46 := hid (HC45.out.below hb46)
              have HF46 := hid (HF45.out.below hb46)
              have HBl46 := hid (HBl45.out.trans (hb46.mono HBl45.out.size))
              have HZm46 := hid (HZm45.out.below hb46)
              have HFb46 := hid (HFb45.out.below hb46)
              have HY46 := hid (HY45.out.below hb46)
              clear HB45 HNb45 HCb45 HIn45 HC45 HF45 HBl45 HZm45 HFb45 HY45
              clear HIx
              clear hb46
              refine tkH 10 ?_; try go_simp
              refine tkH 11 ?_; try go_simp
              refine tkH 19 ?_; try go_simp
              refine tkH 20 ?_; try go_simp
              refine tkH 21 ?_; try go_simp
              refine wpAnyH_done (by kernel_rfl) ?_ _
              clear hHeld
              go_wp2_with fail
              go_roundg (gk - 1)
              case measure => have := HJ.out; omega
              case rel => exact ⟨j + 1, by have := HJ.out; omega, by go_num, by rw [← HNe.out], HFb46.out, HBl46.out⟩
          · have hjn : j = N.tr.length := by rw [HNl.out]; omega
            have hnr : (N.tr.take j).any (nearT K Z k) = N.tr.any (nearT K Z k) := by rw [List.take_of_length_le (by omega)]
            rw [hnr]
            rw [hjn, frL_next (by rw [HC21.out.kl]; exact hlt)] at HFb40
            generalize N.tr.any (nearT K Z k) = nr at *
            clear hnr hjn hje
            obtain ⟨sk, hsk⟩ := Int.eq_ofNat_of_zero_le hpls.2.2.1
            rw [hsk] at HMg
            rw [Int.toNat_natCast] at HMg
            have hskn : sk < nm := by have := HMn.out; omega
            have hskm : sk < M.length := by rw [HMl.out]; exact hskn
            have hsk0 : (0 : Int) ≤ (sk : Int) := by omega
            have hsk1 : (sk : Int) < (nm : Int) := by omega
            obtain ⟨am, rfl, _, v0⟩ := HZm40.out sk hskm
            have hgm : M.getD sk 0 = M[sk] := by simp [hskm]
            rw [hgm] at HMg
            generalize M[sk] = ms at *
            obtain ⟨Az, nz, cz, x0, zz, hz1, hz2, hz3⟩ := lin_at HC40.out.x (i := 0) (by simp)
            replace zz : ZIn w40 Az Z := zz
            replace hz1 : Z.length = nz := hz1
            obtain ⟨az, rfl, _, z1⟩ := zz k hkZ
            replace x0 : w40.cell? aw = some (.slice (some az) nz cz) := by simpa [CA, Addr.add] using x0
            have hkz : k < nz := by have := HZl.out; omega
            have hk0 : (0 : Int) ≤ (k : Int) := by omega
            have hk1 : (k : Int) < (nz : Int) := by omega
            generalize Z[k] = zk at *
            clear zz hz1 hgm
            obtain ⟨b0, b1, b2, b3⟩ := HNb40.out.cells
            obtain ⟨d0, d1, d2, d3, d4, d5, d6, d7⟩ := HCb40.out.cells
            rw [hsk] at b3
            by_cases hzk : zk = 0
            · have q1 : (zk == 0) = true := by simp [hzk]
              cases en with
              | true =>
               have HPn := hid (show (List.range (k + 1)).all (mrkOk N K Z) = true by rw [HSt.out, HP.out, HMg.out, decide_eq_true hzk]; rfl)
               clear hzk
               go_wp2_with fail
               go_roundg (go1 - 1)
               case measure => have := HK.out; omega
               case rel => exact ⟨k + 1, by have := HK.out; omega, by go_num, HPn.out, HFb40.out, HBl40.out⟩
              | false =>
               rw [HNo.out (by rw [HMg.out]; rw [decide_eq_true hzk]; rfl)] at HQ
               clear hzk
               go_wp2_with fail
               go_ret
               exact ⟨ret_bool (by rw [HQ.out]; rfl), HB40.out⟩
            · have q1 : (zk == 0) = false := by rw [beq_eq_false_iff_ne]; exact hzk
              cases en with
              | true =>
               rw [HNo.out (by rw [HMg.out]; rw [decide_eq_false hzk]; rfl)] at HQ
               clear hzk
               go_wp2_with fail
               go_ret
               exact ⟨ret_bool (by rw [HQ.out]; rfl), HB40.out⟩
              | false =>
               cases nr with
               | false =>
                rw [HNo.out (by rw [HMg.out]; rw [decide_eq_false hzk]; rfl)] at HQ
                clear hzk
                go_wp2_with fail
                go_ret
                exact ⟨ret_bool (by rw [HQ.out]; rfl), HB40.out⟩
               | true =>
                by_cases hms : 0 < ms
                · have q2 : decide (0 < ms) = true := by simpa using hms
                  rw [HNo.out (by rw [HMg.out]; rw [decide_eq_false hzk, q2]; rfl)] at HQ
                  clear hzk hms
                  go_wp2_with fail
                  go_ret
                  exact ⟨ret_bool (by rw [HQ.out]; rfl), HB40.out⟩
                · have q2 : decide (0 < ms) = false := by simpa using hms
                  have HPn := hid (show (List.range (k + 1)).all (mrkOk N K Z) = true by rw [HSt.out, HP.out, HMg.out, decide_eq_false hzk, q2]; rfl)
                  clear hzk hms
                  go_wp2_with fail
                  go_roundg (go1 - 1)
                  case measure => have := HK.out; omega
                  case rel => exact ⟨k + 1, by have := HK.out; omega, by go_num, HPn.out, HFb40.out, HBl40.out⟩
       · have hE : (List.range nk).all (mrkOk N K Z) = true := by
          have := HP.out
          rwa [show k = nk by omega] at this
         have hkn : k = nk := by omega
         subst hkn
         have HHas := hid (bhas_any fb n n (frL N K k 0) w30 HFb30.out (by rw [frL_len]; exact HNl.out) (by omega))
         rw [show noF (frL N K k 0) = N.tr.all (firedB K) by rw [← frL_end, HC21.out.kl]] at HHas
         rw [hE] at HQ
         generalize N.tr.all (firedB K) = q at *
         clear hE HP HK
         go_wp2_with fail
         ((with_reducible refine HHas.out.mono ?_); rintro e w31 ⟨rfl, hb31⟩)
         have HB31 := hid (HB30.out.trans (hb31.mono HB30.out.size))
         go_wp2_with fail
         go_ret
         exact ⟨ret_bool (by rw [HQ.out]; simp), HB31.out⟩
end Go.Proofs.YtpnhcimmlnjfaaaDoor
