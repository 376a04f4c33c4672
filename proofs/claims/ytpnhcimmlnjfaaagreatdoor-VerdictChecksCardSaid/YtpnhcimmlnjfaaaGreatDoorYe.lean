/- sound of reference 28: what a call returns. -/
import Derived.Test.YtpnhcimmlnjfaaaGreatDoorUt
import Derived.Test.YtpnhcimmlnjfaaaGreatDoorYd
namespace Go.Proofs.YtpnhcimmlnjfaaaGreatDoor
open Go.Lib (hid)
open Go.RowKit

/-- a marking is the end, or leads nearer to it: the reference's way -/
def mrkR (N : Nt) (K : List (List Int)) (Z : List Int) (i : Nat) : Bool :=
 (decide (rowV Z i = 0) == decide (K.getD i [] = finM N)) && (decide (K.getD i [] = finM N) || (decide (0 ≤ rowV Z i) && (!(decide (0 < (K.getD i []).getD N.snk.toNat 0)) && N.tr.any (nearR K Z i))))
/-- the certificate proves soundness: the reference's way -/
def sndR (N : Nt) (K : List (List Int)) (V : List Mv) (X : List (List Int)) : Bool :=
 rchB N K V && (closX N K && (decide (X.length = 1) && (decide ((X.headD []).length = K.length) && ((List.range K.length).all (mrkR N K (X.headD [])) && (List.range N.tr.length).all (fun t => !(nevB N K (t : Int)))))))
set_option maxHeartbeats 25600000 in
set_option maxRecDepth 100000 in
theorem sound28_any (N : Nt) (A : Option Addr) (n c : Nat) (cl cn : Int) (Ar : Option Addr) (nr cr : Nat) (R : List Int) (Ap : Option Addr) (np cp : Nat) (P : List Int) (Ak : Option Addr) (nk ck : Nat) (K : List (List Int)) (Av : Option Addr) (nv cv : Nat) (V : List Mv) (As : Option Addr) (ns cs : Nat) (S : List (List Int)) (Aw : Option Addr) (nw cw : Nat) (X : List (List Int)) (w : World) (h : NtIn w A N) (hn : N.tr.length = n) (hv : ntB N = true) (hC : CfM w Ar nr R Ap np P Ak nk K Av nv V As ns S Aw nw X) (hmk : mksX N.pl false K = true) :
 Calls Tryz.prog 78 #[.agg #[.int .i64 N.pl, .slice A n c, .int .i64 N.src, .int .i64 N.snk], .agg #[.int .i64 cl, .int .i64 cn, .slice Ar nr cr, .slice Ap np cp, .slice Ak nk ck, .slice Av nv cv, .slice As ns cs, .slice Aw nw cw]] w fun e w' => e = .returned (.bool (sndR N K V X)) ∧ Below w.heap.size w w' := by
 have HB0 := hid (two_boxes w (.cells #[.int .i64 N.pl, .slice A n c, .int .i64 N.src, .int .i64 N.snk] 24) (.cells #[.int .i64 cl, .int .i64 cn, .slice Ar nr cr, .slice Ap np cp, .slice Ak nk ck, .slice Av nv cv, .slice As ns cs, .slice Aw nw cw] 29))
 have HNb0 := hid ((NB.new w N.pl A n c N.src N.snk).below (below_alloc _ (.cells #[.int .i64 cl, .int .i64 cn, .slice Ar nr cr, .slice Ap np cp, .slice Ak nk ck, .slice Av nv cv, .slice As ns cs, .slice Aw nw cw] 29)))
 have hcb := heap_alloc_new (w.alloc (.cells #[.int .i64 N.pl, .slice A n c, .int .i64 N.src, .int .i64 N.snk] 24)) (.cells #[.int .i64 cl, .int .i64 cn, .slice Ar nr cr, .slice Ap np cp, .slice Ak nk ck, .slice Av nv cv, .slice As ns cs, .slice Aw nw cw] 29)
 rw [World.size_alloc] at hcb
 have HCb0 := hid (show CtB _ (w.heap.size + 1) #[.int .i64 cl, .int .i64 cn, .slice Ar nr cr, .slice Ap np cp, .slice Ak nk ck, .slice Av nv cv, .slice As ns cs, .slice Aw nw cw] from hcb)
 have HIn0 := hid (h.below HB0.out)
 have HC0 := hid (hC.below HB0.out)
 have HNl := hid hn
 have HV := hid hv
 have hps := nt_small hv
 have hn60 : n ≤ 60 := by omega
 obtain ⟨Q, hQ⟩ : ∃ Q, Q = sndR N K V X := ⟨_, rfl⟩
 rw [← hQ]
 unfold sndR at hQ
 have HQ := hid hQ
 have HAll := hid (show ∀ s ∈ K, mkX N.pl false s = true from List.all_eq_true.1 hmk)
 have HMk := hid hmk
 have hpl1 : 1 ≤ N.pl := hps.1
 have hpl40 : N.pl ≤ 40 := hps.2.1
 have hpls := nt_src hv
 clear h hn hv hC hps hcb hmk hQ
 go_enter Tryz.func78, Tryz.ntmps78
 go_wp2_with fail
 generalize (w.alloc (.cells #[.int .i64 N.pl, .slice A n c, .int .i64 N.src, .int .i64 N.snk] 24)).alloc (.cells #[.int .i64 cl, .int .i64 cn, .slice Ar nr cr, .slice Ap np cp, .slice Ak nk ck, .slice Av nv cv, .slice As ns cs, .slice Aw nw cw] 29) = w0 at *
 generalize w.heap.size + 1 = cb at *
 have HBl0 := hid (Below.refl w0.heap.size w0)
 cases hr : rchB N K V with
 | false =>
  rw [hr] at HQ
  have HRe := hid hr
  clear hr
  obtain ⟨b0, b1, b2, b3⟩ := HNb0.out.cells
  obtain ⟨d0, d1, d2, d3, d4, d5, d6, d7⟩ := HCb0.out.cells
  have hbd : Below w0.heap.size w0 w0.drew := (Below.refl _ _).drew
  have HB1 := hid (HB0.out.trans (hbd.mono HB0.out.size))
  have HNb1 := hid (HNb0.out.below hbd)
  have HCb1 := hid (HCb0.out.below hbd)
  have HIn1 := hid (HIn0.out.below hbd)
  have HC1 := hid (HC0.out.below hbd)
  have HBl1 := hid (HBl0.out.trans (hbd.mono HBl0.out.size))
  have hS0 := And.intro (cell_stays hbd b0) (And.intro (cell_stays hbd b1) (And.intro (cell_stays hbd b2) (And.intro (cell_stays hbd b3) (And.intro (cell_stays hbd d0) (And.intro (cell_stays hbd d1) (And.intro (cell_stays hbd d2) (And.intro (cell_stays hbd d3) (And.intro (cell_stays hbd d4) (And.intro (cell_stays hbd d5) (And.intro (cell_stays hbd d6) ((cell_stays hbd d7))))))))))))
  refine wp_region_held_drew (S := fun w' => w'.cell? ⟨w.heap.size, 0, none⟩ = some (.int .i64 N.pl) ∧ w'.cell? ⟨w.heap.size, 1, none⟩ = some (.slice A n c) ∧ w'.cell? ⟨w.heap.size, 2, none⟩ = some (.int .i64 N.src) ∧ w'.cell? ⟨w.heap.size, 3, none⟩ = some (.int .i64 N.snk) ∧ w'.cell? ⟨cb, 0, none⟩ = some (.int .i64 cl) ∧ w'.cell? ⟨cb, 1, none⟩ = some (.int .i64 cn) ∧ w'.cell? ⟨cb, 2, none⟩ = some (.slice Ar nr cr) ∧ w'.cell? ⟨cb, 3, none⟩ = some (.slice Ap np cp) ∧ w'.cell? ⟨cb, 4, none⟩ = some (.slice Ak nk ck) ∧ w'.cell? ⟨cb, 5, none⟩ = some (.slice Av nv cv) ∧ w'.cell? ⟨cb, 6, none⟩ = some (.slice As ns cs) ∧ w'.cell? ⟨cb, 7, none⟩ = some (.slice Aw nw cw)) (by kernel_rfl) hS0 (fun hHeld => ?_)
  clear hS0 hbd b0 b1 b2 b3 d0 d1 d2 d3 d4 d5 d6 d7
  clear HB0 HNb0 HCb0 HIn0 HC0 HBl0
  generalize w0.drew = w1 at *
  refine tkH 0 ?_; try go_simp
  refine tkH 1 ?_; try go_simp
  refine tkR 2 (fun K9 hK => ?_)
  go_simp
  have HRc := hid (reached28_any N A n c cl cn Ar nr cr R Ap np cp P Ak nk ck K Av nv cv V As ns cs S Aw nw cw X w1 HIn1.out HNl.out HV.out HC1.out HMk.out)
  rw [HRe.out] at HRc
  ((refine (HRc.out).mono ?_); rintro e w2 ⟨rfl, hb2⟩)
  have hS9 := hHeld
  refine hK.out _ _ ⟨cell_stays hb2 hS9.1, cell_stays hb2 hS9.2.1, cell_stays hb2 hS9.2.2.1, cell_stays hb2 hS9.2.2.2.1, cell_stays hb2 hS9.2.2.2.2.1, cell_stays hb2 hS9.2.2.2.2.2.1, cell_stays hb2 hS9.2.2.2.2.2.2.1, cell_stays hb2 hS9.2.2.2.2.2.2.2.1, cell_stays hb2 hS9.2.2.2.2.2.2.2.2.1, cell_stays hb2 hS9.2.2.2.2.2.2.2.2.2.1, cell_stays hb2 hS9.2.2.2.2.2.2.2.2.2.2.1, cell_stays hb2 hS9.2.2.2.2.2.2.2.2.2.2.2⟩ (fun hHeld => ?_)
  clear hK K9 hS9
  try go_simp
  have HB2 := hid (HB1.out.trans (hb2.mono HB1.out.size))
  have HNb2 := hid (HNb1.out.below hb2)
  have HCb2 := hid (HCb1.out.below hb2)
  have HIn2 := hid (HIn1.out.below hb2)
  have HC2 := hid (HC1.out.below hb2)
  have HBl2 := hid (HBl1.out.trans (hb2.mono HBl1.out.size))
  clear HB1 HNb1 HCb1 HIn1 HC1 HBl1
  clear HRc
  clear hb2
  refine tkH 3 ?_; try go_simp
  refine tkH 4 ?_; try go_simp
  refine tkU 5 ?_; try go_simp
  refine tkU 6 ?_; try go_simp
  refine tkU 7 ?_; try go_simp
  refine tkU 8 ?_; try go_simp
  refine tkU 9 ?_; try go_simp
  refine tkH 10 ?_; try go_simp
  refine tkH 11 ?_; try go_simp
  refine tkU 12 ?_; try go_simp
  refine tkU 13 ?_; try go_simp
  refine tkU 14 ?_; try go_simp
  refine tkU 15 ?_; try go_simp
  refine tkH 16 ?_; try go_simp
  refine tkH 17 ?_; try go_simp
  refine tkU 18 ?_; try go_simp
  refine tkU 19 ?_; try go_simp
  refine tkU 20 ?_; try go_simp
  refine tkU 21 ?_; try go_simp
  refine tkU 22 ?_; try go_simp
  refine tkU 23 ?_; try go_simp
  refine tkU 24 ?_; try go_simp
  refine tkU 25 ?_; try go_simp
  refine tkU 26 ?_; try go_simp
  refine tkH 27 ?_; try go_simp
  refine wpAnyH_done (by kernel_rfl) ?_ _
  clear hHeld
  go_wp2_with fail
  go_ret
  exact ⟨ret_bool (by rw [HQ.out]; rfl), HB2.out⟩
 | true =>
 rw [hr] at HQ
 have HRe := hid hr
 clear hr
 cases hc : closX N K with
 | false =>
  rw [hc] at HQ
  have HCe := hid hc
  clear hc
  obtain ⟨b0, b1, b2, b3⟩ := HNb0.out.cells
  obtain ⟨d0, d1, d2, d3, d4, d5, d6, d7⟩ := HCb0.out.cells
  have hbd : Below w0.heap.size w0 w0.drew := (Below.refl _ _).drew
  have HB1 := hid (HB0.out.trans (hbd.mono HB0.out.size))
  have HNb1 := hid (HNb0.out.below hbd)
  have HCb1 := hid (HCb0.out.below hbd)
  have HIn1 := hid (HIn0.out.below hbd)
  have HC1 := hid (HC0.out.below hbd)
  have HBl1 := hid (HBl0.out.trans (hbd.mono HBl0.out.size))
  have hS0 := And.intro (cell_stays hbd b0) (And.intro (cell_stays hbd b1) (And.intro (cell_stays hbd b2) (And.intro (cell_stays hbd b3) (And.intro (cell_stays hbd d0) (And.intro (cell_stays hbd d1) (And.intro (cell_stays hbd d2) (And.intro (cell_stays hbd d3) (And.intro (cell_stays hbd d4) (And.intro (cell_stays hbd d5) (And.intro (cell_stays hbd d6) ((cell_stays hbd d7))))))))))))
  refine wp_region_held_drew (S := fun w' => w'.cell? ⟨w.heap.size, 0, none⟩ = some (.int .i64 N.pl) ∧ w'.cell? ⟨w.heap.size, 1, none⟩ = some (.slice A n c) ∧ w'.cell? ⟨w.heap.size, 2, none⟩ = some (.int .i64 N.src) ∧ w'.cell? ⟨w.heap.size, 3, none⟩ = some (.int .i64 N.snk) ∧ w'.cell? ⟨cb, 0, none⟩ = some (.int .i64 cl) ∧ w'.cell? ⟨cb, 1, none⟩ = some (.int .i64 cn) ∧ w'.cell? ⟨cb, 2, none⟩ = some (.slice Ar nr cr) ∧ w'.cell? ⟨cb, 3, none⟩ = some (.slice Ap np cp) ∧ w'.cell? ⟨cb, 4, none⟩ = some (.slice Ak nk ck) ∧ w'.cell? ⟨cb, 5, none⟩ = some (.slice Av nv cv) ∧ w'.cell? ⟨cb, 6, none⟩ = some (.slice As ns cs) ∧ w'.cell? ⟨cb, 7, none⟩ = some (.slice Aw nw cw)) (by kernel_rfl) hS0 (fun hHeld => ?_)
  clear hS0 hbd b0 b1 b2 b3 d0 d1 d2 d3 d4 d5 d6 d7
  clear HB0 HNb0 HCb0 HIn0 HC0 HBl0
  generalize w0.drew = w1 at *
  refine tkH 0 ?_; try go_simp
  refine tkH 1 ?_; try go_simp
  refine tkR 2 (fun K9 hK => ?_)
  go_simp
  have HRc := hid (reached28_any N A n c cl cn Ar nr cr R Ap np cp P Ak nk ck K Av nv cv V As ns cs S Aw nw cw X w1 HIn1.out HNl.out HV.out HC1.out HMk.out)
  rw [HRe.out] at HRc
  ((refine (HRc.out).mono ?_); rintro e w2 ⟨rfl, hb2⟩)
  have hS9 := hHeld
  refine hK.out _ _ ⟨cell_stays hb2 hS9.1, cell_stays hb2 hS9.2.1, cell_stays hb2 hS9.2.2.1, cell_stays hb2 hS9.2.2.2.1, cell_stays hb2 hS9.2.2.2.2.1, cell_stays hb2 hS9.2.2.2.2.2.1, cell_stays hb2 hS9.2.2.2.2.2.2.1, cell_stays hb2 hS9.2.2.2.2.2.2.2.1, cell_stays hb2 hS9.2.2.2.2.2.2.2.2.1, cell_stays hb2 hS9.2.2.2.2.2.2.2.2.2.1, cell_stays hb2 hS9.2.2.2.2.2.2.2.2.2.2.1, cell_stays hb2 hS9.2.2.2.2.2.2.2.2.2.2.2⟩ (fun hHeld => ?_)
  clear hK K9 hS9
  try go_simp
  have HB2 := hid (HB1.out.trans (hb2.mono HB1.out.size))
  have HNb2 := hid (HNb1.out.below hb2)
  have HCb2 := hid (HCb1.out.below hb2)
  have HIn2 := hid (HIn1.out.below hb2)
  have HC2 := hid (HC1.out.below hb2)
  have HBl2 := hid (HBl1.out.trans (hb2.mono HBl1.out.size))
  clear HB1 HNb1 HCb1 HIn1 HC1 HBl1
  clear HRc
  clear hb2
  refine tkH 3 ?_; try go_simp
  refine tkH 4 ?_; try go_simp
  refine tkH 5 ?_; try go_simp
  refine tkH 6 ?_; try go_simp
  refine tkH 7 ?_; try go_simp
  refine tkR 8 (fun K9 hK => ?_)
  go_simp
  have HCl := hid (closed28_any N A n c Ak nk ck K w2 HIn2.out HNl.out HV.out HC2.out.k HC2.out.kl HC2.out.kb HAll.out)
  rw [HCe.out] at HCl
  ((refine (HCl.out).mono ?_); rintro e w3 ⟨rfl, hb3⟩)
  have hS9 := hHeld
  refine hK.out _ _ ⟨cell_stays hb3 hS9.1, cell_stays hb3 hS9.2.1, cell_stays hb3 hS9.2.2.1, cell_stays hb3 hS9.2.2.2.1, cell_stays hb3 hS9.2.2.2.2.1, cell_stays hb3 hS9.2.2.2.2.2.1, cell_stays hb3 hS9.2.2.2.2.2.2.1, cell_stays hb3 hS9.2.2.2.2.2.2.2.1, cell_stays hb3 hS9.2.2.2.2.2.2.2.2.1, cell_stays hb3 hS9.2.2.2.2.2.2.2.2.2.1, cell_stays hb3 hS9.2.2.2.2.2.2.2.2.2.2.1, cell_stays hb3 hS9.2.2.2.2.2.2.2.2.2.2.2⟩ (fun hHeld => ?_)
  clear hK K9 hS9
  try go_simp
  have HB3 := hid (HB2.out.trans (hb3.mono HB2.out.size))
  have HNb3 := hid (HNb2.out.below hb3)
  have HCb3 := hid (HCb2.out.below hb3)
  have HIn3 := hid (HIn2.out.below hb3)
  have HC3 := hid (HC2.out.below hb3)
  have HBl3 := hid (HBl2.out.trans (hb3.mono HBl2.out.size))
  clear HB2 HNb2 HCb2 HIn2 HC2 HBl2
  clear HCl
  clear hb3
  refine tkH 9 ?_; try go_simp
  refine tkH 10 ?_; try go_simp
  refine tkH 11 ?_; try go_simp
  refine tkU 12 ?_; try go_simp
  refine tkU 13 ?_; try go_simp
  refine tkU 14 ?_; try go_simp
  refine tkU 15 ?_; try go_simp
  refine tkH 16 ?_; try go_simp
  refine tkH 17 ?_; try go_simp
  refine tkU 18 ?_; try go_simp
  refine tkU 19 ?_; try go_simp
  refine tkU 20 ?_; try go_simp
  refine tkU 21 ?_; try go_simp
  refine tkU 22 ?_; try go_simp
  refine tkU 23 ?_; try go_simp
  refine tkU 24 ?_; try go_simp
  refine tkU 25 ?_; try go_simp
  refine tkU 26 ?_; try go_simp
  refine tkH 27 ?_; try go_simp
  refine wpAnyH_done (by kernel_rfl) ?_ _
  clear hHeld
  go_wp2_with fail
  go_ret
  exact ⟨ret_bool (by rw [HQ.out]; rfl), HB3.out⟩
 | true =>
 rw [hc] at HQ
 have HCe := hid hc
 clear hc
 by_cases hw : nw = 1
 rotate_left
 · have q3 : ((nw : Int) != 1) = true := by rw [bne_iff_ne]; omega
   rw [HC0.out.xl, decide_eq_false hw] at HQ
   clear hw
   obtain ⟨b0, b1, b2, b3⟩ := HNb0.out.cells
   obtain ⟨d0, d1, d2, d3, d4, d5, d6, d7⟩ := HCb0.out.cells
   have hbd : Below w0.heap.size w0 w0.drew := (Below.refl _ _).drew
   have HB1 := hid (HB0.out.trans (hbd.mono HB0.out.size))
   have HNb1 := hid (HNb0.out.below hbd)
   have HCb1 := hid (HCb0.out.below hbd)
   have HIn1 := hid (HIn0.out.below hbd)
   have HC1 := hid (HC0.out.below hbd)
   have HBl1 := hid (HBl0.out.trans (hbd.mono HBl0.out.size))
   have hS0 := And.intro (cell_stays hbd b0) (And.intro (cell_stays hbd b1) (And.intro (cell_stays hbd b2) (And.intro (cell_stays hbd b3) (And.intro (cell_stays hbd d0) (And.intro (cell_stays hbd d1) (And.intro (cell_stays hbd d2) (And.intro (cell_stays hbd d3) (And.intro (cell_stays hbd d4) (And.intro (cell_stays hbd d5) (And.intro (cell_stays hbd d6) ((cell_stays hbd d7))))))))))))
   refine wp_region_held_drew (S := fun w' => w'.cell? ⟨w.heap.size, 0, none⟩ = some (.int .i64 N.pl) ∧ w'.cell? ⟨w.heap.size, 1, none⟩ = some (.slice A n c) ∧ w'.cell? ⟨w.heap.size, 2, none⟩ = some (.int .i64 N.src) ∧ w'.cell? ⟨w.heap.size, 3, none⟩ = some (.int .i64 N.snk) ∧ w'.cell? ⟨cb, 0, none⟩ = some (.int .i64 cl) ∧ w'.cell? ⟨cb, 1, none⟩ = some (.int .i64 cn) ∧ w'.cell? ⟨cb, 2, none⟩ = some (.slice Ar nr cr) ∧ w'.cell? ⟨cb, 3, none⟩ = some (.slice Ap np cp) ∧ w'.cell? ⟨cb, 4, none⟩ = some (.slice Ak nk ck) ∧ w'.cell? ⟨cb, 5, none⟩ = some (.slice Av nv cv) ∧ w'.cell? ⟨cb, 6, none⟩ = some (.slice As ns cs) ∧ w'.cell? ⟨cb, 7, none⟩ = some (.slice Aw nw cw)) (by kernel_rfl) hS0 (fun hHeld => ?_)
   clear hS0 hbd b0 b1 b2 b3 d0 d1 d2 d3 d4 d5 d6 d7
   clear HB0 HNb0 HCb0 HIn0 HC0 HBl0
   generalize w0.drew = w1 at *
   refine tkH 0 ?_; try go_simp
   refine tkH 1 ?_; try go_simp
   refine tkR 2 (fun K9 hK => ?_)
   go_simp
   have HRc := hid (reached28_any N A n c cl cn Ar nr cr R Ap np cp P Ak nk ck K Av nv cv V As ns cs S Aw nw cw X w1 HIn1.out HNl.out HV.out HC1.out HMk.out)
   rw [HRe.out] at HRc
   ((refine (HRc.out).mono ?_); rintro e w2 ⟨rfl, hb2⟩)
   have hS9 := hHeld
   refine hK.out _ _ ⟨cell_stays hb2 hS9.1, cell_stays hb2 hS9.2.1, cell_stays hb2 hS9.2.2.1, cell_stays hb2 hS9.2.2.2.1, cell_stays hb2 hS9.2.2.2.2.1, cell_stays hb2 hS9.2.2.2.2.2.1, cell_stays hb2 hS9.2.2.2.2.2.2.1, cell_stays hb2 hS9.2.2.2.2.2.2.2.1, cell_stays hb2 hS9.2.2.2.2.2.2.2.2.1, cell_stays hb2 hS9.2.2.2.2.2.2.2.2.2.1, cell_stays hb2 hS9.2.2.2.2.2.2.2.2.2.2.1, cell_stays hb2 hS9.2.2.2.2.2.2.2.2.2.2.2⟩ (fun hHeld => ?_)
   clear hK K9 hS9
   try go_simp
   have HB2 := hid (HB1.out.trans (hb2.mono HB1.out.size))
   have HNb2 := hid (HNb1.out.below hb2)
   have HCb2 := hid (HCb1.out.below hb2)
   have HIn2 := hid (HIn1.out.below hb2)
   have HC2 := hid (HC1.out.below hb2)
   have HBl2 := hid (HBl1.out.trans (hb2.mono HBl1.out.size))
   clear HB1 HNb1 HCb1 HIn1 HC1 HBl1
   clear HRc
   clear hb2
   refine tkH 3 ?_; try go_simp
   refine tkH 4 ?_; try go_simp
   refine tkH 5 ?_; try go_simp
   refine tkH 6 ?_; try go_simp
   refine tkH 7 ?_; try go_simp
   refine tkR 8 (fun K9 hK => ?_)
   go_simp
   have HCl := hid (closed28_any N A n c Ak nk ck K w2 HIn2.out HNl.out HV.out HC2.out.k HC2.out.kl HC2.out.kb HAll.out)
   rw [HCe.out] at HCl
   ((refine (HCl.out).mono ?_); rintro e w3 ⟨rfl, hb3⟩)
   have hS9 := hHeld
   refine hK.out _ _ ⟨cell_stays hb3 hS9.1, cell_stays hb3 hS9.2.1, cell_stays hb3 hS9.2.2.1, cell_stays hb3 hS9.2.2.2.1, cell_stays hb3 hS9.2.2.2.2.1, cell_stays hb3 hS9.2.2.2.2.2.1, cell_stays hb3 hS9.2.2.2.2.2.2.1, cell_stays hb3 hS9.2.2.2.2.2.2.2.1, cell_stays hb3 hS9.2.2.2.2.2.2.2.2.1, cell_stays hb3 hS9.2.2.2.2.2.2.2.2.2.1, cell_stays hb3 hS9.2.2.2.2.2.2.2.2.2.2.1, cell_stays hb3 hS9.2.2.2.2.2.2.2.2.2.2.2⟩ (fun hHeld => ?_)
   clear hK K9 hS9
   try go_simp
   have HB3 := hid (HB2.out.trans (hb3.mono HB2.out.size))
   have HNb3 := hid (HNb2.out.below hb3)
   have HCb3 := hid (HCb2.out.below hb3)
   have HIn3 := hid (HIn2.out.below hb3)
   have HC3 := hid (HC2.out.below hb3)
   have HBl3 := hid (HBl2.out.trans (hb3.mono HBl2.out.size))
   clear HB2 HNb2 HCb2 HIn2 HC2 HBl2
   clear HCl
   clear hb3
   refine tkH 9 ?_; try go_simp
   refine tkH 10 ?_; try go_simp
   refine tkH 11 ?_; try go_simp
   refine tkH 12 ?_; try go_simp
   refine tkH 13 ?_; try go_simp
   refine tkH 14 ?_; try go_simp
   refine tkH 15 ?_; try go_simp
   refine tkH 16 ?_; try go_simp
   refine tkH 17 ?_; try go_simp
   refine tkU 18 ?_; try go_simp
   refine tkU 19 ?_; try go_simp
   refine tkU 20 ?_; try go_simp
   refine tkU 21 ?_; try go_simp
   refine tkU 22 ?_; try go_simp
   refine tkU 23 ?_; try go_simp
   refine tkU 24 ?_; try go_simp
   refine tkU 25 ?_; try go_simp
   refine tkU 26 ?_; try go_simp
   refine tkH 27 ?_; try go_simp
   refine wpAnyH_done (by kernel_rfl) ?_ _
   clear hHeld
   go_wp2_with fail
   go_ret
   exact ⟨ret_bool (by rw [HQ.out]; rfl), HB3.out⟩
 have q3 : ((nw : Int) != 1) = false := by simp; omega
 obtain ⟨Z, rfl⟩ : ∃ Z, X = [Z] := by
  have := HC0.out.xl
  rw [hw] at this
  match X, this with
  | [x], _ => exact ⟨x, rfl⟩
 have hnw0 : 0 < nw := by omega
 have hnw1 : (0 : Int) < (nw : Int) := by omega
 rw [show decide (([Z] : List (List Int)).length = 1) = true from rfl, show ([Z] : List (List Int)).headD [] = Z from rfl] at HQ
 obtain ⟨aw, rfl⟩ : ∃ aw, Aw = some aw := by
  obtain ⟨ad, e, _⟩ := HC0.out.x 0 (by simp)
  exact ⟨ad, e⟩
 obtain ⟨A1, nz, cz, x0', z1, hz1, hz2, hz3⟩ := lin_at HC0.out.x (i := 0) (by simp)
 replace z1 : ZIn w0 A1 Z := z1
 replace hz1 : Z.length = nz := hz1
 have HX0 := hid (show CA w0 aw (.slice A1 nz cz) by simpa [CA, Addr.add] using x0')
 have HZx := hid z1
 have HZn := hid hz1
 clear x0' z1 hz1
 by_cases hz : nz = nk
 rotate_left
 · have q4 : ((nz : Int) != (nk : Int)) = true := by rw [bne_iff_ne]; omega
   rw [HZn.out, HC0.out.kl, decide_eq_false hz] at HQ
   clear hz hw
   obtain ⟨b0, b1, b2, b3⟩ := HNb0.out.cells
   obtain ⟨d0, d1, d2, d3, d4, d5, d6, d7⟩ := HCb0.out.cells
   have x0 : w0.cell? aw = some (.slice A1 nz cz) := HX0.out
   have hbd : Below w0.heap.size w0 w0.drew := (Below.refl _ _).drew
   have HB1 := hid (HB0.out.trans (hbd.mono HB0.out.size))
   have HNb1 := hid (HNb0.out.below hbd)
   have HCb1 := hid (HCb0.out.below hbd)
   have HIn1 := hid (HIn0.out.below hbd)
   have HC1 := hid (HC0.out.below hbd)
   have HBl1 := hid (HBl0.out.trans (hbd.mono HBl0.out.size))
   have HX1 := hid (HX0.out.below hbd)
   have hS0 := And.intro (cell_stays hbd b0) (And.intro (cell_stays hbd b1) (And.intro (cell_stays hbd b2) (And.intro (cell_stays hbd b3) (And.intro (cell_stays hbd d0) (And.intro (cell_stays hbd d1) (And.intro (cell_stays hbd d2) (And.intro (cell_stays hbd d3) (And.intro (cell_stays hbd d4) (And.intro (cell_stays hbd d5) (And.intro (cell_stays hbd d6) (And.intro (cell_stays hbd d7) ((cell_stays hbd x0)))))))))))))
   refine wp_region_held_drew (S := fun w' => w'.cell? ⟨w.heap.size, 0, none⟩ = some (.int .i64 N.pl) ∧ w'.cell? ⟨w.heap.size, 1, none⟩ = some (.slice A n c) ∧ w'.cell? ⟨w.heap.size, 2, none⟩ = some (.int .i64 N.src) ∧ w'.cell? ⟨w.heap.size, 3, none⟩ = some (.int .i64 N.snk) ∧ w'.cell? ⟨cb, 0, none⟩ = some (.int .i64 cl) ∧ w'.cell? ⟨cb, 1, none⟩ = some (.int .i64 cn) ∧ w'.cell? ⟨cb, 2, none⟩ = some (.slice Ar nr cr) ∧ w'.cell? ⟨cb, 3, none⟩ = some (.slice Ap np cp) ∧ w'.cell? ⟨cb, 4, none⟩ = some (.slice Ak nk ck) ∧ w'.cell? ⟨cb, 5, none⟩ = some (.slice Av nv cv) ∧ w'.cell? ⟨cb, 6, none⟩ = some (.slice As ns cs) ∧ w'.cell? ⟨cb, 7, none⟩ = some (.slice (some aw) nw cw) ∧ w'.cell? aw = some (.slice A1 nz cz)) (by kernel_rfl) hS0 (fun hHeld => ?_)
   clear hS0 hbd b0 b1 b2 b3 d0 d1 d2 d3 d4 d5 d6 d7 x0
   clear HB0 HNb0 HCb0 HIn0 HC0 HBl0 HX0
   generalize w0.drew = w1 at *
   refine tkH 0 ?_; try go_simp
   refine tkH 1 ?_; try go_simp
   refine tkR 2 (fun K9 hK => ?_)
   go_simp
   have HRc := hid (reached28_any N A n c cl cn Ar nr cr R Ap np cp P Ak nk ck K Av nv cv V As ns cs S (some aw) nw cw [Z] w1 HIn1.out HNl.out HV.out HC1.out HMk.out)
   rw [HRe.out] at HRc
   ((refine (HRc.out).mono ?_); rintro e w2 ⟨rfl, hb2⟩)
   have hS9 := hHeld
   refine hK.out _ _ ⟨cell_stays hb2 hS9.1, cell_stays hb2 hS9.2.1, cell_stays hb2 hS9.2.2.1, cell_stays hb2 hS9.2.2.2.1, cell_stays hb2 hS9.2.2.2.2.1, cell_stays hb2 hS9.2.2.2.2.2.1, cell_stays hb2 hS9.2.2.2.2.2.2.1, cell_stays hb2 hS9.2.2.2.2.2.2.2.1, cell_stays hb2 hS9.2.2.2.2.2.2.2.2.1, cell_stays hb2 hS9.2.2.2.2.2.2.2.2.2.1, cell_stays hb2 hS9.2.2.2.2.2.2.2.2.2.2.1, cell_stays hb2 hS9.2.2.2.2.2.2.2.2.2.2.2.1, cell_stays hb2 hS9.2.2.2.2.2.2.2.2.2.2.2.2⟩ (fun hHeld => ?_)
   clear hK K9 hS9
   try go_simp
   have HB2 := hid (HB1.out.trans (hb2.mono HB1.out.size))
   have HNb2 := hid (HNb1.out.below hb2)
   have HCb2 := hid (HCb1.out.below hb2)
   have HIn2 := hid (HIn1.out.below hb2)
   have HC2 := hid (HC1.out.below hb2)
   have HBl2 := hid (HBl1.out.trans (hb2.mono HBl1.out.size))
   have HX2 := hid (HX1.out.below hb2)
   clear HB1 HNb1 HCb1 HIn1 HC1 HBl1 HX1
   clear HRc
   clear hb2
   refine tkH 3 ?_; try go_simp
   refine tkH 4 ?_; try go_simp
   refine tkH 5 ?_; try go_simp
   refine tkH 6 ?_; try go_simp
   refine tkH 7 ?_; try go_simp
   refine tkR 8 (fun K9 hK => ?_)
   go_simp
   have HCl := hid (closed28_any N A n c Ak nk ck K w2 HIn2.out HNl.out HV.out HC2.out.k HC2.out.kl HC2.out.kb HAll.out)
   rw [HCe.out] at HCl
   ((refine (HCl.out).mono ?_); rintro e w3 ⟨rfl, hb3⟩)
   have hS9 := hHeld
   refine hK.out _ _ ⟨cell_stays hb3 hS9.1, cell_stays hb3 hS9.2.1, cell_stays hb3 hS9.2.2.1, cell_stays hb3 hS9.2.2.2.1, cell_stays hb3 hS9.2.2.2.2.1, cell_stays hb3 hS9.2.2.2.2.2.1, cell_stays hb3 hS9.2.2.2.2.2.2.1, cell_stays hb3 hS9.2.2.2.2.2.2.2.1, cell_stays hb3 hS9.2.2.2.2.2.2.2.2.1, cell_stays hb3 hS9.2.2.2.2.2.2.2.2.2.1, cell_stays hb3 hS9.2.2.2.2.2.2.2.2.2.2.1, cell_stays hb3 hS9.2.2.2.2.2.2.2.2.2.2.2.1, cell_stays hb3 hS9.2.2.2.2.2.2.2.2.2.2.2.2⟩ (fun hHeld => ?_)
   clear hK K9 hS9
   try go_simp
   have HB3 := hid (HB2.out.trans (hb3.mono HB2.out.size))
   have HNb3 := hid (HNb2.out.below hb3)
   have HCb3 := hid (HCb2.out.below hb3)
   have HIn3 := hid (HIn2.out.below hb3)
   have HC3 := hid (HC2.out.below hb3)
   have HBl3 := hid (HBl2.out.trans (hb3.mono HBl2.out.size))
   have HX3 := hid (HX2.out.below hb3)
   clear HB2 HNb2 HCb2 HIn2 HC2 HBl2 HX2
   clear HCl
   clear hb3
   refine tkH 9 ?_; try go_simp
   refine tkH 10 ?_; try go_simp
   refine tkH 11 ?_; try go_simp
   refine tkH 12 ?_; try go_simp
   refine tkH 13 ?_; try go_simp
   refine tkH 14 ?_; try go_simp
   refine tkH 15 ?_; try go_simp
   refine tkH 16 ?_; try go_simp
   refine tkH 17 ?_; try go_simp
   refine tkH 18 ?_; try go_simp
   refine tkH 19 ?_; try go_simp
   refine tkH 20 ?_; try go_simp
   refine tkH 21 ?_; try go_simp
   refine tkH 22 ?_; try go_simp
   refine tkH 23 ?_; try go_simp
   refine tkH 24 ?_; try go_simp
   refine tkH 25 ?_; try go_simp
   refine tkH 26 ?_; try go_simp
   refine tkH 27 ?_; try go_simp
   refine wpAnyH_done (by kernel_rfl) ?_ _
   clear hHeld
   go_wp2_with fail
   go_ret
   exact ⟨ret_bool (by rw [HQ.out]; rfl), HB3.out⟩
 have q4 : ((nz : Int) != (nk : Int)) = false := by simp; omega
 rw [HZn.out, HC0.out.kl, decide_eq_true hz] at HQ
 have HZl := hid (show Z.length = K.length by rw [HZn.out, HC0.out.kl]; exact hz)
 obtain rfl : nk = nz := hz.symm
 subst hw
 obtain ⟨b0, b1, b2, b3⟩ := HNb0.out.cells
 obtain ⟨d0, d1, d2, d3, d4, d5, d6, d7⟩ := HCb0.out.cells
 have x0 : w0.cell? aw = some (.slice A1 nk cz) := HX0.out
 have hbd : Below w0.heap.size w0 w0.drew := (Below.refl _ _).drew
 have HB1 := hid (HB0.out.trans (hbd.mono HB0.out.size))
 have HNb1 := hid (HNb0.out.below hbd)
 have HCb1 := hid (HCb0.out.below hbd)
 have HIn1 := hid (HIn0.out.below hbd)
 have HC1 := hid (HC0.out.below hbd)
 have HBl1 := hid (HBl0.out.trans (hbd.mono HBl0.out.size))
 have HX1 := hid (HX0.out.below hbd)
 have hS0 := And.intro (cell_stays hbd b0) (And.intro (cell_stays hbd b1) (And.intro (cell_stays hbd b2) (And.intro (cell_stays hbd b3) (And.intro (cell_stays hbd d0) (And.intro (cell_stays hbd d1) (And.intro (cell_stays hbd d2) (And.intro (cell_stays hbd d3) (And.intro (cell_stays hbd d4) (And.intro (cell_stays hbd d5) (And.intro (cell_stays hbd d6) (And.intro (cell_stays hbd d7) ((cell_stays hbd x0)))))))))))))
 refine wp_region_held_drew (S := fun w' => w'.cell? ⟨w.heap.size, 0, none⟩ = some (.int .i64 N.pl) ∧ w'.cell? ⟨w.heap.size, 1, none⟩ = some (.slice A n c) ∧ w'.cell? ⟨w.heap.size, 2, none⟩ = some (.int .i64 N.src) ∧ w'.cell? ⟨w.heap.size, 3, none⟩ = some (.int .i64 N.snk) ∧ w'.cell? ⟨cb, 0, none⟩ = some (.int .i64 cl) ∧ w'.cell? ⟨cb, 1, none⟩ = some (.int .i64 cn) ∧ w'.cell? ⟨cb, 2, none⟩ = some (.slice Ar nr cr) ∧ w'.cell? ⟨cb, 3, none⟩ = some (.slice Ap np cp) ∧ w'.cell? ⟨cb, 4, none⟩ = some (.slice Ak nk ck) ∧ w'.cell? ⟨cb, 5, none⟩ = some (.slice Av nv cv) ∧ w'.cell? ⟨cb, 6, none⟩ = some (.slice As ns cs) ∧ w'.cell? ⟨cb, 7, none⟩ = some (.slice (some aw) 1 cw) ∧ w'.cell? aw = some (.slice A1 nk cz)) (by kernel_rfl) hS0 (fun hHeld => ?_)
 clear hS0 hbd b0 b1 b2 b3 d0 d1 d2 d3 d4 d5 d6 d7 x0
 generalize w0.drew = w1 at *
 refine tkH 0 ?_; try go_simp
 refine tkH 1 ?_; try go_simp
 refine tkR 2 (fun K9 hK => ?_)
 go_simp
 have HRc := hid (reached28_any N A n c cl cn Ar nr cr R Ap np cp P Ak nk ck K Av nv cv V As ns cs S (some aw) 1 cw [Z] w1 HIn1.out HNl.out HV.out HC1.out HMk.out)
 rw [HRe.out] at HRc
 ((refine (HRc.out).mono ?_); rintro e w2 ⟨rfl, hb2⟩)
 have hS9 := hHeld
 refine hK.out _ _ ⟨cell_stays hb2 hS9.1, cell_stays hb2 hS9.2.1, cell_stays hb2 hS9.2.2.1, cell_stays hb2 hS9.2.2.2.1, cell_stays hb2 hS9.2.2.2.2.1, cell_stays hb2 hS9.2.2.2.2.2.1, cell_stays hb2 hS9.2.2.2.2.2.2.1, cell_stays hb2 hS9.2.2.2.2.2.2.2.1, cell_stays hb2 hS9.2.2.2.2.2.2.2.2.1, cell_stays hb2 hS9.2.2.2.2.2.2.2.2.2.1, cell_stays hb2 hS9.2.2.2.2.2.2.2.2.2.2.1, cell_stays hb2 hS9.2.2.2.2.2.2.2.2.2.2.2.1, cell_stays hb2 hS9.2.2.2.2.2.2.2.2.2.2.2.2⟩ (fun hHeld => ?_)
 clear hK K9 hS9
 try go_simp
 have HB2 := hid (HB1.out.trans (hb2.mono HB1.out.size))
 have HNb2 := hid (HNb1.out.below hb2)
 have HCb2 := hid (HCb1.out.below hb2)
 have HIn2 := hid (HIn1.out.below hb2)
 have HC2 := hid (HC1.out.below hb2)
 have HBl2 := hid (HBl1.out.trans (hb2.mono HBl1.out.size))
 have HX2 := hid (HX1.out.below hb2)
 clear HB1 HNb1 HCb1 HIn1 HC1 HBl1 HX1
 clear HRc
 clear hb2
 refine tkH 3 ?_; try go_simp
 refine tkH 4 ?_; try go_simp
 refine tkH 5 ?_; try go_simp
 refine tkH 6 ?_; try go_simp
 refine tkH 7 ?_; try go_simp
 refine tkR 8 (fun K9 hK => ?_)
 go_simp
 have HCl := hid (closed28_any N A n c Ak nk ck K w2 HIn2.out HNl.out HV.out HC2.out.k HC2.out.kl HC2.out.kb HAll.out)
 rw [HCe.out] at HCl
 ((refine (HCl.out).mono ?_); rintro e w3 ⟨rfl, hb3⟩)
 have hS9 := hHeld
 refine hK.out _ _ ⟨cell_stays hb3 hS9.1, cell_stays hb3 hS9.2.1, cell_stays hb3 hS9.2.2.1, cell_stays hb3 hS9.2.2.2.1, cell_stays hb3 hS9.2.2.2.2.1, cell_stays hb3 hS9.2.2.2.2.2.1, cell_stays hb3 hS9.2.2.2.2.2.2.1, cell_stays hb3 hS9.2.2.2.2.2.2.2.1, cell_stays hb3 hS9.2.2.2.2.2.2.2.2.1, cell_stays hb3 hS9.2.2.2.2.2.2.2.2.2.1, cell_stays hb3 hS9.2.2.2.2.2.2.2.2.2.2.1, cell_stays hb3 hS9.2.2.2.2.2.2.2.2.2.2.2.1, cell_stays hb3 hS9.2.2.2.2.2.2.2.2.2.2.2.2⟩ (fun hHeld => ?_)
 clear hK K9 hS9
 try go_simp
 have HB3 := hid (HB2.out.trans (hb3.mono HB2.out.size))
 have HNb3 := hid (HNb2.out.below hb3)
 have HCb3 := hid (HCb2.out.below hb3)
 have HIn3 := hid (HIn2.out.below hb3)
 have HC3 := hid (HC2.out.below hb3)
 have HBl3 := hid (HBl2.out.trans (hb3.mono HBl2.out.size))
 have HX3 := hid (HX2.out.below hb3)
 clear HB2 HNb2 HCb2 HIn2 HC2 HBl2 HX2
 clear HCl
 clear hb3
 refine tkH 9 ?_; try go_simp
 refine tkH 10 ?_; try go_simp
 refine tkH 11 ?_; try go_simp
 refine tkH 12 ?_; try go_simp
 refine tkH 13 ?_; try go_simp
 refine tkH 14 ?_; try go_simp
 refine tkH 15 ?_; try go_simp
 refine tkH 16 ?_; try go_simp
 refine tkH 17 ?_; try go_simp
 refine tkH 18 ?_; try go_simp
 refine tkH 19 ?_; try go_simp
 refine tkH 20 ?_; try go_simp
 refine tkH 21 ?_; try go_simp
 refine tkH 22 ?_; try go_simp
 refine tkH 23 ?_; try go_simp
 refine tkH 24 ?_; try go_simp
 refine tkH 25 ?_; try go_simp
 refine tkH 26 ?_; try go_simp
 refine tkH 27 ?_; try go_simp
 refine wpAnyH_done (by kernel_rfl) ?_ _
 clear hHeld
 clear hnw0 hnw1 q3
 have HFn := hid (fin28_any N A n c HV.out w3)
 obtain ⟨b0, b1, b2, b3⟩ := HNb3.out.cells
 obtain ⟨d0, d1, d2, d3, d4, d5, d6, d7⟩ := HCb3.out.cells
 go_wp2_with fail
 ((with_reducible refine HFn.out.mono ?_); rintro e w9 ⟨v9, rfl, hS9⟩)
 obtain ⟨Af, cf, rfl⟩ := hS9.slice
 have hb9 := hS9.2
 have HF9 := hid (show ZIn w9 Af (finM N) by obtain ⟨A', c', e, hz, _⟩ := hS9.zin; cases e; exact hz)
 have HB9 := hid (HB3.out.trans (hb9.mono HB3.out.size))
 have HNb9 := hid (HNb3.out.below hb9)
 have HCb9 := hid (HCb3.out.below hb9)
 have HIn9 := hid (HIn3.out.below hb9)
 have HC9 := hid (HC3.out.below hb9)
 have HBl9 := hid (HBl3.out.trans (hb9.mono HBl3.out.size))
 clear HB3 HNb3 HCb3 HIn3 HC3 HBl3
 have HFl := hid (fin_len HV.out)
 have hfl : (finM N).length ≤ 40 := by have := HFl.out; omega
 have HBf9 := hid (Below.refl w9.heap.size w9)
 obtain ⟨sk, hsk⟩ := Int.eq_ofNat_of_zero_le hpls.2.2.1
 have HSk := hid hsk
 have HSn := hid (show sk < N.pl.toNat by omega)
 clear hS9 hb9 HFn b0 b1 b2 b3 d0 d1 d2 d3 d4 d5 d6 d7 hsk
 go_wp2_with fail
 go_loopg [6] (nk) (fun g iv wr => ∃ i : Nat, i + g = nk ∧ iv = .int .i64 (i : Int) ∧ (List.range i).all (mrkR N K Z) = true ∧ Below w0.heap.size w0 wr ∧ Below w9.heap.size w9 wr)
 case atStart => exact ⟨0, by omega, rfl, rfl, HBl9.out, HBf9.out⟩
 case round =>
  clear HB9 HNb9 HCb9 HIn9 HC9 HBl9 HBf9
  obtain ⟨i, hi, rfl, hp, hB, hBf⟩ := hrel
  have HI := hid hi
  have HP := hid hp
  have HBl30 := hid hB
  have HBf30 := hid hBf
  have hle : i ≤ nk := by omega
  clear hi hp hB hBf
  obtain ⟨w30, rfl⟩ : ∃ w30, w30 = wr := ⟨_, rfl⟩
  have HB30 := hid (HB0.out.trans (HBl30.out.mono HB0.out.size))
  have HNb30 := hid (HNb0.out.below HBl30.out)
  have HCb30 := hid (HCb0.out.below HBl30.out)
  have HIn30 := hid (HIn0.out.below HBl30.out)
  have HC30 := hid (HC0.out.below HBl30.out)
  by_cases hlt : i < nk
  · have hiK : i < K.length := by rw [HC0.out.kl]; exact hlt
    have hiZ : i < Z.length := by rw [HZl.out]; exact hiK
    have HSt := hid (range_step (mrkR N K Z) i)
    have HNo := hid (fun hh => range_no (mrkR N K Z) (n := nk) hlt hh)
    have HMm := hid (HAll.out _ (List.getElem_mem hiK))
    have HMg := hid (show mrkR N K Z i = ((decide (Z[i] = 0) == decide (K[i] = finM N)) && (decide (K[i] = finM N) || (decide (0 ≤ Z[i]) && (!(decide (0 < K[i].getD sk 0)) && N.tr.any (nearR K Z i))))) by
     unfold mrkR
     rw [show K.getD i [] = K[i] by simp [hiK], show rowV Z i = Z[i] by simp [rowV, hiZ], HSk.out, Int.toNat_natCast])
    obtain ⟨ak, rfl⟩ : ∃ ak, Ak = some ak := by
     obtain ⟨ad, e, _⟩ := HC0.out.k i hiK
     exact ⟨ad, e⟩
    obtain ⟨Am, nm, cm, y0', zm, hm1, hm2, hm3⟩ := lin_at HC0.out.k hiK
    have HY0 := hid y0'
    have HZm := hid zm
    have HMl := hid hm1
    have hskM : sk < K[i].length := by have := mkX_len HMm.out; have := HSn.out; omega
    rw [show K[i].getD sk 0 = K[i][sk] by simp [hskM]] at HMg
    obtain ⟨ms, hms⟩ : ∃ ms, ms = K[i][sk] := ⟨_, rfl⟩
    obtain ⟨zi, hzi⟩ : ∃ zi, zi = Z[i] := ⟨_, rfl⟩
    rw [← hms, ← hzi] at HMg
    have hnm : nm ≤ 40 := by have := mkX_len HMm.out; omega
    have hskn : sk < nm := by omega
    have hsk0 : (0 : Int) ≤ (sk : Int) := by omega
    have hsk1 : (sk : Int) < (nm : Int) := by omega
    have hi0 : (0 : Int) ≤ (i : Int) := by omega
    have hi1 : (i : Int) < (nk : Int) := by omega
    have hin : i < nk := hlt
    have HEq := hid (same_any Am nm cm Af (finM N).length cf K[i] (finM N) w30 (HZm.out.below HBl30.out) HMl.out (HF9.out.below HBf30.out) rfl (by omega))
    replace hms := hms.symm
    replace hzi := hzi.symm
    have y0 : w30.cell? (ak.add i) = some (.slice Am nm cm) := HY0.out.below HBl30.out
    generalize K[i] = M at *
    clear y0' zm hm1
    cases hen : decide (M = finM N) with
    | true =>
     rw [hen] at HEq HMg
     clear hen
     obtain ⟨b0, b1, b2, b3⟩ := HNb30.out.cells
     obtain ⟨d0, d1, d2, d3, d4, d5, d6, d7⟩ := HCb30.out.cells
     go_wp2_with fail
     ((with_reducible refine HEq.out.mono ?_); rintro e w31 ⟨rfl, hb31⟩)
     have HB31 := hid (HB30.out.trans (hb31.mono HB30.out.size))
     have HNb31 := hid (HNb30.out.below hb31)
     have HCb31 := hid (HCb30.out.below hb31)
     have HIn31 := hid (HIn30.out.below hb31)
     have HC31 := hid (HC30.out.below hb31)
     have HBl31 := hid (HBl30.out.trans (hb31.mono HBl30.out.size))
     have HBf31 := hid (HBf30.out.trans (hb31.mono HBf30.out.size))
     clear HB30 HNb30 HCb30 HIn30 HC30 HBl30 HBf30
     clear hb31 HEq y0 b0 b1 b2 b3 d0 d1 d2 d3 d4 d5 d6 d7
     go_wp2_with fail
     by_cases h0 : zi = 0
     · have p0 : (zi == 0) = true := by rw [h0]; rfl
       rw [decide_eq_true h0] at HMg
       clear h0
       have HGd := hid (show mrkR N K Z i = true by rw [HMg.out]; rfl)
       obtain ⟨b0, b1, b2, b3⟩ := HNb31.out.cells
       obtain ⟨d0, d1, d2, d3, d4, d5, d6, d7⟩ := HCb31.out.cells
       rw [HSk.out] at b3
       obtain ⟨az, haz, _, z0⟩ := (show ZIn w31 A1 Z from HZx.out.below HBl31.out) i hiZ
       subst haz
       rw [hzi] at z0
       have x0 : w31.cell? aw = some (.slice (some az) nk cz) := HX0.out.below HBl31.out
       have y0 : w31.cell? (ak.add i) = some (.slice Am nm cm) := HY0.out.below HBl31.out
       obtain ⟨am, ham, _, y1⟩ := (show ZIn w31 Am M from HZm.out.below HBl31.out) sk hskM
       subst ham
       rw [hms] at y1
       have hbd : Below w31.heap.size w31 w31.drew := (Below.refl _ _).drew
       have HB32 := hid (HB31.out.trans (hbd.mono HB31.out.size))
       have HNb32 := hid (HNb31.out.below hbd)
       have HCb32 := hid (HCb31.out.below hbd)
       have HIn32 := hid (HIn31.out.below hbd)
       have HC32 := hid (HC31.out.below hbd)
       have HBl32 := hid (HBl31.out.trans (hbd.mono HBl31.out.size))
       have HBf32 := hid (HBf31.out.trans (hbd.mono HBf31.out.size))
       have hS0 := And.intro (cell_stays hbd b0) (And.intro (cell_stays hbd b1) (And.intro (cell_stays hbd b2) (And.intro (cell_stays hbd b3) (And.intro (cell_stays hbd d0) (And.intro (cell_stays hbd d1) (And.intro (cell_stays hbd d2) (And.intro (cell_stays hbd d3) (And.intro (cell_stays hbd d4) (And.intro (cell_stays hbd d5) (And.intro (cell_stays hbd d6) (And.intro (cell_stays hbd d7) (And.intro (cell_stays hbd x0) (And.intro (cell_stays hbd z0) (And.intro (cell_stays hbd y0) ((cell_stays hbd y1))))))))))))))))
       refine wp_region_held_drew (S := fun w' => w'.cell? ⟨w.heap.size, 0, none⟩ = some (.int .i64 N.pl) ∧ w'.cell? ⟨w.heap.size, 1, none⟩ = some (.slice A n c) ∧ w'.cell? ⟨w.heap.size, 2, none⟩ = some (.int .i64 N.src) ∧ w'.cell? ⟨w.heap.size, 3, none⟩ = some (.int .i64 (sk : Int)) ∧ w'.cell? ⟨cb, 0, none⟩ = some (.int .i64 cl) ∧ w'.cell? ⟨cb, 1, none⟩ = some (.int .i64 cn) ∧ w'.cell? ⟨cb, 2, none⟩ = some (.slice Ar nr cr) ∧ w'.cell? ⟨cb, 3, none⟩ = some (.slice Ap np cp) ∧ w'.cell? ⟨cb, 4, none⟩ = some (.slice (some ak) nk ck) ∧ w'.cell? ⟨cb, 5, none⟩ = some (.slice Av nv cv) ∧ w'.cell? ⟨cb, 6, none⟩ = some (.slice As ns cs) ∧ w'.cell? ⟨cb, 7, none⟩ = some (.slice (some aw) 1 cw) ∧ w'.cell? aw = some (.slice (some az) nk cz) ∧ w'.cell? (az.add i) = some (.int .i64 zi) ∧ w'.cell? (ak.add i) = some (.slice (some am) nm cm) ∧ w'.cell? (am.add sk) = some (.int .i64 ms)) (by kernel_rfl) hS0 (fun hHeld => ?_)
       clear hS0 hbd b0 b1 b2 b3 d0 d1 d2 d3 d4 d5 d6 d7 x0 z0 y0 y1
       clear HB31 HNb31 HCb31 HIn31 HC31 HBl31 HBf31
       generalize w31.drew = w32 at *
       refine tkH 0 ?_; try go_simp
       refine tkH 1 ?_; try go_simp
       refine tkH 2 ?_; try go_simp
       refine tkH 3 ?_; try go_simp
       refine tkH 4 ?_; try go_simp
       refine tkH 5 ?_; try go_simp
       refine tkH 6 ?_; try go_simp
       refine tkH 7 ?_; try go_simp
       refine tkH 8 ?_; try go_simp
       refine tkH 9 ?_; try go_simp
       refine tkH 10 ?_; try go_simp
       refine tkH 11 ?_; try go_simp
       refine tkH 12 ?_; try go_simp
       refine tkH 13 ?_; try go_simp
       refine tkU 14 ?_; try go_simp
       refine tkU 15 ?_; try go_simp
       refine tkU 16 ?_; try go_simp
       refine tkU 17 ?_; try go_simp
       refine tkU 18 ?_; try go_simp
       refine tkU 19 ?_; try go_simp
       refine tkU 20 ?_; try go_simp
       refine tkU 21 ?_; try go_simp
       refine tkU 22 ?_; try go_simp
       refine tkU 23 ?_; try go_simp
       refine tkU 24 ?_; try go_simp
       refine tkU 25 ?_; try go_simp
       refine tkU 26 ?_; try go_simp
       refine tkU 27 ?_; try go_simp
       refine tkU 28 ?_; try go_simp
       refine tkU 29 ?_; try go_simp
       refine tkU 30 ?_; try go_simp
       refine tkU 31 ?_; try go_simp
       refine tkU 32 ?_; try go_simp
       refine tkU 33 ?_; try go_simp
       refine tkU 34 ?_; try go_simp
       refine tkU 35 ?_; try go_simp
       refine tkU 36 ?_; try go_simp
       refine tkU 37 ?_; try go_simp
       refine tkU 38 ?_; try go_simp
       refine tkU 39 ?_; try go_simp
       refine tkU 40 ?_; try go_simp
       refine tkH 41 ?_; try go_simp
       refine tkH 42 ?_; try go_simp
       refine wpAnyH_done (by kernel_rfl) ?_ _
       clear hHeld
       go_wp2_with fail
       go_roundg (gk - 1)
       case measure => have := HI.out; omega
       case rel => exact ⟨i + 1, by have := HI.out; omega, by go_num, by rw [HSt.out, HP.out, HGd.out]; rfl, HBl32.out, HBf32.out⟩
     · have p0 : (zi == 0) = false := by simpa using h0
       rw [decide_eq_false h0] at HMg
       clear h0
       rw [HNo.out (by rw [HMg.out]; rfl)] at HQ
       obtain ⟨b0, b1, b2, b3⟩ := HNb31.out.cells
       obtain ⟨d0, d1, d2, d3, d4, d5, d6, d7⟩ := HCb31.out.cells
       rw [HSk.out] at b3
       obtain ⟨az, haz, _, z0⟩ := (show ZIn w31 A1 Z from HZx.out.below HBl31.out) i hiZ
       subst haz
       rw [hzi] at z0
       have x0 : w31.cell? aw = some (.slice (some az) nk cz) := HX0.out.below HBl31.out
       have y0 : w31.cell? (ak.add i) = some (.slice Am nm cm) := HY0.out.below HBl31.out
       obtain ⟨am, ham, _, y1⟩ := (show ZIn w31 Am M from HZm.out.below HBl31.out) sk hskM
       subst ham
       rw [hms] at y1
       have hbd : Below w31.heap.size w31 w31.drew := (Below.refl _ _).drew
       have HB32 := hid (HB31.out.trans (hbd.mono HB31.out.size))
       have HNb32 := hid (HNb31.out.below hbd)
       have HCb32 := hid (HCb31.out.below hbd)
       have HIn32 := hid (HIn31.out.below hbd)
       have HC32 := hid (HC31.out.below hbd)
       have HBl32 := hid (HBl31.out.trans (hbd.mono HBl31.out.size))
       have HBf32 := hid (HBf31.out.trans (hbd.mono HBf31.out.size))
       have hS0 := And.intro (cell_stays hbd b0) (And.intro (cell_stays hbd b1) (And.intro (cell_stays hbd b2) (And.intro (cell_stays hbd b3) (And.intro (cell_stays hbd d0) (And.intro (cell_stays hbd d1) (And.intro (cell_stays hbd d2) (And.intro (cell_stays hbd d3) (And.intro (cell_stays hbd d4) (And.intro (cell_stays hbd d5) (And.intro (cell_stays hbd d6) (And.intro (cell_stays hbd d7) (And.intro (cell_stays hbd x0) (And.intro (cell_stays hbd z0) (And.intro (cell_stays hbd y0) ((cell_stays hbd y1))))))))))))))))
       refine wp_region_held_drew (S := fun w' => w'.cell? ⟨w.heap.size, 0, none⟩ = some (.int .i64 N.pl) ∧ w'.cell? ⟨w.heap.size, 1, none⟩ = some (.slice A n c) ∧ w'.cell? ⟨w.heap.size, 2, none⟩ = some (.int .i64 N.src) ∧ w'.cell? ⟨w.heap.size, 3, none⟩ = some (.int .i64 (sk : Int)) ∧ w'.cell? ⟨cb, 0, none⟩ = some (.int .i64 cl) ∧ w'.cell? ⟨cb, 1, none⟩ = some (.int .i64 cn) ∧ w'.cell? ⟨cb, 2, none⟩ = some (.slice Ar nr cr) ∧ w'.cell? ⟨cb, 3, none⟩ = some (.slice Ap np cp) ∧ w'.cell? ⟨cb, 4, none⟩ = some (.slice (some ak) nk ck) ∧ w'.cell? ⟨cb, 5, none⟩ = some (.slice Av nv cv) ∧ w'.cell? ⟨cb, 6, none⟩ = some (.slice As ns cs) ∧ w'.cell? ⟨cb, 7, none⟩ = some (.slice (some aw) 1 cw) ∧ w'.cell? aw = some (.slice (some az) nk cz) ∧ w'.cell? (az.add i) = some (.int .i64 zi) ∧ w'.cell? (ak.add i) = some (.slice (some am) nm cm) ∧ w'.cell? (am.add sk) = some (.int .i64 ms)) (by kernel_rfl) hS0 (fun hHeld => ?_)
       clear hS0 hbd b0 b1 b2 b3 d0 d1 d2 d3 d4 d5 d6 d7 x0 z0 y0 y1
       clear HB31 HNb31 HCb31 HIn31 HC31 HBl31 HBf31
       generalize w31.drew = w32 at *
       refine tkH 0 ?_; try go_simp
       refine tkH 1 ?_; try go_simp
       refine tkH 2 ?_; try go_simp
       refine tkH 3 ?_; try go_simp
       refine tkH 4 ?_; try go_simp
       refine tkH 5 ?_; try go_simp
       refine tkH 6 ?_; try go_simp
       refine tkH 7 ?_; try go_simp
       refine tkH 8 ?_; try go_simp
       refine tkH 9 ?_; try go_simp
       refine tkH 10 ?_; try go_simp
       refine tkU 11 ?_; try go_simp
       refine tkU 12 ?_; try go_simp
       refine tkU 13 ?_; try go_simp
       refine tkU 14 ?_; try go_simp
       refine tkU 15 ?_; try go_simp
       refine tkU 16 ?_; try go_simp
       refine tkU 17 ?_; try go_simp
       refine tkU 18 ?_; try go_simp
       refine tkU 19 ?_; try go_simp
       refine tkU 20 ?_; try go_simp
       refine tkU 21 ?_; try go_simp
       refine tkU 22 ?_; try go_simp
       refine tkU 23 ?_; try go_simp
       refine tkU 24 ?_; try go_simp
       refine tkU 25 ?_; try go_simp
       refine tkU 26 ?_; try go_simp
       refine tkU 27 ?_; try go_simp
       refine tkU 28 ?_; try go_simp
       refine tkU 29 ?_; try go_simp
       refine tkU 30 ?_; try go_simp
       refine tkU 31 ?_; try go_simp
       refine tkU 32 ?_; try go_simp
       refine tkU 33 ?_; try go_simp
       refine tkU 34 ?_; try go_simp
       refine tkU 35 ?_; try go_simp
       refine tkU 36 ?_; try go_simp
       refine tkU 37 ?_; try go_simp
       refine tkU 38 ?_; try go_simp
       refine tkU 39 ?_; try go_simp
       refine tkU 40 ?_; try go_simp
       refine tkU 41 ?_; try go_simp
       refine tkH 42 ?_; try go_simp
       refine wpAnyH_done (by kernel_rfl) ?_ _
       clear hHeld
       go_wp2_with fail
       go_ret
       exact ⟨ret_bool (by rw [HQ.out]; rfl), HB32.out⟩
    | false =>
     rw [hen] at HEq HMg
     clear hen
     obtain ⟨b0, b1, b2, b3⟩ := HNb30.out.cells
     obtain ⟨d0, d1, d2, d3, d4, d5, d6, d7⟩ := HCb30.out.cells
     go_wp2_with fail
     ((with_reducible refine HEq.out.mono ?_); rintro e w31 ⟨rfl, hb31⟩)
     have HB31 := hid (HB30.out.trans (hb31.mono HB30.out.size))
     have HNb31 := hid (HNb30.out.below hb31)
     have HCb31 := hid (HCb30.out.below hb31)
     have HIn31 := hid (HIn30.out.below hb31)
     have HC31 := hid (HC30.out.below hb31)
     have HBl31 := hid (HBl30.out.trans (hb31.mono HBl30.out.size))
     have HBf31 := hid (HBf30.out.trans (hb31.mono HBf30.out.size))
     clear HB30 HNb30 HCb30 HIn30 HC30 HBl30 HBf30
     clear hb31 HEq y0 b0 b1 b2 b3 d0 d1 d2 d3 d4 d5 d6 d7
     go_wp2_with fail
     by_cases h0 : zi = 0
     · have p0 : (zi == 0) = true := by rw [h0]; rfl
       rw [decide_eq_true h0] at HMg
       clear h0
       rw [HNo.out (by rw [HMg.out]; rfl)] at HQ
       obtain ⟨b0, b1, b2, b3⟩ := HNb31.out.cells
       obtain ⟨d0, d1, d2, d3, d4, d5, d6, d7⟩ := HCb31.out.cells
       rw [HSk.out] at b3
       obtain ⟨az, haz, _, z0⟩ := (show ZIn w31 A1 Z from HZx.out.below HBl31.out) i hiZ
       subst haz
       rw [hzi] at z0
       have x0 : w31.cell? aw = some (.slice (some az) nk cz) := HX0.out.below HBl31.out
       have y0 : w31.cell? (ak.add i) = some (.slice Am nm cm) := HY0.out.below HBl31.out
       obtain ⟨am, ham, _, y1⟩ := (show ZIn w31 Am M from HZm.out.below HBl31.out) sk hskM
       subst ham
       rw [hms] at y1
       have hbd : Below w31.heap.size w31 w31.drew := (Below.refl _ _).drew
       have HB32 := hid (HB31.out.trans (hbd.mono HB31.out.size))
       have HNb32 := hid (HNb31.out.below hbd)
       have HCb32 := hid (HCb31.out.below hbd)
       have HIn32 := hid (HIn31.out.below hbd)
       have HC32 := hid (HC31.out.below hbd)
       have HBl32 := hid (HBl31.out.trans (hbd.mono HBl31.out.size))
       have HBf32 := hid (HBf31.out.trans (hbd.mono HBf31.out.size))
       have hS0 := And.intro (cell_stays hbd b0) (And.intro (cell_stays hbd b1) (And.intro (cell_stays hbd b2) (And.intro (cell_stays hbd b3) (And.intro (cell_stays hbd d0) (And.intro (cell_stays hbd d1) (And.intro (cell_stays hbd d2) (And.intro (cell_stays hbd d3) (And.intro (cell_stays hbd d4) (And.intro (cell_stays hbd d5) (And.intro (cell_stays hbd d6) (And.intro (cell_stays hbd d7) (And.intro (cell_stays hbd x0) (And.intro (cell_stays hbd z0) (And.intro (cell_stays hbd y0) ((cell_stays hbd y1))))))))))))))))
       refine wp_region_held_drew (S := fun w' => w'.cell? ⟨w.heap.size, 0, none⟩ = some (.int .i64 N.pl) ∧ w'.cell? ⟨w.heap.size, 1, none⟩ = some (.slice A n c) ∧ w'.cell? ⟨w.heap.size, 2, none⟩ = some (.int .i64 N.src) ∧ w'.cell? ⟨w.heap.size, 3, none⟩ = some (.int .i64 (sk : Int)) ∧ w'.cell? ⟨cb, 0, none⟩ = some (.int .i64 cl) ∧ w'.cell? ⟨cb, 1, none⟩ = some (.int .i64 cn) ∧ w'.cell? ⟨cb, 2, none⟩ = some (.slice Ar nr cr) ∧ w'.cell? ⟨cb, 3, none⟩ = some (.slice Ap np cp) ∧ w'.cell? ⟨cb, 4, none⟩ = some (.slice (some ak) nk ck) ∧ w'.cell? ⟨cb, 5, none⟩ = some (.slice Av nv cv) ∧ w'.cell? ⟨cb, 6, none⟩ = some (.slice As ns cs) ∧ w'.cell? ⟨cb, 7, none⟩ = some (.slice (some aw) 1 cw) ∧ w'.cell? aw = some (.slice (some az) nk cz) ∧ w'.cell? (az.add i) = some (.int .i64 zi) ∧ w'.cell? (ak.add i) = some (.slice (some am) nm cm) ∧ w'.cell? (am.add sk) = some (.int .i64 ms)) (by kernel_rfl) hS0 (fun hHeld => ?_)
       clear hS0 hbd b0 b1 b2 b3 d0 d1 d2 d3 d4 d5 d6 d7 x0 z0 y0 y1
       clear HB31 HNb31 HCb31 HIn31 HC31 HBl31 HBf31
       generalize w31.drew = w32 at *
       refine tkH 0 ?_; try go_simp
       refine tkH 1 ?_; try go_simp
       refine tkH 2 ?_; try go_simp
       refine tkH 3 ?_; try go_simp
       refine tkH 4 ?_; try go_simp
       refine tkH 5 ?_; try go_simp
       refine tkH 6 ?_; try go_simp
       refine tkH 7 ?_; try go_simp
       refine tkH 8 ?_; try go_simp
       refine tkH 9 ?_; try go_simp
       refine tkH 10 ?_; try go_simp
       refine tkU 11 ?_; try go_simp
       refine tkU 12 ?_; try go_simp
       refine tkU 13 ?_; try go_simp
       refine tkU 14 ?_; try go_simp
       refine tkU 15 ?_; try go_simp
       refine tkU 16 ?_; try go_simp
       refine tkU 17 ?_; try go_simp
       refine tkU 18 ?_; try go_simp
       refine tkU 19 ?_; try go_simp
       refine tkU 20 ?_; try go_simp
       refine tkU 21 ?_; try go_simp
       refine tkU 22 ?_; try go_simp
       refine tkU 23 ?_; try go_simp
       refine tkU 24 ?_; try go_simp
       refine tkU 25 ?_; try go_simp
       refine tkU 26 ?_; try go_simp
       refine tkU 27 ?_; try go_simp
       refine tkU 28 ?_; try go_simp
       refine tkU 29 ?_; try go_simp
       refine tkU 30 ?_; try go_simp
       refine tkU 31 ?_; try go_simp
       refine tkU 32 ?_; try go_simp
       refine tkU 33 ?_; try go_simp
       refine tkU 34 ?_; try go_simp
       refine tkU 35 ?_; try go_simp
       refine tkU 36 ?_; try go_simp
       refine tkU 37 ?_; try go_simp
       refine tkU 38 ?_; try go_simp
       refine tkU 39 ?_; try go_simp
       refine tkU 40 ?_; try go_simp
       refine tkU 41 ?_; try go_simp
       refine tkH 42 ?_; try go_simp
       refine wpAnyH_done (by kernel_rfl) ?_ _
       clear hHeld
       go_wp2_with fail
       go_ret
       exact ⟨ret_bool (by rw [HQ.out]; rfl), HB32.out⟩
     have p0 : (zi == 0) = false := by simpa using h0
     rw [decide_eq_false h0] at HMg
     clear h0
     by_cases h1 : zi < 0
     · have p1 : decide (zi < 0) = true := by simpa using h1
       rw [decide_eq_false (show ¬ 0 ≤ zi by omega)] at HMg
       clear h1
       rw [HNo.out (by rw [HMg.out]; rfl)] at HQ
       obtain ⟨b0, b1, b2, b3⟩ := HNb31.out.cells
       obtain ⟨d0, d1, d2, d3, d4, d5, d6, d7⟩ := HCb31.out.cells
       rw [HSk.out] at b3
       obtain ⟨az, haz, _, z0⟩ := (show ZIn w31 A1 Z from HZx.out.below HBl31.out) i hiZ
       subst haz
       rw [hzi] at z0
       have x0 : w31.cell? aw = some (.slice (some az) nk cz) := HX0.out.below HBl31.out
       have y0 : w31.cell? (ak.add i) = some (.slice Am nm cm) := HY0.out.below HBl31.out
       obtain ⟨am, ham, _, y1⟩ := (show ZIn w31 Am M from HZm.out.below HBl31.out) sk hskM
       subst ham
       rw [hms] at y1
       have hbd : Below w31.heap.size w31 w31.drew := (Below.refl _ _).drew
       have HB32 := hid (HB31.out.trans (hbd.mono HB31.out.size))
       have HNb32 := hid (HNb31.out.below hbd)
       have HCb32 := hid (HCb31.out.below hbd)
       have HIn32 := hid (HIn31.out.below hbd)
       have HC32 := hid (HC31.out.below hbd)
       have HBl32 := hid (HBl31.out.trans (hbd.mono HBl31.out.size))
       have HBf32 := hid (HBf31.out.trans (hbd.mono HBf31.out.size))
       have hS0 := And.intro (cell_stays hbd b0) (And.intro (cell_stays hbd b1) (And.intro (cell_stays hbd b2) (And.intro (cell_stays hbd b3) (And.intro (cell_stays hbd d0) (And.intro (cell_stays hbd d1) (And.intro (cell_stays hbd d2) (And.intro (cell_stays hbd d3) (And.intro (cell_stays hbd d4) (And.intro (cell_stays hbd d5) (And.intro (cell_stays hbd d6) (And.intro (cell_stays hbd d7) (And.intro (cell_stays hbd x0) (And.intro (cell_stays hbd z0) (And.intro (cell_stays hbd y0) ((cell_stays hbd y1))))))))))))))))
       refine wp_region_held_drew (S := fun w' => w'.cell? ⟨w.heap.size, 0, none⟩ = some (.int .i64 N.pl) ∧ w'.cell? ⟨w.heap.size, 1, none⟩ = some (.slice A n c) ∧ w'.cell? ⟨w.heap.size, 2, none⟩ = some (.int .i64 N.src) ∧ w'.cell? ⟨w.heap.size, 3, none⟩ = some (.int .i64 (sk : Int)) ∧ w'.cell? ⟨cb, 0, none⟩ = some (.int .i64 cl) ∧ w'.cell? ⟨cb, 1, none⟩ = some (.int .i64 cn) ∧ w'.cell? ⟨cb, 2, none⟩ = some (.slice Ar nr cr) ∧ w'.cell? ⟨cb, 3, none⟩ = some (.slice Ap np cp) ∧ w'.cell? ⟨cb, 4, none⟩ = some (.slice (some ak) nk ck) ∧ w'.cell? ⟨cb, 5, none⟩ = some (.slice Av nv cv) ∧ w'.cell? ⟨cb, 6, none⟩ = some (.slice As ns cs) ∧ w'.cell? ⟨cb, 7, none⟩ = some (.slice (some aw) 1 cw) ∧ w'.cell? aw = some (.slice (some az) nk cz) ∧ w'.cell? (az.add i) = some (.int .i64 zi) ∧ w'.cell? (ak.add i) = some (.slice (some am) nm cm) ∧ w'.cell? (am.add sk) = some (.int .i64 ms)) (by kernel_rfl) hS0 (fun hHeld => ?_)
       clear hS0 hbd b0 b1 b2 b3 d0 d1 d2 d3 d4 d5 d6 d7 x0 z0 y0 y1
       clear HB31 HNb31 HCb31 HIn31 HC31 HBl31 HBf31
       generalize w31.drew = w32 at *
       refine tkH 0 ?_; try go_simp
       refine tkH 1 ?_; try go_simp
       refine tkH 2 ?_; try go_simp
       refine tkH 3 ?_; try go_simp
       refine tkH 4 ?_; try go_simp
       refine tkH 5 ?_; try go_simp
       refine tkH 6 ?_; try go_simp
       refine tkH 7 ?_; try go_simp
       refine tkH 8 ?_; try go_simp
       refine tkH 9 ?_; try go_simp
       refine tkH 10 ?_; try go_simp
       refine tkH 11 ?_; try go_simp
       refine tkH 12 ?_; try go_simp
       refine tkH 13 ?_; try go_simp
       refine tkH 14 ?_; try go_simp
       refine tkH 15 ?_; try go_simp
       refine tkH 16 ?_; try go_simp
       refine tkH 17 ?_; try go_simp
       refine tkH 18 ?_; try go_simp
       refine tkH 19 ?_; try go_simp
       refine tkH 20 ?_; try go_simp
       refine tkH 21 ?_; try go_simp
       refine tkH 22 ?_; try go_simp
       refine tkU 23 ?_; try go_simp
       refine tkU 24 ?_; try go_simp
       refine tkU 25 ?_; try go_simp
       refine tkU 26 ?_; try go_simp
       refine tkU 27 ?_; try go_simp
       refine tkU 28 ?_; try go_simp
       refine tkU 29 ?_; try go_simp
       refine tkU 30 ?_; try go_simp
       refine tkU 31 ?_; try go_simp
       refine tkU 32 ?_; try go_simp
       refine tkH 33 ?_; try go_simp
       refine tkH 34 ?_; try go_simp
       refine tkU 35 ?_; try go_simp
       refine tkU 36 ?_; try go_simp
       refine tkU 37 ?_; try go_simp
       refine tkU 38 ?_; try go_simp
       refine tkU 39 ?_; try go_simp
       refine tkH 40 ?_; try go_simp
       refine tkH 41 ?_; try go_simp
       refine tkH 42 ?_; try go_simp
       refine wpAnyH_done (by kernel_rfl) ?_ _
       clear hHeld
       go_wp2_with fail
       go_ret
       exact ⟨ret_bool (by rw [HQ.out]; rfl), HB32.out⟩
     have p1 : decide (zi < 0) = false := by simpa using h1
     rw [decide_eq_true (show 0 ≤ zi by omega)] at HMg
     clear h1
     by_cases h2 : 0 < ms
     · have p2 : decide (0 < ms) = true := by simpa using h2
       rw [decide_eq_true h2] at HMg
       clear h2
       rw [HNo.out (by rw [HMg.out]; rfl)] at HQ
       obtain ⟨b0, b1, b2, b3⟩ := HNb31.out.cells
       obtain ⟨d0, d1, d2, d3, d4, d5, d6, d7⟩ := HCb31.out.cells
       rw [HSk.out] at b3
       obtain ⟨az, haz, _, z0⟩ := (show ZIn w31 A1 Z from HZx.out.below HBl31.out) i hiZ
       subst haz
       rw [hzi] at z0
       have x0 : w31.cell? aw = some (.slice (some az) nk cz) := HX0.out.below HBl31.out
       have y0 : w31.cell? (ak.add i) = some (.slice Am nm cm) := HY0.out.below HBl31.out
       obtain ⟨am, ham, _, y1⟩ := (show ZIn w31 Am M from HZm.out.below HBl31.out) sk hskM
       subst ham
       rw [hms] at y1
       have hbd : Below w31.heap.size w31 w31.drew := (Below.refl _ _).drew
       have HB32 := hid (HB31.out.trans (hbd.mono HB31.out.size))
       have HNb32 := hid (HNb31.out.below hbd)
       have HCb32 := hid (HCb31.out.below hbd)
       have HIn32 := hid (HIn31.out.below hbd)
       have HC32 := hid (HC31.out.below hbd)
       have HBl32 := hid (HBl31.out.trans (hbd.mono HBl31.out.size))
       have HBf32 := hid (HBf31.out.trans (hbd.mono HBf31.out.size))
       have hS0 := And.intro (cell_stays hbd b0) (And.intro (cell_stays hbd b1) (And.intro (cell_stays hbd b2) (And.intro (cell_stays hbd b3) (And.intro (cell_stays hbd d0) (And.intro (cell_stays hbd d1) (And.intro (cell_stays hbd d2) (And.intro (cell_stays hbd d3) (And.intro (cell_stays hbd d4) (And.intro (cell_stays hbd d5) (And.intro (cell_stays hbd d6) (And.intro (cell_stays hbd d7) (And.intro (cell_stays hbd x0) (And.intro (cell_stays hbd z0) (And.intro (cell_stays hbd y0) ((cell_stays hbd y1))))))))))))))))
       refine wp_region_held_drew (S := fun w' => w'.cell? ⟨w.heap.size, 0, none⟩ = some (.int .i64 N.pl) ∧ w'.cell? ⟨w.heap.size, 1, none⟩ = some (.slice A n c) ∧ w'.cell? ⟨w.heap.size, 2, none⟩ = some (.int .i64 N.src) ∧ w'.cell? ⟨w.heap.size, 3, none⟩ = some (.int .i64 (sk : Int)) ∧ w'.cell? ⟨cb, 0, none⟩ = some (.int .i64 cl) ∧ w'.cell? ⟨cb, 1, none⟩ = some (.int .i64 cn) ∧ w'.cell? ⟨cb, 2, none⟩ = some (.slice Ar nr cr) ∧ w'.cell? ⟨cb, 3, none⟩ = some (.slice Ap np cp) ∧ w'.cell? ⟨cb, 4, none⟩ = some (.slice (some ak) nk ck) ∧ w'.cell? ⟨cb, 5, none⟩ = some (.slice Av nv cv) ∧ w'.cell? ⟨cb, 6, none⟩ = some (.slice As ns cs) ∧ w'.cell? ⟨cb, 7, none⟩ = some (.slice (some aw) 1 cw) ∧ w'.cell? aw = some (.slice (some az) nk cz) ∧ w'.cell? (az.add i) = some (.int .i64 zi) ∧ w'.cell? (ak.add i) = some (.slice (some am) nm cm) ∧ w'.cell? (am.add sk) = some (.int .i64 ms)) (by kernel_rfl) hS0 (fun hHeld => ?_)
       clear hS0 hbd b0 b1 b2 b3 d0 d1 d2 d3 d4 d5 d6 d7 x0 z0 y0 y1
       clear HB31 HNb31 HCb31 HIn31 HC31 HBl31 HBf31
       generalize w31.drew = w32 at *
       refine tkH 0 ?_; try go_simp
       refine tkH 1 ?_; try go_simp
       refine tkH 2 ?_; try go_simp
       refine tkH 3 ?_; try go_simp
       refine tkH 4 ?_; try go_simp
       refine tkH 5 ?_; try go_simp
       refine tkH 6 ?_; try go_simp
       refine tkH 7 ?_; try go_simp
       refine tkH 8 ?_; try go_simp
       refine tkH 9 ?_; try go_simp
       refine tkH 10 ?_; try go_simp
       refine tkH 11 ?_; try go_simp
       refine tkH 12 ?_; try go_simp
       refine tkH 13 ?_; try go_simp
       refine tkH 14 ?_; try go_simp
       refine tkH 15 ?_; try go_simp
       refine tkH 16 ?_; try go_simp
       refine tkH 17 ?_; try go_simp
       refine tkH 18 ?_; try go_simp
       refine tkH 19 ?_; try go_simp
       refine tkH 20 ?_; try go_simp
       refine tkH 21 ?_; try go_simp
       refine tkH 22 ?_; try go_simp
       refine tkH 23 ?_; try go_simp
       refine tkH 24 ?_; try go_simp
       refine tkH 25 ?_; try go_simp
       refine tkH 26 ?_; try go_simp
       refine tkH 27 ?_; try go_simp
       refine tkH 28 ?_; try go_simp
       refine tkH 29 ?_; try go_simp
       refine tkH 30 ?_; try go_simp
       refine tkH 31 ?_; try go_simp
       refine tkH 32 ?_; try go_simp
       refine tkH 33 ?_; try go_simp
       refine tkH 34 ?_; try go_simp
       refine tkU 35 ?_; try go_simp
       refine tkU 36 ?_; try go_simp
       refine tkU 37 ?_; try go_simp
       refine tkU 38 ?_; try go_simp
       refine tkU 39 ?_; try go_simp
       refine tkH 40 ?_; try go_simp
       refine tkH 41 ?_; try go_simp
       refine tkH 42 ?_; try go_simp
       refine wpAnyH_done (by kernel_rfl) ?_ _
       clear hHeld
       go_wp2_with fail
       go_ret
       exact ⟨ret_bool (by rw [HQ.out]; rfl), HB32.out⟩
     have p2 : decide (0 < ms) = false := by simpa using h2
     rw [decide_eq_false h2] at HMg
     clear h2
     cases hne : N.tr.any (nearR K Z i) with
     | false =>
      rw [hne] at HMg
      have HNe := hid hne
      clear hne
      rw [HNo.out (by rw [HMg.out]; rfl)] at HQ
      obtain ⟨b0, b1, b2, b3⟩ := HNb31.out.cells
      obtain ⟨d0, d1, d2, d3, d4, d5, d6, d7⟩ := HCb31.out.cells
      rw [HSk.out] at b3
      obtain ⟨az, haz, _, z0⟩ := (show ZIn w31 A1 Z from HZx.out.below HBl31.out) i hiZ
      subst haz
      rw [hzi] at z0
      have x0 : w31.cell? aw = some (.slice (some az) nk cz) := HX0.out.below HBl31.out
      have y0 : w31.cell? (ak.add i) = some (.slice Am nm cm) := HY0.out.below HBl31.out
      obtain ⟨am, ham, _, y1⟩ := (show ZIn w31 Am M from HZm.out.below HBl31.out) sk hskM
      subst ham
      rw [hms] at y1
      have hbd : Below w31.heap.size w31 w31.drew := (Below.refl _ _).drew
      have HB32 := hid (HB31.out.trans (hbd.mono HB31.out.size))
      have HNb32 := hid (HNb31.out.below hbd)
      have HCb32 := hid (HCb31.out.below hbd)
      have HIn32 := hid (HIn31.out.below hbd)
      have HC32 := hid (HC31.out.below hbd)
      have HBl32 := hid (HBl31.out.trans (hbd.mono HBl31.out.size))
      have HBf32 := hid (HBf31.out.trans (hbd.mono HBf31.out.size))
      have hS0 := And.intro (cell_stays hbd b0) (And.intro (cell_stays hbd b1) (And.intro (cell_stays hbd b2) (And.intro (cell_stays hbd b3) (And.intro (cell_stays hbd d0) (And.intro (cell_stays hbd d1) (And.intro (cell_stays hbd d2) (And.intro (cell_stays hbd d3) (And.intro (cell_stays hbd d4) (And.intro (cell_stays hbd d5) (And.intro (cell_stays hbd d6) (And.intro (cell_stays hbd d7) (And.intro (cell_stays hbd x0) (And.intro (cell_stays hbd z0) (And.intro (cell_stays hbd y0) ((cell_stays hbd y1))))))))))))))))
      refine wp_region_held_drew (S := fun w' => w'.cell? ⟨w.heap.size, 0, none⟩ = some (.int .i64 N.pl) ∧ w'.cell? ⟨w.heap.size, 1, none⟩ = some (.slice A n c) ∧ w'.cell? ⟨w.heap.size, 2, none⟩ = some (.int .i64 N.src) ∧ w'.cell? ⟨w.heap.size, 3, none⟩ = some (.int .i64 (sk : Int)) ∧ w'.cell? ⟨cb, 0, none⟩ = some (.int .i64 cl) ∧ w'.cell? ⟨cb, 1, none⟩ = some (.int .i64 cn) ∧ w'.cell? ⟨cb, 2, none⟩ = some (.slice Ar nr cr) ∧ w'.cell? ⟨cb, 3, none⟩ = some (.slice Ap np cp) ∧ w'.cell? ⟨cb, 4, none⟩ = some (.slice (some ak) nk ck) ∧ w'.cell? ⟨cb, 5, none⟩ = some (.slice Av nv cv) ∧ w'.cell? ⟨cb, 6, none⟩ = some (.slice As ns cs) ∧ w'.cell? ⟨cb, 7, none⟩ = some (.slice (some aw) 1 cw) ∧ w'.cell? aw = some (.slice (some az) nk cz) ∧ w'.cell? (az.add i) = some (.int .i64 zi) ∧ w'.cell? (ak.add i) = some (.slice (some am) nm cm) ∧ w'.cell? (am.add sk) = some (.int .i64 ms)) (by kernel_rfl) hS0 (fun hHeld => ?_)
      clear hS0 hbd b0 b1 b2 b3 d0 d1 d2 d3 d4 d5 d6 d7 x0 z0 y0 y1
      clear HB31 HNb31 HCb31 HIn31 HC31 HBl31 HBf31
      generalize w31.drew = w32 at *
      refine tkH 0 ?_; try go_simp
      refine tkH 1 ?_; try go_simp
      refine tkH 2 ?_; try go_simp
      refine tkH 3 ?_; try go_simp
      refine tkH 4 ?_; try go_simp
      refine tkH 5 ?_; try go_simp
      refine tkH 6 ?_; try go_simp
      refine tkH 7 ?_; try go_simp
      refine tkH 8 ?_; try go_simp
      refine tkH 9 ?_; try go_simp
      refine tkH 10 ?_; try go_simp
      refine tkH 11 ?_; try go_simp
      refine tkH 12 ?_; try go_simp
      refine tkH 13 ?_; try go_simp
      refine tkH 14 ?_; try go_simp
      refine tkH 15 ?_; try go_simp
      refine tkH 16 ?_; try go_simp
      refine tkH 17 ?_; try go_simp
      refine tkH 18 ?_; try go_simp
      refine tkH 19 ?_; try go_simp
      refine tkH 20 ?_; try go_simp
      refine tkH 21 ?_; try go_simp
      refine tkH 22 ?_; try go_simp
      refine tkH 23 ?_; try go_simp
      refine tkH 24 ?_; try go_simp
      refine tkH 25 ?_; try go_simp
      refine tkH 26 ?_; try go_simp
      refine tkH 27 ?_; try go_simp
      refine tkH 28 ?_; try go_simp
      refine tkH 29 ?_; try go_simp
      refine tkH 30 ?_; try go_simp
      refine tkH 31 ?_; try go_simp
      refine tkH 32 ?_; try go_simp
      refine tkH 33 ?_; try go_simp
      refine tkH 34 ?_; try go_simp
      refine tkH 35 ?_; try go_simp
      refine tkH 36 ?_; try go_simp
      refine tkH 37 ?_; try go_simp
      refine tkR 38 (fun K9 hK => ?_)
      go_simp
      rw [← HSk.out]
      have HNr := hid (nearer28_any N A n c cl cn Ar nr cr R Ap np cp P (some ak) nk ck K Av nv cv V As ns cs S (some aw) 1 cw Z i w32 HIn32.out HNl.out HV.out HC32.out HMk.out hiK HZl.out)
      rw [HNe.out] at HNr
      ((refine (HNr.out).mono ?_); rintro e w33 ⟨rfl, hb33⟩)
      have hS9 := hHeld
      refine hK.out _ _ ⟨cell_stays hb33 hS9.1, cell_stays hb33 hS9.2.1, cell_stays hb33 hS9.2.2.1, cell_stays hb33 hS9.2.2.2.1, cell_stays hb33 hS9.2.2.2.2.1, cell_stays hb33 hS9.2.2.2.2.2.1, cell_stays hb33 hS9.2.2.2.2.2.2.1, cell_stays hb33 hS9.2.2.2.2.2.2.2.1, cell_stays hb33 hS9.2.2.2.2.2.2.2.2.1, cell_stays hb33 hS9.2.2.2.2.2.2.2.2.2.1, cell_stays hb33 hS9.2.2.2.2.2.2.2.2.2.2.1, cell_stays hb33 hS9.2.2.2.2.2.2.2.2.2.2.2.1, cell_stays hb33 hS9.2.2.2.2.2.2.2.2.2.2.2.2.1, cell_stays hb33 hS9.2.2.2.2.2.2.2.2.2.2.2.2.2.1, cell_stays hb33 hS9.2.2.2.2.2.2.2.2.2.2.2.2.2.2.1, cell_stays hb33 hS9.2.2.2.2.2.2.2.2.2.2.2.2.2.2.2⟩ (fun hHeld => ?_)
      clear hK K9 hS9
      try go_simp
      have HB33 := hid (HB32.out.trans (hb33.mono HB32.out.size))
      have HNb33 := hid (HNb32.out.below hb33)
      have HCb33 := hid (HCb32.out.below hb33)
      have HIn33 := hid (HIn32.out.below hb33)
      have HC33 := hid (HC32.out.below hb33)
      have HBl33 := hid (HBl32.out.trans (hb33.mono HBl32.out.size))
      have HBf33 := hid (HBf32.out.trans (hb33.mono HBf32.out.size))
      clear HB32 HNb32 HCb32 HIn32 HC32 HBl32 HBf32
      clear HNr
      clear hb33
      refine tkH 39 ?_; try go_simp
      refine tkH 40 ?_; try go_simp
      refine tkH 41 ?_; try go_simp
      refine tkH 42 ?_; try go_simp
      refine wpAnyH_done (by kernel_rfl) ?_ _
      clear hHeld
      go_wp2_with fail
      go_ret
      exact ⟨ret_bool (by rw [HQ.out]; rfl), HB33.out⟩
     | true =>
      rw [hne] at HMg
      have HNe := hid hne
      clear hne
      have HGd := hid (show mrkR N K Z i = true by rw [HMg.out]; rfl)
      obtain ⟨b0, b1, b2, b3⟩ := HNb31.out.cells
      obtain ⟨d0, d1, d2, d3, d4, d5, d6, d7⟩ := HCb31.out.cells
      rw [HSk.out] at b3
      obtain ⟨az, haz, _, z0⟩ := (show ZIn w31 A1 Z from HZx.out.below HBl31.out) i hiZ
      subst haz
      rw [hzi] at z0
      have x0 : w31.cell? aw = some (.slice (some az) nk cz) := HX0.out.below HBl31.out
      have y0 : w31.cell? (ak.add i) = some (.slice Am nm cm) := HY0.out.below HBl31.out
      obtain ⟨am, ham, _, y1⟩ := (show ZIn w31 Am M from HZm.out.below HBl31.out) sk hskM
      subst ham
      rw [hms] at y1
      have hbd : Below w31.heap.size w31 w31.drew := (Below.refl _ _).drew
      have HB32 := hid (HB31.out.trans (hbd.mono HB31.out.size))
      have HNb32 := hid (HNb31.out.below hbd)
      have HCb32 := hid (HCb31.out.below hbd)
      have HIn32 := hid (HIn31.out.below hbd)
      have HC32 := hid (HC31.out.below hbd)
      have HBl32 := hid (HBl31.out.trans (hbd.mono HBl31.out.size))
      have HBf32 := hid (HBf31.out.trans (hbd.mono HBf31.out.size))
      have hS0 := And.intro (cell_stays hbd b0) (And.intro (cell_stays hbd b1) (And.intro (cell_stays hbd b2) (And.intro (cell_stays hbd b3) (And.intro (cell_stays hbd d0) (And.intro (cell_stays hbd d1) (And.intro (cell_stays hbd d2) (And.intro (cell_stays hbd d3) (And.intro (cell_stays hbd d4) (And.intro (cell_stays hbd d5) (And.intro (cell_stays hbd d6) (And.intro (cell_stays hbd d7) (And.intro (cell_stays hbd x0) (And.intro (cell_stays hbd z0) (And.intro (cell_stays hbd y0) ((cell_stays hbd y1))))))))))))))))
      refine wp_region_held_drew (S := fun w' => w'.cell? ⟨w.heap.size, 0, none⟩ = some (.int .i64 N.pl) ∧ w'.cell? ⟨w.heap.size, 1, none⟩ = some (.slice A n c) ∧ w'.cell? ⟨w.heap.size, 2, none⟩ = some (.int .i64 N.src) ∧ w'.cell? ⟨w.heap.size, 3, none⟩ = some (.int .i64 (sk : Int)) ∧ w'.cell? ⟨cb, 0, none⟩ = some (.int .i64 cl) ∧ w'.cell? ⟨cb, 1, none⟩ = some (.int .i64 cn) ∧ w'.cell? ⟨cb, 2, none⟩ = some (.slice Ar nr cr) ∧ w'.cell? ⟨cb, 3, none⟩ = some (.slice Ap np cp) ∧ w'.cell? ⟨cb, 4, none⟩ = some (.slice (some ak) nk ck) ∧ w'.cell? ⟨cb, 5, none⟩ = some (.slice Av nv cv) ∧ w'.cell? ⟨cb, 6, none⟩ = some (.slice As ns cs) ∧ w'.cell? ⟨cb, 7, none⟩ = some (.slice (some aw) 1 cw) ∧ w'.cell? aw = some (.slice (some az) nk cz) ∧ w'.cell? (az.add i) = some (.int .i64 zi) ∧ w'.cell? (ak.add i) = some (.slice (some am) nm cm) ∧ w'.cell? (am.add sk) = some (.int .i64 ms)) (by kernel_rfl) hS0 (fun hHeld => ?_)
      clear hS0 hbd b0 b1 b2 b3 d0 d1 d2 d3 d4 d5 d6 d7 x0 z0 y0 y1
      clear HB31 HNb31 HCb31 HIn31 HC31 HBl31 HBf31
      generalize w31.drew = w32 at *
      refine tkH 0 ?_; try go_simp
      refine tkH 1 ?_; try go_simp
      refine tkH 2 ?_; try go_simp
      refine tkH 3 ?_; try go_simp
      refine tkH 4 ?_; try go_simp
      refine tkH 5 ?_; try go_simp
      refine tkH 6 ?_; try go_simp
      refine tkH 7 ?_; try go_simp
      refine tkH 8 ?_; try go_simp
      refine tkH 9 ?_; try go_simp
      refine tkH 10 ?_; try go_simp
      refine tkH 11 ?_; try go_simp
      refine tkH 12 ?_; try go_simp
      refine tkH 13 ?_; try go_simp
      refine tkH 14 ?_; try go_simp
      refine tkH 15 ?_; try go_simp
      refine tkH 16 ?_; try go_simp
      refine tkH 17 ?_; try go_simp
      refine tkH 18 ?_; try go_simp
      refine tkH 19 ?_; try go_simp
      refine tkH 20 ?_; try go_simp
      refine tkH 21 ?_; try go_simp
      refine tkH 22 ?_; try go_simp
      refine tkH 23 ?_; try go_simp
      refine tkH 24 ?_; try go_simp
      refine tkH 25 ?_; try go_simp
      refine tkH 26 ?_; try go_simp
      refine tkH 27 ?_; try go_simp
      refine tkH 28 ?_; try go_simp
      refine tkH 29 ?_; try go_simp
      refine tkH 30 ?_; try go_simp
      refine tkH 31 ?_; try go_simp
      refine tkH 32 ?_; try go_simp
      refine tkH 33 ?_; try go_simp
      refine tkH 34 ?_; try go_simp
      refine tkH 35 ?_; try go_simp
      refine tkH 36 ?_; try go_simp
      refine tkH 37 ?_; try go_simp
      refine tkR 38 (fun K9 hK => ?_)
      go_simp
      rw [← HSk.out]
      have HNr := hid (nearer28_any N A n c cl cn Ar nr cr R Ap np cp P (some ak) nk ck K Av nv cv V As ns cs S (some aw) 1 cw Z i w32 HIn32.out HNl.out HV.out HC32.out HMk.out hiK HZl.out)
      rw [HNe.out] at HNr
      ((refine (HNr.out).mono ?_); rintro e w33 ⟨rfl, hb33⟩)
      have hS9 := hHeld
      refine hK.out _ _ ⟨cell_stays hb33 hS9.1, cell_stays hb33 hS9.2.1, cell_stays hb33 hS9.2.2.1, cell_stays hb33 hS9.2.2.2.1, cell_stays hb33 hS9.2.2.2.2.1, cell_stays hb33 hS9.2.2.2.2.2.1, cell_stays hb33 hS9.2.2.2.2.2.2.1, cell_stays hb33 hS9.2.2.2.2.2.2.2.1, cell_stays hb33 hS9.2.2.2.2.2.2.2.2.1, cell_stays hb33 hS9.2.2.2.2.2.2.2.2.2.1, cell_stays hb33 hS9.2.2.2.2.2.2.2.2.2.2.1, cell_stays hb33 hS9.2.2.2.2.2.2.2.2.2.2.2.1, cell_stays hb33 hS9.2.2.2.2.2.2.2.2.2.2.2.2.1, cell_stays hb33 hS9.2.2.2.2.2.2.2.2.2.2.2.2.2.1, cell_stays hb33 hS9.2.2.2.2.2.2.2.2.2.2.2.2.2.2.1, cell_stays hb33 hS9.2.2.2.2.2.2.2.2.2.2.2.2.2.2.2⟩ (fun hHeld => ?_)
      clear hK K9 hS9
      try go_simp
      have HB33 := hid (HB32.out.trans (hb33.mono HB32.out.size))
      have HNb33 := hid (HNb32.out.below hb33)
      have HCb33 := hid (HCb32.out.below hb33)
      have HIn33 := hid (HIn32.out.below hb33)
      have HC33 := hid (HC32.out.below hb33)
      have HBl33 := hid (HBl32.out.trans (hb33.mono HBl32.out.size))
      have HBf33 := hid (HBf32.out.trans (hb33.mono HBf32.out.size))
      clear HB32 HNb32 HCb32 HIn32 HC32 HBl32 HBf32
      clear HNr
      clear hb33
      refine tkH 39 ?_; try go_simp
      refine tkH 40 ?_; try go_simp
      refine tkH 41 ?_; try go_simp
      refine tkH 42 ?_; try go_simp
      refine wpAnyH_done (by kernel_rfl) ?_ _
      clear hHeld
      go_wp2_with fail
      go_roundg (gk - 1)
      case measure => have := HI.out; omega
      case rel => exact ⟨i + 1, by have := HI.out; omega, by go_num, by rw [HSt.out, HP.out, HGd.out]; rfl, HBl33.out, HBf33.out⟩
  · have hE : (List.range nk).all (mrkR N K Z) = true := by
     have := HP.out
     rwa [show i = nk by omega] at this
    rw [hE] at HQ
    clear hE
    obtain ⟨b0, b1, b2, b3⟩ := HNb30.out.cells
    obtain ⟨d0, d1, d2, d3, d4, d5, d6, d7⟩ := HCb30.out.cells
    go_wp2_with fail
    clear b0 b1 b2 b3 d0 d1 d2 d3 d4 d5 d6 d7 hle hlt HI HP
    go_loopg [8] (n) (fun g jv wy => ∃ j : Nat, j + g = n ∧ jv = .int .i64 (j : Int) ∧ (List.range j).all (fun t => !(nevB N K (t : Int))) = true ∧ Below w0.heap.size w0 wy)
    case atStart => exact ⟨0, by omega, rfl, rfl, HBl30.out⟩
    case round =>
     clear HB30 HNb30 HCb30 HIn30 HC30 HBl30
     obtain ⟨j, hj, rfl, hp, hB⟩ := hrel
     have HJ := hid hj
     have HP := hid hp
     have HBl40 := hid hB
     have hle : j ≤ n := by omega
     clear hj hp hB
     obtain ⟨w40, rfl⟩ : ∃ w40, w40 = wr := ⟨_, rfl⟩
     have HB40 := hid (HB0.out.trans (HBl40.out.mono HB0.out.size))
     have HNb40 := hid (HNb0.out.below HBl40.out)
     have HCb40 := hid (HCb0.out.below HBl40.out)
     have HIn40 := hid (HIn0.out.below HBl40.out)
     have HC40 := hid (HC0.out.below HBl40.out)
     obtain ⟨b0, b1, b2, b3⟩ := HNb40.out.cells
     obtain ⟨d0, d1, d2, d3, d4, d5, d6, d7⟩ := HCb40.out.cells
     by_cases hjt : j < n
     · have HSt := hid (range_step (fun t => !(nevB N K (t : Int))) j)
       have HNo := hid (fun hh => range_no (fun t => !(nevB N K (t : Int))) (n := N.tr.length) (k := j) (by rw [HNl.out]; exact hjt) hh)
       have HNv := hid (never28_any N A n c Ak nk ck K (j : Int) w40 HIn40.out HNl.out HV.out HC40.out.k HC40.out.kl HC40.out.kb (fun s hs => mkX_len (HAll.out s hs)))
       cases hne : nevB N K (j : Int) with
       | true =>
        rw [hne] at HNv
        rw [HNo.out (by show (!(nevB N K (j : Int))) = false; rw [hne]; rfl)] at HQ
        clear hne
        go_wp2_with fail
        ((with_reducible refine HNv.out.mono ?_); rintro e w41 ⟨rfl, hb41⟩)
        have HB41 := hid (HB40.out.trans (hb41.mono HB40.out.size))
        clear hb41 b0 b1 b2 b3 d0 d1 d2 d3 d4 d5 d6 d7
        go_wp2_with fail
        go_ret
        exact ⟨ret_bool (by rw [HQ.out]; rfl), HB41.out⟩
       | false =>
        rw [hne] at HNv
        have HGd := hid (show (!(nevB N K (j : Int))) = true by rw [hne]; rfl)
        clear hne
        go_wp2_with fail
        ((with_reducible refine HNv.out.mono ?_); rintro e w41 ⟨rfl, hb41⟩)
        have HBl41 := hid (HBl40.out.trans (hb41.mono HBl40.out.size))
        clear hb41 b0 b1 b2 b3 d0 d1 d2 d3 d4 d5 d6 d7
        go_wp2_with fail
        go_roundg (gk - 1)
        case measure => have := HJ.out; omega
        case rel => exact ⟨j + 1, by have := HJ.out; omega, by go_num, by rw [HSt.out, HP.out]; exact HGd.out, HBl41.out⟩
     · have hE : (List.range N.tr.length).all (fun t => !(nevB N K (t : Int))) = true := by
        have := HP.out
        rwa [show j = N.tr.length by rw [HNl.out]; omega] at this
       rw [hE] at HQ
       go_wp2_with fail
       go_ret
       exact ⟨ret_bool (by rw [HQ.out]; rfl), HB40.out⟩
end Go.Proofs.YtpnhcimmlnjfaaaGreatDoor
