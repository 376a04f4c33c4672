/- notRelaxed of reference 28: what a call returns. -/
import Derived.Test.YtpnhcimmlnjfaaaGreatDoorUt
import Derived.Test.YtpnhcimmlnjfaaaGreatDoorYf
namespace Go.Proofs.YtpnhcimmlnjfaaaGreatDoor
open Go.Lib (hid)
open Go.RowKit

/-- where a transition is enabled, firing it leads into a part: the reference's way -/
def nrkR (L : List (List Int)) (T : Tr) (m : List Int) : Bool := !(canT T m) || (!(bigM (fireT T m)) && !(decide (findR L (fireT T m) < 0)))
/-- the certificate proves that a net is not relaxed sound: the reference's way -/
def nrlR (N : Nt) (cn : Int) (K S : List (List Int)) : Bool :=
 trnB N cn && (mksX N.pl false K && (!(decide (findR K (iniM N) < 0)) && (closX N K && (decide (S.length = 1) && ((S.headD []).all (okIx K) && (closX N (lostL K (S.headD [])) && (decide (findR (lostL K (S.headD [])) (finM N) < 0) && K.all (nrkR (lostL K (S.headD [])) (trAtN N cn)))))))))
theorem rowInfo3 : (Tryz.prog.info? 25).map (fun i => (i.zero, i.size, i.bytes)) = some (some (.slice none 0 0), 1, 24) := by kernel_rfl
set_option maxHeartbeats 25600000 in
set_option maxRecDepth 100000 in
theorem notRelaxed28_any (N : Nt) (A : Option Addr) (n c : Nat) (cl cn : Int) (Ar : Option Addr) (nr cr : Nat) (R : List Int) (Ap : Option Addr) (np cp : Nat) (P : List Int) (Ak : Option Addr) (nk ck : Nat) (K : List (List Int)) (Av : Option Addr) (nv cv : Nat) (V : List Mv) (As : Option Addr) (ns cs : Nat) (S : List (List Int)) (Aw : Option Addr) (nw cw : Nat) (X : List (List Int)) (w : World) (h : NtIn w A N) (hn : N.tr.length = n) (hv : ntB N = true) (hC : CfM w Ar nr R Ap np P Ak nk K Av nv V As ns S Aw nw X) (hk2 : nk ≤ 2000) (hI6 : ∀ I ∈ S, ∀ ni : Nat, I.length = ni → ni ≤ 1000) :
 Calls Tryz.prog 81 #[.agg #[.int .i64 N.pl, .slice A n c, .int .i64 N.src, .int .i64 N.snk], .agg #[.int .i64 cl, .int .i64 cn, .slice Ar nr cr, .slice Ap np cp, .slice Ak nk ck, .slice Av nv cv, .slice As ns cs, .slice Aw nw cw]] w fun e w' => e = .returned (.bool (nrlR N cn K S)) ∧ Below w.heap.size w w' := by
 have HB0 := hid (two_boxes w (.cells #[.int .i64 N.pl, .slice A n c, .int .i64 N.src, .int .i64 N.snk] 24) (.cells #[.int .i64 cl, .int .i64 cn, .slice Ar nr cr, .slice Ap np cp, .slice Ak nk ck, .slice Av nv cv, .slice As ns cs, .slice Aw nw cw] 29))
 have HNb0 := hid ((NB.new w N.pl A n c N.src N.snk).below (below_alloc _ (.cells #[.int .i64 cl, .int .i64 cn, .slice Ar nr cr, .slice Ap np cp, .slice Ak nk ck, .slice Av nv cv, .slice As ns cs, .slice Aw nw cw] 29)))
 have hcb := heap_alloc_new (w.alloc (.cells #[.int .i64 N.pl, .slice A n c, .int .i64 N.src, .int .i64 N.snk] 24)) (.cells #[.int .i64 cl, .int .i64 cn, .slice Ar nr cr, .slice Ap np cp, .slice Ak nk ck, .slice Av nv cv, .slice As ns cs, .slice Aw nw cw] 29)
 rw [World.size_alloc] at hcb
 have HCb0 := hid (show CtB _ (w.heap.size + 1) #[.int .i64 cl, .int .i64 cn, .slice Ar nr cr, .slice Ap np cp, .slice Ak nk ck, .slice Av nv cv, .slice As ns cs, .slice Aw nw cw] from hcb)
 have HIn0 := hid (h.below HB0.out)
 have HC0 := hid (hC.below HB0.out)
 have HNl := hid hn
 have HV := hid hv
 have hps := nt_small hv
 have hn60 : n ≤ 60 := by omega
 obtain ⟨Q, hQ⟩ : ∃ Q, Q = nrlR N cn K S := ⟨_, rfl⟩
 rw [← hQ]
 unfold nrlR at hQ
 have HQ := hid hQ
 clear hQ
 have hpls := nt_src hv
 have hpl40 : N.pl ≤ 40 := hps.2.1
 have hpl1 : 1 ≤ N.pl := hps.1
 replace hI6 := hid hI6
 clear h hn hv hC hps hcb
 go_enter Tryz.func81, Tryz.ntmps81
 go_wp2_with fail
 generalize (w.alloc (.cells #[.int .i64 N.pl, .slice A n c, .int .i64 N.src, .int .i64 N.snk] 24)).alloc (.cells #[.int .i64 cl, .int .i64 cn, .slice Ar nr cr, .slice Ap np cp, .slice Ak nk ck, .slice Av nv cv, .slice As ns cs, .slice Aw nw cw] 29) = w0 at *
 generalize w.heap.size + 1 = cb at *
 have HBl0 := hid (Below.refl w0.heap.size w0)
 by_cases hc0 : cn < 0
 · have p0 : decide (cn < 0) = true := by simpa using hc0
   rw [show trnB N cn = false by unfold trnB; rw [decide_eq_false (by omega)]; rfl] at HQ
   clear hc0
   obtain ⟨b0, b1, b2, b3⟩ := HNb0.out.cells
   obtain ⟨d0, d1, d2, d3, d4, d5, d6, d7⟩ := HCb0.out.cells
   have hbd : Below w0.heap.size w0 w0.drew := (Below.refl _ _).drew
   have HB1 := hid (HB0.out.trans (hbd.mono HB0.out.size))
   have HNb1 := hid (HNb0.out.below hbd)
   have HCb1 := hid (HCb0.out.below hbd)
   have HIn1 := hid (HIn0.out.below hbd)
   have HC1 := hid (HC0.out.below hbd)
   have HBl1 := hid (HBl0.out.trans (hbd.mono HBl0.out.size))
   have hS0 := And.intro (cell_stays hbd b0) (And.intro (cell_stays hbd b1) (And.intro (cell_stays hbd b2) (And.intro (cell_stays hbd b3) (And.intro (cell_stays hbd d0) (And.intro (cell_stays hbd d1) (And.intro (cell_stays hbd d2) (And.intro (cell_stays hbd d3) (And.intro (cell_stays hbd d4) (And.intro (cell_stays hbd d5) (And.intro (cell_stays hbd d6) ((cell_stays hbd d7))))))))))))
   refine wp_region_held_drew (S := fun w' => w'.cell? ⟨w.heap.size, 0, none⟩ = some (.int .i64 N.pl) ∧ w'.cell? ⟨w.heap.size, 1, none⟩ = some (.slice A n c) ∧ w'.cell? ⟨w.heap.size, 2, none⟩ = some (.int .i64 N.src) ∧ w'.cell? ⟨w.heap.size, 3, none⟩ = some (.int .i64 N.snk) ∧ w'.cell? ⟨cb, 0, none⟩ = some (.int .i64 cl) ∧ w'.cell? ⟨cb, 1, none⟩ = some (.int .i64 cn) ∧ w'.cell? ⟨cb, 2, none⟩ = some (.slice Ar nr cr) ∧ w'.cell? ⟨cb, 3, none⟩ = some (.slice Ap np cp) ∧ w'.cell? ⟨cb, 4, none⟩ = some (.slice Ak nk ck) ∧ w'.cell? ⟨cb, 5, none⟩ = some (.slice Av nv cv) ∧ w'.cell? ⟨cb, 6, none⟩ = some (.slice As ns cs) ∧ w'.cell? ⟨cb, 7, none⟩ = some (.slice Aw nw cw)) (by kernel_rfl) hS0 (fun hHeld => ?_)
   clear hS0 hbd b0 b1 b2 b3 d0 d1 d2 d3 d4 d5 d6 d7
   clear HB0 HNb0 HCb0 HIn0 HC0 HBl0
   generalize w0.drew = w1 at *
   refine tkH 0 ?_; try go_simp
   refine tkH 1 ?_; try go_simp
   refine tkH 2 ?_; try go_simp
   refine tkH 3 ?_; try go_simp
   refine tkU 4 ?_; try go_simp
   refine tkU 5 ?_; try go_simp
   refine tkU 6 ?_; try go_simp
   refine tkU 7 ?_; try go_simp
   refine tkU 8 ?_; try go_simp
   refine tkU 9 ?_; try go_simp
   refine tkH 10 ?_; try go_simp
   refine tkH 11 ?_; try go_simp
   refine tkU 12 ?_; try go_simp
   refine tkU 13 ?_; try go_simp
   refine tkU 14 ?_; try go_simp
   refine tkU 15 ?_; try go_simp
   refine tkU 16 ?_; try go_simp
   refine tkH 17 ?_; try go_simp
   refine tkH 18 ?_; try go_simp
   refine tkU 19 ?_; try go_simp
   refine tkU 20 ?_; try go_simp
   refine tkU 21 ?_; try go_simp
   refine tkU 22 ?_; try go_simp
   refine tkU 23 ?_; try go_simp
   refine tkU 24 ?_; try go_simp
   refine tkH 25 ?_; try go_simp
   refine tkH 26 ?_; try go_simp
   refine tkU 27 ?_; try go_simp
   refine tkU 28 ?_; try go_simp
   refine tkU 29 ?_; try go_simp
   refine tkU 30 ?_; try go_simp
   refine tkU 31 ?_; try go_simp
   refine tkH 32 ?_; try go_simp
   refine tkH 33 ?_; try go_simp
   refine tkU 34 ?_; try go_simp
   refine tkU 35 ?_; try go_simp
   refine tkU 36 ?_; try go_simp
   refine tkU 37 ?_; try go_simp
   refine tkH 38 ?_; try go_simp
   refine wpAnyH_done (by kernel_rfl) ?_ _
   clear hHeld
   go_wp2_with fail
   go_ret
   exact ⟨ret_bool (by rw [HQ.out]; try first | rfl | simp), HB1.out⟩
 have p0 : decide (cn < 0) = false := by simpa using hc0
 by_cases hc1 : (n : Int) ≤ cn
 · have p1 : decide ((n : Int) ≤ cn) = true := by simpa using hc1
   rw [show trnB N cn = false by unfold trnB; rw [HNl.out, decide_eq_false (show ¬ cn < (n : Int) by omega), Bool.and_false]] at HQ
   clear hc0 hc1
   obtain ⟨b0, b1, b2, b3⟩ := HNb0.out.cells
   obtain ⟨d0, d1, d2, d3, d4, d5, d6, d7⟩ := HCb0.out.cells
   have hbd : Below w0.heap.size w0 w0.drew := (Below.refl _ _).drew
   have HB1 := hid (HB0.out.trans (hbd.mono HB0.out.size))
   have HNb1 := hid (HNb0.out.below hbd)
   have HCb1 := hid (HCb0.out.below hbd)
   have HIn1 := hid (HIn0.out.below hbd)
   have HC1 := hid (HC0.out.below hbd)
   have HBl1 := hid (HBl0.out.trans (hbd.mono HBl0.out.size))
   have hS0 := And.intro (cell_stays hbd b0) (And.intro (cell_stays hbd b1) (And.intro (cell_stays hbd b2) (And.intro (cell_stays hbd b3) (And.intro (cell_stays hbd d0) (And.intro (cell_stays hbd d1) (And.intro (cell_stays hbd d2) (And.intro (cell_stays hbd d3) (And.intro (cell_stays hbd d4) (And.intro (cell_stays hbd d5) (And.intro (cell_stays hbd d6) ((cell_stays hbd d7))))))))))))
   refine wp_region_held_drew (S := fun w' => w'.cell? ⟨w.heap.size, 0, none⟩ = some (.int .i64 N.pl) ∧ w'.cell? ⟨w.heap.size, 1, none⟩ = some (.slice A n c) ∧ w'.cell? ⟨w.heap.size, 2, none⟩ = some (.int .i64 N.src) ∧ w'.cell? ⟨w.heap.size, 3, none⟩ = some (.int .i64 N.snk) ∧ w'.cell? ⟨cb, 0, none⟩ = some (.int .i64 cl) ∧ w'.cell? ⟨cb, 1, none⟩ = some (.int .i64 cn) ∧ w'.cell? ⟨cb, 2, none⟩ = some (.slice Ar nr cr) ∧ w'.cell? ⟨cb, 3, none⟩ = some (.slice Ap np cp) ∧ w'.cell? ⟨cb, 4, none⟩ = some (.slice Ak nk ck) ∧ w'.cell? ⟨cb, 5, none⟩ = some (.slice Av nv cv) ∧ w'.cell? ⟨cb, 6, none⟩ = some (.slice As ns cs) ∧ w'.cell? ⟨cb, 7, none⟩ = some (.slice Aw nw cw)) (by kernel_rfl) hS0 (fun hHeld => ?_)
   clear hS0 hbd b0 b1 b2 b3 d0 d1 d2 d3 d4 d5 d6 d7
   clear HB0 HNb0 HCb0 HIn0 HC0 HBl0
   generalize w0.drew = w1 at *
   refine tkH 0 ?_; try go_simp
   refine tkH 1 ?_; try go_simp
   refine tkH 2 ?_; try go_simp
   refine tkH 3 ?_; try go_simp
   refine tkH 4 ?_; try go_simp
   refine tkH 5 ?_; try go_simp
   refine tkH 6 ?_; try go_simp
   refine tkH 7 ?_; try go_simp
   refine tkH 8 ?_; try go_simp
   refine tkH 9 ?_; try go_simp
   refine tkH 10 ?_; try go_simp
   refine tkH 11 ?_; try go_simp
   refine tkU 12 ?_; try go_simp
   refine tkU 13 ?_; try go_simp
   refine tkU 14 ?_; try go_simp
   refine tkU 15 ?_; try go_simp
   refine tkU 16 ?_; try go_simp
   refine tkH 17 ?_; try go_simp
   refine tkH 18 ?_; try go_simp
   refine tkU 19 ?_; try go_simp
   refine tkU 20 ?_; try go_simp
   refine tkU 21 ?_; try go_simp
   refine tkU 22 ?_; try go_simp
   refine tkU 23 ?_; try go_simp
   refine tkU 24 ?_; try go_simp
   refine tkH 25 ?_; try go_simp
   refine tkH 26 ?_; try go_simp
   refine tkU 27 ?_; try go_simp
   refine tkU 28 ?_; try go_simp
   refine tkU 29 ?_; try go_simp
   refine tkU 30 ?_; try go_simp
   refine tkU 31 ?_; try go_simp
   refine tkH 32 ?_; try go_simp
   refine tkH 33 ?_; try go_simp
   refine tkU 34 ?_; try go_simp
   refine tkU 35 ?_; try go_simp
   refine tkU 36 ?_; try go_simp
   refine tkU 37 ?_; try go_simp
   refine tkH 38 ?_; try go_simp
   refine wpAnyH_done (by kernel_rfl) ?_ _
   clear hHeld
   go_wp2_with fail
   go_ret
   exact ⟨ret_bool (by rw [HQ.out]; try first | rfl | simp), HB1.out⟩
 have p1 : decide ((n : Int) ≤ cn) = false := by simpa using hc1
 have HT0 := hid (show trnB N cn = true by unfold trnB; rw [HNl.out, decide_eq_true (show 0 ≤ cn by omega), decide_eq_true (show cn < (n : Int) by omega)]; rfl)
 rw [HT0.out, Bool.true_and] at HQ
 clear hc0 hc1
 cases hm : mksX N.pl false K with
 | false =>
  rw [hm] at HQ
  have HM0 := hid hm
  clear hm
  obtain ⟨b0, b1, b2, b3⟩ := HNb0.out.cells
  obtain ⟨d0, d1, d2, d3, d4, d5, d6, d7⟩ := HCb0.out.cells
  have hbd : Below w0.heap.size w0 w0.drew := (Below.refl _ _).drew
  have HB1 := hid (HB0.out.trans (hbd.mono HB0.out.size))
  have HNb1 := hid (HNb0.out.below hbd)
  have HCb1 := hid (HCb0.out.below hbd)
  have HIn1 := hid (HIn0.out.below hbd)
  have HC1 := hid (HC0.out.below hbd)
  have HBl1 := hid (HBl0.out.trans (hbd.mono HBl0.out.size))
  have hS0 := And.intro (cell_stays hbd b0) (And.intro (cell_stays hbd b1) (And.intro (cell_stays hbd b2) (And.intro (cell_stays hbd b3) (And.intro (cell_stays hbd d0) (And.intro (cell_stays hbd d1) (And.intro (cell_stays hbd d2) (And.intro (cell_stays hbd d3) (And.intro (cell_stays hbd d4) (And.intro (cell_stays hbd d5) (And.intro (cell_stays hbd d6) ((cell_stays hbd d7))))))))))))
  refine wp_region_held_drew (S := fun w' => w'.cell? ⟨w.heap.size, 0, none⟩ = some (.int .i64 N.pl) ∧ w'.cell? ⟨w.heap.size, 1, none⟩ = some (.slice A n c) ∧ w'.cell? ⟨w.heap.size, 2, none⟩ = some (.int .i64 N.src) ∧ w'.cell? ⟨w.heap.size, 3, none⟩ = some (.int .i64 N.snk) ∧ w'.cell? ⟨cb, 0, none⟩ = some (.int .i64 cl) ∧ w'.cell? ⟨cb, 1, none⟩ = some (.int .i64 cn) ∧ w'.cell? ⟨cb, 2, none⟩ = some (.slice Ar nr cr) ∧ w'.cell? ⟨cb, 3, none⟩ = some (.slice Ap np cp) ∧ w'.cell? ⟨cb, 4, none⟩ = some (.slice Ak nk ck) ∧ w'.cell? ⟨cb, 5, none⟩ = some (.slice Av nv cv) ∧ w'.cell? ⟨cb, 6, none⟩ = some (.slice As ns cs) ∧ w'.cell? ⟨cb, 7, none⟩ = some (.slice Aw nw cw)) (by kernel_rfl) hS0 (fun hHeld => ?_)
  clear hS0 hbd b0 b1 b2 b3 d0 d1 d2 d3 d4 d5 d6 d7
  clear HB0 HNb0 HCb0 HIn0 HC0 HBl0
  generalize w0.drew = w1 at *
  refine tkH 0 ?_; try go_simp
  refine tkH 1 ?_; try go_simp
  refine tkH 2 ?_; try go_simp
  refine tkH 3 ?_; try go_simp
  refine tkH 4 ?_; try go_simp
  refine tkH 5 ?_; try go_simp
  refine tkH 6 ?_; try go_simp
  refine tkH 7 ?_; try go_simp
  refine tkH 8 ?_; try go_simp
  refine tkH 9 ?_; try go_simp
  refine tkH 10 ?_; try go_simp
  refine tkH 11 ?_; try go_simp
  refine tkH 12 ?_; try go_simp
  refine tkH 13 ?_; try go_simp
  refine tkH 14 ?_; try go_simp
  refine tkR 15 (fun K9 hK => ?_)
  go_simp
  have HMs := hid (mks28_any N A n c Ak nk ck K false w1 hpl1 (by omega) HC1.out.k HC1.out.kl HC1.out.kb)
  rw [decide_eq_true (show K.length ≤ 2000 by have := HC1.out.kl; omega), Bool.true_and, HM0.out] at HMs
  ((refine (HMs.out).mono ?_); rintro e w2 ⟨rfl, hb2⟩)
  have hS9 := hHeld
  refine hK.out _ _ ⟨cell_stays hb2 hS9.1, cell_stays hb2 hS9.2.1, cell_stays hb2 hS9.2.2.1, cell_stays hb2 hS9.2.2.2.1, cell_stays hb2 hS9.2.2.2.2.1, cell_stays hb2 hS9.2.2.2.2.2.1, cell_stays hb2 hS9.2.2.2.2.2.2.1, cell_stays hb2 hS9.2.2.2.2.2.2.2.1, cell_stays hb2 hS9.2.2.2.2.2.2.2.2.1, cell_stays hb2 hS9.2.2.2.2.2.2.2.2.2.1, cell_stays hb2 hS9.2.2.2.2.2.2.2.2.2.2.1, cell_stays hb2 hS9.2.2.2.2.2.2.2.2.2.2.2⟩ (fun hHeld => ?_)
  clear hK K9 hS9
  try go_simp
  have HB2 := hid (HB1.out.trans (hb2.mono HB1.out.size))
  have HNb2 := hid (HNb1.out.below hb2)
  have HCb2 := hid (HCb1.out.below hb2)
  have HIn2 := hid (HIn1.out.below hb2)
  have HC2 := hid (HC1.out.below hb2)
  have HBl2 := hid (HBl1.out.trans (hb2.mono HBl1.out.size))
  clear HB1 HNb1 HCb1 HIn1 HC1 HBl1
  clear HMs
  clear hb2
  refine tkH 16 ?_; try go_simp
  refine tkH 17 ?_; try go_simp
  refine tkH 18 ?_; try go_simp
  refine tkU 19 ?_; try go_simp
  refine tkU 20 ?_; try go_simp
  refine tkU 21 ?_; try go_simp
  refine tkU 22 ?_; try go_simp
  refine tkU 23 ?_; try go_simp
  refine tkU 24 ?_; try go_simp
  refine tkH 25 ?_; try go_simp
  refine tkH 26 ?_; try go_simp
  refine tkU 27 ?_; try go_simp
  refine tkU 28 ?_; try go_simp
  refine tkU 29 ?_; try go_simp
  refine tkU 30 ?_; try go_simp
  refine tkU 31 ?_; try go_simp
  refine tkH 32 ?_; try go_simp
  refine tkH 33 ?_; try go_simp
  refine tkU 34 ?_; try go_simp
  refine tkU 35 ?_; try go_simp
  refine tkU 36 ?_; try go_simp
  refine tkU 37 ?_; try go_simp
  refine tkH 38 ?_; try go_simp
  refine wpAnyH_done (by kernel_rfl) ?_ _
  clear hHeld
  go_wp2_with fail
  go_ret
  exact ⟨ret_bool (by rw [HQ.out]; try first | rfl | simp), HB2.out⟩
 | true =>
  rw [hm, Bool.true_and] at HQ
  have HAll := hid (show ∀ s ∈ K, mkX N.pl false s = true from List.all_eq_true.1 hm)
  have HM0 := hid hm
  clear hm
  by_cases hi : findR K (iniM N) < 0
  · have q3 : decide (findR K (iniM N) < 0) = true := by simpa using hi
    rw [q3] at HQ
    clear hi
    obtain ⟨b0, b1, b2, b3⟩ := HNb0.out.cells
    obtain ⟨d0, d1, d2, d3, d4, d5, d6, d7⟩ := HCb0.out.cells
    have hbd : Below w0.heap.size w0 w0.drew := (Below.refl _ _).drew
    have HB1 := hid (HB0.out.trans (hbd.mono HB0.out.size))
    have HNb1 := hid (HNb0.out.below hbd)
    have HCb1 := hid (HCb0.out.below hbd)
    have HIn1 := hid (HIn0.out.below hbd)
    have HC1 := hid (HC0.out.below hbd)
    have HBl1 := hid (HBl0.out.trans (hbd.mono HBl0.out.size))
    have hS0 := And.intro (cell_stays hbd b0) (And.intro (cell_stays hbd b1) (And.intro (cell_stays hbd b2) (And.intro (cell_stays hbd b3) (And.intro (cell_stays hbd d0) (And.intro (cell_stays hbd d1) (And.intro (cell_stays hbd d2) (And.intro (cell_stays hbd d3) (And.intro (cell_stays hbd d4) (And.intro (cell_stays hbd d5) (And.intro (cell_stays hbd d6) ((cell_stays hbd d7))))))))))))
    refine wp_region_held_drew (S := fun w' => w'.cell? ⟨w.heap.size, 0, none⟩ = some (.int .i64 N.pl) ∧ w'.cell? ⟨w.heap.size, 1, none⟩ = some (.slice A n c) ∧ w'.cell? ⟨w.heap.size, 2, none⟩ = some (.int .i64 N.src) ∧ w'.cell? ⟨w.heap.size, 3, none⟩ = some (.int .i64 N.snk) ∧ w'.cell? ⟨cb, 0, none⟩ = some (.int .i64 cl) ∧ w'.cell? ⟨cb, 1, none⟩ = some (.int .i64 cn) ∧ w'.cell? ⟨cb, 2, none⟩ = some (.slice Ar nr cr) ∧ w'.cell? ⟨cb, 3, none⟩ = some (.slice Ap np cp) ∧ w'.cell? ⟨cb, 4, none⟩ = some (.slice Ak nk ck) ∧ w'.cell? ⟨cb, 5, none⟩ = some (.slice Av nv cv) ∧ w'.cell? ⟨cb, 6, none⟩ = some (.slice As ns cs) ∧ w'.cell? ⟨cb, 7, none⟩ = some (.slice Aw nw cw)) (by kernel_rfl) hS0 (fun hHeld => ?_)
    clear hS0 hbd b0 b1 b2 b3 d0 d1 d2 d3 d4 d5 d6 d7
    clear HB0 HNb0 HCb0 HIn0 HC0 HBl0
    generalize w0.drew = w1 at *
    refine tkH 0 ?_; try go_simp
    refine tkH 1 ?_; try go_simp
    refine tkH 2 ?_; try go_simp
    refine tkH 3 ?_; try go_simp
    refine tkH 4 ?_; try go_simp
    refine tkH 5 ?_; try go_simp
    refine tkH 6 ?_; try go_simp
    refine tkH 7 ?_; try go_simp
    refine tkH 8 ?_; try go_simp
    refine tkH 9 ?_; try go_simp
    refine tkH 10 ?_; try go_simp
    refine tkH 11 ?_; try go_simp
    refine tkH 12 ?_; try go_simp
    refine tkH 13 ?_; try go_simp
    refine tkH 14 ?_; try go_simp
    refine tkR 15 (fun K9 hK => ?_)
    go_simp
    have HMs := hid (mks28_any N A n c Ak nk ck K false w1 hpl1 (by omega) HC1.out.k HC1.out.kl HC1.out.kb)
    rw [decide_eq_true (show K.length ≤ 2000 by have := HC1.out.kl; omega), Bool.true_and, HM0.out] at HMs
    ((refine (HMs.out).mono ?_); rintro e w2 ⟨rfl, hb2⟩)
    have hS9 := hHeld
    refine hK.out _ _ ⟨cell_stays hb2 hS9.1, cell_stays hb2 hS9.2.1, cell_stays hb2 hS9.2.2.1, cell_stays hb2 hS9.2.2.2.1, cell_stays hb2 hS9.2.2.2.2.1, cell_stays hb2 hS9.2.2.2.2.2.1, cell_stays hb2 hS9.2.2.2.2.2.2.1, cell_stays hb2 hS9.2.2.2.2.2.2.2.1, cell_stays hb2 hS9.2.2.2.2.2.2.2.2.1, cell_stays hb2 hS9.2.2.2.2.2.2.2.2.2.1, cell_stays hb2 hS9.2.2.2.2.2.2.2.2.2.2.1, cell_stays hb2 hS9.2.2.2.2.2.2.2.2.2.2.2⟩ (fun hHeld => ?_)
    clear hK K9 hS9
    try go_simp
    have HB2 := hid (HB1.out.trans (hb2.mono HB1.out.size))
    have HNb2 := hid (HNb1.out.below hb2)
    have HCb2 := hid (HCb1.out.below hb2)
    have HIn2 := hid (HIn1.out.below hb2)
    have HC2 := hid (HC1.out.below hb2)
    have HBl2 := hid (HBl1.out.trans (hb2.mono HBl1.out.size))
    clear HB1 HNb1 HCb1 HIn1 HC1 HBl1
    clear HMs
    clear hb2
    refine tkH 16 ?_; try go_simp
    refine tkH 17 ?_; try go_simp
    refine tkH 18 ?_; try go_simp
    refine tkH 19 ?_; try go_simp
    refine tkH 20 ?_; try go_simp
    refine tkH 21 ?_; try go_simp
    refine tkR 22 (fun K9 hK => ?_)
    go_simp
    ((refine (ini28_any N A n c HV.out w2).mono ?_); rintro e w3 ⟨v3, rfl, hS3⟩)
    obtain ⟨A3, c3, rfl⟩ := hS3.slice
    have hb3 := hS3.2
    have hS9 := hHeld
    refine hK.out _ _ ⟨cell_stays hb3 hS9.1, cell_stays hb3 hS9.2.1, cell_stays hb3 hS9.2.2.1, cell_stays hb3 hS9.2.2.2.1, cell_stays hb3 hS9.2.2.2.2.1, cell_stays hb3 hS9.2.2.2.2.2.1, cell_stays hb3 hS9.2.2.2.2.2.2.1, cell_stays hb3 hS9.2.2.2.2.2.2.2.1, cell_stays hb3 hS9.2.2.2.2.2.2.2.2.1, cell_stays hb3 hS9.2.2.2.2.2.2.2.2.2.1, cell_stays hb3 hS9.2.2.2.2.2.2.2.2.2.2.1, cell_stays hb3 hS9.2.2.2.2.2.2.2.2.2.2.2⟩ (fun hHeld => ?_)
    clear hK K9 hS9
    try go_simp
    have HB3 := hid (HB2.out.trans (hb3.mono HB2.out.size))
    have HNb3 := hid (HNb2.out.below hb3)
    have HCb3 := hid (HCb2.out.below hb3)
    have HIn3 := hid (HIn2.out.below hb3)
    have HC3 := hid (HC2.out.below hb3)
    have HBl3 := hid (HBl2.out.trans (hb3.mono HBl2.out.size))
    clear HB2 HNb2 HCb2 HIn2 HC2 HBl2
    have HI3 := hid (show ZIn w3 A3 (iniM N) by obtain ⟨A', c', e, hz, _⟩ := hS3.zin; cases e; exact hz)
    clear hS3 hb3
    refine tkR 23 (fun K9 hK => ?_)
    go_simp
    have HAt := hid (at28_any Ak nk ck K A3 (iniM N).length c3 (iniM N) w3 HC3.out.k HC3.out.kl HC3.out.kb HI3.out rfl)
    ((refine (HAt.out).mono ?_); rintro e w4 ⟨rfl, hb4⟩)
    have hS9 := hHeld
    refine hK.out _ _ ⟨cell_stays hb4 hS9.1, cell_stays hb4 hS9.2.1, cell_stays hb4 hS9.2.2.1, cell_stays hb4 hS9.2.2.2.1, cell_stays hb4 hS9.2.2.2.2.1, cell_stays hb4 hS9.2.2.2.2.2.1, cell_stays hb4 hS9.2.2.2.2.2.2.1, cell_stays hb4 hS9.2.2.2.2.2.2.2.1, cell_stays hb4 hS9.2.2.2.2.2.2.2.2.1, cell_stays hb4 hS9.2.2.2.2.2.2.2.2.2.1, cell_stays hb4 hS9.2.2.2.2.2.2.2.2.2.2.1, cell_stays hb4 hS9.2.2.2.2.2.2.2.2.2.2.2⟩ (fun hHeld => ?_)
    clear hK K9 hS9
    try go_simp
    have HB4 := hid (HB3.out.trans (hb4.mono HB3.out.size))
    have HNb4 := hid (HNb3.out.below hb4)
    have HCb4 := hid (HCb3.out.below hb4)
    have HIn4 := hid (HIn3.out.below hb4)
    have HC4 := hid (HC3.out.below hb4)
    have HBl4 := hid (HBl3.out.trans (hb4.mono HBl3.out.size))
    clear HB3 HNb3 HCb3 HIn3 HC3 HBl3
    clear HAt
    clear hb4
    refine tkH 24 ?_; try go_simp
    refine tkH 25 ?_; try go_simp
    refine tkH 26 ?_; try go_simp
    refine tkU 27 ?_; try go_simp
    refine tkU 28 ?_; try go_simp
    refine tkU 29 ?_; try go_simp
    refine tkU 30 ?_; try go_simp
    refine tkU 31 ?_; try go_simp
    refine tkH 32 ?_; try go_simp
    refine tkH 33 ?_; try go_simp
    refine tkU 34 ?_; try go_simp
    refine tkU 35 ?_; try go_simp
    refine tkU 36 ?_; try go_simp
    refine tkU 37 ?_; try go_simp
    refine tkH 38 ?_; try go_simp
    refine wpAnyH_done (by kernel_rfl) ?_ _
    clear hHeld
    go_wp2_with fail
    go_ret
    exact ⟨ret_bool (by rw [HQ.out]; try first | rfl | simp), HB4.out⟩
  have q3 : decide (findR K (iniM N) < 0) = false := by simpa using hi
  rw [q3, Bool.not_false, Bool.true_and] at HQ
  clear hi
  cases hx : closX N K with
  | false =>
   rw [hx] at HQ
   have HX0 := hid hx
   clear hx
   obtain ⟨b0, b1, b2, b3⟩ := HNb0.out.cells
   obtain ⟨d0, d1, d2, d3, d4, d5, d6, d7⟩ := HCb0.out.cells
   have hbd : Below w0.heap.size w0 w0.drew := (Below.refl _ _).drew
   have HB1 := hid (HB0.out.trans (hbd.mono HB0.out.size))
   have HNb1 := hid (HNb0.out.below hbd)
   have HCb1 := hid (HCb0.out.below hbd)
   have HIn1 := hid (HIn0.out.below hbd)
   have HC1 := hid (HC0.out.below hbd)
   have HBl1 := hid (HBl0.out.trans (hbd.mono HBl0.out.size))
   have hS0 := And.intro (cell_stays hbd b0) (And.intro (cell_stays hbd b1) (And.intro (cell_stays hbd b2) (And.intro (cell_stays hbd b3) (And.intro (cell_stays hbd d0) (And.intro (cell_stays hbd d1) (And.intro (cell_stays hbd d2) (And.intro (cell_stays hbd d3) (And.intro (cell_stays hbd d4) (And.intro (cell_stays hbd d5) (And.intro (cell_stays hbd d6) ((cell_stays hbd d7))))))))))))
   refine wp_region_held_drew (S := fun w' => w'.cell? ⟨w.heap.size, 0, none⟩ = some (.int .i64 N.pl) ∧ w'.cell? ⟨w.heap.size, 1, none⟩ = some (.slice A n c) ∧ w'.cell? ⟨w.heap.size, 2, none⟩ = some (.int .i64 N.src) ∧ w'.cell? ⟨w.heap.size, 3, none⟩ = some (.int .i64 N.snk) ∧ w'.cell? ⟨cb, 0, none⟩ = some (.int .i64 cl) ∧ w'.cell? ⟨cb, 1, none⟩ = some (.int .i64 cn) ∧ w'.cell? ⟨cb, 2, none⟩ = some (.slice Ar nr cr) ∧ w'.cell? ⟨cb, 3, none⟩ = some (.slice Ap np cp) ∧ w'.cell? ⟨cb, 4, none⟩ = some (.slice Ak nk ck) ∧ w'.cell? ⟨cb, 5, none⟩ = some (.slice Av nv cv) ∧ w'.cell? ⟨cb, 6, none⟩ = some (.slice As ns cs) ∧ w'.cell? ⟨cb, 7, none⟩ = some (.slice Aw nw cw)) (by kernel_rfl) hS0 (fun hHeld => ?_)
   clear hS0 hbd b0 b1 b2 b3 d0 d1 d2 d3 d4 d5 d6 d7
   clear HB0 HNb0 HCb0 HIn0 HC0 HBl0
   generalize w0.drew = w1 at *
   refine tkH 0 ?_; try go_simp
   refine tkH 1 ?_; try go_simp
   refine tkH 2 ?_; try go_simp
   refine tkH 3 ?_; try go_simp
   refine tkH 4 ?_; try go_simp
   refine tkH 5 ?_; try go_simp
   refine tkH 6 ?_; try go_simp
   refine tkH 7 ?_; try go_simp
   refine tkH 8 ?_; try go_simp
   refine tkH 9 ?_; try go_simp
   refine tkH 10 ?_; try go_simp
   refine tkH 11 ?_; try go_simp
   refine tkH 12 ?_; try go_simp
   refine tkH 13 ?_; try go_simp
   refine tkH 14 ?_; try go_simp
   refine tkR 15 (fun K9 hK => ?_)
   go_simp
   have HMs := hid (mks28_any N A n c Ak nk ck K false w1 hpl1 (by omega) HC1.out.k HC1.out.kl HC1.out.kb)
   rw [decide_eq_true (show K.length ≤ 2000 by have := HC1.out.kl; omega), Bool.true_and, HM0.out] at HMs
   ((refine (HMs.out).mono ?_); rintro e w2 ⟨rfl, hb2⟩)
   have hS9 := hHeld
   refine hK.out _ _ ⟨cell_stays hb2 hS9.1, cell_stays hb2 hS9.2.1, cell_stays hb2 hS9.2.2.1, cell_stays hb2 hS9.2.2.2.1, cell_stays hb2 hS9.2.2.2.2.1, cell_stays hb2 hS9.2.2.2.2.2.1, cell_stays hb2 hS9.2.2.2.2.2.2.1, cell_stays hb2 hS9.2.2.2.2.2.2.2.1, cell_stays hb2 hS9.2.2.2.2.2.2.2.2.1, cell_stays hb2 hS9.2.2.2.2.2.2.2.2.2.1, cell_stays hb2 hS9.2.2.2.2.2.2.2.2.2.2.1, cell_stays hb2 hS9.2.2.2.2.2.2.2.2.2.2.2⟩ (fun hHeld => ?_)
   clear hK K9 hS9
   try go_simp
   have HB2 := hid (HB1.out.trans (hb2.mono HB1.out.size))
   have HNb2 := hid (HNb1.out.below hb2)
   have HCb2 := hid (HCb1.out.below hb2)
   have HIn2 := hid (HIn1.out.below hb2)
   have HC2 := hid (HC1.out.below hb2)
   have HBl2 := hid (HBl1.out.trans (hb2.mono HBl1.out.size))
   clear HB1 HNb1 HCb1 HIn1 HC1 HBl1
   clear HMs
   clear hb2
   refine tkH 16 ?_; try go_simp
   refine tkH 17 ?_; try go_simp
   refine tkH 18 ?_; try go_simp
   refine tkH 19 ?_; try go_simp
   refine tkH 20 ?_; try go_simp
   refine tkH 21 ?_; try go_simp
   refine tkR 22 (fun K9 hK => ?_)
   go_simp
   ((refine (ini28_any N A n c HV.out w2).mono ?_); rintro e w3 ⟨v3, rfl, hS3⟩)
   obtain ⟨A3, c3, rfl⟩ := hS3.slice
   have hb3 := hS3.2
   have hS9 := hHeld
   refine hK.out _ _ ⟨cell_stays hb3 hS9.1, cell_stays hb3 hS9.2.1, cell_stays hb3 hS9.2.2.1, cell_stays hb3 hS9.2.2.2.1, cell_stays hb3 hS9.2.2.2.2.1, cell_stays hb3 hS9.2.2.2.2.2.1, cell_stays hb3 hS9.2.2.2.2.2.2.1, cell_stays hb3 hS9.2.2.2.2.2.2.2.1, cell_stays hb3 hS9.2.2.2.2.2.2.2.2.1, cell_stays hb3 hS9.2.2.2.2.2.2.2.2.2.1, cell_stays hb3 hS9.2.2.2.2.2.2.2.2.2.2.1, cell_stays hb3 hS9.2.2.2.2.2.2.2.2.2.2.2⟩ (fun hHeld => ?_)
   clear hK K9 hS9
   try go_simp
   have HB3 := hid (HB2.out.trans (hb3.mono HB2.out.size))
   have HNb3 := hid (HNb2.out.below hb3)
   have HCb3 := hid (HCb2.out.below hb3)
   have HIn3 := hid (HIn2.out.below hb3)
   have HC3 := hid (HC2.out.below hb3)
   have HBl3 := hid (HBl2.out.trans (hb3.mono HBl2.out.size))
   clear HB2 HNb2 HCb2 HIn2 HC2 HBl2
   have HI3 := hid (show ZIn w3 A3 (iniM N) by obtain ⟨A', c', e, hz, _⟩ := hS3.zin; cases e; exact hz)
   clear hS3 hb3
   refine tkR 23 (fun K9 hK => ?_)
   go_simp
   have HAt := hid (at28_any Ak nk ck K A3 (iniM N).length c3 (iniM N) w3 HC3.out.k HC3.out.kl HC3.out.kb HI3.out rfl)
   ((refine (HAt.out).mono ?_); rintro e w4 ⟨rfl, hb4⟩)
   have hS9 := hHeld
   refine hK.out _ _ ⟨cell_stays hb4 hS9.1, cell_stays hb4 hS9.2.1, cell_stays hb4 hS9.2.2.1, cell_stays hb4 hS9.2.2.2.1, cell_stays hb4 hS9.2.2.2.2.1, cell_stays hb4 hS9.2.2.2.2.2.1, cell_stays hb4 hS9.2.2.2.2.2.2.1, cell_stays hb4 hS9.2.2.2.2.2.2.2.1, cell_stays hb4 hS9.2.2.2.2.2.2.2.2.1, cell_stays hb4 hS9.2.2.2.2.2.2.2.2.2.1, cell_stays hb4 hS9.2.2.2.2.2.2.2.2.2.2.1, cell_stays hb4 hS9.2.2.2.2.2.2.2.2.2.2.2⟩ (fun hHeld => ?_)
   clear hK K9 hS9
   try go_simp
   have HB4 := hid (HB3.out.trans (hb4.mono HB3.out.size))
   have HNb4 := hid (HNb3.out.below hb4)
   have HCb4 := hid (HCb3.out.below hb4)
   have HIn4 := hid (HIn3.out.below hb4)
   have HC4 := hid (HC3.out.below hb4)
   have HBl4 := hid (HBl3.out.trans (hb4.mono HBl3.out.size))
   clear HB3 HNb3 HCb3 HIn3 HC3 HBl3
   clear HAt
   clear hb4
   refine tkH 24 ?_; try go_simp
   refine tkH 25 ?_; try go_simp
   refine tkH 26 ?_; try go_simp
   refine tkH 27 ?_; try go_simp
   refine tkH 28 ?_; try go_simp
   refine tkH 29 ?_; try go_simp
   refine tkR 30 (fun K9 hK => ?_)
   go_simp
   have HCl := hid (closed28_any N A n c Ak nk ck K w4 HIn4.out HNl.out HV.out HC4.out.k HC4.out.kl HC4.out.kb HAll.out)
   rw [HX0.out] at HCl
   ((refine (HCl.out).mono ?_); rintro e w5 ⟨rfl, hb5⟩)
   have hS9 := hHeld
   refine hK.out _ _ ⟨cell_stays hb5 hS9.1, cell_stays hb5 hS9.2.1, cell_stays hb5 hS9.2.2.1, cell_stays hb5 hS9.2.2.2.1, cell_stays hb5 hS9.2.2.2.2.1, cell_stays hb5 hS9.2.2.2.2.2.1, cell_stays hb5 hS9.2.2.2.2.2.2.1, cell_stays hb5 hS9.2.2.2.2.2.2.2.1, cell_stays hb5 hS9.2.2.2.2.2.2.2.2.1, cell_stays hb5 hS9.2.2.2.2.2.2.2.2.2.1, cell_stays hb5 hS9.2.2.2.2.2.2.2.2.2.2.1, cell_stays hb5 hS9.2.2.2.2.2.2.2.2.2.2.2⟩ (fun hHeld => ?_)
   clear hK K9 hS9
   try go_simp
   have HB5 := hid (HB4.out.trans (hb5.mono HB4.out.size))
   have HNb5 := hid (HNb4.out.below hb5)
   have HCb5 := hid (HCb4.out.below hb5)
   have HIn5 := hid (HIn4.out.below hb5)
   have HC5 := hid (HC4.out.below hb5)
   have HBl5 := hid (HBl4.out.trans (hb5.mono HBl4.out.size))
   clear HB4 HNb4 HCb4 HIn4 HC4 HBl4
   clear HCl
   clear hb5
   refine tkH 31 ?_; try go_simp
   refine tkH 32 ?_; try go_simp
   refine tkH 33 ?_; try go_simp
   refine tkU 34 ?_; try go_simp
   refine tkU 35 ?_; try go_simp
   refine tkU 36 ?_; try go_simp
   refine tkU 37 ?_; try go_simp
   refine tkH 38 ?_; try go_simp
   refine wpAnyH_done (by kernel_rfl) ?_ _
   clear hHeld
   go_wp2_with fail
   go_ret
   exact ⟨ret_bool (by rw [HQ.out]; try first | rfl | simp), HB5.out⟩
  | true =>
   rw [hx, Bool.true_and] at HQ
   have HX0 := hid hx
   clear hx
   by_cases hs1 : ns = 1
   rotate_left
   · have q4 : ((ns : Int) != 1) = true := by rw [bne_iff_ne]; omega
     rw [HC0.out.sl, decide_eq_false hs1] at HQ
     clear hs1
     obtain ⟨b0, b1, b2, b3⟩ := HNb0.out.cells
     obtain ⟨d0, d1, d2, d3, d4, d5, d6, d7⟩ := HCb0.out.cells
     have hbd : Below w0.heap.size w0 w0.drew := (Below.refl _ _).drew
     have HB1 := hid (HB0.out.trans (hbd.mono HB0.out.size))
     have HNb1 := hid (HNb0.out.below hbd)
     have HCb1 := hid (HCb0.out.below hbd)
     have HIn1 := hid (HIn0.out.below hbd)
     have HC1 := hid (HC0.out.below hbd)
     have HBl1 := hid (HBl0.out.trans (hbd.mono HBl0.out.size))
     have hS0 := And.intro (cell_stays hbd b0) (And.intro (cell_stays hbd b1) (And.intro (cell_stays hbd b2) (And.intro (cell_stays hbd b3) (And.intro (cell_stays hbd d0) (And.intro (cell_stays hbd d1) (And.intro (cell_stays hbd d2) (And.intro (cell_stays hbd d3) (And.intro (cell_stays hbd d4) (And.intro (cell_stays hbd d5) (And.intro (cell_stays hbd d6) ((cell_stays hbd d7))))))))))))
     refine wp_region_held_drew (S := fun w' => w'.cell? ⟨w.heap.size, 0, none⟩ = some (.int .i64 N.pl) ∧ w'.cell? ⟨w.heap.size, 1, none⟩ = some (.slice A n c) ∧ w'.cell? ⟨w.heap.size, 2, none⟩ = some (.int .i64 N.src) ∧ w'.cell? ⟨w.heap.size, 3, none⟩ = some (.int .i64 N.snk) ∧ w'.cell? ⟨cb, 0, none⟩ = some (.int .i64 cl) ∧ w'.cell? ⟨cb, 1, none⟩ = some (.int .i64 cn) ∧ w'.cell? ⟨cb, 2, none⟩ = some (.slice Ar nr cr) ∧ w'.cell? ⟨cb, 3, none⟩ = some (.slice Ap np cp) ∧ w'.cell? ⟨cb, 4, none⟩ = some (.slice Ak nk ck) ∧ w'.cell? ⟨cb, 5, none⟩ = some (.slice Av nv cv) ∧ w'.cell? ⟨cb, 6, none⟩ = some (.slice As ns cs) ∧ w'.cell? ⟨cb, 7, none⟩ = some (.slice Aw nw cw)) (by kernel_rfl) hS0 (fun hHeld => ?_)
     clear hS0 hbd b0 b1 b2 b3 d0 d1 d2 d3 d4 d5 d6 d7
     clear HB0 HNb0 HCb0 HIn0 HC0 HBl0
     generalize w0.drew = w1 at *
     refine tkH 0 ?_; try go_simp
     refine tkH 1 ?_; try go_simp
     refine tkH 2 ?_; try go_simp
     refine tkH 3 ?_; try go_simp
     refine tkH 4 ?_; try go_simp
     refine tkH 5 ?_; try go_simp
     refine tkH 6 ?_; try go_simp
     refine tkH 7 ?_; try go_simp
     refine tkH 8 ?_; try go_simp
     refine tkH 9 ?_; try go_simp
     refine tkH 10 ?_; try go_simp
     refine tkH 11 ?_; try go_simp
     refine tkH 12 ?_; try go_simp
     refine tkH 13 ?_; try go_simp
     refine tkH 14 ?_; try go_simp
     refine tkR 15 (fun K9 hK => ?_)
     go_simp
     have HMs := hid (mks28_any N A n c Ak nk ck K false w1 hpl1 (by omega) HC1.out.k HC1.out.kl HC1.out.kb)
     rw [decide_eq_true (show K.length ≤ 2000 by have := HC1.out.kl; omega), Bool.true_and, HM0.out] at HMs
     ((refine (HMs.out).mono ?_); rintro e w2 ⟨rfl, hb2⟩)
     have hS9 := hHeld
     refine hK.out _ _ ⟨cell_stays hb2 hS9.1, cell_stays hb2 hS9.2.1, cell_stays hb2 hS9.2.2.1, cell_stays hb2 hS9.2.2.2.1, cell_stays hb2 hS9.2.2.2.2.1, cell_stays hb2 hS9.2.2.2.2.2.1, cell_stays hb2 hS9.2.2.2.2.2.2.1, cell_stays hb2 hS9.2.2.2.2.2.2.2.1, cell_stays hb2 hS9.2.2.2.2.2.2.2.2.1, cell_stays hb2 hS9.2.2.2.2.2.2.2.2.2.1, cell_stays hb2 hS9.2.2.2.2.2.2.2.2.2.2.1, cell_stays hb2 hS9.2.2.2.2.2.2.2.2.2.2.2⟩ (fun hHeld => ?_)
     clear hK K9 hS9
     try go_simp
     have HB2 := hid (HB1.out.trans (hb2.mono HB1.out.size))
     have HNb2 := hid (HNb1.out.below hb2)
     have HCb2 := hid (HCb1.out.below hb2)
     have HIn2 := hid (HIn1.out.below hb2)
     have HC2 := hid (HC1.out.below hb2)
     have HBl2 := hid (HBl1.out.trans (hb2.mono HBl1.out.size))
     clear HB1 HNb1 HCb1 HIn1 HC1 HBl1
     clear HMs
     clear hb2
     refine tkH 16 ?_; try go_simp
     refine tkH 17 ?_; try go_simp
     refine tkH 18 ?_; try go_simp
     refine tkH 19 ?_; try go_simp
     refine tkH 20 ?_; try go_simp
     refine tkH 21 ?_; try go_simp
     refine tkR 22 (fun K9 hK => ?_)
     go_simp
     ((refine (ini28_any N A n c HV.out w2).mono ?_); rintro e w3 ⟨v3, rfl, hS3⟩)
     obtain ⟨A3, c3, rfl⟩ := hS3.slice
     have hb3 := hS3.2
     have hS9 := hHeld
     refine hK.out _ _ ⟨cell_stays hb3 hS9.1, cell_stays hb3 hS9.2.1, cell_stays hb3 hS9.2.2.1, cell_stays hb3 hS9.2.2.2.1, cell_stays hb3 hS9.2.2.2.2.1, cell_stays hb3 hS9.2.2.2.2.2.1, cell_stays hb3 hS9.2.2.2.2.2.2.1, cell_stays hb3 hS9.2.2.2.2.2.2.2.1, cell_stays hb3 hS9.2.2.2.2.2.2.2.2.1, cell_stays hb3 hS9.2.2.2.2.2.2.2.2.2.1, cell_stays hb3 hS9.2.2.2.2.2.2.2.2.2.2.1, cell_stays hb3 hS9.2.2.2.2.2.2.2.2.2.2.2⟩ (fun hHeld => ?_)
     clear hK K9 hS9
     try go_simp
     have HB3 := hid (HB2.out.trans (hb3.mono HB2.out.size))
     have HNb3 := hid (HNb2.out.below hb3)
     have HCb3 := hid (HCb2.out.below hb3)
     have HIn3 := hid (HIn2.out.below hb3)
     have HC3 := hid (HC2.out.below hb3)
     have HBl3 := hid (HBl2.out.trans (hb3.mono HBl2.out.size))
     clear HB2 HNb2 HCb2 HIn2 HC2 HBl2
     have HI3 := hid (show ZIn w3 A3 (iniM N) by obtain ⟨A', c', e, hz, _⟩ := hS3.zin; cases e; exact hz)
     clear hS3 hb3
     refine tkR 23 (fun K9 hK => ?_)
     go_simp
     have HAt := hid (at28_any Ak nk ck K A3 (iniM N).length c3 (iniM N) w3 HC3.out.k HC3.out.kl HC3.out.kb HI3.out rfl)
     ((refine (HAt.out).mono ?_); rintro e w4 ⟨rfl, hb4⟩)
     have hS9 := hHeld
     refine hK.out _ _ ⟨cell_stays hb4 hS9.1, cell_stays hb4 hS9.2.1, cell_stays hb4 hS9.2.2.1, cell_stays hb4 hS9.2.2.2.1, cell_stays hb4 hS9.2.2.2.2.1, cell_stays hb4 hS9.2.2.2.2.2.1, cell_stays hb4 hS9.2.2.2.2.2.2.1, cell_stays hb4 hS9.2.2.2.2.2.2.2.1, cell_stays hb4 hS9.2.2.2.2.2.2.2.2.1, cell_stays hb4 hS9.2.2.2.2.2.2.2.2.2.1, cell_stays hb4 hS9.2.2.2.2.2.2.2.2.2.2.1, cell_stays hb4 hS9.2.2.2.2.2.2.2.2.2.2.2⟩ (fun hHeld => ?_)
     clear hK K9 hS9
     try go_simp
     have HB4 := hid (HB3.out.trans (hb4.mono HB3.out.size))
     have HNb4 := hid (HNb3.out.below hb4)
     have HCb4 := hid (HCb3.out.below hb4)
     have HIn4 := hid (HIn3.out.below hb4)
     have HC4 := hid (HC3.out.below hb4)
     have HBl4 := hid (HBl3.out.trans (hb4.mono HBl3.out.size))
     clear HB3 HNb3 HCb3 HIn3 HC3 HBl3
     clear HAt
     clear hb4
     refine tkH 24 ?_; try go_simp
     refine tkH 25 ?_; try go_simp
     refine tkH 26 ?_; try go_simp
     refine tkH 27 ?_; try go_simp
     refine tkH 28 ?_; try go_simp
     refine tkH 29 ?_; try go_simp
     refine tkR 30 (fun K9 hK => ?_)
     go_simp
     have HCl := hid (closed28_any N A n c Ak nk ck K w4 HIn4.out HNl.out HV.out HC4.out.k HC4.out.kl HC4.out.kb HAll.out)
     rw [HX0.out] at HCl
     ((refine (HCl.out).mono ?_); rintro e w5 ⟨rfl, hb5⟩)
     have hS9 := hHeld
     refine hK.out _ _ ⟨cell_stays hb5 hS9.1, cell_stays hb5 hS9.2.1, cell_stays hb5 hS9.2.2.1, cell_stays hb5 hS9.2.2.2.1, cell_stays hb5 hS9.2.2.2.2.1, cell_stays hb5 hS9.2.2.2.2.2.1, cell_stays hb5 hS9.2.2.2.2.2.2.1, cell_stays hb5 hS9.2.2.2.2.2.2.2.1, cell_stays hb5 hS9.2.2.2.2.2.2.2.2.1, cell_stays hb5 hS9.2.2.2.2.2.2.2.2.2.1, cell_stays hb5 hS9.2.2.2.2.2.2.2.2.2.2.1, cell_stays hb5 hS9.2.2.2.2.2.2.2.2.2.2.2⟩ (fun hHeld => ?_)
     clear hK K9 hS9
     try go_simp
     have HB5 := hid (HB4.out.trans (hb5.mono HB4.out.size))
     have HNb5 := hid (HNb4.out.below hb5)
     have HCb5 := hid (HCb4.out.below hb5)
     have HIn5 := hid (HIn4.out.below hb5)
     have HC5 := hid (HC4.out.below hb5)
     have HBl5 := hid (HBl4.out.trans (hb5.mono HBl4.out.size))
     clear HB4 HNb4 HCb4 HIn4 HC4 HBl4
     clear HCl
     clear hb5
     refine tkH 31 ?_; try go_simp
     refine tkH 32 ?_; try go_simp
     refine tkH 33 ?_; try go_simp
     refine tkH 34 ?_; try go_simp
     refine tkH 35 ?_; try go_simp
     refine tkH 36 ?_; try go_simp
     refine tkH 37 ?_; try go_simp
     refine tkH 38 ?_; try go_simp
     refine wpAnyH_done (by kernel_rfl) ?_ _
     clear hHeld
     go_wp2_with fail
     go_ret
     exact ⟨ret_bool (by rw [HQ.out]; try first | rfl | simp), HB5.out⟩
   have q4 : ((ns : Int) != 1) = false := by simp; omega
   have HS1 := hid hs1
   rw [HC0.out.sl, decide_eq_true hs1, Bool.true_and] at HQ
   clear hs1
   obtain ⟨b0, b1, b2, b3⟩ := HNb0.out.cells
   obtain ⟨d0, d1, d2, d3, d4, d5, d6, d7⟩ := HCb0.out.cells
   have hbd : Below w0.heap.size w0 w0.drew := (Below.refl _ _).drew
   have HB1 := hid (HB0.out.trans (hbd.mono HB0.out.size))
   have HNb1 := hid (HNb0.out.below hbd)
   have HCb1 := hid (HCb0.out.below hbd)
   have HIn1 := hid (HIn0.out.below hbd)
   have HC1 := hid (HC0.out.below hbd)
   have HBl1 := hid (HBl0.out.trans (hbd.mono HBl0.out.size))
   have hS0 := And.intro (cell_stays hbd b0) (And.intro (cell_stays hbd b1) (And.intro (cell_stays hbd b2) (And.intro (cell_stays hbd b3) (And.intro (cell_stays hbd d0) (And.intro (cell_stays hbd d1) (And.intro (cell_stays hbd d2) (And.intro (cell_stays hbd d3) (And.intro (cell_stays hbd d4) (And.intro (cell_stays hbd d5) (And.intro (cell_stays hbd d6) ((cell_stays hbd d7))))))))))))
   refine wp_region_held_drew (S := fun w' => w'.cell? ⟨w.heap.size, 0, none⟩ = some (.int .i64 N.pl) ∧ w'.cell? ⟨w.heap.size, 1, none⟩ = some (.slice A n c) ∧ w'.cell? ⟨w.heap.size, 2, none⟩ = some (.int .i64 N.src) ∧ w'.cell? ⟨w.heap.size, 3, none⟩ = some (.int .i64 N.snk) ∧ w'.cell? ⟨cb, 0, none⟩ = some (.int .i64 cl) ∧ w'.cell? ⟨cb, 1, none⟩ = some (.int .i64 cn) ∧ w'.cell? ⟨cb, 2, none⟩ = some (.slice Ar nr cr) ∧ w'.cell? ⟨cb, 3, none⟩ = some (.slice Ap np cp) ∧ w'.cell? ⟨cb, 4, none⟩ = some (.slice Ak nk ck) ∧ w'.cell? ⟨cb, 5, none⟩ = some (.slice Av nv cv) ∧ w'.cell? ⟨cb, 6, none⟩ = some (.slice As ns cs) ∧ w'.cell? ⟨cb, 7, none⟩ = some (.slice Aw nw cw)) (by kernel_rfl) hS0 (fun hHeld => ?_)
   clear hS0 hbd b0 b1 b2 b3 d0 d1 d2 d3 d4 d5 d6 d7
   clear HB0 HNb0 HCb0 HIn0 HC0 HBl0
   generalize w0.drew = w1 at *
   refine tkH 0 ?_; try go_simp
   refine tkH 1 ?_; try go_simp
   refine tkH 2 ?_; try go_simp
   refine tkH 3 ?_; try go_simp
   refine tkH 4 ?_; try go_simp
   refine tkH 5 ?_; try go_simp
   refine tkH 6 ?_; try go_simp
   refine tkH 7 ?_; try go_simp
   refine tkH 8 ?_; try go_simp
   refine tkH 9 ?_; try go_simp
   refine tkH 10 ?_; try go_simp
   refine tkH 11 ?_; try go_simp
   refine tkH 12 ?_; try go_simp
   refine tkH 13 ?_; try go_simp
   refine tkH 14 ?_; try go_simp
   refine tkR 15 (fun K9 hK => ?_)
   go_simp
   have HMs := hid (mks28_any N A n c Ak nk ck K false w1 hpl1 (by omega) HC1.out.k HC1.out.kl HC1.out.kb)
   rw [decide_eq_true (show K.length ≤ 2000 by have := HC1.out.kl; omega), Bool.true_and, HM0.out] at HMs
   ((refine (HMs.out).mono ?_); rintro e w2 ⟨rfl, hb2⟩)
   have hS9 := hHeld
   refine hK.out _ _ ⟨cell_stays hb2 hS9.1, cell_stays hb2 hS9.2.1, cell_stays hb2 hS9.2.2.1, cell_stays hb2 hS9.2.2.2.1, cell_stays hb2 hS9.2.2.2.2.1, cell_stays hb2 hS9.2.2.2.2.2.1, cell_stays hb2 hS9.2.2.2.2.2.2.1, cell_stays hb2 hS9.2.2.2.2.2.2.2.1, cell_stays hb2 hS9.2.2.2.2.2.2.2.2.1, cell_stays hb2 hS9.2.2.2.2.2.2.2.2.2.1, cell_stays hb2 hS9.2.2.2.2.2.2.2.2.2.2.1, cell_stays hb2 hS9.2.2.2.2.2.2.2.2.2.2.2⟩ (fun hHeld => ?_)
   clear hK K9 hS9
   try go_simp
   have HB2 := hid (HB1.out.trans (hb2.mono HB1.out.size))
   have HNb2 := hid (HNb1.out.below hb2)
   have HCb2 := hid (HCb1.out.below hb2)
   have HIn2 := hid (HIn1.out.below hb2)
   have HC2 := hid (HC1.out.below hb2)
   have HBl2 := hid (HBl1.out.trans (hb2.mono HBl1.out.size))
   clear HB1 HNb1 HCb1 HIn1 HC1 HBl1
   clear HMs
   clear hb2
   refine tkH 16 ?_; try go_simp
   refine tkH 17 ?_; try go_simp
   refine tkH 18 ?_; try go_simp
   refine tkH 19 ?_; try go_simp
   refine tkH 20 ?_; try go_simp
   refine tkH 21 ?_; try go_simp
   refine tkR 22 (fun K9 hK => ?_)
   go_simp
   ((refine (ini28_any N A n c HV.out w2).mono ?_); rintro e w3 ⟨v3, rfl, hS3⟩)
   obtain ⟨A3, c3, rfl⟩ := hS3.slice
   have hb3 := hS3.2
   have hS9 := hHeld
   refine hK.out _ _ ⟨cell_stays hb3 hS9.1, cell_stays hb3 hS9.2.1, cell_stays hb3 hS9.2.2.1, cell_stays hb3 hS9.2.2.2.1, cell_stays hb3 hS9.2.2.2.2.1, cell_stays hb3 hS9.2.2.2.2.2.1, cell_stays hb3 hS9.2.2.2.2.2.2.1, cell_stays hb3 hS9.2.2.2.2.2.2.2.1, cell_stays hb3 hS9.2.2.2.2.2.2.2.2.1, cell_stays hb3 hS9.2.2.2.2.2.2.2.2.2.1, cell_stays hb3 hS9.2.2.2.2.2.2.2.2.2.2.1, cell_stays hb3 hS9.2.2.2.2.2.2.2.2.2.2.2⟩ (fun hHeld => ?_)
   clear hK K9 hS9
   try go_simp
   have HB3 := hid (HB2.out.trans (hb3.mono HB2.out.size))
   have HNb3 := hid (HNb2.out.below hb3)
   have HCb3 := hid (HCb2.out.below hb3)
   have HIn3 := hid (HIn2.out.below hb3)
   have HC3 := hid (HC2.out.below hb3)
   have HBl3 := hid (HBl2.out.trans (hb3.mono HBl2.out.size))
   clear HB2 HNb2 HCb2 HIn2 HC2 HBl2
   have HI3 := hid (show ZIn w3 A3 (iniM N) by obtain ⟨A', c', e, hz, _⟩ := hS3.zin; cases e; exact hz)
   clear hS3 hb3
   refine tkR 23 (fun K9 hK => ?_)
   go_simp
   have HAt := hid (at28_any Ak nk ck K A3 (iniM N).length c3 (iniM N) w3 HC3.out.k HC3.out.kl HC3.out.kb HI3.out rfl)
   ((refine (HAt.out).mono ?_); rintro e w4 ⟨rfl, hb4⟩)
   have hS9 := hHeld
   refine hK.out _ _ ⟨cell_stays hb4 hS9.1, cell_stays hb4 hS9.2.1, cell_stays hb4 hS9.2.2.1, cell_stays hb4 hS9.2.2.2.1, cell_stays hb4 hS9.2.2.2.2.1, cell_stays hb4 hS9.2.2.2.2.2.1, cell_stays hb4 hS9.2.2.2.2.2.2.1, cell_stays hb4 hS9.2.2.2.2.2.2.2.1, cell_stays hb4 hS9.2.2.2.2.2.2.2.2.1, cell_stays hb4 hS9.2.2.2.2.2.2.2.2.2.1, cell_stays hb4 hS9.2.2.2.2.2.2.2.2.2.2.1, cell_stays hb4 hS9.2.2.2.2.2.2.2.2.2.2.2⟩ (fun hHeld => ?_)
   clear hK K9 hS9
   try go_simp
   have HB4 := hid (HB3.out.trans (hb4.mono HB3.out.size))
   have HNb4 := hid (HNb3.out.below hb4)
   have HCb4 := hid (HCb3.out.below hb4)
   have HIn4 := hid (HIn3.out.below hb4)
   have HC4 := hid (HC3.out.below hb4)
   have HBl4 := hid (HBl3.out.trans (hb4.mono HBl3.out.size))
   clear HB3 HNb3 HCb3 HIn3 HC3 HBl3
   clear HAt
   clear hb4
   refine tkH 24 ?_; try go_simp
   refine tkH 25 ?_; try go_simp
   refine tkH 26 ?_; try go_simp
   refine tkH 27 ?_; try go_simp
   refine tkH 28 ?_; try go_simp
   refine tkH 29 ?_; try go_simp
   refine tkR 30 (fun K9 hK => ?_)
   go_simp
   have HCl := hid (closed28_any N A n c Ak nk ck K w4 HIn4.out HNl.out HV.out HC4.out.k HC4.out.kl HC4.out.kb HAll.out)
   rw [HX0.out] at HCl
   ((refine (HCl.out).mono ?_); rintro e w5 ⟨rfl, hb5⟩)
   have hS9 := hHeld
   refine hK.out _ _ ⟨cell_stays hb5 hS9.1, cell_stays hb5 hS9.2.1, cell_stays hb5 hS9.2.2.1, cell_stays hb5 hS9.2.2.2.1, cell_stays hb5 hS9.2.2.2.2.1, cell_stays hb5 hS9.2.2.2.2.2.1, cell_stays hb5 hS9.2.2.2.2.2.2.1, cell_stays hb5 hS9.2.2.2.2.2.2.2.1, cell_stays hb5 hS9.2.2.2.2.2.2.2.2.1, cell_stays hb5 hS9.2.2.2.2.2.2.2.2.2.1, cell_stays hb5 hS9.2.2.2.2.2.2.2.2.2.2.1, cell_stays hb5 hS9.2.2.2.2.2.2.2.2.2.2.2⟩ (fun hHeld => ?_)
   clear hK K9 hS9
   try go_simp
   have HB5 := hid (HB4.out.trans (hb5.mono HB4.out.size))
   have HNb5 := hid (HNb4.out.below hb5)
   have HCb5 := hid (HCb4.out.below hb5)
   have HIn5 := hid (HIn4.out.below hb5)
   have HC5 := hid (HC4.out.below hb5)
   have HBl5 := hid (HBl4.out.trans (hb5.mono HBl4.out.size))
   clear HB4 HNb4 HCb4 HIn4 HC4 HBl4
   clear HCl
   clear hb5
   refine tkH 31 ?_; try go_simp
   refine tkH 32 ?_; try go_simp
   refine tkH 33 ?_; try go_simp
   refine tkH 34 ?_; try go_simp
   refine tkH 35 ?_; try go_simp
   refine tkH 36 ?_; try go_simp
   refine tkH 37 ?_; try go_simp
   refine tkH 38 ?_; try go_simp
   refine wpAnyH_done (by kernel_rfl) ?_ _
   clear hHeld
   obtain ⟨b0, b1, b2, b3⟩ := HNb5.out.cells
   obtain ⟨d0, d1, d2, d3, d4, d5, d6, d7⟩ := HCb5.out.cells
   clear p0 p1 q3 q4
   obtain ⟨I, hI⟩ : ∃ I, S = [I] := by
    have := HC5.out.sl
    rw [HS1.out] at this
    match S, this with
    | [x], _ => exact ⟨x, rfl⟩
   subst hI
   rw [show ([I] : List (List Int)).headD [] = I from rfl] at HQ
   obtain ⟨as_, rfl⟩ : ∃ as_, As = some as_ := by
    obtain ⟨ad, e, _⟩ := HC5.out.s 0 (by simp)
    exact ⟨ad, e⟩
   obtain ⟨Ai0, ni, ci0, e0, zi0, hi1, hi2, hi3⟩ := lin_at HC5.out.s (i := 0) (by simp)
   replace zi0 : ZIn w5 Ai0 I := zi0
   replace hi1 : I.length = ni := hi1
   have HE0 := hid (show CA w5 as_ (.slice Ai0 ni ci0) by simpa [CA, Addr.add] using e0)
   have HZi := hid zi0
   have HIl := hid hi1
   have hni6' : ni ≤ 1000 := hI6.out I (by simp) ni hi1
   have hni6 : ni ≤ 9223372036854775806 := by omega
   have hnk := HC5.out.kb
   have hns1' := HS1.out
   subst hns1'
   clear zi0 hi1 e0 HS1
   obtain ⟨i1, hj, hz0, hz1, hz2⟩ := info_parts rowInfo3
   have HI := hid (And.intro hj (And.intro hz0 (And.intro hz1 hz2)))
   clear hj hz0 hz1 hz2
   have HBk := hid (Below.refl w5.heap.size w5)
   go_wp2_with fail
   go_loopg [6, 5] (ni) (fun g iv ov wr => ∃ (k : Nat), k + g = ni ∧ iv = .int .i64 (k : Int) ∧ (I.take k).all (okIx K) = true ∧ RwL w5 wr w5.heap.size ov (lostL K (I.take k)) ∧ Below w5.heap.size w5 wr)
   case atStart => exact ⟨0, by omega, rfl, rfl, RwL.start _ _ _, HBk.out⟩
   case round =>
    clear HBk
    obtain ⟨k, hk, rfl, hok, hR, hB⟩ := hrel
    have HK := hid hk
    have HOk := hid hok
    have HR := hid hR
    have HBr := hid hB
    have hle : k ≤ ni := by omega
    have hlk : (lostL K (I.take k)).length = k := by rw [lost_len, List.length_take, HIl.out]; omega
    have HLk := hid hlk
    have HZr := hid (HZi.out.below hB)
    obtain ⟨d0, d1, d2, d3, d4, d5, d6, d7⟩ := (HCb5.out.below hB).cells
    have e0 : wr.cell? as_ = some (.slice Ai0 ni ci0) := HE0.out.below hB
    clear hk hok hR hB hlk
    by_cases hlt : k < ni
    · have hlt' : k < I.length := by rw [HIl.out]; exact hlt
      obtain ⟨ai, rfl, hpi, q0⟩ := HZr.out k hlt'
      have HLs := hid (fun i hi hik => lost_step K I k i hlt' hi hik)
      have HAs := hid (all_step (okIx K) hlt')
      have HNo := hid (fun hh => all_false (f := okIx K) (List.getElem_mem hlt') hh)
      generalize I[k] = x at *
      clear hlt'
      by_cases hx0 : x < 0
      · have q1 : decide (x < 0) = true := by simpa using hx0
        rw [HNo.out (by unfold okIx; rw [decide_eq_false (by omega)]; rfl)] at HQ
        have HBf := hid (HB5.out.trans (HBr.out.mono HB5.out.size))
        clear hx0
        go_wp2_with fail
        go_ret
        exact ⟨ret_bool (by rw [HQ.out]; rfl), HBf.out⟩
      have q1 : decide (x < 0) = false := by simpa using hx0
      obtain ⟨i, rfl⟩ := Int.eq_ofNat_of_zero_le (show 0 ≤ x by omega)
      by_cases hx1 : nk ≤ i
      · have q2 : decide ((nk : Int) ≤ (i : Int)) = true := by simp; omega
        have q3 : decide (nk ≤ i) = true := by simpa using hx1
        rw [HNo.out (by unfold okIx; rw [HC5.out.kl, decide_eq_false (show ¬ (i : Int) < (nk : Int) by omega), Bool.and_false])] at HQ
        have HBf := hid (HB5.out.trans (HBr.out.mono HB5.out.size))
        clear hx0 hx1
        go_wp2_with fail
        go_ret
        exact ⟨ret_bool (by rw [HQ.out]; rfl), HBf.out⟩
      have q2 : decide ((nk : Int) ≤ (i : Int)) = false := by simp; omega
      have q3 : decide (nk ≤ i) = false := by simpa using hx1
      have hik : i < K.length := by rw [HC5.out.kl]; omega
      have hik1 : (i : Int) < (nk : Int) := by omega
      have hik0 : (0 : Int) ≤ (i : Int) := by omega
      obtain ⟨ak, rfl, hpk, u, c0, Ax, nx, cx, hu, hsl⟩ := HC5.out.k i hik
      have HSl := hid (show SlIn w5 u K[i] from ⟨Ax, nx, cx, hu, hsl⟩)
      have HV2 := hid (show (I.take (k + 1)).all (okIx K) = true by rw [HAs.out, HOk.out]; unfold okIx; rw [HC5.out.kl, decide_eq_true hik0, decide_eq_true hik1]; rfl)
      have HLn := hid (HLs.out i rfl hik)
      generalize K[i] = Z at *
      have c1 : wr.cell? (ak.add i) = some u := cell_stays HBr.out c0
      clear hsl hik hx0 hx1 HLs HAs HNo c0 hpk
      subst hu
      obtain ⟨SL, hown, hsl2, hsl3⟩ := HR.out
      rw [HLk.out] at hown
      obtain ⟨Al, cl0, rfl, _⟩ := row_slice hown
      have HOw := hid hown
      have HSL := hid (And.intro hsl2 hsl3)
      clear hown hsl2 hsl3
      go_wp2_with (at_builtin; refine wpList_append_own _ rfl _ _ 26 rfl w5.heap.size 25 i1 (.slice none 0 0) 1 24 Tryz.underlying26 HI.out.1 HI.out.2.1 HI.out.2.2.1 HI.out.2.2.2 rfl (by decide) (.slice Al k cl0) k SL rfl (HOw.out.alloc _) ⟨wr.heap.size, 0, none⟩ 1 1 [.slice Ax nx cx] rfl rfl ?c1 ?c2 ?c3 ?c4 ?c5 ?_)
      case c1 => intro j u hj; match j, hj with | 0, hj => simp at hj; subst hj; simp [Addr.add] | j + 1, hj => simp at hj
      case c2 => intro u hu; simp at hu; subst hu; rfl
      case c3 => unfold maxLen; omega
      case c4 => omega
      case c5 => have := HBr.out.size; simp; omega
      intro v8 w8 hown8 hgrow8 _
      have HR8 := hid (RwL.push (w0 := w5) (s := Z) HSL.out.1 HSL.out.2 (by rw [HLk.out]; exact hown8) HSl.out)
      rw [← HLn.out] at HR8
      have HB8 := hid ((HBr.out.alloc HBr.out.size (.cells #[.slice Ax nx cx] 25)).grown hgrow8 (by have := HBr.out.size; simp; omega) (fun k hk => (HOw.out.lt k hk).1))
      clear hown8 hgrow8 d0 d1 d2 d3 d4 d5 d6 d7 e0 q0 c1
      go_wp2_with fail
      go_roundg (gk - 1)
      case measure => have := HK.out; omega
      case rel => exact ⟨k + 1, by have := HK.out; omega, by go_num, HV2.out, HR8.out, HB8.out⟩
    · have hE : I.take k = I := List.take_of_length_le (by rw [HIl.out]; omega)
      rw [hE] at HOk HR
      rw [HOk.out, Bool.true_and] at HQ
      obtain ⟨Al, cl0, rfl, hLi, hc1, hc2⟩ := HR.out.lin HBr.out
      have HLl := hid (show (lostL K I).length = ni by rw [lost_len]; exact HIl.out)
      rw [HLl.out]
      have HMem := hid (lost_mem HOk.out)
      have HAlL := hid (show ∀ s ∈ lostL K I, mkX N.pl false s = true from fun s hs => HAll.out s (HMem.out s hs))
      obtain ⟨w20, rfl⟩ : ∃ w20, w20 = wr := ⟨_, rfl⟩
      have HLi20 := hid hLi
      have HBl20 := hid (Below.refl w20.heap.size w20)
      have HB20 := hid (HB5.out.trans (HBr.out.mono HB5.out.size))
      have HNb20 := hid (HNb5.out.below HBr.out)
      have HCb20 := hid (HCb5.out.below HBr.out)
      have HIn20 := hid (HIn5.out.below HBr.out)
      have HC20 := hid (HC5.out.below HBr.out)
      clear HB5 HNb5 HCb5 HIn5 HC5
      clear hE HOk HR hLi hc1 hc2 HMem HZr HLk d0 d1 d2 d3 d4 d5 d6 d7 HE0 HBr
      generalize lostL K I = L at *
      obtain ⟨w9, rfl⟩ : ∃ w9, w9 = w20 := ⟨_, rfl⟩
      have HC9 := HC20
      have HIn9 := HIn20
      have HB9 := HB20
      have HNb9 := HNb20
      have HCb9 := HCb20
      have HLi9 := HLi20
      have q1 : decide ((2000 : Int) < (ni : Int)) = false := by simp; omega
      have q2 : decide (2000 < ni) = false := by simp; omega
      have q3 : decide (k < ni) = false := by simpa using hlt
      have HCl := hid (closed28_any N A n c Al ni cl0 L w9 HIn9.out HNl.out HV.out HLi9.out HLl.out hni6 HAlL.out)
      cases hx : closX N L with
      | false =>
       rw [hx] at HQ HCl
       clear hx
       obtain ⟨b0, b1, b2, b3⟩ := HNb9.out.cells
       obtain ⟨d0, d1, d2, d3, d4, d5, d6, d7⟩ := HCb9.out.cells
       go_wp2_with fail
       ((with_reducible refine (HCl.out).mono ?_); rintro e w10 ⟨rfl, hb10⟩)
       have HB10 := hid (HB9.out.trans (hb10.mono HB9.out.size))
       clear hb10 b0 b1 b2 b3 d0 d1 d2 d3 d4 d5 d6 d7
       go_wp2_with fail
       go_ret
       exact ⟨ret_bool (by rw [HQ.out]; try first | rfl | simp), HB10.out⟩
      | true =>
       rw [hx, Bool.true_and] at HQ
       rw [hx] at HCl
       clear hx
       have HBl9 := HBl20
       obtain ⟨b0, b1, b2, b3⟩ := HNb9.out.cells
       obtain ⟨d0, d1, d2, d3, d4, d5, d6, d7⟩ := HCb9.out.cells
       go_wp2_with fail
       ((with_reducible refine HCl.out.mono ?_); rintro e w21 ⟨rfl, hb21⟩)
       have HB21 := hid (HB9.out.trans (hb21.mono HB9.out.size))
       have HNb21 := hid (HNb9.out.below hb21)
       have HCb21 := hid (HCb9.out.below hb21)
       have HIn21 := hid (HIn9.out.below hb21)
       have HC21 := hid (HC9.out.below hb21)
       have HBl21 := hid (HBl9.out.trans (hb21.mono HBl9.out.size))
       have HLi21 := hid (HLi9.out.below hb21)
       clear hb21 b0 b1 b2 b3 d0 d1 d2 d3 d4 d5 d6 d7 HCl HBl20 HBl9 HC20 HIn20 HB20 HNb20 HCb20 HLi20
       have HFn := hid (fin28_any N A n c HV.out w21)
       obtain ⟨b0, b1, b2, b3⟩ := HNb21.out.cells
       obtain ⟨d0, d1, d2, d3, d4, d5, d6, d7⟩ := HCb21.out.cells
       go_wp2_with fail
       ((with_reducible refine HFn.out.mono ?_); rintro e w22 ⟨v22, rfl, hS22⟩)
       obtain ⟨A22, c22, rfl⟩ := hS22.slice
       have hb22 := hS22.2
       have HF22 := hid (show ZIn w22 A22 (finM N) by obtain ⟨A', c', e, hz, _⟩ := hS22.zin; cases e; exact hz)
       have HB22 := hid (HB21.out.trans (hb22.mono HB21.out.size))
       have HNb22 := hid (HNb21.out.below hb22)
       have HCb22 := hid (HCb21.out.below hb22)
       have HIn22 := hid (HIn21.out.below hb22)
       have HC22 := hid (HC21.out.below hb22)
       have HBl22 := hid (HBl21.out.trans (hb22.mono HBl21.out.size))
       have HLi22 := hid (HLi21.out.below hb22)
       clear HB21 HNb21 HCb21 HIn21 HC21 HBl21 HLi21
       clear hS22 hb22 HFn b0 b1 b2 b3 d0 d1 d2 d3 d4 d5 d6 d7
       have HAt := hid (at28_any Al ni cl0 L A22 (finM N).length c22 (finM N) w22 HLi22.out HLl.out hni6 HF22.out rfl)
       by_cases hf : findR L (finM N) < 0
       rotate_left
       · have q6 : decide (0 ≤ findR L (finM N)) = true := by simp; omega
         rw [decide_eq_false hf] at HQ
         generalize findR L (finM N) = fi at *
         clear hf
         obtain ⟨b0, b1, b2, b3⟩ := HNb22.out.cells
         obtain ⟨d0, d1, d2, d3, d4, d5, d6, d7⟩ := HCb22.out.cells
         go_wp2_with fail
         ((with_reducible refine (HAt.out).mono ?_); rintro e w23 ⟨rfl, hb23⟩)
         have HB23 := hid (HB22.out.trans (hb23.mono HB22.out.size))
         clear hb23 b0 b1 b2 b3 d0 d1 d2 d3 d4 d5 d6 d7
         go_wp2_with fail
         go_ret
         exact ⟨ret_bool (by rw [HQ.out]; try first | rfl | simp), HB23.out⟩
       have q6 : decide (0 ≤ findR L (finM N)) = false := by simp; omega
       rw [decide_eq_true hf, Bool.true_and] at HQ
       generalize findR L (finM N) = fi at *
       clear hf
       obtain ⟨b0, b1, b2, b3⟩ := HNb22.out.cells
       obtain ⟨d0, d1, d2, d3, d4, d5, d6, d7⟩ := HCb22.out.cells
       go_wp2_with fail
       ((with_reducible refine (HAt.out).mono ?_); rintro e w23 ⟨rfl, hb23⟩)
       have HB23 := hid (HB22.out.trans (hb23.mono HB22.out.size))
       have HNb23 := hid (HNb22.out.below hb23)
       have HCb23 := hid (HCb22.out.below hb23)
       have HIn23 := hid (HIn22.out.below hb23)
       have HC23 := hid (HC22.out.below hb23)
       have HBl23 := hid (HBl22.out.trans (hb23.mono HBl22.out.size))
       have HLi23 := hid (HLi22.out.below hb23)
       clear HB22 HNb22 HCb22 HIn22 HC22 HBl22 HLi22
       clear hb23 b0 b1 b2 b3 d0 d1 d2 d3 d4 d5 d6 d7
       go_wp2_with fail
       clear q1 q2 q3 q6
       obtain ⟨kn, hkn⟩ : ∃ kn : Nat, cn = (kn : Int) := by
        have := HT0.out
        unfold trnB at this
        simp only [Bool.and_eq_true, decide_eq_true_eq] at this
        exact Int.eq_ofNat_of_zero_le this.1
       subst hkn
       have hkt : kn < N.tr.length := by
        have := HT0.out
        unfold trnB at this
        simp only [Bool.and_eq_true, decide_eq_true_eq] at this
        omega
       have HTl := hid hkt
       clear hkt
       have HTe := hid (show trAtN N (kn : Int) = N.tr[kn]'HTl.out by unfold trAtN; rw [Int.toNat_natCast]; simp [HTl.out])
       go_loopg [8] (nk) (fun g iv wr => ∃ i : Nat, i + g = nk ∧ iv = .int .i64 (i : Int) ∧ (K.take i).all (nrkR L (trAtN N (kn : Int))) = true ∧ Below w9.heap.size w9 wr)
       case atStart => exact ⟨0, by omega, rfl, by simp, HBl23.out⟩
       case round =>
        clear HB23 HNb23 HCb23 HIn23 HC23 HBl23 HLi23
        obtain ⟨i, hi, rfl, hp, hB⟩ := hrel
        have HK := hid hi
        have HP := hid hp
        have HBl40 := hid hB
        have hle : i ≤ nk := by omega
        clear hi hp hB
        obtain ⟨w40, rfl⟩ : ∃ w40, w40 = wr := ⟨_, rfl⟩
        have HB40 := hid (HB9.out.trans (HBl40.out.mono HB9.out.size))
        have HNb40 := hid (HNb9.out.below HBl40.out)
        have HCb40 := hid (HCb9.out.below HBl40.out)
        have HIn40 := hid (HIn9.out.below HBl40.out)
        have HC40 := hid (HC9.out.below HBl40.out)
        have HLi40 := hid (HLi9.out.below HBl40.out)
        by_cases hlt : i < nk
        · have hiK : i < K.length := by rw [HC9.out.kl]; exact hlt
          have HSt := hid (all_step (nrkR L (trAtN N (kn : Int))) hiK)
          have HNo := hid (fun hh => all_false (f := nrkR L (trAtN N (kn : Int))) (List.getElem_mem hiK) hh)
          have HMy := hid (HAll.out _ (List.getElem_mem hiK))
          have HRe := hid (show nrkR L (trAtN N (kn : Int)) K[i] = (!(canT (trAtN N (kn : Int)) K[i]) || (!(bigM (fireT (trAtN N (kn : Int)) K[i])) && !(decide (findR L (fireT (trAtN N (kn : Int)) K[i]) < 0)))) from rfl)
          obtain ⟨ak, rfl⟩ : ∃ ak, Ak = some ak := by
           obtain ⟨ad, e, _⟩ := HC9.out.k i hiK
           exact ⟨ad, e⟩
          obtain ⟨Ay, ny, cy, hy0, hzy, hy1, hy2, hy3⟩ := lin_at HC9.out.k hiK
          have HY40 := hid (hy0.below HBl40.out)
          have HZy := hid hzy
          have HYl := hid hy1
          generalize K[i] = Y at *
          have hyp : (ny : Int) = N.pl := by have := mkX_len HMy.out; omega
          have HYp := hid hyp
          have hny : ny ≤ 1000 := by omega
          have hny0 : 0 < ny := by omega
          have hi0 : (0 : Int) ≤ (i : Int) := by omega
          have hi1 : (i : Int) < (nk : Int) := by omega
          have HEn := hid (fun d os => can28_any N A n c Ay ny cy Y kn HTl.out _ (HIn40.out.below (below_regrown w40 d os)).1 HNl.out ((HZy.out.below HBl40.out).below (below_regrown w40 d os)) HYl.out (nt_inM HV.out (m := ny) HYp.out _ (List.getElem_mem HTl.out)).1)
          have HFi0 := hid (fun w1 (hw : Below w9.heap.size w9 w1) => fire28_any N A n c Ay ny cy Y kn HTl.out w1 (HIn9.out.below hw).1 HNl.out (HZy.out.below hw) HYl.out hny0 hny (netOk_of HV.out HYp.out kn _ (List.getElem?_eq_getElem HTl.out)) (mkX_bnd HMy.out) (fun p => mkX_le HMy.out p))
          rw [← HTe.out] at HEn HFi0
          have HFl := hid (show (fireT (trAtN N (kn : Int)) Y).length = ny by rw [fireT_len, HYl.out])
          clear hy0 hzy hy1 hiK hyp
          obtain ⟨b0, b1, b2, b3⟩ := HNb40.out.cells
          obtain ⟨d0, d1, d2, d3, d4, d5, d6, d7⟩ := HCb40.out.cells
          go_wp2_with fail
          clear b0 b1 b2 b3 d0 d1 d2 d3 d4 d5 d6 d7
          cases hcan : canT (trAtN N (kn : Int)) Y with
          | false =>
           rw [hcan] at HEn HRe
           clear hcan
           obtain ⟨b0, b1, b2, b3⟩ := HNb40.out.cells
           obtain ⟨d0, d1, d2, d3, d4, d5, d6, d7⟩ := HCb40.out.cells
           have y0 : w40.cell? (ak.add i) = some (.slice Ay ny cy) := HY40.out
           clear d0 d2 d3 d5 d6 d7
           go_wp2_with fail
           have a0 := fun d os => cell_regrown b0 d os
           have a1 := fun d os => cell_regrown b1 d os
           have a2 := fun d os => cell_regrown b2 d os
           have a3 := fun d os => cell_regrown b3 d os
           have a4 := fun d os => cell_regrown d1 d os
           have a5 := fun d os => cell_regrown d4 d os
           have a6 := fun d os => cell_regrown y0 d os
           refine wp_region_quiet_below (by kernel_rfl) (by kernel_rfl) ?_
           repeat (quiet_step (exact Calls.regrown_of (HEn.out _ _)))
           refine wpQuiet_nil ?_
           intro _ hw'
           obtain ⟨⟨dq, osq⟩, hw''⟩ := hw'
           subst hw''
           have HB41 := hid (HB40.out.trans ((below_regrown w40 dq osq).mono HB40.out.size))
           have HNb41 := hid (HNb40.out.below (below_regrown w40 dq osq))
           have HCb41 := hid (HCb40.out.below (below_regrown w40 dq osq))
           have HIn41 := hid (HIn40.out.below (below_regrown w40 dq osq))
           have HC41 := hid (HC40.out.below (below_regrown w40 dq osq))
           have HBl41 := hid (HBl40.out.trans ((below_regrown w40 dq osq).mono HBl40.out.size))
           have HLi41 := hid (HLi40.out.below (below_regrown w40 dq osq))
           have HY41 := hid (HY40.out.below (below_regrown w40 dq osq))
           clear a0 a1 a2 a3 a4 a5 a6
           clear HB40 HNb40 HCb40 HIn40 HC40 HBl40 HLi40 HY40
           clear b0 b1 b2 b3 d1 d4 y0
           generalize Sort.grow (redrawn w40 dq) osq = w41 at *
           go_wp2_with fail
           go_roundg (gk - 1)
           case measure => have := HK.out; omega
           case rel => exact ⟨i + 1, by have := HK.out; omega, by go_num, by rw [HSt.out, HP.out, HRe.out]; rfl, HBl41.out⟩
          | true =>
           rw [hcan, Bool.not_true, Bool.false_or] at HRe
           rw [hcan] at HEn
           clear hcan
           obtain ⟨b0, b1, b2, b3⟩ := HNb40.out.cells
           obtain ⟨d0, d1, d2, d3, d4, d5, d6, d7⟩ := HCb40.out.cells
           have y0 : w40.cell? (ak.add i) = some (.slice Ay ny cy) := HY40.out
           clear d0 d2 d3 d5 d6 d7
           go_wp2_with fail
           have a0 := fun d os => cell_regrown b0 d os
           have a1 := fun d os => cell_regrown b1 d os
           have a2 := fun d os => cell_regrown b2 d os
           have a3 := fun d os => cell_regrown b3 d os
           have a4 := fun d os => cell_regrown d1 d os
           have a5 := fun d os => cell_regrown d4 d os
           have a6 := fun d os => cell_regrown y0 d os
           refine wp_region_quiet_below (by kernel_rfl) (by kernel_rfl) ?_
           repeat (quiet_step (exact Calls.regrown_of (HEn.out _ _)))
           refine wpQuiet_nil ?_
           intro _ hw'
           obtain ⟨⟨dq, osq⟩, hw''⟩ := hw'
           subst hw''
           have HB41 := hid (HB40.out.trans ((below_regrown w40 dq osq).mono HB40.out.size))
           have HNb41 := hid (HNb40.out.below (below_regrown w40 dq osq))
           have HCb41 := hid (HCb40.out.below (below_regrown w40 dq osq))
           have HIn41 := hid (HIn40.out.below (below_regrown w40 dq osq))
           have HC41 := hid (HC40.out.below (below_regrown w40 dq osq))
           have HBl41 := hid (HBl40.out.trans ((below_regrown w40 dq osq).mono HBl40.out.size))
           have HLi41 := hid (HLi40.out.below (below_regrown w40 dq osq))
           have HY41 := hid (HY40.out.below (below_regrown w40 dq osq))
           clear a0 a1 a2 a3 a4 a5 a6
           clear HB40 HNb40 HCb40 HIn40 HC40 HBl40 HLi40 HY40
           clear b0 b1 b2 b3 d1 d4 y0
           generalize Sort.grow (redrawn w40 dq) osq = w41 at *
           cases hbig : bigM (fireT (trAtN N (kn : Int)) Y) with
           | true =>
            rw [hbig] at HRe
            rw [HNo.out HRe.out] at HQ
            go_wp2_with fail
            obtain ⟨b0, b1, b2, b3⟩ := HNb41.out.cells
            obtain ⟨d0, d1, d2, d3, d4, d5, d6, d7⟩ := HCb41.out.cells
            have y0 : w41.cell? (ak.add i) = some (.slice Ay ny cy) := HY41.out
            clear d0 d2 d3 d5 d6 d7
            have hbd : Below w41.heap.size w41 w41.drew := (Below.refl _ _).drew
            have HB42 := hid (HB41.out.trans (hbd.mono HB41.out.size))
            have HNb42 := hid (HNb41.out.below hbd)
            have HCb42 := hid (HCb41.out.below hbd)
            have HIn42 := hid (HIn41.out.below hbd)
            have HC42 := hid (HC41.out.below hbd)
            have HBl42 := hid (HBl41.out.trans (hbd.mono HBl41.out.size))
            have HLi42 := hid (HLi41.out.below hbd)
            have HY42 := hid (HY41.out.below hbd)
            have hS0 := And.intro (cell_stays hbd b0) (And.intro (cell_stays hbd b1) (And.intro (cell_stays hbd b2) (And.intro (cell_stays hbd b3) (And.intro (cell_stays hbd d1) (And.intro (cell_stays hbd d4) ((cell_stays hbd y0)))))))
            refine wp_region_held_drew (S := fun w' => w'.cell? ⟨w.heap.size, 0, none⟩ = some (.int .i64 N.pl) ∧ w'.cell? ⟨w.heap.size, 1, none⟩ = some (.slice A n c) ∧ w'.cell? ⟨w.heap.size, 2, none⟩ = some (.int .i64 N.src) ∧ w'.cell? ⟨w.heap.size, 3, none⟩ = some (.int .i64 N.snk) ∧ w'.cell? ⟨cb, 1, none⟩ = some (.int .i64 (kn : Int)) ∧ w'.cell? ⟨cb, 4, none⟩ = some (.slice (some ak) nk ck) ∧ w'.cell? (ak.add i) = some (.slice Ay ny cy)) (by kernel_rfl) hS0 (fun hHeld => ?_)
            clear hS0 hbd b0 b1 b2 b3 d1 d4 y0
            clear HB41 HNb41 HCb41 HIn41 HC41 HBl41 HLi41 HY41
            generalize w41.drew = w42 at *
            refine tkH 0 ?_; try go_simp
            refine tkH 1 ?_; try go_simp
            refine tkH 2 ?_; try go_simp
            refine tkH 3 ?_; try go_simp
            refine tkH 4 ?_; try go_simp
            refine tkH 5 ?_; try go_simp
            refine tkH 6 ?_; try go_simp
            refine tkH 7 ?_; try go_simp
            refine tkR 8 (fun K9 hK => ?_)
            go_simp
            ((refine (rf_no (HFi0.out w42 HBl42.out) hbig).mono ?_); rintro e w43 ⟨rfl, hb43⟩)
            have hS9 := hHeld
            refine hK.out _ _ ⟨cell_stays hb43 hS9.1, cell_stays hb43 hS9.2.1, cell_stays hb43 hS9.2.2.1, cell_stays hb43 hS9.2.2.2.1, cell_stays hb43 hS9.2.2.2.2.1, cell_stays hb43 hS9.2.2.2.2.2.1, cell_stays hb43 hS9.2.2.2.2.2.2⟩ (fun hHeld => ?_)
            clear hK K9 hS9
            try go_simp
            have HB43 := hid (HB42.out.trans (hb43.mono HB42.out.size))
            have HNb43 := hid (HNb42.out.below hb43)
            have HCb43 := hid (HCb42.out.below hb43)
            have HIn43 := hid (HIn42.out.below hb43)
            have HC43 := hid (HC42.out.below hb43)
            have HBl43 := hid (HBl42.out.trans (hb43.mono HBl42.out.size))
            have HLi43 := hid (HLi42.out.below hb43)
            have HY43 := hid (HY42.out.below hb43)
            clear HB42 HNb42 HCb42 HIn42 HC42 HBl42 HLi42 HY42
            clear hb43
            refine tkH 9 ?_; try go_simp
            refine tkH 10 ?_; try go_simp
            refine tkH 11 ?_; try go_simp
            refine tkH 12 ?_; try go_simp
            refine tkH 13 ?_; try go_simp
            refine wpAnyH_done (by kernel_rfl) ?_ _
            clear hHeld
            go_wp2_with fail
            go_ret
            exact ⟨ret_bool (by rw [HQ.out]), HB43.out⟩
           | false =>
            rw [hbig, Bool.not_false, Bool.true_and] at HRe
            obtain ⟨F, hF⟩ : ∃ F, F = fireT (trAtN N (kn : Int)) Y := ⟨_, rfl⟩
            rw [← hF] at HFi0 HRe HFl hbig
            clear hF
            go_wp2_with fail
            obtain ⟨b0, b1, b2, b3⟩ := HNb41.out.cells
            obtain ⟨d0, d1, d2, d3, d4, d5, d6, d7⟩ := HCb41.out.cells
            have y0 : w41.cell? (ak.add i) = some (.slice Ay ny cy) := HY41.out
            clear d0 d2 d3 d5 d6 d7
            have hbd : Below w41.heap.size w41 w41.drew := (Below.refl _ _).drew
            have HB42 := hid (HB41.out.trans (hbd.mono HB41.out.size))
            have HNb42 := hid (HNb41.out.below hbd)
            have HCb42 := hid (HCb41.out.below hbd)
            have HIn42 := hid (HIn41.out.below hbd)
            have HC42 := hid (HC41.out.below hbd)
            have HBl42 := hid (HBl41.out.trans (hbd.mono HBl41.out.size))
            have HLi42 := hid (HLi41.out.below hbd)
            have HY42 := hid (HY41.out.below hbd)
            have hS0 := And.intro (cell_stays hbd b0) (And.intro (cell_stays hbd b1) (And.intro (cell_stays hbd b2) (And.intro (cell_stays hbd b3) (And.intro (cell_stays hbd d1) (And.intro (cell_stays hbd d4) ((cell_stays hbd y0)))))))
            refine wp_region_held_drew (S := fun w' => w'.cell? ⟨w.heap.size, 0, none⟩ = some (.int .i64 N.pl) ∧ w'.cell? ⟨w.heap.size, 1, none⟩ = some (.slice A n c) ∧ w'.cell? ⟨w.heap.size, 2, none⟩ = some (.int .i64 N.src) ∧ w'.cell? ⟨w.heap.size, 3, none⟩ = some (.int .i64 N.snk) ∧ w'.cell? ⟨cb, 1, none⟩ = some (.int .i64 (kn : Int)) ∧ w'.cell? ⟨cb, 4, none⟩ = some (.slice (some ak) nk ck) ∧ w'.cell? (ak.add i) = some (.slice Ay ny cy)) (by kernel_rfl) hS0 (fun hHeld => ?_)
            clear hS0 hbd b0 b1 b2 b3 d1 d4 y0
            clear HB41 HNb41 HCb41 HIn41 HC41 HBl41 HLi41 HY41
            generalize w41.drew = w42 at *
            refine tkH 0 ?_; try go_simp
            refine tkH 1 ?_; try go_simp
            refine tkH 2 ?_; try go_simp
            refine tkH 3 ?_; try go_simp
            refine tkH 4 ?_; try go_simp
            refine tkH 5 ?_; try go_simp
            refine tkH 6 ?_; try go_simp
            refine tkH 7 ?_; try go_simp
            refine tkR 8 (fun K9 hK => ?_)
            go_simp
            ((refine (rf_yes (HFi0.out w42 HBl42.out) hbig).mono ?_); rintro e w43 ⟨v43, rfl, hS43⟩)
            obtain ⟨A43, c43, rfl⟩ := hS43.slice
            have hb43 := hS43.2
            have hS9 := hHeld
            refine hK.out _ _ ⟨cell_stays hb43 hS9.1, cell_stays hb43 hS9.2.1, cell_stays hb43 hS9.2.2.1, cell_stays hb43 hS9.2.2.2.1, cell_stays hb43 hS9.2.2.2.2.1, cell_stays hb43 hS9.2.2.2.2.2.1, cell_stays hb43 hS9.2.2.2.2.2.2⟩ (fun hHeld => ?_)
            clear hK K9 hS9
            try go_simp
            have HB43 := hid (HB42.out.trans (hb43.mono HB42.out.size))
            have HNb43 := hid (HNb42.out.below hb43)
            have HCb43 := hid (HCb42.out.below hb43)
            have HIn43 := hid (HIn42.out.below hb43)
            have HC43 := hid (HC42.out.below hb43)
            have HBl43 := hid (HBl42.out.trans (hb43.mono HBl42.out.size))
            have HLi43 := hid (HLi42.out.below hb43)
            have HY43 := hid (HY42.out.below hb43)
            clear HB42 HNb42 HCb42 HIn42 HC42 HBl42 HLi42 HY42
            have HZf43 := hid (show ZIn w43 A43 F by obtain ⟨A', c', e, hz, _⟩ := hS43.zin; cases e; exact hz)
            clear hS43 hb43
            refine tkH 9 ?_; try go_simp
            refine tkH 10 ?_; try go_simp
            refine tkH 11 ?_; try go_simp
            refine tkH 12 ?_; try go_simp
            refine tkH 13 ?_; try go_simp
            refine wpAnyH_done (by kernel_rfl) ?_ _
            clear hHeld
            rw [HFl.out]
            have HAt := hid (at28_any Al ni cl0 L A43 ny c43 F w43 HLi43.out HLl.out (by omega) HZf43.out HFl.out)
            clear hbig
            by_cases hf : findR L F < 0
            · have q9 : decide (findR L F < 0) = true := by simpa using hf
              rw [q9] at HRe
              rw [HNo.out HRe.out] at HQ
              generalize findR L F = fi at *
              clear hf
              go_wp2_with fail
              ((with_reducible refine HAt.out.mono ?_); rintro e w44 ⟨rfl, hb44⟩)
              have HB44 := hid (HB43.out.trans (hb44.mono HB43.out.size))
              clear hb44
              go_wp2_with fail
              go_ret
              exact ⟨ret_bool (by rw [HQ.out]), HB44.out⟩
            · have q9 : decide (findR L F < 0) = false := by simpa using hf
              rw [q9] at HRe
              generalize findR L F = fi at *
              clear hf
              go_wp2_with fail
              ((with_reducible refine HAt.out.mono ?_); rintro e w44 ⟨rfl, hb44⟩)
              have HBl44 := hid (HBl43.out.trans (hb44.mono HBl43.out.size))
              clear hb44
              go_wp2_with fail
              go_roundg (gk - 1)
              case measure => have := HK.out; omega
              case rel => exact ⟨i + 1, by have := HK.out; omega, by go_num, by rw [HSt.out, HP.out, HRe.out]; rfl, HBl44.out⟩
        · have hE : K.all (nrkR L (trAtN N (kn : Int))) = true := by
           have := HP.out
           rwa [List.take_of_length_le (by rw [HC9.out.kl]; omega)] at this
          rw [hE] at HQ
          obtain ⟨b0, b1, b2, b3⟩ := HNb40.out.cells
          obtain ⟨d0, d1, d2, d3, d4, d5, d6, d7⟩ := HCb40.out.cells
          go_wp2_with fail
          go_ret
          exact ⟨ret_bool (by rw [HQ.out]; try first | rfl | simp), HB40.out⟩
end Go.Proofs.YtpnhcimmlnjfaaaGreatDoor
