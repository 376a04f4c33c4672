/- run, reached of reference 28: what a call returns. -/
import Derived.Test.YtpnhcimmlnjfaaaGreatDoorUt
import Derived.Test.YtpnhcimmlnjfaaaGreatDoorYb
namespace Go.Proofs.YtpnhcimmlnjfaaaGreatDoor
open Go.Lib (hid)
open Go.RowKit

theorem MvB.all3 {w : World} {b : Nat} {f t s : Int} (h : MvB w b f t s) : w.cell? ⟨b, 0, none⟩ = some (.int .i64 f) ∧ w.cell? ⟨b, 1, none⟩ = some (.int .i64 t) ∧ w.cell? ⟨b, 2, none⟩ = some (.int .i64 s) := by
 have h' : w.heap[b]? = _ := h
 exact ⟨by simp [World.cell?, h'], by simp [World.cell?, h'], by simp [World.cell?, h']⟩
/-- a move reaches the next marking: the reference's way -/
def rmvB (N : Nt) (K : List (List Int)) (i : Nat) (f t s : Int) : Bool :=
 decide (t = (i : Int) + 1) && (decide (0 ≤ f) && (decide (f ≤ (i : Int)) && (decide (0 ≤ s) && (decide (s < (N.tr.length : Int)) && (canT (trAtN N s) (K.getD f.toNat []) && (decide (findR K (K.getD (i + 1) []) = (i : Int) + 1) && (!(bigM (fireT (trAtN N s) (K.getD f.toNat []))) && decide (fireT (trAtN N s) (K.getD f.toNat []) = K.getD (i + 1) []))))))))
def rmvAt (N : Nt) (K : List (List Int)) (V : List Mv) (i : Nat) : Bool := match V[i]? with
 | some x => rmvB N K i x.f x.t x.s
 | none => true
theorem rmv_get {N : Nt} {K : List (List Int)} {V : List Mv} {i : Nat} (h : i < V.length) : rmvAt N K V i = rmvB N K i V[i].f V[i].t V[i].s := by
 unfold rmvAt; rw [List.getElem?_eq_getElem h]
/-- the moves show that all markings are reached: the reference's way -/
def rchB (N : Nt) (K : List (List Int)) (V : List Mv) : Bool :=
 !(K.isEmpty) && (decide (findR K (iniM N) = 0) && (decide (V.length + 1 = K.length) && (List.range V.length).all (rmvAt N K V)))
set_option maxHeartbeats 3200000 in
set_option maxRecDepth 100000 in
theorem run28_any (N : Nt) (A : Option Addr) (n c : Nat) (Am : Option Addr) (m cm : Nat) (M : List Int) (Al : Option Addr) (nl cl : Nat) (l : List Int) (w : World) (h : NtIn w A N) (hn : N.tr.length = n) (hn2 : n ≤ 9223372036854775807) (hM : ZIn w Am M) (hm : M.length = m) (hm2 : m ≤ 9223372036854775807) (hL : ZIn w Al l) (hl : l.length = nl) :
 Calls Tryz.prog 84 #[.agg #[.int .i64 N.pl, .slice A n c, .int .i64 N.src, .int .i64 N.snk], .slice Am m cm, .slice Al nl cl] w (VrPo (run21 N M l) w) := by
 have HB := hid (below_alloc w (.cells #[.int .i64 N.pl, .slice A n c, .int .i64 N.src, .int .i64 N.snk] 24))
 have HRn := hid (r21run_any N A n c Am m cm M Al nl cl l (w.alloc (.cells #[.int .i64 N.pl, .slice A n c, .int .i64 N.src, .int .i64 N.snk] 24)) (h.below HB.out) hn hn2 (hM.below HB.out) hm hm2 (hL.below HB.out) hl)
 clear h hn hM hm hL hl
 generalize run21 N M l = r at *
 obtain ⟨X, ri, er⟩ := r
 by_cases h0 : er = 0
 · subst h0
   have hR1 := rv_yes HRn.out rfl
   dsimp only at hR1
   have HR1 := hid hR1
   clear hR1 HRn
   go_enter Tryz.func84, Tryz.ntmps84
   go_wp2_with fail
   ((with_reducible refine HR1.out.mono ?_); rintro e w1 ⟨v1, rfl, hS1⟩)
   have HS1 := hid (NS.up HB.out hS1)
   clear hS1
   go_wp2_with fail
   go_ret2
   exact VrPo.yes rfl rfl HS1.out
 · have hR1 := rv_no HRn.out h0
   dsimp only at hR1
   have HR1 := hid hR1
   have HH := hid h0
   have q1 : (er == 0) = false := by rw [beq_eq_false_iff_ne]; exact h0
   clear hR1 HRn h0
   go_enter Tryz.func84, Tryz.ntmps84
   go_wp2_with fail
   ((with_reducible refine HR1.out.mono ?_); rintro e w1 ⟨rfl, hb1⟩)
   have HB1 := hid (HB.out.trans (hb1.mono HB.out.size))
   clear hb1
   go_wp2_with fail
   go_ret2
   exact VrPo.no HH.out rfl HB1.out
set_option maxHeartbeats 25600000 in
set_option maxRecDepth 100000 in
theorem reached28_any (N : Nt) (A : Option Addr) (n c : Nat) (cl cn : Int) (Ar : Option Addr) (nr cr : Nat) (R : List Int) (Ap : Option Addr) (np cp : Nat) (P : List Int) (Ak : Option Addr) (nk ck : Nat) (K : List (List Int)) (Av : Option Addr) (nv cv : Nat) (V : List Mv) (As : Option Addr) (ns cs : Nat) (S : List (List Int)) (Aw : Option Addr) (nw cw : Nat) (X : List (List Int)) (w : World) (h : NtIn w A N) (hn : N.tr.length = n) (hv : ntB N = true) (hC : CfM w Ar nr R Ap np P Ak nk K Av nv V As ns S Aw nw X) (hmk : mksX N.pl false K = true) :
 Calls Tryz.prog 117 #[.agg #[.int .i64 N.pl, .slice A n c, .int .i64 N.src, .int .i64 N.snk], .agg #[.int .i64 cl, .int .i64 cn, .slice Ar nr cr, .slice Ap np cp, .slice Ak nk ck, .slice Av nv cv, .slice As ns cs, .slice Aw nw cw]] w fun e w' => e = .returned (.bool (rchB N K V)) ∧ Below w.heap.size w w' := by
 have HB0 := hid (two_boxes w (.cells #[.int .i64 N.pl, .slice A n c, .int .i64 N.src, .int .i64 N.snk] 24) (.cells #[.int .i64 cl, .int .i64 cn, .slice Ar nr cr, .slice Ap np cp, .slice Ak nk ck, .slice Av nv cv, .slice As ns cs, .slice Aw nw cw] 29))
 have HNb0 := hid ((NB.new w N.pl A n c N.src N.snk).below (below_alloc _ (.cells #[.int .i64 cl, .int .i64 cn, .slice Ar nr cr, .slice Ap np cp, .slice Ak nk ck, .slice Av nv cv, .slice As ns cs, .slice Aw nw cw] 29)))
 have hcb := heap_alloc_new (w.alloc (.cells #[.int .i64 N.pl, .slice A n c, .int .i64 N.src, .int .i64 N.snk] 24)) (.cells #[.int .i64 cl, .int .i64 cn, .slice Ar nr cr, .slice Ap np cp, .slice Ak nk ck, .slice Av nv cv, .slice As ns cs, .slice Aw nw cw] 29)
 rw [World.size_alloc] at hcb
 have HCb0 := hid (show CtB _ (w.heap.size + 1) #[.int .i64 cl, .int .i64 cn, .slice Ar nr cr, .slice Ap np cp, .slice Ak nk ck, .slice Av nv cv, .slice As ns cs, .slice Aw nw cw] from hcb)
 have HIn0 := hid (h.below HB0.out)
 have HC0 := hid (hC.below HB0.out)
 have HNl := hid hn
 have HV := hid hv
 have hps := nt_small hv
 have hn60 : n ≤ 60 := by omega
 have HQ := hid (show rchB N K V = (!(K.isEmpty) && (decide (findR K (iniM N) = 0) && (decide (V.length + 1 = K.length) && (List.range V.length).all (rmvAt N K V)))) from rfl)
 generalize rchB N K V = Q at *
 have HAll := hid (show ∀ s ∈ K, mkX N.pl false s = true from List.all_eq_true.1 hmk)
 have hpl1 : 1 ≤ N.pl := hps.1
 have hpl40 : N.pl ≤ 40 := hps.2.1
 clear h hn hv hC hps hcb hmk
 go_enter Tryz.func117, Tryz.ntmps117
 go_wp2_with fail
 generalize (w.alloc (.cells #[.int .i64 N.pl, .slice A n c, .int .i64 N.src, .int .i64 N.snk] 24)).alloc (.cells #[.int .i64 cl, .int .i64 cn, .slice Ar nr cr, .slice Ap np cp, .slice Ak nk ck, .slice Av nv cv, .slice As ns cs, .slice Aw nw cw] 29) = w0 at *
 generalize w.heap.size + 1 = cb at *
 have HBl0 := hid (Below.refl w0.heap.size w0)
 by_cases hk0 : nk = 0
 · have HE := hid (emp_yes HC0.out.kl hk0)
   rw [HE.out] at HQ
   have q1 : ((nk : Int) == 0) = true := by simp [hk0]
   clear hk0
   obtain ⟨b0, b1, b2, b3⟩ := HNb0.out.cells
   obtain ⟨d0, d1, d2, d3, d4, d5, d6, d7⟩ := HCb0.out.cells
   have hbd : Below w0.heap.size w0 w0.drew := (Below.refl _ _).drew
   have HB1 := hid (HB0.out.trans (hbd.mono HB0.out.size))
   have HNb1 := hid (HNb0.out.below hbd)
   have HCb1 := hid (HCb0.out.below hbd)
   have HIn1 := hid (HIn0.out.below hbd)
   have HC1 := hid (HC0.out.below hbd)
   have HBl1 := hid (HBl0.out.trans (hbd.mono HBl0.out.size))
   have hS0 := And.intro (cell_stays hbd b0) (And.intro (cell_stays hbd b1) (And.intro (cell_stays hbd b2) (And.intro (cell_stays hbd b3) (And.intro (cell_stays hbd d0) (And.intro (cell_stays hbd d1) (And.intro (cell_stays hbd d2) (And.intro (cell_stays hbd d3) (And.intro (cell_stays hbd d4) (And.intro (cell_stays hbd d5) (And.intro (cell_stays hbd d6) ((cell_stays hbd d7))))))))))))
   refine wp_region_held_drew (S := fun w' => w'.cell? ⟨w.heap.size, 0, none⟩ = some (.int .i64 N.pl) ∧ w'.cell? ⟨w.heap.size, 1, none⟩ = some (.slice A n c) ∧ w'.cell? ⟨w.heap.size, 2, none⟩ = some (.int .i64 N.src) ∧ w'.cell? ⟨w.heap.size, 3, none⟩ = some (.int .i64 N.snk) ∧ w'.cell? ⟨cb, 0, none⟩ = some (.int .i64 cl) ∧ w'.cell? ⟨cb, 1, none⟩ = some (.int .i64 cn) ∧ w'.cell? ⟨cb, 2, none⟩ = some (.slice Ar nr cr) ∧ w'.cell? ⟨cb, 3, none⟩ = some (.slice Ap np cp) ∧ w'.cell? ⟨cb, 4, none⟩ = some (.slice Ak nk ck) ∧ w'.cell? ⟨cb, 5, none⟩ = some (.slice Av nv cv) ∧ w'.cell? ⟨cb, 6, none⟩ = some (.slice As ns cs) ∧ w'.cell? ⟨cb, 7, none⟩ = some (.slice Aw nw cw)) (by kernel_rfl) hS0 (fun hHeld => ?_)
   clear hS0 hbd b0 b1 b2 b3 d0 d1 d2 d3 d4 d5 d6 d7
   clear HB0 HNb0 HCb0 HIn0 HC0 HBl0
   generalize w0.drew = w1 at *
   refine tkH 0 ?_; try go_simp
   refine tkH 1 ?_; try go_simp
   refine tkH 2 ?_; try go_simp
   refine tkH 3 ?_; try go_simp
   refine tkH 4 ?_; try go_simp
   refine tkU 5 ?_; try go_simp
   refine tkU 6 ?_; try go_simp
   refine tkU 7 ?_; try go_simp
   refine tkU 8 ?_; try go_simp
   refine tkU 9 ?_; try go_simp
   refine tkU 10 ?_; try go_simp
   refine tkH 11 ?_; try go_simp
   refine tkH 12 ?_; try go_simp
   refine tkU 13 ?_; try go_simp
   refine tkU 14 ?_; try go_simp
   refine tkU 15 ?_; try go_simp
   refine tkU 16 ?_; try go_simp
   refine tkU 17 ?_; try go_simp
   refine tkU 18 ?_; try go_simp
   refine tkU 19 ?_; try go_simp
   refine tkU 20 ?_; try go_simp
   refine tkH 21 ?_; try go_simp
   refine wpAnyH_done (by kernel_rfl) ?_ _
   clear hHeld
   go_wp2_with fail
   go_ret
   exact ⟨ret_bool (by rw [HQ.out]; rfl), HB1.out⟩
 rw [emp_no HC0.out.kl hk0] at HQ
 have q1 : ((nk : Int) == 0) = false := by rw [beq_eq_false_iff_ne]; omega
 by_cases hfd : findR K (iniM N) = 0
 rotate_left
 · have q2 : (findR K (iniM N) != 0) = true := by rw [bne_iff_ne]; exact hfd
   rw [decide_eq_false hfd] at HQ
   have HFe := hid (show findR K (iniM N) = findR K (iniM N) from rfl)
   obtain ⟨fx, hfx⟩ : ∃ fx, fx = findR K (iniM N) := ⟨_, rfl⟩
   rw [← hfx] at q2
   replace HFe := hid hfx.symm
   clear hfd hfx hk0
   obtain ⟨b0, b1, b2, b3⟩ := HNb0.out.cells
   obtain ⟨d0, d1, d2, d3, d4, d5, d6, d7⟩ := HCb0.out.cells
   have hbd : Below w0.heap.size w0 w0.drew := (Below.refl _ _).drew
   have HB1 := hid (HB0.out.trans (hbd.mono HB0.out.size))
   have HNb1 := hid (HNb0.out.below hbd)
   have HCb1 := hid (HCb0.out.below hbd)
   have HIn1 := hid (HIn0.out.below hbd)
   have HC1 := hid (HC0.out.below hbd)
   have HBl1 := hid (HBl0.out.trans (hbd.mono HBl0.out.size))
   have hS0 := And.intro (cell_stays hbd b0) (And.intro (cell_stays hbd b1) (And.intro (cell_stays hbd b2) (And.intro (cell_stays hbd b3) (And.intro (cell_stays hbd d0) (And.intro (cell_stays hbd d1) (And.intro (cell_stays hbd d2) (And.intro (cell_stays hbd d3) (And.intro (cell_stays hbd d4) (And.intro (cell_stays hbd d5) (And.intro (cell_stays hbd d6) ((cell_stays hbd d7))))))))))))
   refine wp_region_held_drew (S := fun w' => w'.cell? ⟨w.heap.size, 0, none⟩ = some (.int .i64 N.pl) ∧ w'.cell? ⟨w.heap.size, 1, none⟩ = some (.slice A n c) ∧ w'.cell? ⟨w.heap.size, 2, none⟩ = some (.int .i64 N.src) ∧ w'.cell? ⟨w.heap.size, 3, none⟩ = some (.int .i64 N.snk) ∧ w'.cell? ⟨cb, 0, none⟩ = some (.int .i64 cl) ∧ w'.cell? ⟨cb, 1, none⟩ = some (.int .i64 cn) ∧ w'.cell? ⟨cb, 2, none⟩ = some (.slice Ar nr cr) ∧ w'.cell? ⟨cb, 3, none⟩ = some (.slice Ap np cp) ∧ w'.cell? ⟨cb, 4, none⟩ = some (.slice Ak nk ck) ∧ w'.cell? ⟨cb, 5, none⟩ = some (.slice Av nv cv) ∧ w'.cell? ⟨cb, 6, none⟩ = some (.slice As ns cs) ∧ w'.cell? ⟨cb, 7, none⟩ = some (.slice Aw nw cw)) (by kernel_rfl) hS0 (fun hHeld => ?_)
   clear hS0 hbd b0 b1 b2 b3 d0 d1 d2 d3 d4 d5 d6 d7
   clear HB0 HNb0 HCb0 HIn0 HC0 HBl0
   generalize w0.drew = w1 at *
   refine tkH 0 ?_; try go_simp
   refine tkH 1 ?_; try go_simp
   refine tkH 2 ?_; try go_simp
   refine tkH 3 ?_; try go_simp
   refine tkH 4 ?_; try go_simp
   refine tkH 5 ?_; try go_simp
   refine tkH 6 ?_; try go_simp
   refine tkH 7 ?_; try go_simp
   refine tkR 8 (fun K9 hK => ?_)
   go_simp
   ((refine (ini28_any N A n c HV.out w1).mono ?_); rintro e w2 ⟨v2, rfl, hS2⟩)
   obtain ⟨A2, c2, rfl⟩ := hS2.slice
   have hb2 := hS2.2
   have hS9 := hHeld
   refine hK.out _ _ ⟨cell_stays hb2 hS9.1, cell_stays hb2 hS9.2.1, cell_stays hb2 hS9.2.2.1, cell_stays hb2 hS9.2.2.2.1, cell_stays hb2 hS9.2.2.2.2.1, cell_stays hb2 hS9.2.2.2.2.2.1, cell_stays hb2 hS9.2.2.2.2.2.2.1, cell_stays hb2 hS9.2.2.2.2.2.2.2.1, cell_stays hb2 hS9.2.2.2.2.2.2.2.2.1, cell_stays hb2 hS9.2.2.2.2.2.2.2.2.2.1, cell_stays hb2 hS9.2.2.2.2.2.2.2.2.2.2.1, cell_stays hb2 hS9.2.2.2.2.2.2.2.2.2.2.2⟩ (fun hHeld => ?_)
   clear hK K9 hS9
   try go_simp
   have HB2 := hid (HB1.out.trans (hb2.mono HB1.out.size))
   have HNb2 := hid (HNb1.out.below hb2)
   have HCb2 := hid (HCb1.out.below hb2)
   have HIn2 := hid (HIn1.out.below hb2)
   have HC2 := hid (HC1.out.below hb2)
   have HBl2 := hid (HBl1.out.trans (hb2.mono HBl1.out.size))
   clear HB1 HNb1 HCb1 HIn1 HC1 HBl1
   have HI2 := hid (show ZIn w2 A2 (iniM N) by obtain ⟨A', c', e, hz, _⟩ := hS2.zin; cases e; exact hz)
   clear hS2 hb2
   refine tkR 9 (fun K9 hK => ?_)
   go_simp
   have HAt := hid (at28_any Ak nk ck K A2 (iniM N).length c2 (iniM N) w2 HC2.out.k HC2.out.kl HC2.out.kb HI2.out rfl)
   rw [HFe.out] at HAt
   ((refine (HAt.out).mono ?_); rintro e w3 ⟨rfl, hb3⟩)
   have hS9 := hHeld
   refine hK.out _ _ ⟨cell_stays hb3 hS9.1, cell_stays hb3 hS9.2.1, cell_stays hb3 hS9.2.2.1, cell_stays hb3 hS9.2.2.2.1, cell_stays hb3 hS9.2.2.2.2.1, cell_stays hb3 hS9.2.2.2.2.2.1, cell_stays hb3 hS9.2.2.2.2.2.2.1, cell_stays hb3 hS9.2.2.2.2.2.2.2.1, cell_stays hb3 hS9.2.2.2.2.2.2.2.2.1, cell_stays hb3 hS9.2.2.2.2.2.2.2.2.2.1, cell_stays hb3 hS9.2.2.2.2.2.2.2.2.2.2.1, cell_stays hb3 hS9.2.2.2.2.2.2.2.2.2.2.2⟩ (fun hHeld => ?_)
   clear hK K9 hS9
   try go_simp
   have HB3 := hid (HB2.out.trans (hb3.mono HB2.out.size))
   have HNb3 := hid (HNb2.out.below hb3)
   have HCb3 := hid (HCb2.out.below hb3)
   have HIn3 := hid (HIn2.out.below hb3)
   have HC3 := hid (HC2.out.below hb3)
   have HBl3 := hid (HBl2.out.trans (hb3.mono HBl2.out.size))
   clear HB2 HNb2 HCb2 HIn2 HC2 HBl2
   clear HAt
   clear hb3
   refine tkH 10 ?_; try go_simp
   refine tkH 11 ?_; try go_simp
   refine tkH 12 ?_; try go_simp
   refine tkU 13 ?_; try go_simp
   refine tkU 14 ?_; try go_simp
   refine tkU 15 ?_; try go_simp
   refine tkU 16 ?_; try go_simp
   refine tkU 17 ?_; try go_simp
   refine tkU 18 ?_; try go_simp
   refine tkU 19 ?_; try go_simp
   refine tkU 20 ?_; try go_simp
   refine tkH 21 ?_; try go_simp
   refine wpAnyH_done (by kernel_rfl) ?_ _
   clear hHeld
   go_wp2_with fail
   go_ret
   exact ⟨ret_bool (by rw [HQ.out]; rfl), HB3.out⟩
 rw [decide_eq_true hfd] at HQ
 have HFe := hid hfd
 clear hfd
 have hkw : IntKind.i64.wrap ((nk : Int) - 1) = (nk : Int) - 1 := IntWalk.i64_in _ (by have := HC0.out.kb; omega)
 by_cases hv : nv + 1 = nk
 rotate_left
 · have q2 : ((nv : Int) != (nk : Int) - 1) = true := by rw [bne_iff_ne]; omega
   rw [HC0.out.vl, HC0.out.kl, decide_eq_false hv] at HQ
   clear hv hk0
   obtain ⟨b0, b1, b2, b3⟩ := HNb0.out.cells
   obtain ⟨d0, d1, d2, d3, d4, d5, d6, d7⟩ := HCb0.out.cells
   have hbd : Below w0.heap.size w0 w0.drew := (Below.refl _ _).drew
   have HB1 := hid (HB0.out.trans (hbd.mono HB0.out.size))
   have HNb1 := hid (HNb0.out.below hbd)
   have HCb1 := hid (HCb0.out.below hbd)
   have HIn1 := hid (HIn0.out.below hbd)
   have HC1 := hid (HC0.out.below hbd)
   have HBl1 := hid (HBl0.out.trans (hbd.mono HBl0.out.size))
   have hS0 := And.intro (cell_stays hbd b0) (And.intro (cell_stays hbd b1) (And.intro (cell_stays hbd b2) (And.intro (cell_stays hbd b3) (And.intro (cell_stays hbd d0) (And.intro (cell_stays hbd d1) (And.intro (cell_stays hbd d2) (And.intro (cell_stays hbd d3) (And.intro (cell_stays hbd d4) (And.intro (cell_stays hbd d5) (And.intro (cell_stays hbd d6) ((cell_stays hbd d7))))))))))))
   refine wp_region_held_drew (S := fun w' => w'.cell? ⟨w.heap.size, 0, none⟩ = some (.int .i64 N.pl) ∧ w'.cell? ⟨w.heap.size, 1, none⟩ = some (.slice A n c) ∧ w'.cell? ⟨w.heap.size, 2, none⟩ = some (.int .i64 N.src) ∧ w'.cell? ⟨w.heap.size, 3, none⟩ = some (.int .i64 N.snk) ∧ w'.cell? ⟨cb, 0, none⟩ = some (.int .i64 cl) ∧ w'.cell? ⟨cb, 1, none⟩ = some (.int .i64 cn) ∧ w'.cell? ⟨cb, 2, none⟩ = some (.slice Ar nr cr) ∧ w'.cell? ⟨cb, 3, none⟩ = some (.slice Ap np cp) ∧ w'.cell? ⟨cb, 4, none⟩ = some (.slice Ak nk ck) ∧ w'.cell? ⟨cb, 5, none⟩ = some (.slice Av nv cv) ∧ w'.cell? ⟨cb, 6, none⟩ = some (.slice As ns cs) ∧ w'.cell? ⟨cb, 7, none⟩ = some (.slice Aw nw cw)) (by kernel_rfl) hS0 (fun hHeld => ?_)
   clear hS0 hbd b0 b1 b2 b3 d0 d1 d2 d3 d4 d5 d6 d7
   clear HB0 HNb0 HCb0 HIn0 HC0 HBl0
   generalize w0.drew = w1 at *
   refine tkH 0 ?_; try go_simp
   refine tkH 1 ?_; try go_simp
   refine tkH 2 ?_; try go_simp
   refine tkH 3 ?_; try go_simp
   refine tkH 4 ?_; try go_simp
   refine tkH 5 ?_; try go_simp
   refine tkH 6 ?_; try go_simp
   refine tkH 7 ?_; try go_simp
   refine tkR 8 (fun K9 hK => ?_)
   go_simp
   ((refine (ini28_any N A n c HV.out w1).mono ?_); rintro e w2 ⟨v2, rfl, hS2⟩)
   obtain ⟨A2, c2, rfl⟩ := hS2.slice
   have hb2 := hS2.2
   have hS9 := hHeld
   refine hK.out _ _ ⟨cell_stays hb2 hS9.1, cell_stays hb2 hS9.2.1, cell_stays hb2 hS9.2.2.1, cell_stays hb2 hS9.2.2.2.1, cell_stays hb2 hS9.2.2.2.2.1, cell_stays hb2 hS9.2.2.2.2.2.1, cell_stays hb2 hS9.2.2.2.2.2.2.1, cell_stays hb2 hS9.2.2.2.2.2.2.2.1, cell_stays hb2 hS9.2.2.2.2.2.2.2.2.1, cell_stays hb2 hS9.2.2.2.2.2.2.2.2.2.1, cell_stays hb2 hS9.2.2.2.2.2.2.2.2.2.2.1, cell_stays hb2 hS9.2.2.2.2.2.2.2.2.2.2.2⟩ (fun hHeld => ?_)
   clear hK K9 hS9
   try go_simp
   have HB2 := hid (HB1.out.trans (hb2.mono HB1.out.size))
   have HNb2 := hid (HNb1.out.below hb2)
   have HCb2 := hid (HCb1.out.below hb2)
   have HIn2 := hid (HIn1.out.below hb2)
   have HC2 := hid (HC1.out.below hb2)
   have HBl2 := hid (HBl1.out.trans (hb2.mono HBl1.out.size))
   clear HB1 HNb1 HCb1 HIn1 HC1 HBl1
   have HI2 := hid (show ZIn w2 A2 (iniM N) by obtain ⟨A', c', e, hz, _⟩ := hS2.zin; cases e; exact hz)
   clear hS2 hb2
   refine tkR 9 (fun K9 hK => ?_)
   go_simp
   have HAt := hid (at28_any Ak nk ck K A2 (iniM N).length c2 (iniM N) w2 HC2.out.k HC2.out.kl HC2.out.kb HI2.out rfl)
   rw [HFe.out] at HAt
   ((refine (HAt.out).mono ?_); rintro e w3 ⟨rfl, hb3⟩)
   have hS9 := hHeld
   refine hK.out _ _ ⟨cell_stays hb3 hS9.1, cell_stays hb3 hS9.2.1, cell_stays hb3 hS9.2.2.1, cell_stays hb3 hS9.2.2.2.1, cell_stays hb3 hS9.2.2.2.2.1, cell_stays hb3 hS9.2.2.2.2.2.1, cell_stays hb3 hS9.2.2.2.2.2.2.1, cell_stays hb3 hS9.2.2.2.2.2.2.2.1, cell_stays hb3 hS9.2.2.2.2.2.2.2.2.1, cell_stays hb3 hS9.2.2.2.2.2.2.2.2.2.1, cell_stays hb3 hS9.2.2.2.2.2.2.2.2.2.2.1, cell_stays hb3 hS9.2.2.2.2.2.2.2.2.2.2.2⟩ (fun hHeld => ?_)
   clear hK K9 hS9
   try go_simp
   have HB3 := hid (HB2.out.trans (hb3.mono HB2.out.size))
   have HNb3 := hid (HNb2.out.below hb3)
   have HCb3 := hid (HCb2.out.below hb3)
   have HIn3 := hid (HIn2.out.below hb3)
   have HC3 := hid (HC2.out.below hb3)
   have HBl3 := hid (HBl2.out.trans (hb3.mono HBl2.out.size))
   clear HB2 HNb2 HCb2 HIn2 HC2 HBl2
   clear HAt
   clear hb3
   refine tkH 10 ?_; try go_simp
   refine tkH 11 ?_; try go_simp
   refine tkH 12 ?_; try go_simp
   refine tkH 13 ?_; try go_simp
   refine tkH 14 ?_; try go_simp
   refine tkH 15 ?_; try go_simp
   refine tkH 16 ?_; try go_simp
   refine tkH 17 ?_; try go_simp
   refine tkH 18 ?_; try go_simp
   refine tkH 19 ?_; try go_simp
   refine tkH 20 ?_; try go_simp
   refine tkH 21 ?_; try go_simp
   refine wpAnyH_done (by kernel_rfl) ?_ _
   clear hHeld
   go_wp2_with fail
   go_ret
   exact ⟨ret_bool (by rw [HQ.out]; rfl), HB3.out⟩
 have q2 : ((nv : Int) != (nk : Int) - 1) = false := by simp; omega
 have HVk := hid hv
 rw [show decide (V.length + 1 = K.length) = true by rw [HC0.out.vl, HC0.out.kl]; exact decide_eq_true hv] at HQ
 obtain ⟨ak, rfl⟩ : ∃ ak, Ak = some ak := by
  obtain ⟨ad, e, _⟩ := HC0.out.k 0 (by rw [HC0.out.kl]; omega)
  exact ⟨ad, e⟩
 clear hv hk0
 obtain ⟨b0, b1, b2, b3⟩ := HNb0.out.cells
 obtain ⟨d0, d1, d2, d3, d4, d5, d6, d7⟩ := HCb0.out.cells
 have hbd : Below w0.heap.size w0 w0.drew := (Below.refl _ _).drew
 have HB1 := hid (HB0.out.trans (hbd.mono HB0.out.size))
 have HNb1 := hid (HNb0.out.below hbd)
 have HCb1 := hid (HCb0.out.below hbd)
 have HIn1 := hid (HIn0.out.below hbd)
 have HC1 := hid (HC0.out.below hbd)
 have HBl1 := hid (HBl0.out.trans (hbd.mono HBl0.out.size))
 have hS0 := And.intro (cell_stays hbd b0) (And.intro (cell_stays hbd b1) (And.intro (cell_stays hbd b2) (And.intro (cell_stays hbd b3) (And.intro (cell_stays hbd d0) (And.intro (cell_stays hbd d1) (And.intro (cell_stays hbd d2) (And.intro (cell_stays hbd d3) (And.intro (cell_stays hbd d4) (And.intro (cell_stays hbd d5) (And.intro (cell_stays hbd d6) ((cell_stays hbd d7))))))))))))
 refine wp_region_held_drew (S := fun w' => w'.cell? ⟨w.heap.size, 0, none⟩ = some (.int .i64 N.pl) ∧ w'.cell? ⟨w.heap.size, 1, none⟩ = some (.slice A n c) ∧ w'.cell? ⟨w.heap.size, 2, none⟩ = some (.int .i64 N.src) ∧ w'.cell? ⟨w.heap.size, 3, none⟩ = some (.int .i64 N.snk) ∧ w'.cell? ⟨cb, 0, none⟩ = some (.int .i64 cl) ∧ w'.cell? ⟨cb, 1, none⟩ = some (.int .i64 cn) ∧ w'.cell? ⟨cb, 2, none⟩ = some (.slice Ar nr cr) ∧ w'.cell? ⟨cb, 3, none⟩ = some (.slice Ap np cp) ∧ w'.cell? ⟨cb, 4, none⟩ = some (.slice (some ak) nk ck) ∧ w'.cell? ⟨cb, 5, none⟩ = some (.slice Av nv cv) ∧ w'.cell? ⟨cb, 6, none⟩ = some (.slice As ns cs) ∧ w'.cell? ⟨cb, 7, none⟩ = some (.slice Aw nw cw)) (by kernel_rfl) hS0 (fun hHeld => ?_)
 clear hS0 hbd b0 b1 b2 b3 d0 d1 d2 d3 d4 d5 d6 d7
 generalize w0.drew = w1 at *
 refine tkH 0 ?_; try go_simp
 refine tkH 1 ?_; try go_simp
 refine tkH 2 ?_; try go_simp
 refine tkH 3 ?_; try go_simp
 refine tkH 4 ?_; try go_simp
 refine tkH 5 ?_; try go_simp
 refine tkH 6 ?_; try go_simp
 refine tkH 7 ?_; try go_simp
 refine tkR 8 (fun K9 hK => ?_)
 go_simp
 ((refine (ini28_any N A n c HV.out w1).mono ?_); rintro e w2 ⟨v2, rfl, hS2⟩)
 obtain ⟨A2, c2, rfl⟩ := hS2.slice
 have hb2 := hS2.2
 have hS9 := hHeld
 refine hK.out _ _ ⟨cell_stays hb2 hS9.1, cell_stays hb2 hS9.2.1, cell_stays hb2 hS9.2.2.1, cell_stays hb2 hS9.2.2.2.1, cell_stays hb2 hS9.2.2.2.2.1, cell_stays hb2 hS9.2.2.2.2.2.1, cell_stays hb2 hS9.2.2.2.2.2.2.1, cell_stays hb2 hS9.2.2.2.2.2.2.2.1, cell_stays hb2 hS9.2.2.2.2.2.2.2.2.1, cell_stays hb2 hS9.2.2.2.2.2.2.2.2.2.1, cell_stays hb2 hS9.2.2.2.2.2.2.2.2.2.2.1, cell_stays hb2 hS9.2.2.2.2.2.2.2.2.2.2.2⟩ (fun hHeld => ?_)
 clear hK K9 hS9
 try go_simp
 have HB2 := hid (HB1.out.trans (hb2.mono HB1.out.size))
 have HNb2 := hid (HNb1.out.below hb2)
 have HCb2 := hid (HCb1.out.below hb2)
 have HIn2 := hid (HIn1.out.below hb2)
 have HC2 := hid (HC1.out.below hb2)
 have HBl2 := hid (HBl1.out.trans (hb2.mono HBl1.out.size))
 clear HB1 HNb1 HCb1 HIn1 HC1 HBl1
 have HI2 := hid (show ZIn w2 A2 (iniM N) by obtain ⟨A', c', e, hz, _⟩ := hS2.zin; cases e; exact hz)
 clear hS2 hb2
 refine tkR 9 (fun K9 hK => ?_)
 go_simp
 have HAt := hid (at28_any (some ak) nk ck K A2 (iniM N).length c2 (iniM N) w2 HC2.out.k HC2.out.kl HC2.out.kb HI2.out rfl)
 rw [HFe.out] at HAt
 ((refine (HAt.out).mono ?_); rintro e w3 ⟨rfl, hb3⟩)
 have hS9 := hHeld
 refine hK.out _ _ ⟨cell_stays hb3 hS9.1, cell_stays hb3 hS9.2.1, cell_stays hb3 hS9.2.2.1, cell_stays hb3 hS9.2.2.2.1, cell_stays hb3 hS9.2.2.2.2.1, cell_stays hb3 hS9.2.2.2.2.2.1, cell_stays hb3 hS9.2.2.2.2.2.2.1, cell_stays hb3 hS9.2.2.2.2.2.2.2.1, cell_stays hb3 hS9.2.2.2.2.2.2.2.2.1, cell_stays hb3 hS9.2.2.2.2.2.2.2.2.2.1, cell_stays hb3 hS9.2.2.2.2.2.2.2.2.2.2.1, cell_stays hb3 hS9.2.2.2.2.2.2.2.2.2.2.2⟩ (fun hHeld => ?_)
 clear hK K9 hS9
 try go_simp
 have HB3 := hid (HB2.out.trans (hb3.mono HB2.out.size))
 have HNb3 := hid (HNb2.out.below hb3)
 have HCb3 := hid (HCb2.out.below hb3)
 have HIn3 := hid (HIn2.out.below hb3)
 have HC3 := hid (HC2.out.below hb3)
 have HBl3 := hid (HBl2.out.trans (hb3.mono HBl2.out.size))
 clear HB2 HNb2 HCb2 HIn2 HC2 HBl2
 clear HAt
 clear hb3
 refine tkH 10 ?_; try go_simp
 refine tkH 11 ?_; try go_simp
 refine tkH 12 ?_; try go_simp
 refine tkH 13 ?_; try go_simp
 refine tkH 14 ?_; try go_simp
 refine tkH 15 ?_; try go_simp
 refine tkH 16 ?_; try go_simp
 refine tkH 17 ?_; try go_simp
 refine tkH 18 ?_; try go_simp
 refine tkH 19 ?_; try go_simp
 refine tkH 20 ?_; try go_simp
 refine tkH 21 ?_; try go_simp
 refine wpAnyH_done (by kernel_rfl) ?_ _
 clear hHeld
 go_wp2_with fail
 go_loopg [5] (nv) (fun g iv wr => ∃ j : Nat, j + g = nv ∧ iv = .int .i64 (j : Int) ∧ (List.range j).all (rmvAt N K V) = true ∧ Below w0.heap.size w0 wr)
 case atStart => exact ⟨0, by omega, rfl, rfl, HBl3.out⟩
 case round =>
  clear HB3 HNb3 HCb3 HIn3 HC3 HBl3
  obtain ⟨j, hj, rfl, hp, hB⟩ := hrel
  have HJ := hid hj
  have HP := hid hp
  have HBl9 := hid hB
  have hle : j ≤ nv := by omega
  clear hj hp hB
  obtain ⟨w9, rfl⟩ : ∃ w9, w9 = wr := ⟨_, rfl⟩
  have HB9 := hid (HB0.out.trans (HBl9.out.mono HB0.out.size))
  have HNb9 := hid (HNb0.out.below HBl9.out)
  have HCb9 := hid (HCb0.out.below HBl9.out)
  have HIn9 := hid (HIn0.out.below HBl9.out)
  have HC9 := hid (HC0.out.below HBl9.out)
  obtain ⟨b0, b1, b2, b3⟩ := HNb9.out.cells
  obtain ⟨d0, d1, d2, d3, d4, d5, d6, d7⟩ := HCb9.out.cells
  have hwl := HNb9.out.lt
  have hcl := HCb9.out.lt
  by_cases hlt : j < nv
  · have hjv : j < V.length := by rw [HC0.out.vl]; exact hlt
    have hjk : j + 1 < K.length := by have := HVk.out; have := HC0.out.kl; omega
    have HSt := hid (range_step (rmvAt N K V) j)
    have HNo := hid (fun hh => range_no (rmvAt N K V) (n := V.length) hjv hh)
    have HMg := hid (rmv_get (N := N) (K := K) hjv)
    unfold rmvB at HMg
    obtain ⟨av, rfl, hpv, m0', m1', m2'⟩ := mv_at HC9.out.v hjv
    generalize V[j].f = xf at *
    generalize V[j].t = xt at *
    generalize V[j].s = xs at *
    obtain ⟨Az, nz, cz, hy1, hzz, hz1, hz2, hz3⟩ := lin_at HC0.out.k hjk
    have HY19 := hid (hy1.below HBl9.out)
    have HZz := hid hzz
    have HZl := hid hz1
    have hg1 : K.getD (j + 1) [] = K[j + 1] := by simp [hjk]
    rw [hg1] at HMg
    have HMz := hid (HAll.out _ (List.getElem_mem hjk))
    generalize K[j + 1] = Z at *
    have hnvb := HC0.out.vb
    have hnkb := HC0.out.kb
    have hjn : j + 1 < nk := by have := HVk.out; omega
    have hjw : IntKind.i64.wrap ((j : Int) + 1) = (j : Int) + 1 := IntWalk.i64_in _ (by omega)
    have hj0 : (0 : Int) ≤ (j : Int) + 1 := by omega
    have hjt : ((j : Int) + 1).toNat = j + 1 := by omega
    have hj1 : (j : Int) + 1 < (nk : Int) := by omega
    have HA20 := hid (below_alloc w9 (.cells #[.int .i64 xf, .int .i64 xt, .int .i64 xs] 47))
    clear hz1 hzz hy1 hg1 hjk
    go_upto_region 7 with (fail)
    clear m0' m1' m2' b0 b1 b2 b3 d0 d1 d2 d3 d4 d5 d6 d7
    have HMb20 := hid (show MvB _ w9.heap.size xf xt xs from heap_alloc_new w9 (.cells #[.int .i64 xf, .int .i64 xt, .int .i64 xs] 47))
    have HB20 := hid (HB9.out.trans (HA20.out.mono HB9.out.size))
    have HNb20 := hid (HNb9.out.below HA20.out)
    have HCb20 := hid (HCb9.out.below HA20.out)
    have HIn20 := hid (HIn9.out.below HA20.out)
    have HC20 := hid (HC9.out.below HA20.out)
    have HBl20 := hid (HBl9.out.trans (HA20.out.mono HBl9.out.size))
    have HY120 := hid (HY19.out.below HA20.out)
    clear HB9 HNb9 HCb9 HIn9 HC9 HBl9 HY19
    obtain ⟨tb, htb⟩ : ∃ tb, w9.heap.size = tb := ⟨_, rfl⟩
    rw [htb] at HMb20
    simp only [htb]
    clear htb HA20 hwl hcl
    generalize w9.alloc _ = w20 at *
    obtain ⟨b0, b1, b2, b3⟩ := HNb20.out.cells
    obtain ⟨d0, d1, d2, d3, d4, d5, d6, d7⟩ := HCb20.out.cells
    obtain ⟨e0, e1, e2⟩ := HMb20.out.all3
    have y1 := HY120.out
    clear d0 d1 d2 d3 d5 d6 d7
    by_cases ht : xt = (j : Int) + 1
    rotate_left
    · have p0 : (xt != (j : Int) + 1) = true := by rw [bne_iff_ne]; omega
      rw [HNo.out (by rw [HMg.out, decide_eq_false ht]; rfl)] at HQ
      have hbd : Below w20.heap.size w20 w20.drew := (Below.refl _ _).drew
      have HB21 := hid (HB20.out.trans (hbd.mono HB20.out.size))
      have HNb21 := hid (HNb20.out.below hbd)
      have HCb21 := hid (HCb20.out.below hbd)
      have HIn21 := hid (HIn20.out.below hbd)
      have HC21 := hid (HC20.out.below hbd)
      have HBl21 := hid (HBl20.out.trans (hbd.mono HBl20.out.size))
      have HMb21 := hid (HMb20.out.below hbd)
      have HY121 := hid (HY120.out.below hbd)
      have hS0 := And.intro (cell_stays hbd b0) (And.intro (cell_stays hbd b1) (And.intro (cell_stays hbd b2) (And.intro (cell_stays hbd b3) (And.intro (cell_stays hbd d4) (And.intro (cell_stays hbd e0) (And.intro (cell_stays hbd e1) (And.intro (cell_stays hbd e2) ((cell_stays hbd y1)))))))))
      refine wp_region_held_drew (S := fun w' => w'.cell? ⟨w.heap.size, 0, none⟩ = some (.int .i64 N.pl) ∧ w'.cell? ⟨w.heap.size, 1, none⟩ = some (.slice A n c) ∧ w'.cell? ⟨w.heap.size, 2, none⟩ = some (.int .i64 N.src) ∧ w'.cell? ⟨w.heap.size, 3, none⟩ = some (.int .i64 N.snk) ∧ w'.cell? ⟨cb, 4, none⟩ = some (.slice (some ak) nk ck) ∧ w'.cell? ⟨tb, 0, none⟩ = some (.int .i64 xf) ∧ w'.cell? ⟨tb, 1, none⟩ = some (.int .i64 xt) ∧ w'.cell? ⟨tb, 2, none⟩ = some (.int .i64 xs) ∧ w'.cell? (ak.add (j + 1)) = some (.slice Az nz cz)) (by kernel_rfl) hS0 (fun hHeld => ?_)
      clear hS0 hbd b0 b1 b2 b3 d4 e0 e1 e2 y1
      clear HB20 HNb20 HCb20 HIn20 HC20 HBl20 HMb20 HY120
      generalize w20.drew = w21 at *
      refine tkH 0 ?_; try go_simp
      refine tkH 1 ?_; try go_simp
      refine tkH 2 ?_; try go_simp
      refine tkH 3 ?_; try go_simp
      refine tkH 4 ?_; try go_simp
      refine tkH 5 ?_; try go_simp
      refine tkU 6 ?_; try go_simp
      refine tkU 7 ?_; try go_simp
      refine tkU 8 ?_; try go_simp
      refine tkH 9 ?_; try go_simp
      refine tkH 10 ?_; try go_simp
      refine tkU 11 ?_; try go_simp
      refine tkU 12 ?_; try go_simp
      refine tkU 13 ?_; try go_simp
      refine tkU 14 ?_; try go_simp
      refine tkH 15 ?_; try go_simp
      refine tkH 16 ?_; try go_simp
      refine tkU 17 ?_; try go_simp
      refine tkU 18 ?_; try go_simp
      refine tkU 19 ?_; try go_simp
      refine tkH 20 ?_; try go_simp
      refine tkH 21 ?_; try go_simp
      refine tkU 22 ?_; try go_simp
      refine tkU 23 ?_; try go_simp
      refine tkU 24 ?_; try go_simp
      refine tkU 25 ?_; try go_simp
      refine tkU 26 ?_; try go_simp
      refine tkU 27 ?_; try go_simp
      refine tkH 28 ?_; try go_simp
      refine tkH 29 ?_; try go_simp
      refine tkU 30 ?_; try go_simp
      refine tkU 31 ?_; try go_simp
      refine tkU 32 ?_; try go_simp
      refine tkU 33 ?_; try go_simp
      refine tkU 34 ?_; try go_simp
      refine tkU 35 ?_; try go_simp
      refine tkU 36 ?_; try go_simp
      refine tkU 37 ?_; try go_simp
      refine tkU 38 ?_; try go_simp
      refine tkU 39 ?_; try go_simp
      refine tkU 40 ?_; try go_simp
      refine tkH 41 ?_; try go_simp
      refine tkH 42 ?_; try go_simp
      refine tkU 43 ?_; try go_simp
      refine tkU 44 ?_; try go_simp
      refine tkU 45 ?_; try go_simp
      refine tkU 46 ?_; try go_simp
      refine tkU 47 ?_; try go_simp
      refine tkU 48 ?_; try go_simp
      refine tkU 49 ?_; try go_simp
      refine tkU 50 ?_; try go_simp
      refine tkU 51 ?_; try go_simp
      refine tkU 52 ?_; try go_simp
      refine tkU 53 ?_; try go_simp
      refine tkU 54 ?_; try go_simp
      refine tkH 55 ?_; try go_simp
      refine wpAnyH_done (by kernel_rfl) ?_ _
      clear hHeld
      go_wp2_with fail
      go_ret
      exact ⟨ret_bool (by rw [HQ.out]; rfl), HB21.out⟩
    have p0 : (xt != (j : Int) + 1) = false := by simp [ht]
    rw [decide_eq_true ht] at HMg
    clear ht
    by_cases hf0 : xf < 0
    · have p1 : decide (xf < 0) = true := by simpa using hf0
      rw [HNo.out (by rw [HMg.out, decide_eq_false (show ¬ 0 ≤ xf by omega)]; rfl)] at HQ
      have hbd : Below w20.heap.size w20 w20.drew := (Below.refl _ _).drew
      have HB21 := hid (HB20.out.trans (hbd.mono HB20.out.size))
      have HNb21 := hid (HNb20.out.below hbd)
      have HCb21 := hid (HCb20.out.below hbd)
      have HIn21 := hid (HIn20.out.below hbd)
      have HC21 := hid (HC20.out.below hbd)
      have HBl21 := hid (HBl20.out.trans (hbd.mono HBl20.out.size))
      have HMb21 := hid (HMb20.out.below hbd)
      have HY121 := hid (HY120.out.below hbd)
      have hS0 := And.intro (cell_stays hbd b0) (And.intro (cell_stays hbd b1) (And.intro (cell_stays hbd b2) (And.intro (cell_stays hbd b3) (And.intro (cell_stays hbd d4) (And.intro (cell_stays hbd e0) (And.intro (cell_stays hbd e1) (And.intro (cell_stays hbd e2) ((cell_stays hbd y1)))))))))
      refine wp_region_held_drew (S := fun w' => w'.cell? ⟨w.heap.size, 0, none⟩ = some (.int .i64 N.pl) ∧ w'.cell? ⟨w.heap.size, 1, none⟩ = some (.slice A n c) ∧ w'.cell? ⟨w.heap.size, 2, none⟩ = some (.int .i64 N.src) ∧ w'.cell? ⟨w.heap.size, 3, none⟩ = some (.int .i64 N.snk) ∧ w'.cell? ⟨cb, 4, none⟩ = some (.slice (some ak) nk ck) ∧ w'.cell? ⟨tb, 0, none⟩ = some (.int .i64 xf) ∧ w'.cell? ⟨tb, 1, none⟩ = some (.int .i64 xt) ∧ w'.cell? ⟨tb, 2, none⟩ = some (.int .i64 xs) ∧ w'.cell? (ak.add (j + 1)) = some (.slice Az nz cz)) (by kernel_rfl) hS0 (fun hHeld => ?_)
      clear hS0 hbd b0 b1 b2 b3 d4 e0 e1 e2 y1
      clear HB20 HNb20 HCb20 HIn20 HC20 HBl20 HMb20 HY120
      generalize w20.drew = w21 at *
      refine tkH 0 ?_; try go_simp
      refine tkH 1 ?_; try go_simp
      refine tkH 2 ?_; try go_simp
      refine tkH 3 ?_; try go_simp
      refine tkH 4 ?_; try go_simp
      refine tkH 5 ?_; try go_simp
      refine tkH 6 ?_; try go_simp
      refine tkH 7 ?_; try go_simp
      refine tkH 8 ?_; try go_simp
      refine tkH 9 ?_; try go_simp
      refine tkH 10 ?_; try go_simp
      refine tkU 11 ?_; try go_simp
      refine tkU 12 ?_; try go_simp
      refine tkU 13 ?_; try go_simp
      refine tkU 14 ?_; try go_simp
      refine tkH 15 ?_; try go_simp
      refine tkH 16 ?_; try go_simp
      refine tkU 17 ?_; try go_simp
      refine tkU 18 ?_; try go_simp
      refine tkU 19 ?_; try go_simp
      refine tkH 20 ?_; try go_simp
      refine tkH 21 ?_; try go_simp
      refine tkU 22 ?_; try go_simp
      refine tkU 23 ?_; try go_simp
      refine tkU 24 ?_; try go_simp
      refine tkU 25 ?_; try go_simp
      refine tkU 26 ?_; try go_simp
      refine tkU 27 ?_; try go_simp
      refine tkH 28 ?_; try go_simp
      refine tkH 29 ?_; try go_simp
      refine tkU 30 ?_; try go_simp
      refine tkU 31 ?_; try go_simp
      refine tkU 32 ?_; try go_simp
      refine tkU 33 ?_; try go_simp
      refine tkU 34 ?_; try go_simp
      refine tkU 35 ?_; try go_simp
      refine tkU 36 ?_; try go_simp
      refine tkU 37 ?_; try go_simp
      refine tkU 38 ?_; try go_simp
      refine tkU 39 ?_; try go_simp
      refine tkU 40 ?_; try go_simp
      refine tkH 41 ?_; try go_simp
      refine tkH 42 ?_; try go_simp
      refine tkU 43 ?_; try go_simp
      refine tkU 44 ?_; try go_simp
      refine tkU 45 ?_; try go_simp
      refine tkU 46 ?_; try go_simp
      refine tkU 47 ?_; try go_simp
      refine tkU 48 ?_; try go_simp
      refine tkU 49 ?_; try go_simp
      refine tkU 50 ?_; try go_simp
      refine tkU 51 ?_; try go_simp
      refine tkU 52 ?_; try go_simp
      refine tkU 53 ?_; try go_simp
      refine tkU 54 ?_; try go_simp
      refine tkH 55 ?_; try go_simp
      refine wpAnyH_done (by kernel_rfl) ?_ _
      clear hHeld
      go_wp2_with fail
      go_ret
      exact ⟨ret_bool (by rw [HQ.out]; rfl), HB21.out⟩
    have p1 : decide (xf < 0) = false := by simpa using hf0
    rw [decide_eq_true (show 0 ≤ xf by omega)] at HMg
    by_cases hf1 : (j : Int) < xf
    · have p2 : decide ((j : Int) < xf) = true := by simpa using hf1
      rw [HNo.out (by rw [HMg.out, decide_eq_false (show ¬ xf ≤ (j : Int) by omega)]; rfl)] at HQ
      have hbd : Below w20.heap.size w20 w20.drew := (Below.refl _ _).drew
      have HB21 := hid (HB20.out.trans (hbd.mono HB20.out.size))
      have HNb21 := hid (HNb20.out.below hbd)
      have HCb21 := hid (HCb20.out.below hbd)
      have HIn21 := hid (HIn20.out.below hbd)
      have HC21 := hid (HC20.out.below hbd)
      have HBl21 := hid (HBl20.out.trans (hbd.mono HBl20.out.size))
      have HMb21 := hid (HMb20.out.below hbd)
      have HY121 := hid (HY120.out.below hbd)
      have hS0 := And.intro (cell_stays hbd b0) (And.intro (cell_stays hbd b1) (And.intro (cell_stays hbd b2) (And.intro (cell_stays hbd b3) (And.intro (cell_stays hbd d4) (And.intro (cell_stays hbd e0) (And.intro (cell_stays hbd e1) (And.intro (cell_stays hbd e2) ((cell_stays hbd y1)))))))))
      refine wp_region_held_drew (S := fun w' => w'.cell? ⟨w.heap.size, 0, none⟩ = some (.int .i64 N.pl) ∧ w'.cell? ⟨w.heap.size, 1, none⟩ = some (.slice A n c) ∧ w'.cell? ⟨w.heap.size, 2, none⟩ = some (.int .i64 N.src) ∧ w'.cell? ⟨w.heap.size, 3, none⟩ = some (.int .i64 N.snk) ∧ w'.cell? ⟨cb, 4, none⟩ = some (.slice (some ak) nk ck) ∧ w'.cell? ⟨tb, 0, none⟩ = some (.int .i64 xf) ∧ w'.cell? ⟨tb, 1, none⟩ = some (.int .i64 xt) ∧ w'.cell? ⟨tb, 2, none⟩ = some (.int .i64 xs) ∧ w'.cell? (ak.add (j + 1)) = some (.slice Az nz cz)) (by kernel_rfl) hS0 (fun hHeld => ?_)
      clear hS0 hbd b0 b1 b2 b3 d4 e0 e1 e2 y1
      clear HB20 HNb20 HCb20 HIn20 HC20 HBl20 HMb20 HY120
      generalize w20.drew = w21 at *
      refine tkH 0 ?_; try go_simp
      refine tkH 1 ?_; try go_simp
      refine tkH 2 ?_; try go_simp
      refine tkH 3 ?_; try go_simp
      refine tkH 4 ?_; try go_simp
      refine tkH 5 ?_; try go_simp
      refine tkH 6 ?_; try go_simp
      refine tkH 7 ?_; try go_simp
      refine tkH 8 ?_; try go_simp
      refine tkH 9 ?_; try go_simp
      refine tkH 10 ?_; try go_simp
      refine tkH 11 ?_; try go_simp
      refine tkH 12 ?_; try go_simp
      refine tkH 13 ?_; try go_simp
      refine tkH 14 ?_; try go_simp
      refine tkH 15 ?_; try go_simp
      refine tkH 16 ?_; try go_simp
      refine tkU 17 ?_; try go_simp
      refine tkU 18 ?_; try go_simp
      refine tkU 19 ?_; try go_simp
      refine tkH 20 ?_; try go_simp
      refine tkH 21 ?_; try go_simp
      refine tkU 22 ?_; try go_simp
      refine tkU 23 ?_; try go_simp
      refine tkU 24 ?_; try go_simp
      refine tkU 25 ?_; try go_simp
      refine tkU 26 ?_; try go_simp
      refine tkU 27 ?_; try go_simp
      refine tkH 28 ?_; try go_simp
      refine tkH 29 ?_; try go_simp
      refine tkU 30 ?_; try go_simp
      refine tkU 31 ?_; try go_simp
      refine tkU 32 ?_; try go_simp
      refine tkU 33 ?_; try go_simp
      refine tkU 34 ?_; try go_simp
      refine tkU 35 ?_; try go_simp
      refine tkU 36 ?_; try go_simp
      refine tkU 37 ?_; try go_simp
      refine tkU 38 ?_; try go_simp
      refine tkU 39 ?_; try go_simp
      refine tkU 40 ?_; try go_simp
      refine tkH 41 ?_; try go_simp
      refine tkH 42 ?_; try go_simp
      refine tkU 43 ?_; try go_simp
      refine tkU 44 ?_; try go_simp
      refine tkU 45 ?_; try go_simp
      refine tkU 46 ?_; try go_simp
      refine tkU 47 ?_; try go_simp
      refine tkU 48 ?_; try go_simp
      refine tkU 49 ?_; try go_simp
      refine tkU 50 ?_; try go_simp
      refine tkU 51 ?_; try go_simp
      refine tkU 52 ?_; try go_simp
      refine tkU 53 ?_; try go_simp
      refine tkU 54 ?_; try go_simp
      refine tkH 55 ?_; try go_simp
      refine wpAnyH_done (by kernel_rfl) ?_ _
      clear hHeld
      go_wp2_with fail
      go_ret
      exact ⟨ret_bool (by rw [HQ.out]; rfl), HB21.out⟩
    have p2 : decide ((j : Int) < xf) = false := by simpa using hf1
    rw [decide_eq_true (show xf ≤ (j : Int) by omega)] at HMg
    by_cases hs0 : xs < 0
    · have p3 : decide (xs < 0) = true := by simpa using hs0
      rw [HNo.out (by rw [HMg.out, decide_eq_false (show ¬ 0 ≤ xs by omega)]; rfl)] at HQ
      have hbd : Below w20.heap.size w20 w20.drew := (Below.refl _ _).drew
      have HB21 := hid (HB20.out.trans (hbd.mono HB20.out.size))
      have HNb21 := hid (HNb20.out.below hbd)
      have HCb21 := hid (HCb20.out.below hbd)
      have HIn21 := hid (HIn20.out.below hbd)
      have HC21 := hid (HC20.out.below hbd)
      have HBl21 := hid (HBl20.out.trans (hbd.mono HBl20.out.size))
      have HMb21 := hid (HMb20.out.below hbd)
      have HY121 := hid (HY120.out.below hbd)
      have hS0 := And.intro (cell_stays hbd b0) (And.intro (cell_stays hbd b1) (And.intro (cell_stays hbd b2) (And.intro (cell_stays hbd b3) (And.intro (cell_stays hbd d4) (And.intro (cell_stays hbd e0) (And.intro (cell_stays hbd e1) (And.intro (cell_stays hbd e2) ((cell_stays hbd y1)))))))))
      refine wp_region_held_drew (S := fun w' => w'.cell? ⟨w.heap.size, 0, none⟩ = some (.int .i64 N.pl) ∧ w'.cell? ⟨w.heap.size, 1, none⟩ = some (.slice A n c) ∧ w'.cell? ⟨w.heap.size, 2, none⟩ = some (.int .i64 N.src) ∧ w'.cell? ⟨w.heap.size, 3, none⟩ = some (.int .i64 N.snk) ∧ w'.cell? ⟨cb, 4, none⟩ = some (.slice (some ak) nk ck) ∧ w'.cell? ⟨tb, 0, none⟩ = some (.int .i64 xf) ∧ w'.cell? ⟨tb, 1, none⟩ = some (.int .i64 xt) ∧ w'.cell? ⟨tb, 2, none⟩ = some (.int .i64 xs) ∧ w'.cell? (ak.add (j + 1)) = some (.slice Az nz cz)) (by kernel_rfl) hS0 (fun hHeld => ?_)
      clear hS0 hbd b0 b1 b2 b3 d4 e0 e1 e2 y1
      clear HB20 HNb20 HCb20 HIn20 HC20 HBl20 HMb20 HY120
      generalize w20.drew = w21 at *
      refine tkH 0 ?_; try go_simp
      refine tkH 1 ?_; try go_simp
      refine tkH 2 ?_; try go_simp
      refine tkH 3 ?_; try go_simp
      refine tkH 4 ?_; try go_simp
      refine tkH 5 ?_; try go_simp
      refine tkH 6 ?_; try go_simp
      refine tkH 7 ?_; try go_simp
      refine tkH 8 ?_; try go_simp
      refine tkH 9 ?_; try go_simp
      refine tkH 10 ?_; try go_simp
      refine tkH 11 ?_; try go_simp
      refine tkH 12 ?_; try go_simp
      refine tkH 13 ?_; try go_simp
      refine tkH 14 ?_; try go_simp
      refine tkH 15 ?_; try go_simp
      refine tkH 16 ?_; try go_simp
      refine tkH 17 ?_; try go_simp
      refine tkH 18 ?_; try go_simp
      refine tkH 19 ?_; try go_simp
      refine tkH 20 ?_; try go_simp
      refine tkH 21 ?_; try go_simp
      refine tkU 22 ?_; try go_simp
      refine tkU 23 ?_; try go_simp
      refine tkU 24 ?_; try go_simp
      refine tkU 25 ?_; try go_simp
      refine tkU 26 ?_; try go_simp
      refine tkU 27 ?_; try go_simp
      refine tkH 28 ?_; try go_simp
      refine tkH 29 ?_; try go_simp
      refine tkU 30 ?_; try go_simp
      refine tkU 31 ?_; try go_simp
      refine tkU 32 ?_; try go_simp
      refine tkU 33 ?_; try go_simp
      refine tkU 34 ?_; try go_simp
      refine tkU 35 ?_; try go_simp
      refine tkU 36 ?_; try go_simp
      refine tkU 37 ?_; try go_simp
      refine tkU 38 ?_; try go_simp
      refine tkU 39 ?_; try go_simp
      refine tkU 40 ?_; try go_simp
      refine tkH 41 ?_; try go_simp
      refine tkH 42 ?_; try go_simp
      refine tkU 43 ?_; try go_simp
      refine tkU 44 ?_; try go_simp
      refine tkU 45 ?_; try go_simp
      refine tkU 46 ?_; try go_simp
      refine tkU 47 ?_; try go_simp
      refine tkU 48 ?_; try go_simp
      refine tkU 49 ?_; try go_simp
      refine tkU 50 ?_; try go_simp
      refine tkU 51 ?_; try go_simp
      refine tkU 52 ?_; try go_simp
      refine tkU 53 ?_; try go_simp
      refine tkU 54 ?_; try go_simp
      refine tkH 55 ?_; try go_simp
      refine wpAnyH_done (by kernel_rfl) ?_ _
      clear hHeld
      go_wp2_with fail
      go_ret
      exact ⟨ret_bool (by rw [HQ.out]; rfl), HB21.out⟩
    have p3 : decide (xs < 0) = false := by simpa using hs0
    rw [decide_eq_true (show 0 ≤ xs by omega)] at HMg
    by_cases hs1 : (n : Int) ≤ xs
    · have p4 : decide ((n : Int) ≤ xs) = true := by simpa using hs1
      rw [HNo.out (by rw [HMg.out, HNl.out, decide_eq_false (show ¬ xs < (n : Int) by omega)]; rfl)] at HQ
      have hbd : Below w20.heap.size w20 w20.drew := (Below.refl _ _).drew
      have HB21 := hid (HB20.out.trans (hbd.mono HB20.out.size))
      have HNb21 := hid (HNb20.out.below hbd)
      have HCb21 := hid (HCb20.out.below hbd)
      have HIn21 := hid (HIn20.out.below hbd)
      have HC21 := hid (HC20.out.below hbd)
      have HBl21 := hid (HBl20.out.trans (hbd.mono HBl20.out.size))
      have HMb21 := hid (HMb20.out.below hbd)
      have HY121 := hid (HY120.out.below hbd)
      have hS0 := And.intro (cell_stays hbd b0) (And.intro (cell_stays hbd b1) (And.intro (cell_stays hbd b2) (And.intro (cell_stays hbd b3) (And.intro (cell_stays hbd d4) (And.intro (cell_stays hbd e0) (And.intro (cell_stays hbd e1) (And.intro (cell_stays hbd e2) ((cell_stays hbd y1)))))))))
      refine wp_region_held_drew (S := fun w' => w'.cell? ⟨w.heap.size, 0, none⟩ = some (.int .i64 N.pl) ∧ w'.cell? ⟨w.heap.size, 1, none⟩ = some (.slice A n c) ∧ w'.cell? ⟨w.heap.size, 2, none⟩ = some (.int .i64 N.src) ∧ w'.cell? ⟨w.heap.size, 3, none⟩ = some (.int .i64 N.snk) ∧ w'.cell? ⟨cb, 4, none⟩ = some (.slice (some ak) nk ck) ∧ w'.cell? ⟨tb, 0, none⟩ = some (.int .i64 xf) ∧ w'.cell? ⟨tb, 1, none⟩ = some (.int .i64 xt) ∧ w'.cell? ⟨tb, 2, none⟩ = some (.int .i64 xs) ∧ w'.cell? (ak.add (j + 1)) = some (.slice Az nz cz)) (by kernel_rfl) hS0 (fun hHeld => ?_)
      clear hS0 hbd b0 b1 b2 b3 d4 e0 e1 e2 y1
      clear HB20 HNb20 HCb20 HIn20 HC20 HBl20 HMb20 HY120
      generalize w20.drew = w21 at *
      refine tkH 0 ?_; try go_simp
      refine tkH 1 ?_; try go_simp
      refine tkH 2 ?_; try go_simp
      refine tkH 3 ?_; try go_simp
      refine tkH 4 ?_; try go_simp
      refine tkH 5 ?_; try go_simp
      refine tkH 6 ?_; try go_simp
      refine tkH 7 ?_; try go_simp
      refine tkH 8 ?_; try go_simp
      refine tkH 9 ?_; try go_simp
      refine tkH 10 ?_; try go_simp
      refine tkH 11 ?_; try go_simp
      refine tkH 12 ?_; try go_simp
      refine tkH 13 ?_; try go_simp
      refine tkH 14 ?_; try go_simp
      refine tkH 15 ?_; try go_simp
      refine tkH 16 ?_; try go_simp
      refine tkH 17 ?_; try go_simp
      refine tkH 18 ?_; try go_simp
      refine tkH 19 ?_; try go_simp
      refine tkH 20 ?_; try go_simp
      refine tkH 21 ?_; try go_simp
      refine tkH 22 ?_; try go_simp
      refine tkH 23 ?_; try go_simp
      refine tkH 24 ?_; try go_simp
      refine tkH 25 ?_; try go_simp
      refine tkH 26 ?_; try go_simp
      refine tkH 27 ?_; try go_simp
      refine tkH 28 ?_; try go_simp
      refine tkH 29 ?_; try go_simp
      refine tkU 30 ?_; try go_simp
      refine tkU 31 ?_; try go_simp
      refine tkU 32 ?_; try go_simp
      refine tkU 33 ?_; try go_simp
      refine tkU 34 ?_; try go_simp
      refine tkU 35 ?_; try go_simp
      refine tkU 36 ?_; try go_simp
      refine tkU 37 ?_; try go_simp
      refine tkU 38 ?_; try go_simp
      refine tkU 39 ?_; try go_simp
      refine tkU 40 ?_; try go_simp
      refine tkH 41 ?_; try go_simp
      refine tkH 42 ?_; try go_simp
      refine tkU 43 ?_; try go_simp
      refine tkU 44 ?_; try go_simp
      refine tkU 45 ?_; try go_simp
      refine tkU 46 ?_; try go_simp
      refine tkU 47 ?_; try go_simp
      refine tkU 48 ?_; try go_simp
      refine tkU 49 ?_; try go_simp
      refine tkU 50 ?_; try go_simp
      refine tkU 51 ?_; try go_simp
      refine tkU 52 ?_; try go_simp
      refine tkU 53 ?_; try go_simp
      refine tkU 54 ?_; try go_simp
      refine tkH 55 ?_; try go_simp
      refine wpAnyH_done (by kernel_rfl) ?_ _
      clear hHeld
      go_wp2_with fail
      go_ret
      exact ⟨ret_bool (by rw [HQ.out]; rfl), HB21.out⟩
    have p4 : decide ((n : Int) ≤ xs) = false := by simpa using hs1
    rw [HNl.out, decide_eq_true (show xs < (n : Int) by omega)] at HMg
    obtain ⟨f, rfl⟩ := Int.eq_ofNat_of_zero_le (show 0 ≤ xf by omega)
    obtain ⟨s, rfl⟩ := Int.eq_ofNat_of_zero_le (show 0 ≤ xs by omega)
    have p6 : decide (j < f) = false := by simp; omega
    have p7 : decide (n ≤ s) = false := by simp; omega
    have hfk : f < K.length := by have := HC0.out.kl; omega
    have hfn : f < nk := by omega
    have hf2 : (0 : Int) ≤ (f : Int) := by omega
    have hf3 : (f : Int) < (nk : Int) := by omega
    have hsl : s < N.tr.length := by rw [HNl.out]; omega
    have HT := hid (show trAtN N (s : Int) = N.tr[s] by unfold trAtN; rw [Int.toNat_natCast]; simp [hsl])
    rw [show K.getD ((f : Nat) : Int).toNat [] = K[f] by rw [Int.toNat_natCast]; simp [hfk]] at HMg
    have HMy := hid (HAll.out _ (List.getElem_mem hfk))
    obtain ⟨Ay, ny, cy, hy0, hzy, hy1, hy2, hy3⟩ := lin_at HC0.out.k hfk
    have HY020 := hid (hy0.below HBl20.out)
    have HZy := hid hzy
    have HYl := hid hy1
    generalize K[f] = Y at *
    have hyp : (ny : Int) = N.pl := by have := mkX_len HMy.out; omega
    have hny : ny ≤ 1000 := by omega
    have hny0 : 0 < ny := by omega
    have HEn0 := hid (fun w1 (hw : Below w0.heap.size w0 w1) => can28_any N A n c Ay ny cy Y s hsl w1 (HIn0.out.below hw).1 HNl.out (HZy.out.below hw) HYl.out (nt_inM HV.out (m := ny) hyp _ (List.getElem_mem hsl)).1)
    have HFi0 := hid (fun w1 (hw : Below w0.heap.size w0 w1) => fire28_any N A n c Ay ny cy Y s hsl w1 (HIn0.out.below hw).1 HNl.out (HZy.out.below hw) HYl.out hny0 hny (netOk_of HV.out hyp s _ (List.getElem?_eq_getElem hsl)) (mkX_bnd HMy.out) (fun p => mkX_le HMy.out p))
    rw [← HT.out] at HEn0 HFi0
    have HFd0 := hid (fun w1 (hw : Below w0.heap.size w0 w1) => at28_any (some ak) nk ck K Az nz cz Z w1 (HC0.out.k.below hw) HC0.out.kl HC0.out.kb (HZz.out.below hw) HZl.out)
    have y0 := HY020.out
    have HFl := hid (show (fireT (trAtN N (s : Int)) Y).length = ny by rw [fireT_len, HYl.out])
    clear hf0 hf1 hs0 hs1 hy0 hzy hy1 HT hfk hsl
    cases hcan : canT (trAtN N (s : Int)) Y with
    | false =>
     rw [hcan] at HEn0
     rw [HNo.out (by rw [HMg.out, hcan]; rfl)] at HQ
     have hbd : Below w20.heap.size w20 w20.drew := (Below.refl _ _).drew
     have HB21 := hid (HB20.out.trans (hbd.mono HB20.out.size))
     have HNb21 := hid (HNb20.out.below hbd)
     have HCb21 := hid (HCb20.out.below hbd)
     have HIn21 := hid (HIn20.out.below hbd)
     have HC21 := hid (HC20.out.below hbd)
     have HBl21 := hid (HBl20.out.trans (hbd.mono HBl20.out.size))
     have HMb21 := hid (HMb20.out.below hbd)
     have HY121 := hid (HY120.out.below hbd)
     have HY021 := hid (HY020.out.below hbd)
     have hS0 := And.intro (cell_stays hbd b0) (And.intro (cell_stays hbd b1) (And.intro (cell_stays hbd b2) (And.intro (cell_stays hbd b3) (And.intro (cell_stays hbd d4) (And.intro (cell_stays hbd e0) (And.intro (cell_stays hbd e1) (And.intro (cell_stays hbd e2) (And.intro (cell_stays hbd y1) ((cell_stays hbd y0))))))))))
     refine wp_region_held_drew (S := fun w' => w'.cell? ⟨w.heap.size, 0, none⟩ = some (.int .i64 N.pl) ∧ w'.cell? ⟨w.heap.size, 1, none⟩ = some (.slice A n c) ∧ w'.cell? ⟨w.heap.size, 2, none⟩ = some (.int .i64 N.src) ∧ w'.cell? ⟨w.heap.size, 3, none⟩ = some (.int .i64 N.snk) ∧ w'.cell? ⟨cb, 4, none⟩ = some (.slice (some ak) nk ck) ∧ w'.cell? ⟨tb, 0, none⟩ = some (.int .i64 (f : Int)) ∧ w'.cell? ⟨tb, 1, none⟩ = some (.int .i64 xt) ∧ w'.cell? ⟨tb, 2, none⟩ = some (.int .i64 (s : Int)) ∧ w'.cell? (ak.add (j + 1)) = some (.slice Az nz cz) ∧ w'.cell? (ak.add f) = some (.slice Ay ny cy)) (by kernel_rfl) hS0 (fun hHeld => ?_)
     clear hS0 hbd b0 b1 b2 b3 d4 e0 e1 e2 y1 y0
     clear HB20 HNb20 HCb20 HIn20 HC20 HBl20 HMb20 HY120 HY020
     generalize w20.drew = w21 at *
     refine tkH 0 ?_; try go_simp
     refine tkH 1 ?_; try go_simp
     refine tkH 2 ?_; try go_simp
     refine tkH 3 ?_; try go_simp
     refine tkH 4 ?_; try go_simp
     refine tkH 5 ?_; try go_simp
     refine tkH 6 ?_; try go_simp
     refine tkH 7 ?_; try go_simp
     refine tkH 8 ?_; try go_simp
     refine tkH 9 ?_; try go_simp
     refine tkH 10 ?_; try go_simp
     refine tkH 11 ?_; try go_simp
     refine tkH 12 ?_; try go_simp
     refine tkH 13 ?_; try go_simp
     refine tkH 14 ?_; try go_simp
     refine tkH 15 ?_; try go_simp
     refine tkH 16 ?_; try go_simp
     refine tkH 17 ?_; try go_simp
     refine tkH 18 ?_; try go_simp
     refine tkH 19 ?_; try go_simp
     refine tkH 20 ?_; try go_simp
     refine tkH 21 ?_; try go_simp
     refine tkH 22 ?_; try go_simp
     refine tkH 23 ?_; try go_simp
     refine tkH 24 ?_; try go_simp
     refine tkH 25 ?_; try go_simp
     refine tkH 26 ?_; try go_simp
     refine tkH 27 ?_; try go_simp
     refine tkH 28 ?_; try go_simp
     refine tkH 29 ?_; try go_simp
     refine tkH 30 ?_; try go_simp
     refine tkH 31 ?_; try go_simp
     refine tkH 32 ?_; try go_simp
     refine tkH 33 ?_; try go_simp
     refine tkH 34 ?_; try go_simp
     refine tkH 35 ?_; try go_simp
     refine tkH 36 ?_; try go_simp
     refine tkH 37 ?_; try go_simp
     refine tkH 38 ?_; try go_simp
     refine tkR 39 (fun K9 hK => ?_)
     go_simp
     have HEn := hid (HEn0.out w21 (HBl21.out))
     ((refine (HEn.out).mono ?_); rintro e w22 ⟨rfl, hb22⟩)
     have hS9 := hHeld
     refine hK.out _ _ ⟨cell_stays hb22 hS9.1, cell_stays hb22 hS9.2.1, cell_stays hb22 hS9.2.2.1, cell_stays hb22 hS9.2.2.2.1, cell_stays hb22 hS9.2.2.2.2.1, cell_stays hb22 hS9.2.2.2.2.2.1, cell_stays hb22 hS9.2.2.2.2.2.2.1, cell_stays hb22 hS9.2.2.2.2.2.2.2.1, cell_stays hb22 hS9.2.2.2.2.2.2.2.2.1, cell_stays hb22 hS9.2.2.2.2.2.2.2.2.2⟩ (fun hHeld => ?_)
     clear hK K9 hS9
     try go_simp
     have HB22 := hid (HB21.out.trans (hb22.mono HB21.out.size))
     have HNb22 := hid (HNb21.out.below hb22)
     have HCb22 := hid (HCb21.out.below hb22)
     have HIn22 := hid (HIn21.out.below hb22)
     have HC22 := hid (HC21.out.below hb22)
     have HBl22 := hid (HBl21.out.trans (hb22.mono HBl21.out.size))
     have HMb22 := hid (HMb21.out.below hb22)
     have HY122 := hid (HY121.out.below hb22)
     have HY022 := hid (HY021.out.below hb22)
     clear HB21 HNb21 HCb21 HIn21 HC21 HBl21 HMb21 HY121 HY021
     clear HEn
     clear hb22
     refine tkH 40 ?_; try go_simp
     refine tkH 41 ?_; try go_simp
     refine tkH 42 ?_; try go_simp
     refine tkU 43 ?_; try go_simp
     refine tkU 44 ?_; try go_simp
     refine tkU 45 ?_; try go_simp
     refine tkU 46 ?_; try go_simp
     refine tkU 47 ?_; try go_simp
     refine tkU 48 ?_; try go_simp
     refine tkU 49 ?_; try go_simp
     refine tkU 50 ?_; try go_simp
     refine tkU 51 ?_; try go_simp
     refine tkU 52 ?_; try go_simp
     refine tkU 53 ?_; try go_simp
     refine tkU 54 ?_; try go_simp
     refine tkH 55 ?_; try go_simp
     refine wpAnyH_done (by kernel_rfl) ?_ _
     clear hHeld
     go_wp2_with fail
     go_ret
     exact ⟨ret_bool (by rw [HQ.out]; rfl), HB22.out⟩
    | true =>
    rw [hcan] at HEn0 HMg
    clear hcan
    by_cases hfd : findR K Z = (j : Int) + 1
    rotate_left
    · have p5 : (findR K Z != (j : Int) + 1) = true := by rw [bne_iff_ne]; omega
      rw [HNo.out (by rw [HMg.out, decide_eq_false hfd]; rfl)] at HQ
      generalize findR K Z = fd at *
      clear hfd
      have hbd : Below w20.heap.size w20 w20.drew := (Below.refl _ _).drew
      have HB21 := hid (HB20.out.trans (hbd.mono HB20.out.size))
      have HNb21 := hid (HNb20.out.below hbd)
      have HCb21 := hid (HCb20.out.below hbd)
      have HIn21 := hid (HIn20.out.below hbd)
      have HC21 := hid (HC20.out.below hbd)
      have HBl21 := hid (HBl20.out.trans (hbd.mono HBl20.out.size))
      have HMb21 := hid (HMb20.out.below hbd)
      have HY121 := hid (HY120.out.below hbd)
      have HY021 := hid (HY020.out.below hbd)
      have hS0 := And.intro (cell_stays hbd b0) (And.intro (cell_stays hbd b1) (And.intro (cell_stays hbd b2) (And.intro (cell_stays hbd b3) (And.intro (cell_stays hbd d4) (And.intro (cell_stays hbd e0) (And.intro (cell_stays hbd e1) (And.intro (cell_stays hbd e2) (And.intro (cell_stays hbd y1) ((cell_stays hbd y0))))))))))
      refine wp_region_held_drew (S := fun w' => w'.cell? ⟨w.heap.size, 0, none⟩ = some (.int .i64 N.pl) ∧ w'.cell? ⟨w.heap.size, 1, none⟩ = some (.slice A n c) ∧ w'.cell? ⟨w.heap.size, 2, none⟩ = some (.int .i64 N.src) ∧ w'.cell? ⟨w.heap.size, 3, none⟩ = some (.int .i64 N.snk) ∧ w'.cell? ⟨cb, 4, none⟩ = some (.slice (some ak) nk ck) ∧ w'.cell? ⟨tb, 0, none⟩ = some (.int .i64 (f : Int)) ∧ w'.cell? ⟨tb, 1, none⟩ = some (.int .i64 xt) ∧ w'.cell? ⟨tb, 2, none⟩ = some (.int .i64 (s : Int)) ∧ w'.cell? (ak.add (j + 1)) = some (.slice Az nz cz) ∧ w'.cell? (ak.add f) = some (.slice Ay ny cy)) (by kernel_rfl) hS0 (fun hHeld => ?_)
      clear hS0 hbd b0 b1 b2 b3 d4 e0 e1 e2 y1 y0
      clear HB20 HNb20 HCb20 HIn20 HC20 HBl20 HMb20 HY120 HY020
      generalize w20.drew = w21 at *
      refine tkH 0 ?_; try go_simp
      refine tkH 1 ?_; try go_simp
      refine tkH 2 ?_; try go_simp
      refine tkH 3 ?_; try go_simp
      refine tkH 4 ?_; try go_simp
      refine tkH 5 ?_; try go_simp
      refine tkH 6 ?_; try go_simp
      refine tkH 7 ?_; try go_simp
      refine tkH 8 ?_; try go_simp
      refine tkH 9 ?_; try go_simp
      refine tkH 10 ?_; try go_simp
      refine tkH 11 ?_; try go_simp
      refine tkH 12 ?_; try go_simp
      refine tkH 13 ?_; try go_simp
      refine tkH 14 ?_; try go_simp
      refine tkH 15 ?_; try go_simp
      refine tkH 16 ?_; try go_simp
      refine tkH 17 ?_; try go_simp
      refine tkH 18 ?_; try go_simp
      refine tkH 19 ?_; try go_simp
      refine tkH 20 ?_; try go_simp
      refine tkH 21 ?_; try go_simp
      refine tkH 22 ?_; try go_simp
      refine tkH 23 ?_; try go_simp
      refine tkH 24 ?_; try go_simp
      refine tkH 25 ?_; try go_simp
      refine tkH 26 ?_; try go_simp
      refine tkH 27 ?_; try go_simp
      refine tkH 28 ?_; try go_simp
      refine tkH 29 ?_; try go_simp
      refine tkH 30 ?_; try go_simp
      refine tkH 31 ?_; try go_simp
      refine tkH 32 ?_; try go_simp
      refine tkH 33 ?_; try go_simp
      refine tkH 34 ?_; try go_simp
      refine tkH 35 ?_; try go_simp
      refine tkH 36 ?_; try go_simp
      refine tkH 37 ?_; try go_simp
      refine tkH 38 ?_; try go_simp
      refine tkR 39 (fun K9 hK => ?_)
      go_simp
      have HEn := hid (HEn0.out w21 (HBl21.out))
      ((refine (HEn.out).mono ?_); rintro e w22 ⟨rfl, hb22⟩)
      have hS9 := hHeld
      refine hK.out _ _ ⟨cell_stays hb22 hS9.1, cell_stays hb22 hS9.2.1, cell_stays hb22 hS9.2.2.1, cell_stays hb22 hS9.2.2.2.1, cell_stays hb22 hS9.2.2.2.2.1, cell_stays hb22 hS9.2.2.2.2.2.1, cell_stays hb22 hS9.2.2.2.2.2.2.1, cell_stays hb22 hS9.2.2.2.2.2.2.2.1, cell_stays hb22 hS9.2.2.2.2.2.2.2.2.1, cell_stays hb22 hS9.2.2.2.2.2.2.2.2.2⟩ (fun hHeld => ?_)
      clear hK K9 hS9
      try go_simp
      have HB22 := hid (HB21.out.trans (hb22.mono HB21.out.size))
      have HNb22 := hid (HNb21.out.below hb22)
      have HCb22 := hid (HCb21.out.below hb22)
      have HIn22 := hid (HIn21.out.below hb22)
      have HC22 := hid (HC21.out.below hb22)
      have HBl22 := hid (HBl21.out.trans (hb22.mono HBl21.out.size))
      have HMb22 := hid (HMb21.out.below hb22)
      have HY122 := hid (HY121.out.below hb22)
      have HY022 := hid (HY021.out.below hb22)
      clear HB21 HNb21 HCb21 HIn21 HC21 HBl21 HMb21 HY121 HY021
      clear HEn
      clear hb22
      refine tkH 40 ?_; try go_simp
      refine tkH 41 ?_; try go_simp
      refine tkH 42 ?_; try go_simp
      refine tkH 43 ?_; try go_simp
      refine tkH 44 ?_; try go_simp
      refine tkH 45 ?_; try go_simp
      refine tkH 46 ?_; try go_simp
      refine tkH 47 ?_; try go_simp
      refine tkH 48 ?_; try go_simp
      refine tkH 49 ?_; try go_simp
      refine tkH 50 ?_; try go_simp
      refine tkH 52 ?_; try go_simp
      refine tkH 53 ?_; try go_simp
      refine tkR 51 (fun K9 hK => ?_)
      go_simp
      have HFd := hid (HFd0.out w22 (HBl22.out))
      ((refine (HFd.out).mono ?_); rintro e w23 ⟨rfl, hb23⟩)
      have hS9 := hHeld
      refine hK.out _ _ ⟨cell_stays hb23 hS9.1, cell_stays hb23 hS9.2.1, cell_stays hb23 hS9.2.2.1, cell_stays hb23 hS9.2.2.2.1, cell_stays hb23 hS9.2.2.2.2.1, cell_stays hb23 hS9.2.2.2.2.2.1, cell_stays hb23 hS9.2.2.2.2.2.2.1, cell_stays hb23 hS9.2.2.2.2.2.2.2.1, cell_stays hb23 hS9.2.2.2.2.2.2.2.2.1, cell_stays hb23 hS9.2.2.2.2.2.2.2.2.2⟩ (fun hHeld => ?_)
      clear hK K9 hS9
      try go_simp
      have HB23 := hid (HB22.out.trans (hb23.mono HB22.out.size))
      have HNb23 := hid (HNb22.out.below hb23)
      have HCb23 := hid (HCb22.out.below hb23)
      have HIn23 := hid (HIn22.out.below hb23)
      have HC23 := hid (HC22.out.below hb23)
      have HBl23 := hid (HBl22.out.trans (hb23.mono HBl22.out.size))
      have HMb23 := hid (HMb22.out.below hb23)
      have HY123 := hid (HY122.out.below hb23)
      have HY023 := hid (HY022.out.below hb23)
      clear HB22 HNb22 HCb22 HIn22 HC22 HBl22 HMb22 HY122 HY022
      clear HFd
      clear hb23
      refine tkH 54 ?_; try go_simp
      refine tkH 55 ?_; try go_simp
      refine wpAnyH_done (by kernel_rfl) ?_ _
      clear hHeld
      go_wp2_with fail
      go_ret
      exact ⟨ret_bool (by rw [HQ.out]; rfl), HB23.out⟩
    rw [decide_eq_true hfd] at HMg
    rw [hfd] at HFd0
    clear hfd
    have hbd : Below w20.heap.size w20 w20.drew := (Below.refl _ _).drew
    have HB21 := hid (HB20.out.trans (hbd.mono HB20.out.size))
    have HNb21 := hid (HNb20.out.below hbd)
    have HCb21 := hid (HCb20.out.below hbd)
    have HIn21 := hid (HIn20.out.below hbd)
    have HC21 := hid (HC20.out.below hbd)
    have HBl21 := hid (HBl20.out.trans (hbd.mono HBl20.out.size))
    have HMb21 := hid (HMb20.out.below hbd)
    have HY121 := hid (HY120.out.below hbd)
    have HY021 := hid (HY020.out.below hbd)
    have hS0 := And.intro (cell_stays hbd b0) (And.intro (cell_stays hbd b1) (And.intro (cell_stays hbd b2) (And.intro (cell_stays hbd b3) (And.intro (cell_stays hbd d4) (And.intro (cell_stays hbd e0) (And.intro (cell_stays hbd e1) (And.intro (cell_stays hbd e2) (And.intro (cell_stays hbd y1) ((cell_stays hbd y0))))))))))
    refine wp_region_held_drew (S := fun w' => w'.cell? ⟨w.heap.size, 0, none⟩ = some (.int .i64 N.pl) ∧ w'.cell? ⟨w.heap.size, 1, none⟩ = some (.slice A n c) ∧ w'.cell? ⟨w.heap.size, 2, none⟩ = some (.int .i64 N.src) ∧ w'.cell? ⟨w.heap.size, 3, none⟩ = some (.int .i64 N.snk) ∧ w'.cell? ⟨cb, 4, none⟩ = some (.slice (some ak) nk ck) ∧ w'.cell? ⟨tb, 0, none⟩ = some (.int .i64 (f : Int)) ∧ w'.cell? ⟨tb, 1, none⟩ = some (.int .i64 xt) ∧ w'.cell? ⟨tb, 2, none⟩ = some (.int .i64 (s : Int)) ∧ w'.cell? (ak.add (j + 1)) = some (.slice Az nz cz) ∧ w'.cell? (ak.add f) = some (.slice Ay ny cy)) (by kernel_rfl) hS0 (fun hHeld => ?_)
    clear hS0 hbd b0 b1 b2 b3 d4 e0 e1 e2 y1 y0
    clear HB20 HNb20 HCb20 HIn20 HC20 HBl20 HMb20 HY120 HY020
    generalize w20.drew = w21 at *
    refine tkH 0 ?_; try go_simp
    refine tkH 1 ?_; try go_simp
    refine tkH 2 ?_; try go_simp
    refine tkH 3 ?_; try go_simp
    refine tkH 4 ?_; try go_simp
    refine tkH 5 ?_; try go_simp
    refine tkH 6 ?_; try go_simp
    refine tkH 7 ?_; try go_simp
    refine tkH 8 ?_; try go_simp
    refine tkH 9 ?_; try go_simp
    refine tkH 10 ?_; try go_simp
    refine tkH 11 ?_; try go_simp
    refine tkH 12 ?_; try go_simp
    refine tkH 13 ?_; try go_simp
    refine tkH 14 ?_; try go_simp
    refine tkH 15 ?_; try go_simp
    refine tkH 16 ?_; try go_simp
    refine tkH 17 ?_; try go_simp
    refine tkH 18 ?_; try go_simp
    refine tkH 19 ?_; try go_simp
    refine tkH 20 ?_; try go_simp
    refine tkH 21 ?_; try go_simp
    refine tkH 22 ?_; try go_simp
    refine tkH 23 ?_; try go_simp
    refine tkH 24 ?_; try go_simp
    refine tkH 25 ?_; try go_simp
    refine tkH 26 ?_; try go_simp
    refine tkH 27 ?_; try go_simp
    refine tkH 28 ?_; try go_simp
    refine tkH 29 ?_; try go_simp
    refine tkH 30 ?_; try go_simp
    refine tkH 31 ?_; try go_simp
    refine tkH 32 ?_; try go_simp
    refine tkH 33 ?_; try go_simp
    refine tkH 34 ?_; try go_simp
    refine tkH 35 ?_; try go_simp
    refine tkH 36 ?_; try go_simp
    refine tkH 37 ?_; try go_simp
    refine tkH 38 ?_; try go_simp
    refine tkR 39 (fun K9 hK => ?_)
    go_simp
    have HEn := hid (HEn0.out w21 (HBl21.out))
    ((refine (HEn.out).mono ?_); rintro e w22 ⟨rfl, hb22⟩)
    have hS9 := hHeld
    refine hK.out _ _ ⟨cell_stays hb22 hS9.1, cell_stays hb22 hS9.2.1, cell_stays hb22 hS9.2.2.1, cell_stays hb22 hS9.2.2.2.1, cell_stays hb22 hS9.2.2.2.2.1, cell_stays hb22 hS9.2.2.2.2.2.1, cell_stays hb22 hS9.2.2.2.2.2.2.1, cell_stays hb22 hS9.2.2.2.2.2.2.2.1, cell_stays hb22 hS9.2.2.2.2.2.2.2.2.1, cell_stays hb22 hS9.2.2.2.2.2.2.2.2.2⟩ (fun hHeld => ?_)
    clear hK K9 hS9
    try go_simp
    have HB22 := hid (HB21.out.trans (hb22.mono HB21.out.size))
    have HNb22 := hid (HNb21.out.below hb22)
    have HCb22 := hid (HCb21.out.below hb22)
    have HIn22 := hid (HIn21.out.below hb22)
    have HC22 := hid (HC21.out.below hb22)
    have HBl22 := hid (HBl21.out.trans (hb22.mono HBl21.out.size))
    have HMb22 := hid (HMb21.out.below hb22)
    have HY122 := hid (HY121.out.below hb22)
    have HY022 := hid (HY021.out.below hb22)
    clear HB21 HNb21 HCb21 HIn21 HC21 HBl21 HMb21 HY121 HY021
    clear HEn
    clear hb22
    refine tkH 40 ?_; try go_simp
    refine tkH 41 ?_; try go_simp
    refine tkH 42 ?_; try go_simp
    refine tkH 43 ?_; try go_simp
    refine tkH 44 ?_; try go_simp
    refine tkH 45 ?_; try go_simp
    refine tkH 46 ?_; try go_simp
    refine tkH 47 ?_; try go_simp
    refine tkH 48 ?_; try go_simp
    refine tkH 49 ?_; try go_simp
    refine tkH 50 ?_; try go_simp
    refine tkH 52 ?_; try go_simp
    refine tkH 53 ?_; try go_simp
    refine tkR 51 (fun K9 hK => ?_)
    go_simp
    have HFd := hid (HFd0.out w22 (HBl22.out))
    ((refine (HFd.out).mono ?_); rintro e w23 ⟨rfl, hb23⟩)
    have hS9 := hHeld
    refine hK.out _ _ ⟨cell_stays hb23 hS9.1, cell_stays hb23 hS9.2.1, cell_stays hb23 hS9.2.2.1, cell_stays hb23 hS9.2.2.2.1, cell_stays hb23 hS9.2.2.2.2.1, cell_stays hb23 hS9.2.2.2.2.2.1, cell_stays hb23 hS9.2.2.2.2.2.2.1, cell_stays hb23 hS9.2.2.2.2.2.2.2.1, cell_stays hb23 hS9.2.2.2.2.2.2.2.2.1, cell_stays hb23 hS9.2.2.2.2.2.2.2.2.2⟩ (fun hHeld => ?_)
    clear hK K9 hS9
    try go_simp
    have HB23 := hid (HB22.out.trans (hb23.mono HB22.out.size))
    have HNb23 := hid (HNb22.out.below hb23)
    have HCb23 := hid (HCb22.out.below hb23)
    have HIn23 := hid (HIn22.out.below hb23)
    have HC23 := hid (HC22.out.below hb23)
    have HBl23 := hid (HBl22.out.trans (hb23.mono HBl22.out.size))
    have HMb23 := hid (HMb22.out.below hb23)
    have HY123 := hid (HY122.out.below hb23)
    have HY023 := hid (HY022.out.below hb23)
    clear HB22 HNb22 HCb22 HIn22 HC22 HBl22 HMb22 HY122 HY022
    clear HFd
    clear hb23
    refine tkH 54 ?_; try go_simp
    refine tkH 55 ?_; try go_simp
    refine wpAnyH_done (by kernel_rfl) ?_ _
    clear hHeld
    go_wp2_with fail
    cases hbig : bigM (fireT (trAtN N (s : Int)) Y) with
    | true =>
     rw [HNo.out (by rw [HMg.out, hbig]; rfl)] at HQ
     obtain ⟨b0, b1, b2, b3⟩ := HNb23.out.cells
     obtain ⟨d0, d1, d2, d3, d4, d5, d6, d7⟩ := HCb23.out.cells
     obtain ⟨e0, e1, e2⟩ := HMb23.out.all3
     have y0 := HY023.out
     clear d0 d1 d2 d3 d5 d6 d7 e1
     have hbd : Below w23.heap.size w23 w23.drew := (Below.refl _ _).drew
     have HB24 := hid (HB23.out.trans (hbd.mono HB23.out.size))
     have HNb24 := hid (HNb23.out.below hbd)
     have HCb24 := hid (HCb23.out.below hbd)
     have HIn24 := hid (HIn23.out.below hbd)
     have HC24 := hid (HC23.out.below hbd)
     have HBl24 := hid (HBl23.out.trans (hbd.mono HBl23.out.size))
     have HMb24 := hid (HMb23.out.below hbd)
     have HY124 := hid (HY123.out.below hbd)
     have HY024 := hid (HY023.out.below hbd)
     have hS0 := And.intro (cell_stays hbd b0) (And.intro (cell_stays hbd b1) (And.intro (cell_stays hbd b2) (And.intro (cell_stays hbd b3) (And.intro (cell_stays hbd d4) (And.intro (cell_stays hbd e0) (And.intro (cell_stays hbd e2) ((cell_stays hbd y0))))))))
     refine wp_region_held_drew (S := fun w' => w'.cell? ⟨w.heap.size, 0, none⟩ = some (.int .i64 N.pl) ∧ w'.cell? ⟨w.heap.size, 1, none⟩ = some (.slice A n c) ∧ w'.cell? ⟨w.heap.size, 2, none⟩ = some (.int .i64 N.src) ∧ w'.cell? ⟨w.heap.size, 3, none⟩ = some (.int .i64 N.snk) ∧ w'.cell? ⟨cb, 4, none⟩ = some (.slice (some ak) nk ck) ∧ w'.cell? ⟨tb, 0, none⟩ = some (.int .i64 (f : Int)) ∧ w'.cell? ⟨tb, 2, none⟩ = some (.int .i64 (s : Int)) ∧ w'.cell? (ak.add f) = some (.slice Ay ny cy)) (by kernel_rfl) hS0 (fun hHeld => ?_)
     clear hS0 hbd b0 b1 b2 b3 d4 e0 e2 y0
     clear HB23 HNb23 HCb23 HIn23 HC23 HBl23 HMb23 HY123 HY023
     generalize w23.drew = w24 at *
     refine tkH 0 ?_; try go_simp
     refine tkH 1 ?_; try go_simp
     refine tkH 2 ?_; try go_simp
     refine tkH 3 ?_; try go_simp
     refine tkH 4 ?_; try go_simp
     refine tkH 5 ?_; try go_simp
     refine tkH 6 ?_; try go_simp
     refine tkH 7 ?_; try go_simp
     refine tkH 8 ?_; try go_simp
     refine tkR 9 (fun K9 hK => ?_)
     go_simp
     ((refine (rf_no (HFi0.out w24 HBl24.out) hbig).mono ?_); rintro e w25 ⟨rfl, hb25⟩)
     have hS9 := hHeld
     refine hK.out _ _ ⟨cell_stays hb25 hS9.1, cell_stays hb25 hS9.2.1, cell_stays hb25 hS9.2.2.1, cell_stays hb25 hS9.2.2.2.1, cell_stays hb25 hS9.2.2.2.2.1, cell_stays hb25 hS9.2.2.2.2.2.1, cell_stays hb25 hS9.2.2.2.2.2.2.1, cell_stays hb25 hS9.2.2.2.2.2.2.2⟩ (fun hHeld => ?_)
     clear hK K9 hS9
     try go_simp
     have HB25 := hid (HB24.out.trans (hb25.mono HB24.out.size))
     have HNb25 := hid (HNb24.out.below hb25)
     have HCb25 := hid (HCb24.out.below hb25)
     have HIn25 := hid (HIn24.out.below hb25)
     have HC25 := hid (HC24.out.below hb25)
     have HBl25 := hid (HBl24.out.trans (hb25.mono HBl24.out.size))
     have HMb25 := hid (HMb24.out.below hb25)
     have HY125 := hid (HY124.out.below hb25)
     have HY025 := hid (HY024.out.below hb25)
     clear HB24 HNb24 HCb24 HIn24 HC24 HBl24 HMb24 HY124 HY024
     clear hb25
     refine tkH 10 ?_; try go_simp
     refine tkH 11 ?_; try go_simp
     refine tkH 12 ?_; try go_simp
     refine tkH 13 ?_; try go_simp
     refine tkH 14 ?_; try go_simp
     refine wpAnyH_done (by kernel_rfl) ?_ _
     clear hHeld
     go_wp2_with fail
     go_ret
     exact ⟨ret_bool (by rw [HQ.out]; rfl), HB25.out⟩
    | false =>
     have HMh := hid (show rmvAt N K V j = decide (fireT (trAtN N (s : Int)) Y = Z) by rw [HMg.out, hbig]; rfl)
     obtain ⟨b0, b1, b2, b3⟩ := HNb23.out.cells
     obtain ⟨d0, d1, d2, d3, d4, d5, d6, d7⟩ := HCb23.out.cells
     obtain ⟨e0, e1, e2⟩ := HMb23.out.all3
     have y0 := HY023.out
     clear d0 d1 d2 d3 d5 d6 d7 e1
     have hbd : Below w23.heap.size w23 w23.drew := (Below.refl _ _).drew
     have HB24 := hid (HB23.out.trans (hbd.mono HB23.out.size))
     have HNb24 := hid (HNb23.out.below hbd)
     have HCb24 := hid (HCb23.out.below hbd)
     have HIn24 := hid (HIn23.out.below hbd)
     have HC24 := hid (HC23.out.below hbd)
     have HBl24 := hid (HBl23.out.trans (hbd.mono HBl23.out.size))
     have HMb24 := hid (HMb23.out.below hbd)
     have HY124 := hid (HY123.out.below hbd)
     have HY024 := hid (HY023.out.below hbd)
     have hS0 := And.intro (cell_stays hbd b0) (And.intro (cell_stays hbd b1) (And.intro (cell_stays hbd b2) (And.intro (cell_stays hbd b3) (And.intro (cell_stays hbd d4) (And.intro (cell_stays hbd e0) (And.intro (cell_stays hbd e2) ((cell_stays hbd y0))))))))
     refine wp_region_held_drew (S := fun w' => w'.cell? ⟨w.heap.size, 0, none⟩ = some (.int .i64 N.pl) ∧ w'.cell? ⟨w.heap.size, 1, none⟩ = some (.slice A n c) ∧ w'.cell? ⟨w.heap.size, 2, none⟩ = some (.int .i64 N.src) ∧ w'.cell? ⟨w.heap.size, 3, none⟩ = some (.int .i64 N.snk) ∧ w'.cell? ⟨cb, 4, none⟩ = some (.slice (some ak) nk ck) ∧ w'.cell? ⟨tb, 0, none⟩ = some (.int .i64 (f : Int)) ∧ w'.cell? ⟨tb, 2, none⟩ = some (.int .i64 (s : Int)) ∧ w'.cell? (ak.add f) = some (.slice Ay ny cy)) (by kernel_rfl) hS0 (fun hHeld => ?_)
     clear hS0 hbd b0 b1 b2 b3 d4 e0 e2 y0
     clear HB23 HNb23 HCb23 HIn23 HC23 HBl23 HMb23 HY123 HY023
     generalize w23.drew = w24 at *
     refine tkH 0 ?_; try go_simp
     refine tkH 1 ?_; try go_simp
     refine tkH 2 ?_; try go_simp
     refine tkH 3 ?_; try go_simp
     refine tkH 4 ?_; try go_simp
     refine tkH 5 ?_; try go_simp
     refine tkH 6 ?_; try go_simp
     refine tkH 7 ?_; try go_simp
     refine tkH 8 ?_; try go_simp
     refine tkR 9 (fun K9 hK => ?_)
     go_simp
     ((refine (rf_yes (HFi0.out w24 HBl24.out) hbig).mono ?_); rintro e w25 ⟨v25, rfl, hS25⟩)
     obtain ⟨A25, c25, rfl⟩ := hS25.slice
     have hb25 := hS25.2
     have hS9 := hHeld
     refine hK.out _ _ ⟨cell_stays hb25 hS9.1, cell_stays hb25 hS9.2.1, cell_stays hb25 hS9.2.2.1, cell_stays hb25 hS9.2.2.2.1, cell_stays hb25 hS9.2.2.2.2.1, cell_stays hb25 hS9.2.2.2.2.2.1, cell_stays hb25 hS9.2.2.2.2.2.2.1, cell_stays hb25 hS9.2.2.2.2.2.2.2⟩ (fun hHeld => ?_)
     clear hK K9 hS9
     try go_simp
     have HB25 := hid (HB24.out.trans (hb25.mono HB24.out.size))
     have HNb25 := hid (HNb24.out.below hb25)
     have HCb25 := hid (HCb24.out.below hb25)
     have HIn25 := hid (HIn24.out.below hb25)
     have HC25 := hid (HC24.out.below hb25)
     have HBl25 := hid (HBl24.out.trans (hb25.mono HBl24.out.size))
     have HMb25 := hid (HMb24.out.below hb25)
     have HY125 := hid (HY124.out.below hb25)
     have HY025 := hid (HY024.out.below hb25)
     clear HB24 HNb24 HCb24 HIn24 HC24 HBl24 HMb24 HY124 HY024
     have HYf25 := hid (show ZIn w25 A25 (fireT (trAtN N (s : Int)) Y) by obtain ⟨A', c', e, hz, _⟩ := hS25.zin; cases e; exact hz)
     clear hS25 hb25
     refine tkH 10 ?_; try go_simp
     refine tkH 11 ?_; try go_simp
     refine tkH 12 ?_; try go_simp
     refine tkH 13 ?_; try go_simp
     refine tkH 14 ?_; try go_simp
     refine wpAnyH_done (by kernel_rfl) ?_ _
     clear hHeld
     have y1 : w25.cell? ⟨ak.block, ak.off + (j + 1), none⟩ = some (.slice Az nz cz) := by rw [← add_prev]; exact HY125.out
     obtain ⟨d0, d1, d2, d3, d4, d5, d6, d7⟩ := HCb25.out.cells
     clear d0 d1 d2 d3 d5 d6 d7
     rw [HFl.out]
     have HSm := hid (same_any A25 ny c25 Az nz cz (fireT (trAtN N (s : Int)) Y) Z w25 HYf25.out HFl.out (HZz.out.below HBl25.out) HZl.out (by omega))
     clear hbig
     generalize fireT (trAtN N (s : Int)) Y = F at *
     by_cases he : F = Z
     · rw [decide_eq_true he] at HSm HMh
       clear he
       go_wp2_with fail
       ((with_reducible refine HSm.out.mono ?_); rintro e w60 ⟨rfl, hb60⟩)
       have HBl60 := hid (HBl25.out.trans (hb60.mono HBl25.out.size))
       clear d4 y1 hb60
       go_wp2_with fail
       go_roundg (gk - 1)
       case measure => have := HJ.out; omega
       case rel => exact ⟨j + 1, by have := HJ.out; omega, by go_num, by rw [HSt.out, HP.out, HMh.out]; rfl, HBl60.out⟩
     · rw [decide_eq_false he] at HSm HMh
       rw [HNo.out HMh.out] at HQ
       clear he
       go_wp2_with fail
       ((with_reducible refine HSm.out.mono ?_); rintro e w60 ⟨rfl, hb60⟩)
       have HB60 := hid (HB25.out.trans (hb60.mono HB25.out.size))
       clear d4 y1 hb60
       go_wp2_with fail
       go_ret
       exact ⟨ret_bool (by rw [HQ.out]; rfl), HB60.out⟩
  · have hE : (List.range V.length).all (rmvAt N K V) = true := by
     have := HP.out
     rwa [show j = V.length by rw [HC0.out.vl]; omega] at this
    rw [hE] at HQ
    go_wp2_with fail
    go_ret
    exact ⟨ret_bool (by rw [HQ.out]; rfl), HB9.out⟩
end Go.Proofs.YtpnhcimmlnjfaaaGreatDoor
