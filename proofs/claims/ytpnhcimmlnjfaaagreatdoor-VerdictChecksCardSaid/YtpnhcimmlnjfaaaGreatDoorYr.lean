/- VerdictChecks: the walk through the statement. A whole certificate that came in, as it is read. VerdictChecks: for every input the law returns true, and each argument reads afterwards as before. Condition: the row's own (the listed variables of the library read as listed, which the card ties to the program's text). -/
import Derived.Test.YtpnhcimmlnjfaaaGreatDoorYn
import Derived.Test.YtpnhcimmlnjfaaaGreatDoorYk
import Derived.Test.YtpnhcimmlnjfaaaGreatDoorIa
import Derived.Test.YtpnhcimmlnjfaaaGreatDoorYm
namespace Go.Proofs.YtpnhcimmlnjfaaaGreatDoor
open Go.Lib (hid)
section
open Go.RowKit

/-- what a call answers where its answer is one proposition's -/
theorem VcPo.get {Q : Prop} {w w' : World} {e : Ending} (h : VcPo Q w e w') : e = .returned (.bool (@decide Q (Classical.propDecidable Q))) ∧ Below w.heap.size w w' := by
 obtain ⟨⟨q, rfl, hq⟩, hb⟩ := h
 refine ⟨?_, hb⟩
 by_cases hQ : Q
 · rw [hq.2 hQ, @decide_eq_true Q (Classical.propDecidable Q) hQ]
 · cases q with
   | true => exact absurd (hq.1 rfl) hQ
   | false => rw [@decide_eq_false Q (Classical.propDecidable Q) hQ]
set_option maxHeartbeats 12800000 in
set_option maxRecDepth 100000 in
theorem verdictChecks_walk (N : Nt) (A : Option Addr) (n c : Nat) (cl cn : Int) (Ar : Option Addr) (nr cr : Nat) (R : List Int) (Ap : Option Addr) (np cp : Nat) (P : List Int) (Ak : Option Addr) (nk ck : Nat) (K : List (List Int)) (Av : Option Addr) (nv cv : Nat) (V : List Mv) (As : Option Addr) (ns cs : Nat) (S : List (List Int)) (Aw : Option Addr) (nw cw : Nat) (X : List (List Int)) (w : World) (ht : Tb w) (h : NtIn w A N) (hn : N.tr.length = n) (hn2 : n ≤ 9223372036854775807) (hC : CfL w Ar nr R Ap np P Ak nk K Av nv V As ns S Aw nw X) :
 Calls Tryz.prog 3 #[.agg #[.int .i64 N.pl, .slice A n c, .int .i64 N.src, .int .i64 N.snk], .agg #[.int .i64 cl, .int .i64 cn, .slice Ar nr cr, .slice Ap np cp, .slice Ak nk ck, .slice Av nv cv, .slice As ns cs, .slice Aw nw cw]] w fun e w' => e = .returned (.bool true) ∧ Below w.heap.size w w' := by
 have HB0 := hid (two_boxes w (.cells #[.int .i64 N.pl, .slice A n c, .int .i64 N.src, .int .i64 N.snk] 24) (.cells #[.int .i64 cl, .int .i64 cn, .slice Ar nr cr, .slice Ap np cp, .slice Ak nk ck, .slice Av nv cv, .slice As ns cs, .slice Aw nw cw] 29))
 have HNb0 := hid ((NB.new w N.pl A n c N.src N.snk).below (below_alloc _ (.cells #[.int .i64 cl, .int .i64 cn, .slice Ar nr cr, .slice Ap np cp, .slice Ak nk ck, .slice Av nv cv, .slice As ns cs, .slice Aw nw cw] 29)))
 have hcb := heap_alloc_new (w.alloc (.cells #[.int .i64 N.pl, .slice A n c, .int .i64 N.src, .int .i64 N.snk] 24)) (.cells #[.int .i64 cl, .int .i64 cn, .slice Ar nr cr, .slice Ap np cp, .slice Ak nk ck, .slice Av nv cv, .slice As ns cs, .slice Aw nw cw] 29)
 rw [World.size_alloc] at hcb
 have HCb0 := hid (show CtB _ (w.heap.size + 1) #[.int .i64 cl, .int .i64 cn, .slice Ar nr cr, .slice Ap np cp, .slice Ak nk ck, .slice Av nv cv, .slice As ns cs, .slice Aw nw cw] from hcb)
 have HIn0 := hid (h.below HB0.out)
 have HC0 := hid (hC.below HB0.out)
 have HT0 := hid (ht.below HB0.out)
 have HNl := hid hn
 clear h hn hC hcb ht
 go_enter Tryz.func3, Tryz.ntmps3
 go_wp2_with fail
 generalize (w.alloc (.cells #[.int .i64 N.pl, .slice A n c, .int .i64 N.src, .int .i64 N.snk] 24)).alloc (.cells #[.int .i64 cl, .int .i64 cn, .slice Ar nr cr, .slice Ap np cp, .slice Ak nk ck, .slice Av nv cv, .slice As ns cs, .slice Aw nw cw] 29) = w0 at *
 generalize w.heap.size + 1 = cb at *
 have HAw := hid (awake_any w0 HT0.out)
 ((with_reducible refine HAw.out.mono ?_); rintro e w1 ⟨rfl, hb1⟩)
 have HB1 := hid (HB0.out.trans (hb1.mono HB0.out.size))
 have HNb1 := hid (HNb0.out.below hb1)
 have HCb1 := hid (HCb0.out.below hb1)
 have HIn1 := hid (HIn0.out.below hb1)
 have HC1 := hid (HC0.out.below hb1)
 have HT1 := hid (HT0.out.below hb1)
 clear HB0 HNb0 HCb0 HIn0 HC0 HT0 HAw hb1
 obtain ⟨b0, b1, b2, b3⟩ := HNb1.out.cells
 obtain ⟨d0, d1, d2, d3, d4, d5, d6, d7⟩ := HCb1.out.cells
 have HGr := hid (great_any N A n c w1 HIn1.out HNl.out hn2)
 go_wp2_with fail
 ((with_reducible refine HGr.out.mono ?_); rintro e w2 ⟨b, rfl, hbn, hb2⟩)
 have HB2 := hid (HB1.out.trans (hb2.mono HB1.out.size))
 have HNb2 := hid (HNb1.out.below hb2)
 have HCb2 := hid (HCb1.out.below hb2)
 have HIn2 := hid (HIn1.out.below hb2)
 have HC2 := hid (HC1.out.below hb2)
 have HT2 := hid (HT1.out.below hb2)
 clear HB1 HNb1 HCb1 HIn1 HC1 HT1 HGr hb2 b0 b1 b2 b3 d0 d1 d2 d3 d4 d5 d6 d7
 obtain ⟨b0, b1, b2, b3⟩ := HNb2.out.cells
 obtain ⟨d0, d1, d2, d3, d4, d5, d6, d7⟩ := HCb2.out.cells
 cases b with
 | true =>
  go_wp2_with fail
  go_ret
  exact ⟨rfl, HB2.out⟩
 | false =>
  have hn100 : n ≤ 100 := hbn rfl
  clear hbn
  have HG2 := hid (show Calls Tryz.prog 7 #[.agg #[.int .i64 cl, .int .i64 cn, .slice Ar nr cr, .slice Ap np cp, .slice Ak nk ck, .slice Av nv cv, .slice As ns cs, .slice Aw nw cw], .int .i64 60] w2 _ from great29_any cl cn Ar nr cr R Ap np cp P Ak nk ck K Av nv cv V As ns cs S Aw nw cw X 60 w2 HC2.out (by omega))
  go_wp2_with fail
  ((with_reducible refine HG2.out.mono ?_); rintro e w3 ⟨rfl, hb3⟩)
  have HB3 := hid (HB2.out.trans (hb3.mono HB2.out.size))
  have HNb3 := hid (HNb2.out.below hb3)
  have HCb3 := hid (HCb2.out.below hb3)
  have HIn3 := hid (HIn2.out.below hb3)
  have HC3 := hid (HC2.out.below hb3)
  have HT3 := hid (HT2.out.below hb3)
  clear HB2 HNb2 HCb2 HIn2 HC2 HT2 HG2 hb3 b0 b1 b2 b3 d0 d1 d2 d3 d4 d5 d6 d7
  obtain ⟨b0, b1, b2, b3⟩ := HNb3.out.cells
  obtain ⟨d0, d1, d2, d3, d4, d5, d6, d7⟩ := HCb3.out.cells
  cases hg : grtB 60 R P K V S X with
  | true =>
   go_wp2_with fail
   go_ret
   exact ⟨rfl, HB3.out⟩
  | false =>
   obtain ⟨g1, g2, g3, g4, g5, g6, _, g8, _⟩ := grt_no hg
   have HCm := hid (HC3.out.m (by rw [← HC3.out.rl]; omega) (by rw [← HC3.out.pl]; omega) (by rw [← HC3.out.kl]; omega) (by rw [← HC3.out.vl]; omega) (by rw [← HC3.out.sl]; omega) (by rw [← HC3.out.xl]; omega))
   have HI6 := hid g8
   have hk60 : nk ≤ 60 := by rw [← HC3.out.kl]; omega
   have hr60 : nr ≤ 60 := by rw [← HC3.out.rl]; omega
   have hp60 : np ≤ 60 := by rw [← HC3.out.pl]; omega
   clear hg g1 g2 g3 g4 g5 g6 g8
   go_wp2_with fail
   have HV1 := hid (fun d os => (vcheck_any N A n c cl cn Ar nr cr R Ap np cp P Ak nk ck K Av nv cv V As ns cs S Aw nw cw X _ (HT3.out.below (below_regrown w3 d os)) (HIn3.out.below (below_regrown w3 d os)) HNl.out (by omega) (HCm.out.below (below_regrown w3 d os)) (fun I hI ni hni => by have := HI6.out I hI; omega)).mono fun e w' hP => hP.get)
   have HV2 := hid (fun d os => (check29_any N A n c cl cn Ar nr cr R Ap np cp P Ak nk ck K Av nv cv V As ns cs S Aw nw cw X _ (HIn3.out.below (below_regrown w3 d os)) HNl.out (by omega) (HCm.out.below (below_regrown w3 d os)) (by omega) (by omega) (by omega) (fun I hI ni hni => by have := HI6.out I hI; omega)).mono fun e w' hP => hP.get)
   have a0 := fun d os => cell_regrown b0 d os
   have a1 := fun d os => cell_regrown b1 d os
   have a2 := fun d os => cell_regrown b2 d os
   have a3 := fun d os => cell_regrown b3 d os
   have e0 := fun d os => cell_regrown d0 d os
   have e1 := fun d os => cell_regrown d1 d os
   have e2 := fun d os => cell_regrown d2 d os
   have e3 := fun d os => cell_regrown d3 d os
   have e4 := fun d os => cell_regrown d4 d os
   have e5 := fun d os => cell_regrown d5 d os
   have e6 := fun d os => cell_regrown d6 d os
   have e7 := fun d os => cell_regrown d7 d os
   generalize @decide (ChkP N cl cn R P K V S X) (Classical.propDecidable _) = r at *
   refine wp_region_quiet_below (by kernel_rfl) (by kernel_rfl) ?_
   repeat (quiet_step (first | exact Calls.regrown_of (HV1.out _ _) | exact Calls.regrown_of (HV2.out _ _)))
   refine wpQuiet_nil ?_
   intro _ hw'
   obtain ⟨⟨dq, osq⟩, hw''⟩ := hw'
   subst hw''
   have HB4 := hid (below_then HB3.out (below_regrown w3 dq osq))
   clear a0 a1 a2 a3 e0 e1 e2 e3 e4 e5 e6 e7
   go_wp2_with fail
   go_ret
   exact ⟨ret_bool (by cases r <;> rfl), HB4.out⟩
end
section
open Go.ChangeShapes Go.WideShapes Go.ChangeAt Go.WideMaps Go.WideElems Go.RowKit Go.Deep

theorem c_ll : Tryz.prog.cellsOf 26 = 1 := by kernel_rfl
theorem c_mv : Tryz.prog.cellsOf 47 = 3 := by kernel_rfl
theorem c_mvs : Tryz.prog.cellsOf 27 = 1 := by kernel_rfl
theorem c_cert : Tryz.prog.cellsOf 29 = 8 := by kernel_rfl
instance : Inhabited Mv := ⟨⟨0, 0, 0⟩⟩
section
variable {H : Type} {enc : TypeId × Value → H} {W : World}
/-- a slice of lists of numbers that came in, as a cell -/
theorem open_ll {fuel : Nat} {c : Value} {d : DataW H} {p : List MemPlace}
 (hf : DataW.trod enc Tryz.prog W 0 (fun _ => true) true fuel 26 [c] = some (d, p)) :
 ∃ (A : Option Addr) (n cap : Nat) (L : List (List Int)), c = .slice A n cap ∧ LIn W A L ∧ L.length = n := by
 rcases open_slice Tryz.underlying26 hf with ⟨hcs, _⟩ | ⟨a, len, cap, m, n, D, Pl, hcs, hb, hl, hm, hmm, hx, hi⟩
 · simp at hcs
   subst hcs
   exact ⟨none, 0, 0, [], rfl, fun i hi => by simp at hi, rfl⟩
 · simp at hcs
   subst hcs
   rw [c_ints] at hi
   simp only [if_true] at hmm
   subst hmm
   have key : ∀ i, i < len → ∃ z : List Int, True ∧ (a.add i).block < W.heap.size ∧ ∃ u, W.cell? (a.add i) = some u ∧ SlIn W u z := by
    intro i hil
    obtain ⟨cs', hc, ht⟩ := hi i (by omega)
    obtain ⟨_, hcl, hat⟩ := World.cells?_some hc
    match cs', hcl with
    | [c0], _ =>
     obtain ⟨A, n, cap, Z, rfl, hz, h1, h2, h3, _⟩ := open_zl ht
     have a0 := hat 0 (by omega)
     rw [Nat.mul_one] at a0
     generalize a.add i = q at *
     have a1 : W.cell? q = some (.slice A n cap) := by simpa [Addr.add] using a0
     exact ⟨Z, trivial, block_lt_of_cell a1, _, a1, A, n, cap, rfl, hz, h1, h2, h3⟩
   obtain ⟨f, hf'⟩ := choose_lt key
   refine ⟨some a, len, m, (List.range len).map f, rfl, ?_, by simp⟩
   intro i hil
   have hil' : i < len := by simpa using hil
   obtain ⟨_, h2, u, h3, h4⟩ := hf' i hil'
   exact ⟨a, rfl, h2, u, h3, by simpa using h4⟩
/-- the three cells of a move -/
theorem mv_cells {n : Nat} {c0 c1 c2 : Value} {x : DataW H × List MemPlace} (h : DataW.trod enc Tryz.prog W 0 (fun _ => true) true n 47 [c0, c1, c2] = some x) :
 ∃ t : Mv, c0 = .int .i64 t.f ∧ c1 = .int .i64 t.t ∧ c2 = .int .i64 t.s := by
 obtain ⟨xs, n, _, hx, _, hlen, hg⟩ := DataW.trod_struct Tryz.underlying47 h
 match xs, hlen with
 | [y0, y1, y2], _ =>
  have g0 := hg 0 _ rfl
  have g1 := hg 1 _ rfl
  have g2 := hg 2 _ rfl
  simp [c_int] at g0 g1 g2
  obtain ⟨a, e0, _, _⟩ := DataW.trod_int Tryz.underlying3 g0
  obtain ⟨b, e1, _, _⟩ := DataW.trod_int Tryz.underlying3 g1
  obtain ⟨c, e2, _, _⟩ := DataW.trod_int Tryz.underlying3 g2
  simp at e0 e1 e2
  exact ⟨⟨a, b, c⟩, e0, e1, e2⟩
/-- a slice of moves that came in, as a cell -/
theorem open_mvs {fuel : Nat} {c : Value} {d : DataW H} {p : List MemPlace}
 (hf : DataW.trod enc Tryz.prog W 0 (fun _ => true) true fuel 27 [c] = some (d, p)) :
 ∃ (A : Option Addr) (n cap : Nat) (L : List Mv), c = .slice A n cap ∧ Rd mvC 3 W A L ∧ L.length = n := by
 rcases open_slice Tryz.underlying27 hf with ⟨hcs, _⟩ | ⟨a, len, cap, m, n, D, Pl, hcs, hb, hl, hm, hmm, hx, hi⟩
 · simp at hcs
   subst hcs
   exact ⟨none, 0, 0, [], rfl, fun i hi => by simp at hi, rfl⟩
 · simp at hcs
   subst hcs
   rw [c_mv] at hi
   simp only [if_true] at hmm
   subst hmm
   have key : ∀ i, i < len → ∃ t : Mv, True ∧ (a.add (i * 3)).block < W.heap.size ∧ ∀ j u, j < 3 → (mvC t)[j]? = some u → W.cell? (a.add (i * 3 + j)) = some u := by
    intro i hil
    obtain ⟨cs', hc, ht⟩ := hi i (by omega)
    obtain ⟨_, hcl, hat⟩ := World.cells?_some hc
    match cs', hcl with
    | [c0, c1, c2], _ =>
     obtain ⟨t, rfl, rfl, rfl⟩ := mv_cells ht
     have a0 := hat 0 (by omega)
     have a1 := hat 1 (by omega)
     have a2 := hat 2 (by omega)
     generalize hq : a.add (i * 3) = q at *
     refine ⟨t, trivial, block_lt_of_cell (by simpa [Addr.add] using a0), fun j u hj hu => ?_⟩
     rw [← Addr.add_add, hq]
     match j, hj with
     | 0, _ => cases hu; simpa [Addr.add] using a0
     | 1, _ => cases hu; simpa [Addr.add] using a1
     | 2, _ => cases hu; simpa [Addr.add] using a2
   obtain ⟨f, hf'⟩ := choose_lt key
   refine ⟨some a, len, m, (List.range len).map f, rfl, ?_, by simp⟩
   intro i hil
   have hil' : i < len := by simpa using hil
   obtain ⟨_, h2, h3⟩ := hf' i hil'
   exact ⟨a, rfl, h2, by simpa using h3⟩
end
theorem open_eight {P : Program} {w : World} {r : Go.Reach} {b0 : Nat} {t : TypeId} {fs : Array Field} {v : Value} (hs : P.underlying t = some (.struct fs)) (hC : P.cellsOf t = 8) (hv : Value.okWide P w r b0 t v) : ∃ c0 c1 c2 c3 c4 c5 c6 c7, v = .agg #[c0, c1, c2, c3, c4, c5, c6, c7] := by
 obtain ⟨cs, rfl, hsz⟩ := okWide_struct hs hv
 obtain ⟨q⟩ := cs
 match q, hsz.trans hC with
 | [c0, c1, c2, c3, c4, c5, c6, c7], _ => exact ⟨c0, c1, c2, c3, c4, c5, c6, c7, rfl⟩
set_option maxRecDepth 100000 in
theorem open_certl {H : Type} {enc : TypeId × Value → H} {W : World} {base : Nat} {v : Value} {d : DataW H} {p : List MemPlace}
 (hv : Value.okWide Tryz.prog W .any base 29 v) (h : DataW.Trod enc Tryz.prog W 0 (fun _ => true) true 29 v d p) :
 ∃ (cl cn : Int) (Ar : Option Addr) (nr cr : Nat) (R : List Int) (Ap : Option Addr) (np cp : Nat) (P : List Int) (Ak : Option Addr) (nk ck : Nat) (K : List (List Int)) (Av : Option Addr) (nv cv : Nat) (V : List Mv) (As : Option Addr) (ns cs : Nat) (S : List (List Int)) (Aw : Option Addr) (nw cw : Nat) (X : List (List Int)), v = .agg #[.int .i64 cl, .int .i64 cn, .slice Ar nr cr, .slice Ap np cp, .slice Ak nk ck, .slice Av nv cv, .slice As ns cs, .slice Aw nw cw] ∧ CfL W Ar nr R Ap np P Ak nk K Av nv V As ns S Aw nw X := by
 obtain ⟨c0, c1, c2, c3, c4, c5, c6, c7, rfl⟩ := open_eight Tryz.underlying29 c_cert hv
 obtain ⟨fuel, hf⟩ := h
 obtain ⟨xs, n, _, hx, _, hlen, hg⟩ := DataW.trod_struct Tryz.underlying29 hf
 match xs, hlen with
 | [y0, y1, y2, y3, y4, y5, y6, y7], _ =>
  have g0 := hg 0 _ rfl
  have g1 := hg 1 _ rfl
  have g2 := hg 2 _ rfl
  have g3 := hg 3 _ rfl
  have g4 := hg 4 _ rfl
  have g5 := hg 5 _ rfl
  have g6 := hg 6 _ rfl
  have g7 := hg 7 _ rfl
  simp [c_int, c_ints, c_ll, c_mvs, Value.cells] at g0 g1 g2 g3 g4 g5 g6 g7
  obtain ⟨a, e0, _, _⟩ := DataW.trod_int Tryz.underlying3 g0
  obtain ⟨b, e1, _, _⟩ := DataW.trod_int Tryz.underlying3 g1
  obtain ⟨Ar, nr, cr, Zr, e2, r1, r2, _⟩ := open_zl g2
  obtain ⟨Ap, np, cp, Zp, e3, p1, p2, _⟩ := open_zl g3
  obtain ⟨Ak, nk, ck, K, e4, k1, k2⟩ := open_ll g4
  obtain ⟨Av, nv, cv, V, e5, v1, v2⟩ := open_mvs g5
  obtain ⟨As, ns, cs, S, e6, s1, s2⟩ := open_ll g6
  obtain ⟨Aw, nw, cw, X, e7, x1, x2⟩ := open_ll g7
  simp at e0 e1
  subst e0 e1 e2 e3 e4 e5 e6 e7
  exact ⟨a, b, Ar, nr, cr, Zr, Ap, np, cp, Zp, Ak, nk, ck, K, Av, nv, cv, V, As, ns, cs, S, Aw, nw, cw, X, rfl, r1, r2, p1, p2, k1, k2, v1, v2, s1, s2, x1, x2⟩
end
section
open Go.ChangeShapes Go.WideShapes Go.ChangeAt Go.WideMaps Go.WideElems Go.RowKit Go.Joins

/-- the variables that the row lists -/
def laid_VerdictChecks : List (String × DataW Unit) := [("math/bits.deBruijn32tab", Rows.laid_math_bits_deBruijn32tab), ("math/bits.deBruijn64tab", Rows.laid_math_bits_deBruijn64tab), ("internal/strconv.uint64pow10", Rows.laid_internal_strconv_uint64pow10)]
set_option maxRecDepth 100000 in
theorem verdictChecks_lifted (os : Os) (started : os.Started) (H : Type) (enc : TypeId × Value → H) :
 ReturnsInHanded {} Tryz.checked os 3 .any (fun w args => (Rows.verdictChecksSpec.pre enc Tryz.prog Tryz.f3 [] false w args ∧ laidMetH Tryz.prog laid_VerdictChecks w) ∧ sizedMet enc Tryz.prog Tryz.f3 (OpenSpec.ofChange Rows.verdictChecksSpec) false w args)
  (Rows.verdictChecksSpec.post enc Tryz.prog Tryz.f3 false true false false) := by
 refine handed_of_change_both (C := Tryz.checked) (X := (fun w _ => laidMetH Tryz.prog laid_VerdictChecks w)) (fun _ _ _ hh h => h.of_heap hh) own_knob started (by kernel_rfl) Tryz.func3
  (ChangeSpec.witness_shaped (enc := enc) (C := Tryz.checked) (os := os) (X := (fun w _ => laidMetH Tryz.prog laid_VerdictChecks w)) false (World.laidAll Tryz.prog os laid_VerdictChecks) #[.agg #[.int .i64 0, .slice none 0 0, .int .i64 0, .int .i64 0], .agg #[.int .i64 0, .int .i64 0, .slice none 0 0, .slice none 0 0, .slice none 0 0, .slice none 0 0, .slice none 0 0, .slice none 0 0]] 8 (World.laidAll_os _ _ _)
   (World.shaped_of_ZipB (by kernel_rfl) (by kernel_rfl)) (by kernel_rfl) (by kernel_rfl) (by kernel_rfl)
   (by rw [MakeChecks.laidMetH_plain _ _ _ (by kernel_rfl)]; exact laidMet_laidAll _ (by kernel_rfl) (by kernel_rfl))) ?_
 intro W base args ds gs before hval0 hW _ hwt hL hSO _
 have hval : ∀ (j : Nat) t v, Tryz.f3.params[j]? = some t → args[j]? = some v → Value.okWide Tryz.prog W .any base t v := hval0
 have hW' := hW
 obtain ⟨p, q, hA0, hV, rfl, hfz, hnd⟩ := hW
 have hA : DataW.TrodAll enc Tryz.prog W 0 (fun _ => true) true Tryz.f3.params.toList args.toList ds p := hA0
 rw [Tryz.params3] at hA hval
 obtain ⟨v0, v1, d0, d1, p0, p1, rfl, rfl, rfl, h0, h1⟩ := trodAll_two hA
 obtain ⟨rfl, rfl⟩ := trodVars_none hV
 have k0 := h0
 have lt0 : ∀ x ∈ p0, x.block < W.heap.size := by obtain ⟨m, hm⟩ := k0; exact DataW.trod_lt m _ _ _ hm
 have k1 := h1
 have lt1 : ∀ x ∈ p1, x.block < W.heap.size := by obtain ⟨m, hm⟩ := k1; exact DataW.trod_lt m _ _ _ hm
 obtain ⟨N0, A0, n0, cap0, rfl, t0, l0, m0⟩ := open_net (hval 0 24 v0 rfl rfl) h0
 obtain ⟨cl1, cn1, Ar1, nr1, cr1, R1, Ap1, np1, cp1, P1, Ak1, nk1, ck1, K1, Av1, nv1, cv1, V1, As1, ns1, cs1, S1, Aw1, nw1, cw1, X1, rfl, t1⟩ := open_certl (hval 1 29 v1 rfl rfl) h1
 clear hA0 hval0
 refine (verdictChecks_walk N0 A0 n0 cap0 cl1 cn1 Ar1 nr1 cr1 R1 Ap1 np1 cp1 P1 Ak1 nk1 ck1 K1 Av1 nv1 cv1 V1 As1 ns1 cs1 S1 Aw1 nw1 cw1 X1 W (tb_in (reads_in hL (by kernel_rfl) (n := "internal/strconv.uint64pow10") (d := Rows.laid_internal_strconv_uint64pow10) (by unfold laid_VerdictChecks; simp only [List.mem_cons, true_or, or_true]))) t0 l0 m0 t1).mono fun e W' ⟨he, bel⟩ => ?_
 subst he
 exact ⟨_, rfl, _, _, _, [], _, [], hW', trodAll_mk1 (shut_bool Tryz.underlying4 _), trodAll_mk2 (Below.trod laid_out (by kernel_rfl) (of_decide_eq_true (by kernel_rfl)) k0 bel lt0) (Below.trod laid_out (by kernel_rfl) (of_decide_eq_true (by kernel_rfl)) k1 bel lt1), rfl, bel.frame _, fun h => by cases h⟩

theorem verdictChecks_holds : Rows.VerdictChecksSaid :=
 OpenClaim.holds_of_wide 3 Tryz.f3 rfl rfl rfl rfl rfl rfl rfl ⟨rfl, rfl, rfl, rfl, rfl⟩ rfl rfl rfl rfl rfl (by kernel_rfl) Tryz.func3 (by kernel_rfl)
  (of_decide_eq_true (by kernel_rfl)) (by unfold Func.isWrapper; first | (rw [if_pos (by decide +kernel)]; kernel_rfl) | (rw [if_neg (by decide +kernel)]; exact ⟨rfl, rfl⟩))
  (fun os started H enc _ => verdictChecks_lifted os started H enc)

theorem verdictChecks_card : Rows.VerdictChecksCardSaid :=
 Claim7.holds_tied_plain_at .later [] [.data, .data, .data] true Rows.verdictChecksCard.stood.harness false
  verdictChecks_holds (fun _ h => by cases h) (by kernel_rfl) (fun _ h => by cases h) verdictChecks_row_tie rfl ⟨rfl, rfl⟩ (by kernel_rfl) rfl
  (fun f fn hf hfn => by
   obtain rfl : f = 3 := Option.some.inj ((show Tryz.prog.funcNamed "casebook/casebooklaw29.VerdictChecks" = some 3 by kernel_rfl).symm.trans hf) |>.symm
   obtain rfl : fn = Tryz.f3 := (Option.some.inj (Tryz.func3.symm.trans hfn)).symm
   exact ⟨by kernel_rfl, fun j t ht => by
    rw [Tryz.params3] at ht
    have hm : t ∈ [24, 29] := by simpa using Array.mem_of_getElem? ht
    have hall : ([24, 29].all fun u => !Tryz.prog.wantsStandIn u) = true := by kernel_rfl
    exact (show Tryz.prog.wantsStandIn t = false by simpa using List.all_eq_true.1 hall t hm)⟩)
  (by kernel_rfl)
#print axioms verdictChecks_card
end
end Go.Proofs.YtpnhcimmlnjfaaaGreatDoor
