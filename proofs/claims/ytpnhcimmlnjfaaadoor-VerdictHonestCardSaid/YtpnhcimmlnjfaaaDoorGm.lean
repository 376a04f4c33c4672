/- A whole certificate that came in, as it is read. VerdictTrue: for every input the law returns true, and each argument reads afterwards as before. Condition: the row's own (the listed variables of the library read as listed, which the card ties to the program's text). -/
import Derived.Test.YtpnhcimmlnjfaaaDoorIa
import Derived.Test.YtpnhcimmlnjfaaaDoorYm
import Derived.Test.YtpnhcimmlnjfaaaDoorGl
namespace Go.Proofs.YtpnhcimmlnjfaaaDoor
section
open Go.ChangeShapes Go.WideShapes Go.ChangeAt Go.WideMaps Go.WideElems Go.RowKit Go.Deep

theorem c_ll : Tryd.prog.cellsOf 26 = 1 := by kernel_rfl
theorem c_mv : Tryd.prog.cellsOf 50 = 3 := by kernel_rfl
theorem c_mvs : Tryd.prog.cellsOf 27 = 1 := by kernel_rfl
theorem c_cert : Tryd.prog.cellsOf 29 = 8 := by kernel_rfl
instance : Inhabited Mv := ⟨⟨0, 0, 0⟩⟩
section
variable {H : Type} {enc : TypeId × Value → H} {W : World}
/-- a slice of lists of numbers that came in, as a cell -/
theorem open_ll {fuel : Nat} {c : Value} {d : DataW H} {p : List MemPlace}
 (hf : DataW.trod enc Tryd.prog W 0 (fun _ => true) true fuel 26 [c] = some (d, p)) :
 ∃ (A : Option Addr) (n cap : Nat) (L : List (List Int)), c = .slice A n cap ∧ LIn W A L ∧ L.length = n := by
 rcases open_slice Tryd.underlying26 hf with ⟨hcs, _⟩ | ⟨a, len, cap, m, n, D, Pl, hcs, hb, hl, hm, hmm, hx, hi⟩
 · simp at hcs
   subst hcs
   exact ⟨none, 0, 0, [], rfl, fun i hi => by simp at hi, rfl⟩
 · simp at hcs
   subst hcs
   rw [c_ints] at hi
   simp only [if_true] at hmm
   subst hmm
   have key : ∀ i, i < len → ∃ z : List Int, True ∧ (a.add i).block < W.heap.size ∧ ∃ u, W.cell? (a.add i) = some u ∧ SlIn W u z := by
    intro i hil
    obtain ⟨cs', hc, ht⟩ := hi i (by omega)
    obtain ⟨_, hcl, hat⟩ := World.cells?_some hc
    match cs', hcl with
    | [c0], _ =>
     obtain ⟨A, n, cap, Z, rfl, hz, h1, h2, h3, _⟩ := open_zl ht
     have a0 := hat 0 (by omega)
     rw [Nat.mul_one] at a0
     generalize a.add i = q at *
     have a1 : W.cell? q = some (.slice A n cap) := by simpa [Addr.add] using a0
     exact ⟨Z, trivial, block_lt_of_cell a1, _, a1, A, n, cap, rfl, hz, h1, h2, h3⟩
   obtain ⟨f, hf'⟩ := choose_lt key
   refine ⟨some a, len, m, (List.range len).map f, rfl, ?_, by simp⟩
   intro i hil
   have hil' : i < len := by simpa using hil
   obtain ⟨_, h2, u, h3, h4⟩ := hf' i hil'
   exact ⟨a, rfl, h2, u, h3, by simpa using h4⟩
/-- the three cells of a move -/
theorem mv_cells {n : Nat} {c0 c1 c2 : Value} {x : DataW H × List MemPlace} (h : DataW.trod enc Tryd.prog W 0 (fun _ => true) true n 50 [c0, c1, c2] = some x) :
 ∃ t : Mv, c0 = .int .i64 t.f ∧ c1 = .int .i64 t.t ∧ c2 = .int .i64 t.s := by
 obtain ⟨xs, n, _, hx, _, hlen, hg⟩ := DataW.trod_struct Tryd.underlying50 h
 match xs, hlen with
 | [y0, y1, y2], _ =>
  have g0 := hg 0 _ rfl
  have g1 := hg 1 _ rfl
  have g2 := hg 2 _ rfl
  simp [c_int] at g0 g1 g2
  obtain ⟨a, e0, _, _⟩ := DataW.trod_int Tryd.underlying3 g0
  obtain ⟨b, e1, _, _⟩ := DataW.trod_int Tryd.underlying3 g1
  obtain ⟨c, e2, _, _⟩ := DataW.trod_int Tryd.underlying3 g2
  simp at e0 e1 e2
  exact ⟨⟨a, b, c⟩, e0, e1, e2⟩
/-- a slice of moves that came in, as a cell -/
theorem open_mvs {fuel : Nat} {c : Value} {d : DataW H} {p : List MemPlace}
 (hf : DataW.trod enc Tryd.prog W 0 (fun _ => true) true fuel 27 [c] = some (d, p)) :
 ∃ (A : Option Addr) (n cap : Nat) (L : List Mv), c = .slice A n cap ∧ Rd mvC 3 W A L ∧ L.length = n := by
 rcases open_slice Tryd.underlying27 hf with ⟨hcs, _⟩ | ⟨a, len, cap, m, n, D, Pl, hcs, hb, hl, hm, hmm, hx, hi⟩
 · simp at hcs
   subst hcs
   exact ⟨none, 0, 0, [], rfl, fun i hi => by simp at hi, rfl⟩
 · simp at hcs
   subst hcs
   rw [c_mv] at hi
   simp only [if_true] at hmm
   subst hmm
   have key : ∀ i, i < len → ∃ t : Mv, True ∧ (a.add (i * 3)).block < W.heap.size ∧ ∀ j u, j < 3 → (mvC t)[j]? = some u → W.cell? (a.add (i * 3 + j)) = some u := by
    intro i hil
    obtain ⟨cs', hc, ht⟩ := hi i (by omega)
    obtain ⟨_, hcl, hat⟩ := World.cells?_some hc
    match cs', hcl with
    | [c0, c1, c2], _ =>
     obtain ⟨t, rfl, rfl, rfl⟩ := mv_cells ht
     have a0 := hat 0 (by omega)
     have a1 := hat 1 (by omega)
     have a2 := hat 2 (by omega)
     generalize hq : a.add (i * 3) = q at *
     refine ⟨t, trivial, block_lt_of_cell (by simpa [Addr.add] using a0), fun j u hj hu => ?_⟩
     rw [← Addr.add_add, hq]
     match j, hj with
     | 0, _ => cases hu; simpa [Addr.add] using a0
     | 1, _ => cases hu; simpa [Addr.add] using a1
     | 2, _ => cases hu; simpa [Addr.add] using a2
   obtain ⟨f, hf'⟩ := choose_lt key
   refine ⟨some a, len, m, (List.range len).map f, rfl, ?_, by simp⟩
   intro i hil
   have hil' : i < len := by simpa using hil
   obtain ⟨_, h2, h3⟩ := hf' i hil'
   exact ⟨a, rfl, h2, by simpa using h3⟩
end
theorem open_eight {P : Program} {w : World} {r : Go.Reach} {b0 : Nat} {t : TypeId} {fs : Array Field} {v : Value} (hs : P.underlying t = some (.struct fs)) (hC : P.cellsOf t = 8) (hv : Value.okWide P w r b0 t v) : ∃ c0 c1 c2 c3 c4 c5 c6 c7, v = .agg #[c0, c1, c2, c3, c4, c5, c6, c7] := by
 obtain ⟨cs, rfl, hsz⟩ := okWide_struct hs hv
 obtain ⟨q⟩ := cs
 match q, hsz.trans hC with
 | [c0, c1, c2, c3, c4, c5, c6, c7], _ => exact ⟨c0, c1, c2, c3, c4, c5, c6, c7, rfl⟩
set_option maxRecDepth 100000 in
theorem open_certl {H : Type} {enc : TypeId × Value → H} {W : World} {base : Nat} {v : Value} {d : DataW H} {p : List MemPlace}
 (hv : Value.okWide Tryd.prog W .any base 29 v) (h : DataW.Trod enc Tryd.prog W 0 (fun _ => true) true 29 v d p) :
 ∃ (cl cn : Int) (Ar : Option Addr) (nr cr : Nat) (R : List Int) (Ap : Option Addr) (np cp : Nat) (P : List Int) (Ak : Option Addr) (nk ck : Nat) (K : List (List Int)) (Av : Option Addr) (nv cv : Nat) (V : List Mv) (As : Option Addr) (ns cs : Nat) (S : List (List Int)) (Aw : Option Addr) (nw cw : Nat) (X : List (List Int)), v = .agg #[.int .i64 cl, .int .i64 cn, .slice Ar nr cr, .slice Ap np cp, .slice Ak nk ck, .slice Av nv cv, .slice As ns cs, .slice Aw nw cw] ∧ CfL W Ar nr R Ap np P Ak nk K Av nv V As ns S Aw nw X := by
 obtain ⟨c0, c1, c2, c3, c4, c5, c6, c7, rfl⟩ := open_eight Tryd.underlying29 c_cert hv
 obtain ⟨fuel, hf⟩ := h
 obtain ⟨xs, n, _, hx, _, hlen, hg⟩ := DataW.trod_struct Tryd.underlying29 hf
 match xs, hlen with
 | [y0, y1, y2, y3, y4, y5, y6, y7], _ =>
  have g0 := hg 0 _ rfl
  have g1 := hg 1 _ rfl
  have g2 := hg 2 _ rfl
  have g3 := hg 3 _ rfl
  have g4 := hg 4 _ rfl
  have g5 := hg 5 _ rfl
  have g6 := hg 6 _ rfl
  have g7 := hg 7 _ rfl
  simp [c_int, c_ints, c_ll, c_mvs, Value.cells] at g0 g1 g2 g3 g4 g5 g6 g7
  obtain ⟨a, e0, _, _⟩ := DataW.trod_int Tryd.underlying3 g0
  obtain ⟨b, e1, _, _⟩ := DataW.trod_int Tryd.underlying3 g1
  obtain ⟨Ar, nr, cr, Zr, e2, r1, r2, _⟩ := open_zl g2
  obtain ⟨Ap, np, cp, Zp, e3, p1, p2, _⟩ := open_zl g3
  obtain ⟨Ak, nk, ck, K, e4, k1, k2⟩ := open_ll g4
  obtain ⟨Av, nv, cv, V, e5, v1, v2⟩ := open_mvs g5
  obtain ⟨As, ns, cs, S, e6, s1, s2⟩ := open_ll g6
  obtain ⟨Aw, nw, cw, X, e7, x1, x2⟩ := open_ll g7
  simp at e0 e1
  subst e0 e1 e2 e3 e4 e5 e6 e7
  exact ⟨a, b, Ar, nr, cr, Zr, Ap, np, cp, Zp, Ak, nk, ck, K, Av, nv, cv, V, As, ns, cs, S, Aw, nw, cw, X, rfl, r1, r2, p1, p2, k1, k2, v1, v2, s1, s2, x1, x2⟩
end
section
open Go.ChangeShapes Go.WideShapes Go.ChangeAt Go.WideMaps Go.WideElems Go.RowKit Go.Joins

/-- the variables that the row lists -/
def laid_VerdictTrue : List (String × DataW Unit) := [("math/bits.deBruijn32tab", Rows.laid_math_bits_deBruijn32tab), ("math/bits.deBruijn64tab", Rows.laid_math_bits_deBruijn64tab), ("internal/strconv.uint64pow10", Rows.laid_internal_strconv_uint64pow10)]
set_option maxRecDepth 100000 in
theorem verdictTrue_lifted (os : Os) (started : os.Started) (H : Type) (enc : TypeId × Value → H) :
 ReturnsInHanded {} Tryd.checked os 3 .any (fun w args => (Rows.verdictTrueSpec.pre enc Tryd.prog Tryd.f3 [] false w args ∧ laidMetH Tryd.prog laid_VerdictTrue w) ∧ sizedMet enc Tryd.prog Tryd.f3 (OpenSpec.ofChange Rows.verdictTrueSpec) false w args)
  (Rows.verdictTrueSpec.post enc Tryd.prog Tryd.f3 false true false false) := by
 refine handed_of_change_both (C := Tryd.checked) (X := (fun w _ => laidMetH Tryd.prog laid_VerdictTrue w)) (fun _ _ _ hh h => h.of_heap hh) own_knob started (by kernel_rfl) Tryd.func3
  (ChangeSpec.witness_shaped (enc := enc) (C := Tryd.checked) (os := os) (X := (fun w _ => laidMetH Tryd.prog laid_VerdictTrue w)) false (World.laidAll Tryd.prog os laid_VerdictTrue) #[.agg #[.int .i64 0, .slice none 0 0, .int .i64 0, .int .i64 0], .agg #[.int .i64 0, .int .i64 0, .slice none 0 0, .slice none 0 0, .slice none 0 0, .slice none 0 0, .slice none 0 0, .slice none 0 0], .slice none 0 0] 8 (World.laidAll_os _ _ _)
   (World.shaped_of_ZipB (by kernel_rfl) (by kernel_rfl)) (by kernel_rfl) (by kernel_rfl) (by kernel_rfl)
   (by rw [MakeChecks.laidMetH_plain _ _ _ (by kernel_rfl)]; exact laidMet_laidAll _ (by kernel_rfl) (by kernel_rfl))) ?_
 intro W base args ds gs before hval0 hW _ hwt hL hSO _
 have hval : ∀ (j : Nat) t v, Tryd.f3.params[j]? = some t → args[j]? = some v → Value.okWide Tryd.prog W .any base t v := hval0
 have hW' := hW
 obtain ⟨p, q, hA0, hV, rfl, hfz, hnd⟩ := hW
 have hA : DataW.TrodAll enc Tryd.prog W 0 (fun _ => true) true Tryd.f3.params.toList args.toList ds p := hA0
 rw [Tryd.params3] at hA hval
 obtain ⟨v0, v1, v2, d0, d1, d2, p0, p1, p2, rfl, rfl, rfl, h0, h1, h2⟩ := trodAll_three hA
 obtain ⟨rfl, rfl⟩ := trodVars_none hV
 have k0 := h0
 have lt0 : ∀ x ∈ p0, x.block < W.heap.size := by obtain ⟨m, hm⟩ := k0; exact DataW.trod_lt m _ _ _ hm
 have k1 := h1
 have lt1 : ∀ x ∈ p1, x.block < W.heap.size := by obtain ⟨m, hm⟩ := k1; exact DataW.trod_lt m _ _ _ hm
 have k2 := h2
 have lt2 : ∀ x ∈ p2, x.block < W.heap.size := by obtain ⟨m, hm⟩ := k2; exact DataW.trod_lt m _ _ _ hm
 obtain ⟨N0, A0, n0, cap0, rfl, t0, l0, m0⟩ := open_net (hval 0 24 v0 rfl rfl) h0
 obtain ⟨cl1, cn1, Ar1, nr1, cr1, R1, Ap1, np1, cp1, P1, Ak1, nk1, ck1, K1, Av1, nv1, cv1, V1, As1, ns1, cs1, S1, Aw1, nw1, cw1, X1, rfl, t1⟩ := open_certl (hval 1 29 v1 rfl rfl) h1
 obtain ⟨A2, n2, cap2, Z2, rfl, t2, e2, c2, m2, z2⟩ := open_zs (hval 2 25 v2 rfl rfl) h2
 clear hA0 hval0
 refine (verdictTrue_walk N0 A0 n0 cap0 cl1 cn1 Ar1 nr1 cr1 R1 Ap1 np1 cp1 P1 Ak1 nk1 ck1 K1 Av1 nv1 cv1 V1 As1 ns1 cs1 S1 Aw1 nw1 cw1 X1 A2 n2 cap2 Z2 W (tb_in (reads_in hL (by kernel_rfl) (n := "internal/strconv.uint64pow10") (d := Rows.laid_internal_strconv_uint64pow10) (by unfold laid_VerdictTrue; simp only [List.mem_cons, true_or, or_true]))) t0 l0 m0 t1 t2 e2).mono fun e W' ⟨he, bel⟩ => ?_
 subst he
 exact ⟨_, rfl, _, _, _, [], _, [], hW', trodAll_mk1 (shut_bool Tryd.underlying4 _), trodAll_mk3 (Below.trod laid_out (by kernel_rfl) (of_decide_eq_true (by kernel_rfl)) k0 bel lt0) (Below.trod laid_out (by kernel_rfl) (of_decide_eq_true (by kernel_rfl)) k1 bel lt1) (Below.trod laid_out (by kernel_rfl) (of_decide_eq_true (by kernel_rfl)) k2 bel lt2), rfl, bel.frame _, fun h => by cases h⟩

theorem verdictTrue_holds : Rows.VerdictTrueSaid :=
 OpenClaim.holds_of_wide 3 Tryd.f3 rfl rfl rfl rfl rfl rfl rfl ⟨rfl, rfl, rfl, rfl, rfl⟩ rfl rfl rfl rfl rfl (by kernel_rfl) Tryd.func3 (by kernel_rfl)
  (of_decide_eq_true (by kernel_rfl)) (by unfold Func.isWrapper; first | (rw [if_pos (by decide +kernel)]; kernel_rfl) | (rw [if_neg (by decide +kernel)]; exact ⟨rfl, rfl⟩))
  (fun os started H enc _ => verdictTrue_lifted os started H enc)

theorem verdictTrue_card : Rows.VerdictTrueCardSaid :=
 Claim7.holds_tied_plain_at .later [] [.data, .data, .data] true Rows.verdictTrueCard.stood.harness false
  verdictTrue_holds (fun _ h => by cases h) (by kernel_rfl) (fun _ h => by cases h) verdictTrue_row_tie rfl ⟨rfl, rfl⟩ (by kernel_rfl) rfl
  (fun f fn hf hfn => by
   obtain rfl : f = 3 := Option.some.inj ((show Tryd.prog.funcNamed "casebook/casebooklaw29.VerdictTrue" = some 3 by kernel_rfl).symm.trans hf) |>.symm
   obtain rfl : fn = Tryd.f3 := (Option.some.inj (Tryd.func3.symm.trans hfn)).symm
   exact ⟨by kernel_rfl, fun j t ht => by
    rw [Tryd.params3] at ht
    have hm : t ∈ [24, 29, 25] := by simpa using Array.mem_of_getElem? ht
    have hall : ([24, 29, 25].all fun u => !Tryd.prog.wantsStandIn u) = true := by kernel_rfl
    exact (show Tryd.prog.wantsStandIn t = false by simpa using List.all_eq_true.1 hall t hm)⟩)
  (by kernel_rfl)
#print axioms verdictTrue_card
end
end Go.Proofs.YtpnhcimmlnjfaaaDoor
