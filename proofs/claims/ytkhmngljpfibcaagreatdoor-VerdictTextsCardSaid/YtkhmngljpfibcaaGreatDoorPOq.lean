/- A whole certificate that came in, as it is read, of machine numbers; the variables that VerdictTexts asks for. VerdictTexts: for every input the law returns true, and each argument reads afterwards as before. Condition: the row's own (the listed variables of the library read as listed, which the card ties to the program's text). -/
import Derived.Test.YtkhmngljpfibcaaGreatDoorPUu
import Derived.Test.YtkhmngljpfibcaaGreatDoorPIa
import Derived.Test.YtkhmngljpfibcaaGreatDoorPOn
namespace Go.Proofs.YtkhmngljpfibcaaGreatDoor
set_option maxRecDepth 100000
section
open Go.ChangeShapes Go.WideShapes Go.ChangeAt Go.WideMaps Go.WideElems Go.RowKit Go.Deep

theorem c_ll : Tryz.prog.cellsOf 28 = 1 := by kernel_rfl
theorem c_mv : Tryz.prog.cellsOf 113 = 3 := by kernel_rfl
theorem c_mvs : Tryz.prog.cellsOf 29 = 1 := by kernel_rfl
theorem c_cert : Tryz.prog.cellsOf 31 = 8 := by kernel_rfl
instance : Inhabited Mv := ⟨⟨0, 0, 0⟩⟩
section
variable {H : Type} {enc : TypeId × Value → H} {W : World}
theorem open_llz {fuel : Nat} {c : Value} {d : DataW H} {p : List MemPlace}
 (hf : DataW.trod enc Tryz.prog W 0 (fun _ => true) true fuel 28 [c] = some (d, p)) :
 ∃ (A : Option Addr) (n cap : Nat) (L : List (List Int)), c = .slice A n cap ∧ LIn W A L ∧ L.length = n ∧ ∀ l ∈ L, i64s l := by
 rcases open_slice Tryz.underlying28 hf with ⟨hcs, _⟩ | ⟨a, len, cap, m, n, D, Pl, hcs, hb, hl, hm, hmm, hx, hi⟩
 · simp at hcs;subst hcs;exact ⟨none, 0, 0, [], rfl, fun i hi => by simp at hi, rfl, fun l hl => by simp at hl⟩
 · simp at hcs;subst hcs;rw [c_ints] at hi;simp only [if_true] at hmm;subst hmm;have key : ∀ i, i < len → ∃ z : List Int, i64s z ∧ (a.add i).block < W.heap.size ∧ ∃ u, W.cell? (a.add i) = some u ∧ SlIn W u z := by
    intro i hil;obtain ⟨cs', hc, ht⟩ := hi i (by omega);obtain ⟨_, hcl, hat⟩ := World.cells?_some hc
    match cs', hcl with
    | [c0], _ =>
     obtain ⟨A, n, cap, Z, rfl, hz, h1, h2, h3, h4⟩ := open_zl ht;have a0 := hat 0 (by omega);rw [Nat.mul_one] at a0;generalize a.add i = q at *;have a1 : W.cell? q = some (.slice A n cap) := by simpa [Addr.add] using a0
     exact ⟨Z, h4, block_lt_of_cell a1, _, a1, A, n, cap, rfl, hz, h1, h2, h3⟩
   obtain ⟨f, hf'⟩ := choose_lt key;refine ⟨some a, len, m, (List.range len).map f, rfl, ?_, by simp, fun l hl => ?_⟩
   · intro i hil;have hil' : i < len := by simpa using hil
     obtain ⟨_, h2, u, h3, h4⟩ := hf' i hil';exact ⟨a, rfl, h2, u, h3, by simpa using h4⟩
   · obtain ⟨i, hi', rfl⟩ := List.mem_map.1 hl;exact (hf' i (List.mem_range.1 hi')).1
theorem mqz_cells {n : Nat} {c0 c1 c2 : Value} {x : DataW H × List MemPlace} (h : DataW.trod enc Tryz.prog W 0 (fun _ => true) true n 113 [c0, c1, c2] = some x) :
 ∃ t : Mv, mv64 t ∧ c0 = .int .i64 t.f ∧ c1 = .int .i64 t.t ∧ c2 = .int .i64 t.s := by
 obtain ⟨xs, n, _, hx, _, hlen, hg⟩ := DataW.trod_struct Tryz.underlying113 h
 match xs, hlen with
 | [y0, y1, y2], _ =>
  have g0 := hg 0 _ rfl;have g1 := hg 1 _ rfl;have g2 := hg 2 _ rfl;simp [c_int] at g0 g1 g2;obtain ⟨a, e0, _, k0⟩ := DataW.trod_int Tryz.underlying3 g0;obtain ⟨b, e1, _, k1⟩ := DataW.trod_int Tryz.underlying3 g1;obtain ⟨c, e2, _, k2⟩ := DataW.trod_int Tryz.underlying3 g2;simp at e0 e1 e2;exact ⟨⟨a, b, c⟩, fun z hz => by
   simp [mvL] at hz;rcases hz with rfl | rfl | rfl
   · exact bounds_i64 k0
   · exact bounds_i64 k1
   · exact bounds_i64 k2, e0, e1, e2⟩
theorem open_mvz {fuel : Nat} {c : Value} {d : DataW H} {p : List MemPlace}
 (hf : DataW.trod enc Tryz.prog W 0 (fun _ => true) true fuel 29 [c] = some (d, p)) :
 ∃ (A : Option Addr) (n cap : Nat) (L : List Mv), c = .slice A n cap ∧ Rd mvC 3 W A L ∧ L.length = n ∧ ∀ x ∈ L, mv64 x := by
 rcases open_slice Tryz.underlying29 hf with ⟨hcs, _⟩ | ⟨a, len, cap, m, n, D, Pl, hcs, hb, hl, hm, hmm, hx, hi⟩
 · simp at hcs;subst hcs;exact ⟨none, 0, 0, [], rfl, fun i hi => by simp at hi, rfl, fun l hl => by simp at hl⟩
 · simp at hcs;subst hcs;rw [c_mv] at hi;simp only [if_true] at hmm;subst hmm;have key : ∀ i, i < len → ∃ t : Mv, mv64 t ∧ (a.add (i * 3)).block < W.heap.size ∧ ∀ j u, j < 3 → (mvC t)[j]? = some u → W.cell? (a.add (i * 3 + j)) = some u := by
    intro i hil;obtain ⟨cs', hc, ht⟩ := hi i (by omega);obtain ⟨_, hcl, hat⟩ := World.cells?_some hc
    match cs', hcl with
    | [c0, c1, c2], _ =>
     obtain ⟨t, ht64, rfl, rfl, rfl⟩ := mqz_cells ht;have a0 := hat 0 (by omega);have a1 := hat 1 (by omega);have a2 := hat 2 (by omega);generalize hq : a.add (i * 3) = q at *;refine ⟨t, ht64, block_lt_of_cell (by simpa [Addr.add] using a0), fun j u hj hu => ?_⟩;rw [← Addr.add_add, hq]
     match j, hj with
     | 0, _ => cases hu; simpa [Addr.add] using a0
     | 1, _ => cases hu; simpa [Addr.add] using a1
     | 2, _ => cases hu; simpa [Addr.add] using a2
   obtain ⟨f, hf'⟩ := choose_lt key;refine ⟨some a, len, m, (List.range len).map f, rfl, ?_, by simp, fun l hl => ?_⟩
   · intro i hil;have hil' : i < len := by simpa using hil
     obtain ⟨_, h2, h3⟩ := hf' i hil';exact ⟨a, rfl, h2, by simpa using h3⟩
   · obtain ⟨i, hi', rfl⟩ := List.mem_map.1 hl;exact (hf' i (List.mem_range.1 hi')).1
end
theorem open_eight {P : Program} {w : World} {r : Go.Reach} {b0 : Nat} {t : TypeId} {fs : Array Field} {v : Value} (hs : P.underlying t = some (.struct fs)) (hC : P.cellsOf t = 8) (hv : Value.okWide P w r b0 t v) : ∃ c0 c1 c2 c3 c4 c5 c6 c7, v = .agg #[c0, c1, c2, c3, c4, c5, c6, c7] := by
 obtain ⟨cs, rfl, hsz⟩ := okWide_struct hs hv;obtain ⟨q⟩ := cs
 match q, hsz.trans hC with
 | [c0, c1, c2, c3, c4, c5, c6, c7], _ => exact ⟨c0, c1, c2, c3, c4, c5, c6, c7, rfl⟩
theorem open_certz {H : Type} {enc : TypeId × Value → H} {W : World} {base : Nat} {v : Value} {d : DataW H} {p : List MemPlace}
 (hv : Value.okWide Tryz.prog W .any base 31 v) (h : DataW.Trod enc Tryz.prog W 0 (fun _ => true) true 31 v d p) :
 ∃ (cl cn : Int) (Ar : Option Addr) (nr cr : Nat) (R : List Int) (Ap : Option Addr) (np cp : Nat) (P : List Int) (Ak : Option Addr) (nk ck : Nat) (K : List (List Int)) (Av : Option Addr) (nv cv : Nat) (V : List Mv) (As : Option Addr) (ns cs : Nat) (S : List (List Int)) (Aw : Option Addr) (nw cw : Nat) (X : List (List Int)), v = .agg #[.int .i64 cl, .int .i64 cn, .slice Ar nr cr, .slice Ap np cp, .slice Ak nk ck, .slice Av nv cv, .slice As ns cs, .slice Aw nw cw] ∧ CfL W Ar nr R Ap np P Ak nk K Av nv V As ns S Aw nw X ∧ CzI cn R P K V S X := by
 obtain ⟨c0, c1, c2, c3, c4, c5, c6, c7, rfl⟩ := open_eight Tryz.underlying31 c_cert hv;obtain ⟨fuel, hf⟩ := h;obtain ⟨xs, n, _, hx, _, hlen, hg⟩ := DataW.trod_struct Tryz.underlying31 hf
 match xs, hlen with
 | [y0, y1, y2, y3, y4, y5, y6, y7], _ =>
  have g0 := hg 0 _ rfl;have g1 := hg 1 _ rfl;have g2 := hg 2 _ rfl;have g3 := hg 3 _ rfl;have g4 := hg 4 _ rfl;have g5 := hg 5 _ rfl;have g6 := hg 6 _ rfl;have g7 := hg 7 _ rfl;simp [c_int, c_ints, c_ll, c_mvs, Value.cells] at g0 g1 g2 g3 g4 g5 g6 g7;obtain ⟨a, e0, _, _⟩ := DataW.trod_int Tryz.underlying3 g0;obtain ⟨b, e1, _, kb⟩ := DataW.trod_int Tryz.underlying3 g1;obtain ⟨Ar, nr, cr, Zr, e2, r1, r2, _, _, r3⟩ := open_zl g2;obtain ⟨Ap, np, cp, Zp, e3, p1, p2, _, _, p3⟩ := open_zl g3;obtain ⟨Ak, nk, ck, K, e4, k1, k2, k3⟩ := open_llz g4;obtain ⟨Av, nv, cv, V, e5, v1, v2, v3⟩ := open_mvz g5;obtain ⟨As, ns, cs, S, e6, s1, s2, s3⟩ := open_llz g6;obtain ⟨Aw, nw, cw, X, e7, x1, x2, x3⟩ := open_llz g7;simp at e0 e1;subst e0 e1 e2 e3 e4 e5 e6 e7;exact ⟨a, b, Ar, nr, cr, Zr, Ap, np, cp, Zp, Ak, nk, ck, K, Av, nv, cv, V, As, ns, cs, S, Aw, nw, cw, X, rfl, ⟨r1, r2, p1, p2, k1, k2, v1, v2, s1, s2, x1, x2⟩, ⟨bounds_i64 kb, r3, p3, k3, v3, s3, x3⟩⟩
theorem t_syn : (Tryz.prog.globals[1]?).map (·.type) = some 194 := by kernel_rfl
theorem t_ran : (Tryz.prog.globals[2]?).map (·.type) = some 194 := by kernel_rfl
theorem syn_in {W : World} (h : Lib.VarReads Tryz.prog W "strconv.ErrSyntax" Rows.laid_strconv_ErrSyntax) : ∃ tp p, W.var? Tryz.prog "strconv.ErrSyntax" = some #[.iface tp p] := by
 obtain ⟨g3, t3, cs3, f3, p3, hg3, ht3, hv3, hd3⟩ := h;obtain rfl := Option.some.inj (gSyn.symm.trans hg3);obtain rfl := Option.some.inj (t_syn.symm.trans ht3);obtain ⟨l⟩ := cs3;obtain ⟨_, u, v, e, _, _⟩ := iface_of_trod Tryz.underlying194 hd3;obtain rfl : l = [.iface u v] := e;exact ⟨u, v, hv3⟩
theorem ran_in {W : World} (h : Lib.VarReads Tryz.prog W "strconv.ErrRange" Rows.laid_strconv_ErrRange) : ∃ tp p, W.var? Tryz.prog "strconv.ErrRange" = some #[.iface tp p] := by
 obtain ⟨g3, t3, cs3, f3, p3, hg3, ht3, hv3, hd3⟩ := h;obtain rfl := Option.some.inj (gRan.symm.trans hg3);obtain rfl := Option.some.inj (t_ran.symm.trans ht3);obtain ⟨l⟩ := cs3;obtain ⟨_, u, v, e, _, _⟩ := iface_of_trod Tryz.underlying194 hd3;obtain rfl : l = [.iface u v] := e;exact ⟨u, v, hv3⟩
theorem mxl_in {W : World} (h : W.ShapedOpen Tryz.prog) : ∃ m, W.cell? ⟨0, 0, none⟩ = some (.int .i64 m) :=
 cell_of_shapedOpen_int (t := 3) (zero := #[.int .i64 0]) h (of_decide_eq_true (by kernel_rfl)) (by kernel_rfl) rfl (by kernel_rfl) (by kernel_rfl) Tryz.underlying3
theorem pw29_in {W : World} (h1 : Lib.VarReads Tryz.prog W "strconv.ErrRange" Rows.laid_strconv_ErrRange) (h2 : Lib.VarReads Tryz.prog W "internal/strconv.uint64pow10" Rows.laid_internal_strconv_uint64pow10) (h3 : Lib.VarReads Tryz.prog W "strconv.ErrSyntax" Rows.laid_strconv_ErrSyntax) (h : W.ShapedOpen Tryz.prog) : PW W :=
 ⟨tb_in h2, mxl_in h, syn_in h3, ran_in h1⟩
end
section
open Go.ChangeShapes Go.WideShapes Go.ChangeAt Go.WideMaps Go.WideElems Go.RowKit Go.Joins

def laid_VerdictTexts : List (String × DataW Unit) := [("math/bits.deBruijn32tab", Rows.laid_math_bits_deBruijn32tab), ("math/bits.deBruijn64tab", Rows.laid_math_bits_deBruijn64tab), ("internal/strconv.uint64pow10", Rows.laid_internal_strconv_uint64pow10), ("unicode/utf8.acceptRanges", Rows.laid_unicode_utf8_acceptRanges), ("strconv.ErrRange", Rows.laid_strconv_ErrRange), ("strconv.ErrSyntax", Rows.laid_strconv_ErrSyntax), ("unicode/utf8.first", Rows.laid_unicode_utf8_first)]
theorem verdictTexts_lifted (os : Os) (started : os.Started) (H : Type) (enc : TypeId × Value → H) :
 ReturnsInHanded {} Tryz.checked os 8 .any (fun w args => (Rows.verdictTextsSpec.pre enc Tryz.prog Tryz.f8 [] false w args ∧ laidMetH Tryz.prog laid_VerdictTexts w) ∧ sizedMet enc Tryz.prog Tryz.f8 (OpenSpec.ofChange Rows.verdictTextsSpec) false w args)
  (Rows.verdictTextsSpec.post enc Tryz.prog Tryz.f8 false true false false) := by
 refine handed_of_change_both (C := Tryz.checked) (X := (fun w _ => laidMetH Tryz.prog laid_VerdictTexts w)) (fun _ _ _ hh h => h.of_heap hh) own_knob started (by kernel_rfl) Tryz.func8
  (ChangeSpec.witness_shaped (enc := enc) (C := Tryz.checked) (os := os) (X := (fun w _ => laidMetH Tryz.prog laid_VerdictTexts w)) false (World.laidAll Tryz.prog os laid_VerdictTexts) #[.agg #[.int .i64 0, .int .i64 0, .slice none 0 0, .slice none 0 0, .slice none 0 0, .slice none 0 0, .slice none 0 0, .slice none 0 0], .string ⟨#[]⟩] 8 (World.laidAll_os _ _ _)
   (World.shaped_of_ZipB (by kernel_rfl) (by kernel_rfl)) (by kernel_rfl) (by kernel_rfl) (by kernel_rfl)
   (by rw [MakeChecks.laidMetH_plain _ _ _ (by kernel_rfl)]; exact laidMet_laidAll _ (by kernel_rfl) (by kernel_rfl))) ?_
 intro W base args ds gs before hval0 hW _ hwt hL hSO _;have hval : ∀ (j : Nat) t v, Tryz.f8.params[j]? = some t → args[j]? = some v → Value.okWide Tryz.prog W .any base t v := hval0;have hW' := hW;obtain ⟨p, q, hA0, hV, rfl, hfz, hnd⟩ := hW;have hA : DataW.TrodAll enc Tryz.prog W 0 (fun _ => true) true Tryz.f8.params.toList args.toList ds p := hA0;rw [Tryz.params8] at hA hval;obtain ⟨v0, v1, d0, d1, p0, p1, rfl, rfl, rfl, h0, h1⟩ := trodAll_two hA;obtain ⟨rfl, rfl⟩ := trodVars_none hV;have k0 := h0;have lt0 : ∀ x ∈ p0, x.block < W.heap.size := by obtain ⟨m, hm⟩ := k0; exact DataW.trod_lt m _ _ _ hm
 have k1 := h1;have lt1 : ∀ x ∈ p1, x.block < W.heap.size := by obtain ⟨m, hm⟩ := k1; exact DataW.trod_lt m _ _ _ hm
 obtain ⟨cl0, cn0, Ar0, nr0, cr0, R0, Ap0, np0, cp0, P0, Ak0, nk0, ck0, K0, Av0, nv0, cv0, V0, As0, ns0, cs0, S0, Aw0, nw0, cw0, X0, rfl, t0, u0⟩ := open_certz (hval 0 31 v0 rfl rfl) h0;obtain ⟨s1, rfl, rfl, rfl, w1⟩ := Go.ChangeMaps.open_string Tryz.underlying9 (hval 1 9 v1 rfl rfl) h1;clear hA0 hval0;refine (verdictTexts_walk cl0 cn0 Ar0 nr0 cr0 R0 Ap0 np0 cp0 P0 Ak0 nk0 ck0 K0 Av0 nv0 cv0 V0 As0 ns0 cs0 S0 Aw0 nw0 cw0 X0 s1 W (pw29_in (reads_in hL (by kernel_rfl) (n := "strconv.ErrRange") (d := Rows.laid_strconv_ErrRange) (by unfold laid_VerdictTexts; simp only [List.mem_cons, true_or, or_true])) (reads_in hL (by kernel_rfl) (n := "internal/strconv.uint64pow10") (d := Rows.laid_internal_strconv_uint64pow10) (by unfold laid_VerdictTexts; simp only [List.mem_cons, true_or, or_true])) (reads_in hL (by kernel_rfl) (n := "strconv.ErrSyntax") (d := Rows.laid_strconv_ErrSyntax) (by unfold laid_VerdictTexts; simp only [List.mem_cons, true_or, or_true])) hSO) t0 u0 w1).mono fun e W' ⟨he, bel⟩ => ?_
 subst he;exact ⟨_, rfl, _, _, _, [], _, [], hW', trodAll_mk1 (shut_bool Tryz.underlying4 _), trodAll_mk2 (Below.trod laid_out (by kernel_rfl) (of_decide_eq_true (by kernel_rfl)) k0 bel lt0) (Below.trod laid_out (by kernel_rfl) (of_decide_eq_true (by kernel_rfl)) k1 bel lt1), rfl, bel.frame _, fun h => by cases h⟩

theorem verdictTexts_holds : Rows.VerdictTextsSaid :=
 OpenClaim.holds_of_wide 8 Tryz.f8 rfl rfl rfl rfl rfl rfl rfl ⟨rfl, rfl, rfl, rfl, rfl⟩ rfl rfl rfl rfl rfl (by kernel_rfl) Tryz.func8 (by kernel_rfl)
  (of_decide_eq_true (by kernel_rfl)) (by unfold Func.isWrapper; first | (rw [if_pos (by decide +kernel)]; kernel_rfl) | (rw [if_neg (by decide +kernel)]; exact ⟨rfl, rfl⟩))
  (fun os started H enc _ => verdictTexts_lifted os started H enc)

theorem verdictTexts_card : Rows.VerdictTextsCardSaid :=
 Claim7.holds_tied_plain_at .later [] [.data, .data, .data, .data, .sentinel, .sentinel, .pinned] true Rows.verdictTextsCard.stood.harness true
  verdictTexts_holds (fun _ h => by cases h) (by kernel_rfl) (fun _ h => by cases h) verdictTexts_row_tie rfl ⟨rfl, rfl⟩ (by kernel_rfl) rfl
  (fun f fn hf hfn => by
   obtain rfl : f = 8 := Option.some.inj ((show Tryz.prog.funcNamed "casebook/casebooklaw29.VerdictTexts" = some 8 by kernel_rfl).symm.trans hf) |>.symm;obtain rfl : fn = Tryz.f8 := (Option.some.inj (Tryz.func8.symm.trans hfn)).symm;exact ⟨by kernel_rfl, fun j t ht => by
    rw [Tryz.params8] at ht;have hm : t ∈ [31, 9] := by simpa using Array.mem_of_getElem? ht
    have hall : ([31, 9].all fun u => !Tryz.prog.wantsStandIn u) = true := by kernel_rfl
    exact (show Tryz.prog.wantsStandIn t = false by simpa using List.all_eq_true.1 hall t hm)⟩)
  (by kernel_rfl)
#print axioms verdictTexts_card
end
end Go.Proofs.YtkhmngljpfibcaaGreatDoor
