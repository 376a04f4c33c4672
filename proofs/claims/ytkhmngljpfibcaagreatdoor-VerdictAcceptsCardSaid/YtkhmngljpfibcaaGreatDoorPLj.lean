import Derived.Test.YtkhmngljpfibcaaGreatDoorRows
import Derived.Test.YtkhmngljpfibcaaGreatDoorTie
import Derived.Test.YtkhmngljpfibcaaGreatDoorCards
import Derived.Test.YtkhmngljpfibcaaGreatDoorPLi
import Derived.Deep.Slices
import Derived.ChangeSame
import Derived.LaidMore
import Derived.Lay
import Derived.OpenShut
import Derived.ChangeOld
import Derived.Stop.Joined
import Derived.Lib.SmallJoins
import Derived.SevenTiedAt
import Derived.HandedShaped
import Derived.Shelf.Vars
import Derived.LaidLaws
import Derived.ChangeMaps5
import Derived.Lib.LaidU8
import Derived.Lib.LaidTab
namespace Go.Proofs.YtkhmngljpfibcaaGreatDoor
set_option maxRecDepth 100000
section
open Go.ChangeShapes Go.WideShapes Go.ChangeAt Go.WideMaps Go.WideElems Go.RowKit Go.Deep

theorem own_knob : ownKnob Tryz.prog.godebug = none := by kernel_rfl
theorem laid_out : laidOutB Tryz.prog = true := by kernel_rfl
theorem handed_of_change_both {H : Type} {enc : TypeId × Value → H} {a : Assume} {C : Checked} {os : Os} {f : FuncId} {fn : Func} {s : ChangeSpec} {conds : List PathCond} {apart fresh handsOn again : Bool} {X : World → Array Value → Prop}
 (hX : ∀ (w w' : World) (args : Array Value), w.heap = w'.heap → X w args → X w' args)
 (own : ownKnob C.prog.godebug = none) (started : os.Started) (noInit : C.prog.inits.idxOf? f = none) (hfn : C.prog.funcs[f]? = some fn)
 (witness : ∃ (w : World) (tape : Tape) (i : Input), w.os = os ∧ (w.forCall tape i).Shaped C.prog ∧ i.vars = [] ∧ Input.okWide C.prog (w.forCall tape i) .any w.heap.size f i ∧
  ((s.pre enc C.prog fn conds apart (w.forCall tape i).memory i.args ∧ X (w.forCall tape i).memory i.args) ∧ sizedMet enc C.prog fn (OpenSpec.ofChange s) apart (w.forCall tape i).memory i.args) ∧ a.holds C.prog (lone (Frame.enter C.prog f i.args .normal) [] (w.forCall tape i)))
 (contract : ∀ (W : World) (base : Nat) (args : Array Value) (ds gs : List (DataW H)) (before : List MemPlace),
  (∀ (j : Nat) t v, fn.params[j]? = some t → args[j]? = some v → Value.okWide C.prog W .any base t v) →
  DataW.Whole enc C.prog fn.params.toList s.vars apart W args.toList ds gs before →
  conds.all (PathCond.test C.prog ⟨fn.params.toList, ds, s.plain.varTypes C.prog, gs⟩) = true →
  (DataW.weightsEach C.prog (fn.params.toList ++ s.plain.varTypes C.prog) (ds ++ gs)).all (· ≤ reachBytes) = true → X W args → W.ShapedOpen C.prog →
  a.holds C.prog (lone (Frame.enter C.prog f args .normal) [] W) →
  Calls C.prog f args W fun e W' => ∃ v, e = .returned v ∧ s.post enc C.prog fn apart fresh handsOn again W args v W') :
 ReturnsInHanded a C os f .any (fun w args => (s.pre enc C.prog fn conds apart w args ∧ X w args) ∧ sizedMet enc C.prog fn (OpenSpec.ofChange s) apart w args) (s.post enc C.prog fn apart fresh handsOn again) := by
 refine returnsInHanded_of_calls own started noInit witness ?_;intro w tape i _ hsh _ hok hpre hholds;obtain ⟨_, _, _, fn', hfn', _, _, _, _, hval⟩ := hok;have e : fn' = fn := Option.some.inj (hfn'.symm.trans hfn);subst e;obtain ⟨⟨⟨ds, gs, before, hw, hc⟩, hx⟩, hz⟩ := hpre;have hw' := DataW.Whole.of_heap (w' := w.forCall tape i) (by rfl) hw;refine (contract (w.forCall tape i) w.heap.size i.args ds gs before hval hw' hc (hz.weights hw) (hX _ _ _ (by rfl) hx) hsh hholds).mono fun e W' ⟨v, he, hp⟩ => ?_
 subst he;exact ChangeSpec.post_blind hp
theorem t_pow : (Tryz.prog.globals[5]?).map (·.type) = some 251 := by kernel_rfl
theorem pow_data {H : Type} : (Rows.laid_internal_strconv_uint64pow10 : DataW H) = Lib.tabData .u64 Lib.pow10Tab := by rfl
theorem reads_in {l : List (String × DataW Unit)} {W : World} (h : laidMetH Tryz.prog l W) (hp : (l.all fun x => x.2.handleName?.isNone) = true) {n : String} {d : DataW Unit} (hm : (n, d) ∈ l) : Lib.VarReads Tryz.prog W n d := by
 rw [MakeChecks.laidMetH_plain _ _ _ hp] at h;exact Lib.laidMet.reads h hm
theorem tb_in {W : World} (h : Lib.VarReads Tryz.prog W "internal/strconv.uint64pow10" Rows.laid_internal_strconv_uint64pow10) : Tb W := by
 obtain ⟨g2, t2, cs2, f2, p2, hg2, ht2, hv2, hd2⟩ := h;obtain rfl := Option.some.inj (gPow.symm.trans hg2);obtain rfl := Option.some.inj (t_pow.symm.trans ht2);unfold Tb Lib.TabIs;rw [pow_data] at hd2;rw [hv2, ← Lib.cells_of_tab Tryz.underlying251 Tryz.underlying227 (by kernel_rfl) (by kernel_rfl) hd2]
theorem c_int : Tryz.prog.cellsOf 3 = 1 := by kernel_rfl
theorem c_str : Tryz.prog.cellsOf 9 = 1 := by kernel_rfl
theorem c_ints : Tryz.prog.cellsOf 27 = 1 := by kernel_rfl
theorem c_tr : Tryz.prog.cellsOf 79 = 3 := by kernel_rfl
theorem c_trs : Tryz.prog.cellsOf 22 = 1 := by kernel_rfl
theorem c_net : Tryz.prog.cellsOf 24 = 4 := by kernel_rfl
instance : Inhabited Int := ⟨0⟩
def okI (Z : List Int) : Prop := ∀ z ∈ Z, -9223372036854775808 ≤ z ∧ z ≤ 9223372036854775807
theorem open_zl {H : Type} {enc : TypeId × Value → H} {W : World} {fuel : Nat} {c : Value} {d : DataW H} {p : List MemPlace}
 (hf : DataW.trod enc Tryz.prog W 0 (fun _ => true) true fuel 27 [c] = some (d, p)) :
 ∃ (A : Option Addr) (n cap : Nat) (Z : List Int), c = .slice A n cap ∧ ZIn W A Z ∧ Z.length = n ∧ n ≤ cap ∧ cap ≤ 9223372036854775807 ∧ okI Z := by
 rcases open_slice Tryz.underlying27 hf with ⟨hcs, _⟩ | ⟨a, len, cap, m, n, D, Pl, hcs, hb, hl, hm, hmm, hx, hi⟩
 · simp at hcs;subst hcs;exact ⟨none, 0, 0, [], rfl, fun i hi => by simp at hi, rfl, Nat.le_refl _, by omega, fun z hz => by simp at hz⟩
 · simp at hcs;subst hcs;rw [c_int] at hi;simp only [if_true] at hmm;subst hmm;have key : ∀ i, i < len → ∃ z : Int, (-9223372036854775808 ≤ z ∧ z ≤ 9223372036854775807) ∧ (a.add i).block < W.heap.size ∧ W.cell? (a.add i) = some (.int .i64 z) := by
    intro i hil;obtain ⟨cs', hc, ht⟩ := hi i (by omega);obtain ⟨_, hcl, hat⟩ := World.cells?_some hc
    match cs', hcl with
    | [c0], _ =>
     obtain ⟨z, hz0, _, hz⟩ := DataW.trod_int Tryz.underlying3 ht;cases hz0;have a0 := hat 0 (by omega);rw [Nat.mul_one] at a0;generalize a.add i = q at *;have a1 : W.cell? q = some (.int .i64 z) := by simpa [Addr.add] using a0
     exact ⟨z, bounds_i64 hz, block_lt_of_cell a1, a1⟩
   obtain ⟨f, hf'⟩ := choose_lt key;have hml : maxLen = 9223372036854775807 := rfl;refine ⟨some a, len, m, (List.range len).map f, rfl, ?_, by simp, hl, by omega, ?_⟩
   · intro i hil;have hil' : i < len := by simpa using hil
     obtain ⟨_, h2, h3⟩ := hf' i hil';exact ⟨a, rfl, h2, by simpa using h3⟩
   · intro t ht;obtain ⟨i, hi', rfl⟩ := List.mem_map.1 ht;exact (hf' i (List.mem_range.1 hi')).1
theorem tr_cells {H : Type} {enc : TypeId × Value → H} {W : World} {n : Nat} {c0 c1 c2 : Value} {x : DataW H × List MemPlace} (h : DataW.trod enc Tryz.prog W 0 (fun _ => true) true n 79 [c0, c1, c2] = some x) :
 ∃ t : Tr, c0 = .string t.lb ∧ SlIn W c1 t.i ∧ SlIn W c2 t.o ∧ t.lb.size ≤ maxLen := by
 obtain ⟨xs, n, _, hx, _, hlen, hg⟩ := DataW.trod_struct Tryz.underlying79 h
 match xs, hlen with
 | [y0, y1, y2], _ =>
  have g0 := hg 0 _ rfl;have g1 := hg 1 _ rfl;have g2 := hg 2 _ rfl;simp [c_ints, c_str] at g0 g1 g2;obtain ⟨u, e0, _, hu⟩ := DataW.trod_string Tryz.underlying9 g0;obtain ⟨A, m, cap, Z, e1, hz, hl, h1, h2, _⟩ := open_zl g1;obtain ⟨B, m', cap', Z', e2, hz', hl', h1', h2', _⟩ := open_zl g2;simp at e0;exact ⟨⟨u, Z, Z'⟩, e0, ⟨A, m, cap, e1, hz, hl, h1, h2⟩, ⟨B, m', cap', e2, hz', hl', h1', h2'⟩, hu⟩
instance : Inhabited Tr := ⟨⟨⟨#[]⟩, [], []⟩⟩
theorem open_trs {H : Type} {enc : TypeId × Value → H} {W : World} {fuel : Nat} {c : Value} {d : DataW H} {p : List MemPlace}
 (hf : DataW.trod enc Tryz.prog W 0 (fun _ => true) true fuel 22 [c] = some (d, p)) :
 ∃ (A : Option Addr) (n cap : Nat) (L : List Tr), c = .slice A n cap ∧ TIn W A L ∧ L.length = n ∧ n ≤ cap ∧ cap ≤ 9223372036854775807 ∧ ∀ t ∈ L, t.lb.size ≤ maxLen := by
 rcases open_slice Tryz.underlying22 hf with ⟨hcs, _⟩ | ⟨a, len, cap, m, n, D, Pl, hcs, hb, hl, hm, hmm, hx, hi⟩
 · simp at hcs;subst hcs;exact ⟨none, 0, 0, [], rfl, fun i hi => by simp at hi, rfl, Nat.le_refl _, by omega, fun z hz => by simp at hz⟩
 · simp at hcs;subst hcs;rw [c_tr] at hi;simp only [if_true] at hmm;subst hmm;have key : ∀ i, i < len → ∃ t : Tr, t.lb.size ≤ maxLen ∧ (a.add (i * 3)).block < W.heap.size ∧ TrAt W (a.add (i * 3)) t := by
    intro i hil;obtain ⟨cs', hc, ht⟩ := hi i (by omega);obtain ⟨_, hcl, hat⟩ := World.cells?_some hc
    match cs', hcl with
    | [c0, c1, c2], _ =>
     obtain ⟨t, rfl, h1, h2, h3⟩ := tr_cells ht;have a0 := hat 0 (by omega);have a1 := hat 1 (by omega);have a2 := hat 2 (by omega);generalize a.add (i * 3) = q at *;refine ⟨t, h3, block_lt_of_cell (by simpa [Addr.add] using a0), by simpa [Addr.add] using a0, ⟨c1, by simpa [Addr.add] using a1, h1⟩, c2, by simpa [Addr.add] using a2, h2⟩
   obtain ⟨f, hf'⟩ := choose_lt key;have hml : maxLen = 9223372036854775807 := rfl;refine ⟨some a, len, m, (List.range len).map f, rfl, ?_, by simp, hl, by omega, ?_⟩
   · intro i hil;have hil' : i < len := by simpa using hil
     obtain ⟨_, h2, h3⟩ := hf' i hil';exact ⟨a, rfl, h2, by simpa using h3⟩
   · intro t ht;obtain ⟨i, hi', rfl⟩ := List.mem_map.1 ht;exact (hf' i (List.mem_range.1 hi')).1
theorem open_four {P : Program} {w : World} {r : Go.Reach} {b0 : Nat} {t : TypeId} {fs : Array Field} {v : Value} (hs : P.underlying t = some (.struct fs)) (hC : P.cellsOf t = 4) (hv : Value.okWide P w r b0 t v) : ∃ c0 c1 c2 c3, v = .agg #[c0, c1, c2, c3] := by
 obtain ⟨cs, rfl, hsz⟩ := okWide_struct hs hv;obtain ⟨q⟩ := cs
 match q, hsz.trans hC with
 | [c0, c1, c2, c3], _ => exact ⟨c0, c1, c2, c3, rfl⟩
theorem open_net {H : Type} {enc : TypeId × Value → H} {W : World} {base : Nat} {v : Value} {d : DataW H} {p : List MemPlace}
 (hv : Value.okWide Tryz.prog W .any base 24 v) (h : DataW.Trod enc Tryz.prog W 0 (fun _ => true) true 24 v d p) :
 ∃ (N : Nt) (A : Option Addr) (n cap : Nat), v = .agg #[.int .i64 N.pl, .slice A n cap, .int .i64 N.src, .int .i64 N.snk] ∧ NtIn W A N ∧ N.tr.length = n ∧ n ≤ 9223372036854775807 := by
 obtain ⟨c0, c1, c2, c3, rfl⟩ := open_four Tryz.underlying24 c_net hv;obtain ⟨fuel, hf⟩ := h;obtain ⟨xs, n, _, hx, _, hlen, hg⟩ := DataW.trod_struct Tryz.underlying24 hf
 match xs, hlen with
 | [y0, y1, y2, y3], _ =>
  have g0 := hg 0 _ rfl;have g1 := hg 1 _ rfl;have g2 := hg 2 _ rfl;have g3 := hg 3 _ rfl;simp [c_int, c_trs, Value.cells] at g0 g1 g2 g3;obtain ⟨a, e0, _, _⟩ := DataW.trod_int Tryz.underlying3 g0;obtain ⟨A, m, cap, L, e1, hin, hl, hc, hm, hlb⟩ := open_trs g1;obtain ⟨b, e2, _, _⟩ := DataW.trod_int Tryz.underlying3 g2;obtain ⟨c, e3, _, _⟩ := DataW.trod_int Tryz.underlying3 g3;simp at e0 e2 e3;subst e0 e1 e2 e3;exact ⟨⟨a, L, b, c⟩, A, m, cap, rfl, ⟨hin, hlb⟩, hl, by omega⟩
end
section
open Go.ChangeShapes Go.WideShapes Go.ChangeAt Go.WideMaps Go.WideElems Go.RowKit Go.Joins

def laid_VerdictAccepts : List (String × DataW Unit) := [("math/bits.deBruijn32tab", Rows.laid_math_bits_deBruijn32tab), ("math/bits.deBruijn64tab", Rows.laid_math_bits_deBruijn64tab), ("internal/strconv.uint64pow10", Rows.laid_internal_strconv_uint64pow10)]
theorem verdictAccepts_lifted (os : Os) (started : os.Started) (H : Type) (enc : TypeId × Value → H) :
 ReturnsInHanded {} Tryz.checked os 7 .any (fun w args => (Rows.verdictAcceptsSpec.pre enc Tryz.prog Tryz.f7 [] false w args ∧ laidMetH Tryz.prog laid_VerdictAccepts w) ∧ sizedMet enc Tryz.prog Tryz.f7 (OpenSpec.ofChange Rows.verdictAcceptsSpec) false w args)
  (Rows.verdictAcceptsSpec.post enc Tryz.prog Tryz.f7 false true false false) := by
 refine handed_of_change_both (C := Tryz.checked) (X := (fun w _ => laidMetH Tryz.prog laid_VerdictAccepts w)) (fun _ _ _ hh h => h.of_heap hh) own_knob started (by kernel_rfl) Tryz.func7
  (ChangeSpec.witness_shaped (enc := enc) (C := Tryz.checked) (os := os) (X := (fun w _ => laidMetH Tryz.prog laid_VerdictAccepts w)) false (World.laidAll Tryz.prog os laid_VerdictAccepts) #[.agg #[.int .i64 0, .slice none 0 0, .int .i64 0, .int .i64 0], .int .u8 0, .int .u8 0] 8 (World.laidAll_os _ _ _)
   (World.shaped_of_ZipB (by kernel_rfl) (by kernel_rfl)) (by kernel_rfl) (by kernel_rfl) (by kernel_rfl)
   (by rw [MakeChecks.laidMetH_plain _ _ _ (by kernel_rfl)]; exact laidMet_laidAll _ (by kernel_rfl) (by kernel_rfl))) ?_
 intro W base args ds gs before hval0 hW _ hwt hL hSO _;have hval : ∀ (j : Nat) t v, Tryz.f7.params[j]? = some t → args[j]? = some v → Value.okWide Tryz.prog W .any base t v := hval0;have hW' := hW;obtain ⟨p, q, hA0, hV, rfl, hfz, hnd⟩ := hW;have hA : DataW.TrodAll enc Tryz.prog W 0 (fun _ => true) true Tryz.f7.params.toList args.toList ds p := hA0;rw [Tryz.params7] at hA hval;obtain ⟨v0, v1, v2, d0, d1, d2, p0, p1, p2, rfl, rfl, rfl, h0, h1, h2⟩ := trodAll_three hA;obtain ⟨rfl, rfl⟩ := trodVars_none hV;have k0 := h0;have lt0 : ∀ x ∈ p0, x.block < W.heap.size := by obtain ⟨m, hm⟩ := k0; exact DataW.trod_lt m _ _ _ hm
 have k1 := h1;have lt1 : ∀ x ∈ p1, x.block < W.heap.size := by obtain ⟨m, hm⟩ := k1; exact DataW.trod_lt m _ _ _ hm
 have k2 := h2;have lt2 : ∀ x ∈ p2, x.block < W.heap.size := by obtain ⟨m, hm⟩ := k2; exact DataW.trod_lt m _ _ _ hm
 obtain ⟨N0, A0, n0, cap0, rfl, t0, l0, m0⟩ := open_net (hval 0 24 v0 rfl rfl) h0;obtain ⟨x1, rfl, rfl, rfl, w1⟩ := open_int Tryz.underlying5 (hval 1 5 v1 rfl rfl) h1;obtain ⟨b1, B1⟩ := bounds_u8 w1;obtain ⟨n1, rfl⟩ := Int.eq_ofNat_of_zero_le b1;obtain ⟨x2, rfl, rfl, rfl, w2⟩ := open_int Tryz.underlying5 (hval 2 5 v2 rfl rfl) h2;obtain ⟨b2, B2⟩ := bounds_u8 w2;obtain ⟨n2, rfl⟩ := Int.eq_ofNat_of_zero_le b2;clear hA0 hval0;refine (verdictAccepts_walk N0 A0 n0 cap0 n1 n2 W (tb_in (reads_in hL (by kernel_rfl) (n := "internal/strconv.uint64pow10") (d := Rows.laid_internal_strconv_uint64pow10) (by unfold laid_VerdictAccepts; simp only [List.mem_cons, true_or, or_true]))) t0 l0 m0 (by omega) (by omega)).mono fun e W' ⟨he, bel⟩ => ?_
 subst he;exact ⟨_, rfl, _, _, _, [], _, [], hW', trodAll_mk1 (shut_bool Tryz.underlying4 _), trodAll_mk3 (Below.trod laid_out (by kernel_rfl) (of_decide_eq_true (by kernel_rfl)) k0 bel lt0) (Below.trod laid_out (by kernel_rfl) (of_decide_eq_true (by kernel_rfl)) k1 bel lt1) (Below.trod laid_out (by kernel_rfl) (of_decide_eq_true (by kernel_rfl)) k2 bel lt2), rfl, bel.frame _, fun h => by cases h⟩

theorem verdictAccepts_holds : Rows.VerdictAcceptsSaid :=
 OpenClaim.holds_of_wide 7 Tryz.f7 rfl rfl rfl rfl rfl rfl rfl ⟨rfl, rfl, rfl, rfl, rfl⟩ rfl rfl rfl rfl rfl (by kernel_rfl) Tryz.func7 (by kernel_rfl)
  (of_decide_eq_true (by kernel_rfl)) (by unfold Func.isWrapper; first | (rw [if_pos (by decide +kernel)]; kernel_rfl) | (rw [if_neg (by decide +kernel)]; exact ⟨rfl, rfl⟩))
  (fun os started H enc _ => verdictAccepts_lifted os started H enc)

theorem verdictAccepts_card : Rows.VerdictAcceptsCardSaid :=
 Claim7.holds_tied_plain_at .later [] [.data, .data, .data] true Rows.verdictAcceptsCard.stood.harness true
  verdictAccepts_holds (fun _ h => by cases h) (by kernel_rfl) (fun _ h => by cases h) verdictAccepts_row_tie rfl ⟨rfl, rfl⟩ (by kernel_rfl) rfl
  (fun f fn hf hfn => by
   obtain rfl : f = 7 := Option.some.inj ((show Tryz.prog.funcNamed "casebook/casebooklaw29.VerdictAccepts" = some 7 by kernel_rfl).symm.trans hf) |>.symm;obtain rfl : fn = Tryz.f7 := (Option.some.inj (Tryz.func7.symm.trans hfn)).symm;exact ⟨by kernel_rfl, fun j t ht => by
    rw [Tryz.params7] at ht;have hm : t ∈ [24, 5] := by simpa using Array.mem_of_getElem? ht
    have hall : ([24, 5].all fun u => !Tryz.prog.wantsStandIn u) = true := by kernel_rfl
    exact (show Tryz.prog.wantsStandIn t = false by simpa using List.all_eq_true.1 hall t hm)⟩)
  (by kernel_rfl)
end
end Go.Proofs.YtkhmngljpfibcaaGreatDoor
