/- What the rows have in common: the wrap that hands on the world's shape, the listed variables of the library, the witness. -/
import Derived.Test.YtkhmngljpfibcaaGreatDoorPUu
import Derived.Test.YtkhmngljpfibcaaGreatDoorRows
import Derived.Test.YtkhmngljpfibcaaGreatDoorTie
import Derived.Test.YtkhmngljpfibcaaGreatDoorCards
import Derived.Test.YtkhmngljpfibcaaGreatDoorPCg
import Derived.Test.YtkhmngljpfibcaaGreatDoorPDf
import Derived.Deep.Slices
import Derived.ChangeSame
import Derived.ProofKit
import Derived.LaidMore
import Derived.Lay
import Derived.OpenShut
import Derived.ShutString
import Derived.ChangeOld
import Derived.Stop.Joined
import Derived.Lib.SmallJoins
import Derived.SevenTiedAt
import Derived.HandedShaped
import Derived.Shelf.Vars
import Derived.LaidLaws
import Derived.ChangeMaps5
import Derived.Lib.LaidU8
import Derived.Lib.LaidTab
namespace Go.Proofs.YtkhmngljpfibcaaGreatDoor
open Go.ChangeShapes Go.WideShapes Go.ChangeAt Go.WideMaps Go.WideElems Go.RowKit Go.Deep

theorem own_knob : ownKnob Tryz.prog.godebug = none := by kernel_rfl
theorem laid_out : laidOutB Tryz.prog = true := by kernel_rfl
theorem handed_of_change_both {H : Type} {enc : TypeId × Value → H} {a : Assume} {C : Checked} {os : Os} {f : FuncId} {fn : Func} {s : ChangeSpec} {conds : List PathCond} {apart fresh handsOn again : Bool} {X : World → Array Value → Prop}
 (hX : ∀ (w w' : World) (args : Array Value), w.heap = w'.heap → X w args → X w' args)
 (own : ownKnob C.prog.godebug = none) (started : os.Started) (noInit : C.prog.inits.idxOf? f = none) (hfn : C.prog.funcs[f]? = some fn)
 (witness : ∃ (w : World) (tape : Tape) (i : Input), w.os = os ∧ (w.forCall tape i).Shaped C.prog ∧ i.vars = [] ∧ Input.okWide C.prog (w.forCall tape i) .any w.heap.size f i ∧
  ((s.pre enc C.prog fn conds apart (w.forCall tape i).memory i.args ∧ X (w.forCall tape i).memory i.args) ∧ sizedMet enc C.prog fn (OpenSpec.ofChange s) apart (w.forCall tape i).memory i.args) ∧ a.holds C.prog (lone (Frame.enter C.prog f i.args .normal) [] (w.forCall tape i)))
 (contract : ∀ (W : World) (base : Nat) (args : Array Value) (ds gs : List (DataW H)) (before : List MemPlace),
  (∀ (j : Nat) t v, fn.params[j]? = some t → args[j]? = some v → Value.okWide C.prog W .any base t v) →
  DataW.Whole enc C.prog fn.params.toList s.vars apart W args.toList ds gs before →
  conds.all (PathCond.test C.prog ⟨fn.params.toList, ds, s.plain.varTypes C.prog, gs⟩) = true →
  (DataW.weightsEach C.prog (fn.params.toList ++ s.plain.varTypes C.prog) (ds ++ gs)).all (· ≤ reachBytes) = true → X W args → W.ShapedOpen C.prog →
  a.holds C.prog (lone (Frame.enter C.prog f args .normal) [] W) →
  Calls C.prog f args W fun e W' => ∃ v, e = .returned v ∧ s.post enc C.prog fn apart fresh handsOn again W args v W') :
 ReturnsInHanded a C os f .any (fun w args => (s.pre enc C.prog fn conds apart w args ∧ X w args) ∧ sizedMet enc C.prog fn (OpenSpec.ofChange s) apart w args) (s.post enc C.prog fn apart fresh handsOn again) := by
 refine returnsInHanded_of_calls own started noInit witness ?_;intro w tape i _ hsh _ hok hpre hholds;obtain ⟨_, _, _, fn', hfn', _, _, _, _, hval⟩ := hok;have e : fn' = fn := Option.some.inj (hfn'.symm.trans hfn);subst e;obtain ⟨⟨⟨ds, gs, before, hw, hc⟩, hx⟩, hz⟩ := hpre;have hw' := DataW.Whole.of_heap (w' := w.forCall tape i) (by rfl) hw;refine (contract (w.forCall tape i) w.heap.size i.args ds gs before hval hw' hc (hz.weights hw) (hX _ _ _ (by rfl) hx) hsh hholds).mono fun e W' ⟨v, he, hp⟩ => ?_
 subst he;exact ChangeSpec.post_blind hp
theorem t_pow : (Tryz.prog.globals[5]?).map (·.type) = some 251 := by kernel_rfl
theorem pow_data {H : Type} : (Rows.laid_internal_strconv_uint64pow10 : DataW H) = Lib.tabData .u64 Lib.pow10Tab := by rfl
theorem reads_in {l : List (String × DataW Unit)} {W : World} (h : laidMetH Tryz.prog l W) (hp : (l.all fun x => x.2.handleName?.isNone) = true) {n : String} {d : DataW Unit} (hm : (n, d) ∈ l) : Lib.VarReads Tryz.prog W n d := by
 rw [MakeChecks.laidMetH_plain _ _ _ hp] at h;exact Lib.laidMet.reads h hm
theorem tb_in {W : World} (h : Lib.VarReads Tryz.prog W "internal/strconv.uint64pow10" Rows.laid_internal_strconv_uint64pow10) : Tb W := by
 obtain ⟨g2, t2, cs2, f2, p2, hg2, ht2, hv2, hd2⟩ := h;obtain rfl := Option.some.inj (gPow.symm.trans hg2);obtain rfl := Option.some.inj (t_pow.symm.trans ht2);unfold Tb Lib.TabIs;rw [pow_data] at hd2;rw [hv2, ← Lib.cells_of_tab Tryz.underlying251 Tryz.underlying227 (by kernel_rfl) (by kernel_rfl) hd2]
theorem c_int : Tryz.prog.cellsOf 3 = 1 := by kernel_rfl
theorem c_ints : Tryz.prog.cellsOf 27 = 1 := by kernel_rfl
instance : Inhabited Int := ⟨0⟩
def okI (Z : List Int) : Prop := ∀ z ∈ Z, -9223372036854775808 ≤ z ∧ z ≤ 9223372036854775807
theorem open_zl {H : Type} {enc : TypeId × Value → H} {W : World} {fuel : Nat} {c : Value} {d : DataW H} {p : List MemPlace}
 (hf : DataW.trod enc Tryz.prog W 0 (fun _ => true) true fuel 27 [c] = some (d, p)) :
 ∃ (A : Option Addr) (n cap : Nat) (Z : List Int), c = .slice A n cap ∧ ZIn W A Z ∧ Z.length = n ∧ n ≤ cap ∧ cap ≤ 9223372036854775807 ∧ okI Z := by
 rcases open_slice Tryz.underlying27 hf with ⟨hcs, _⟩ | ⟨a, len, cap, m, n, D, Pl, hcs, hb, hl, hm, hmm, hx, hi⟩
 · simp at hcs;subst hcs;exact ⟨none, 0, 0, [], rfl, fun i hi => by simp at hi, rfl, Nat.le_refl _, by omega, fun z hz => by simp at hz⟩
 · simp at hcs;subst hcs;rw [c_int] at hi;simp only [if_true] at hmm;subst hmm;have key : ∀ i, i < len → ∃ z : Int, (-9223372036854775808 ≤ z ∧ z ≤ 9223372036854775807) ∧ (a.add i).block < W.heap.size ∧ W.cell? (a.add i) = some (.int .i64 z) := by
    intro i hil;obtain ⟨cs', hc, ht⟩ := hi i (by omega);obtain ⟨_, hcl, hat⟩ := World.cells?_some hc
    match cs', hcl with
    | [c0], _ =>
     obtain ⟨z, hz0, _, hz⟩ := DataW.trod_int Tryz.underlying3 ht;cases hz0;have a0 := hat 0 (by omega);rw [Nat.mul_one] at a0;generalize a.add i = q at *;have a1 : W.cell? q = some (.int .i64 z) := by simpa [Addr.add] using a0
     exact ⟨z, bounds_i64 hz, block_lt_of_cell a1, a1⟩
   obtain ⟨f, hf'⟩ := choose_lt key;have hml : maxLen = 9223372036854775807 := rfl;refine ⟨some a, len, m, (List.range len).map f, rfl, ?_, by simp, hl, by omega, ?_⟩
   · intro i hil;have hil' : i < len := by simpa using hil
     obtain ⟨_, h2, h3⟩ := hf' i hil';exact ⟨a, rfl, h2, by simpa using h3⟩
   · intro t ht;obtain ⟨i, hi', rfl⟩ := List.mem_map.1 ht;exact (hf' i (List.mem_range.1 hi')).1
instance : Inhabited Tr := ⟨⟨⟨#[]⟩, [], []⟩⟩
end Go.Proofs.YtkhmngljpfibcaaGreatDoor
