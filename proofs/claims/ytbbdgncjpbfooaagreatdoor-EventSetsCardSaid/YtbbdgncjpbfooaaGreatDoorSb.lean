/- A slice of numbers that came in: what its reading gives the walk. The variables that the walks ask for. -/
import Derived.Test.YtbbdgncjpbfooaaGreatDoorSa
import Derived.Test.YtbbdgncjpbfooaaGreatDoorUa
import Derived.Test.YtbbdgncjpbfooaaGreatDoorEl
import Derived.Deep.Slices
import Derived.ChangeSame
namespace Go.Proofs.YtbbdgncjpbfooaaGreatDoor
open Go.ChangeShapes Go.WideShapes Go.ChangeAt Go.WideMaps Go.WideElems Go.RowKit Go.Deep

theorem t_syn : (Tryz.prog.globals[2]?).map (·.type) = some 104 := by kernel_rfl
theorem se_in {W : World} (h : Lib.VarReads Tryz.prog W "strconv.ErrSyntax" Rows.laid_strconv_ErrSyntax) : ∃ tp p, W.var? Tryz.prog "strconv.ErrSyntax" = some #[.iface tp p] := by
  obtain ⟨g3, t3, cs3, f3, p3, hg3, ht3, hv3, hd3⟩ := h
  obtain rfl := Option.some.inj (gSyn.symm.trans hg3)
  obtain rfl := Option.some.inj (t_syn.symm.trans ht3)
  obtain ⟨l⟩ := cs3
  obtain ⟨_, u, v, e, _, _⟩ := iface_of_trod Tryz.underlying104 hd3
  obtain rfl : l = [.iface u v] := e
  exact ⟨u, v, hv3⟩
theorem c_int : Tryz.prog.cellsOf 3 = 1 := by kernel_rfl
instance : Inhabited Int := ⟨0⟩
set_option maxRecDepth 100000 in
theorem open_zs {H : Type} {enc : TypeId × Value → H} {W : World} {base : Nat} {v : Value} {d : DataW H} {p : List MemPlace}
    (hv : Value.okWide Tryz.prog W .any base 57 v) (h : DataW.Trod enc Tryz.prog W 0 (fun _ => true) true 57 v d p) :
    ∃ (A : Option Addr) (n cap : Nat) (Z : List Int), v = .slice A n cap ∧ ZIn W A Z ∧ Z.length = n ∧ n ≤ cap ∧ cap ≤ 9223372036854775807 ∧ ∀ z ∈ Z, -9223372036854775808 ≤ z ∧ z ≤ 9223372036854775807 := by
  obtain ⟨a0, len, cap, rfl⟩ := okWide_slice Tryz.underlying57 hv
  obtain ⟨fuel, hf⟩ := h
  rcases open_slice Tryz.underlying57 hf with ⟨hcs, _⟩ | ⟨a, len', cap', m, n, D, Pl, hcs, hb, hl, hm, hmm, hx, hi⟩
  · simp [Value.cells] at hcs
    obtain ⟨rfl, rfl, rfl⟩ := hcs
    exact ⟨none, 0, 0, [], rfl, fun i hi => by simp at hi, rfl, Nat.le_refl _, by omega, fun z hz => by simp at hz⟩
  · simp [Value.cells] at hcs
    obtain ⟨rfl, rfl, rfl⟩ := hcs
    rw [c_int] at hi
    simp only [if_true] at hmm
    subst hmm
    have key : ∀ i, i < len → ∃ z : Int, (-9223372036854775808 ≤ z ∧ z ≤ 9223372036854775807) ∧ (a.add i).block < W.heap.size ∧ W.cell? (a.add i) = some (.int .i64 z) := by
      intro i hil
      obtain ⟨cs', hc, ht⟩ := hi i (by omega)
      obtain ⟨_, hcl, hat⟩ := World.cells?_some hc
      match cs', hcl with
      | [c0], _ =>
        obtain ⟨z, hz0, _, hz⟩ := DataW.trod_int Tryz.underlying3 ht
        cases hz0
        have a0 := hat 0 (by omega)
        rw [Nat.mul_one] at a0
        generalize a.add i = q at *
        have a1 : W.cell? q = some (.int .i64 z) := by simpa [Addr.add] using a0
        exact ⟨z, bounds_i64 hz, block_lt_of_cell a1, a1⟩
    obtain ⟨f, hf'⟩ := choose_lt key
    have hml : maxLen = 9223372036854775807 := rfl
    refine ⟨some a, len, m, (List.range len).map f, rfl, ?_, by simp, hl, by omega, ?_⟩
    · intro i hil
      have hil' : i < len := by simpa using hil
      obtain ⟨_, h2, h3⟩ := hf' i hil'
      exact ⟨a, rfl, h2, by simpa using h3⟩
    · intro t ht
      obtain ⟨i, hi', rfl⟩ := List.mem_map.1 ht
      exact (hf' i (List.mem_range.1 hi')).1
theorem pw_in {W : World} (h1 : Lib.VarReads Tryz.prog W "strconv.ErrRange" Rows.laid_strconv_ErrRange) (h2 : Lib.VarReads Tryz.prog W "internal/strconv.uint64pow10" Rows.laid_internal_strconv_uint64pow10) (h3 : Lib.VarReads Tryz.prog W "strconv.ErrSyntax" Rows.laid_strconv_ErrSyntax) (h : W.ShapedOpen Tryz.prog) : PW W :=
  ⟨tb_in h2, maxLen_in h, se_in h3, pr_in h1⟩
end Go.Proofs.YtbbdgncjpbfooaaGreatDoor
