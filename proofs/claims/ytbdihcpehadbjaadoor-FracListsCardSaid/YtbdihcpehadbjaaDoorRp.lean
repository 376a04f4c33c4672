/- A slice of fractions that came in: what its reading gives the walk. -/
import Derived.Test.YtbdihcpehadbjaaDoorRo
import Derived.Test.YtbdihcpehadbjaaDoorFn
import Derived.Deep.Slices
import Derived.ChangeSame
namespace Go.Proofs.YtbdihcpehadbjaaDoor
open Go.ChangeShapes Go.WideShapes Go.ChangeAt Go.WideMaps Go.WideElems Go.RowKit Go.Deep

theorem add_plain' (b off i : Nat) : (⟨b, off, none⟩ : Addr).add i = ⟨b, off + i, none⟩ := by
  unfold Addr.add
  split
  · rename_i h; have : i = 0 := by simpa using h
    subst this; rfl
  · rfl
set_option maxRecDepth 100000 in
theorem open_fracs {H : Type} {enc : TypeId × Value → H} {W : World} {base : Nat} {v : Value} {d : DataW H} {p : List MemPlace}
    (hv : Value.okWide Tryd.prog W .any base 43 v) (h : DataW.Trod enc Tryd.prog W 0 (fun _ => true) true 43 v d p) : ∃ l, FrV W v l := by
  obtain ⟨a0, len, cap, rfl⟩ := okWide_slice Tryd.underlying43 hv
  obtain ⟨fuel, hf⟩ := h
  rcases open_slice Tryd.underlying43 hf with ⟨hcs, _⟩ | ⟨a, len', cap', m, n, D, Pl, hcs, hb, hl, hm, hmm, hx, hi⟩
  · simp [Value.cells] at hcs
    obtain ⟨rfl, rfl, rfl⟩ := hcs
    exact ⟨[], .inl ⟨_, _, rfl, rfl⟩⟩
  · simp [Value.cells] at hcs
    obtain ⟨rfl, rfl, rfl⟩ := hcs
    have hc2 : Tryd.prog.cellsOf 24 = 2 := by kernel_rfl
    rw [hc2] at hi
    simp only [if_true] at hmm
    subst hmm
    have key : ∀ i, i < len → ∃ z : Int × Int, i64p z ∧ W.cell? (a.add (i * 2)) = some (.int .i64 z.1) ∧ W.cell? (a.add (i * 2 + 1)) = some (.int .i64 z.2) := by
      intro i hil
      obtain ⟨cs', hc, ht⟩ := hi i (by omega)
      obtain ⟨_, hcl, hat⟩ := World.cells?_some hc
      match cs', hcl with
      | [c0, c1], _ =>
        obtain ⟨xs, n', _, _, _, hlen, hg⟩ := DataW.trod_struct Tryd.underlying24 ht
        match xs, hlen with
        | [y0, y1], _ =>
          have g0 := hg 0 _ rfl
          have g1 := hg 1 _ rfl
          have k1 : Tryd.prog.cellsOf 3 = 1 := by kernel_rfl
          obtain ⟨n0, e0, _, w0⟩ := DataW.trod_int Tryd.underlying3 g0
          obtain ⟨n1, e1, _, w1⟩ := DataW.trod_int Tryd.underlying3 g1
          simp [k1] at e0 e1
          subst e0 e1
          have a0 := hat 0 (by omega)
          have a1 := hat 1 (by omega)
          refine ⟨(n0, n1), ⟨(i64_of_wf w0).1, (i64_of_wf w0).2, (i64_of_wf w1).1, (i64_of_wf w1).2⟩, ?_, ?_⟩
          · rw [Go.Deep.add_add] at a0; simpa using a0
          · rw [Go.Deep.add_add] at a1; simpa using a1
    obtain ⟨b, off, spot⟩ := a
    by_cases h0 : len = 0
    · subst h0
      exact ⟨[], .inl ⟨_, _, rfl, rfl⟩⟩
    · have hspot : spot = none := by
        obtain ⟨z, _, hz, _⟩ := key 0 (by omega)
        have := World.cell?_spot hz
        unfold Addr.add at this
        simpa using this
      subst hspot
      have hz : ∀ i : Nat, ∃ z : Int × Int, i < len → i64p z ∧ W.cell? ⟨b, off + i * 2, none⟩ = some (.int .i64 z.1) ∧ W.cell? ⟨b, off + i * 2 + 1, none⟩ = some (.int .i64 z.2) := fun i => by
        by_cases hil : i < len
        · obtain ⟨z, h1, h2, h3⟩ := key i hil
          exact ⟨z, fun _ => ⟨h1, by rw [add_plain'] at h2; exact h2, by rw [add_plain'] at h3; exact h3⟩⟩
        · exact ⟨(0, 0), fun h => absurd h hil⟩
      refine ⟨(List.range len).map fun i => Classical.choose (hz i), .inr (.inr ⟨b, off, m, by simp, ?_, ?_, ?_⟩)⟩
      · have := (Classical.choose_spec (hz 0) (by omega)).2.1
        exact block_lt_of_cell this
      · intro i hil
        have hil' : i < len := by simpa using hil
        have e : ((List.range len).map fun i => Classical.choose (hz i)).getD i (0, 0) = Classical.choose (hz i) := by simp [List.getD, hil']
        rw [e]
        exact Classical.choose_spec (hz i) hil'
      · simp
        have : len ≤ maxLen := Nat.le_trans hl hm
        unfold maxLen at this
        omega
end Go.Proofs.YtbdihcpehadbjaaDoor
