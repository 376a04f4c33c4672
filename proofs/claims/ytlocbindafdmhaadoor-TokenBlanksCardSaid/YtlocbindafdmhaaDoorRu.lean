/- A slice of tokens that came in: what its reading gives the walk. The table of strconv. -/
import Derived.Test.YtlocbindafdmhaaDoorRs
import Derived.Test.YtlocbindafdmhaaDoorNd
import Derived.Deep.Slices
import Derived.ChangeSame
namespace Go.Proofs.YtlocbindafdmhaaDoor
open Go.ChangeShapes Go.WideShapes Go.ChangeAt Go.WideMaps Go.WideElems Go.RowKit Go.Deep

theorem tPow : (Tryd.prog.globals[5]?).map (·.type) = some 140 := by kernel_rfl
theorem pow_tab {H : Type} : (Rows.laid_internal_strconv_uint64pow10 : DataW H) = Lib.tabData .u64 Lib.pow10Tab := by rfl
theorem tb_of_laid {W : World} (h : laidMetH Tryd.prog laid5 W) : Tb W := by
  rw [MakeChecks.laidMetH_plain _ _ _ (by kernel_rfl)] at h
  obtain ⟨ps, ⟨g0, t0, cs0, f0, p0, q0, hg0, ht0, hv0, hd0, ⟨g1, t1, cs1, f1, p1, q1, hg1, ht1, hv1, hd1, ⟨g2, t2, cs2, f2, p2, q2, hg2, ht2, hv2, hd2, _, _⟩, _⟩, _⟩, _⟩ := h
  obtain rfl := Option.some.inj (gPow.symm.trans hg2)
  obtain rfl := Option.some.inj (tPow.symm.trans ht2)
  unfold Tb Lib.TabIs
  rw [pow_tab] at hd2
  rw [hv2, ← Lib.cells_of_tab Tryd.underlying140 Tryd.underlying95 (by kernel_rfl) (by kernel_rfl) hd2]
theorem add_plain' (b off i : Nat) : (⟨b, off, none⟩ : Addr).add i = ⟨b, off + i, none⟩ := by
  unfold Addr.add
  split
  · rename_i h; have : i = 0 := by simpa using h
    subst this; rfl
  · rfl
instance : Inhabited Td := ⟨⟨0, ⟨#[]⟩, 0, 0, 0⟩⟩
set_option maxRecDepth 100000 in
theorem open_tokens {H : Type} {enc : TypeId × Value → H} {W : World} {base : Nat} {v : Value} {d : DataW H} {p : List MemPlace}
    (hv : Value.okWide Tryd.prog W .any base 23 v) (h : DataW.Trod enc Tryd.prog W 0 (fun _ => true) true 23 v d p) :
    ∃ (A : Option Addr) (n cap : Nat) (L : List Td), v = .slice A n cap ∧ TkIn W A L ∧ (∀ t ∈ L, t.u.size ≤ 9223372036854775807) ∧ L.length = n ∧ n ≤ cap ∧ cap ≤ 9223372036854775807 := by
  obtain ⟨a0, len, cap, rfl⟩ := okWide_slice Tryd.underlying23 hv
  obtain ⟨fuel, hf⟩ := h
  rcases open_slice Tryd.underlying23 hf with ⟨hcs, _⟩ | ⟨a, len', cap', m, n, D, Pl, hcs, hb, hl, hm, hmm, hx, hi⟩
  · simp [Value.cells] at hcs
    obtain ⟨rfl, rfl, rfl⟩ := hcs
    exact ⟨none, 0, 0, [], rfl, fun i hi => by simp at hi, fun t ht => by simp at ht, rfl, Nat.le_refl _, by omega⟩
  · simp [Value.cells] at hcs
    obtain ⟨rfl, rfl, rfl⟩ := hcs
    rw [cTok] at hi
    simp only [if_true] at hmm
    subst hmm
    have key : ∀ i, i < len → ∃ t : Td, t.u.size ≤ maxLen ∧ (a.add (i * 5)).block < W.heap.size ∧ TdAt W (a.add (i * 5)) t := by
      intro i hil
      obtain ⟨cs', hc, ht⟩ := hi i (by omega)
      obtain ⟨_, hcl, hat⟩ := World.cells?_some hc
      match cs', hcl with
      | [c0, c1, c2, c3, c4], _ =>
        obtain ⟨k, m, l, c, u, rfl, rfl, rfl, rfl, rfl, hu⟩ := tok_cells ht
        have a0 := hat 0 (by omega)
        have a1 := hat 1 (by omega)
        have a2 := hat 2 (by omega)
        have a3 := hat 3 (by omega)
        have a4 := hat 4 (by omega)
        generalize a.add (i * 5) = q at *
        refine ⟨⟨k, u, m, l, c⟩, hu, ?_, ?_⟩
        · exact block_lt_of_cell (by simpa [Addr.add] using a0)
        · refine ⟨?_, ?_, ?_, ?_, ?_⟩
          · simpa [Addr.add] using a0
          · simpa [Addr.add] using a1
          · simpa [Addr.add] using a2
          · simpa [Addr.add] using a3
          · simpa [Addr.add] using a4
    obtain ⟨f, hf'⟩ := choose_lt key
    have hml : maxLen = 9223372036854775807 := rfl
    refine ⟨some a, len, m, (List.range len).map f, rfl, ?_, ?_, by simp, hl, by omega⟩
    · intro i hil
      have hil' : i < len := by simpa using hil
      obtain ⟨_, h2, h3⟩ := hf' i hil'
      exact ⟨a, rfl, h2, by simpa using h3⟩
    · intro t ht
      obtain ⟨i, hi', rfl⟩ := List.mem_map.1 ht
      have := (hf' i (List.mem_range.1 hi')).1
      omega
end Go.Proofs.YtlocbindafdmhaaDoor
