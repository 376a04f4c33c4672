/- A slice of bytes that came in: what its reading gives the walk. -/
import Derived.Test.YtlocbindafdmhaaDoorRu
import Derived.Test.YtlocbindafdmhaaDoorPl
import Derived.OpenShut
import Derived.ChangeSlices
namespace Go.Proofs.YtlocbindafdmhaaDoor
open Go.ChangeShapes Go.WideShapes Go.ChangeAt Go.WideMaps Go.WideElems Go.RowKit Go.Deep

set_option maxRecDepth 100000 in
theorem open_u8s {H : Type} {enc : TypeId × Value → H} {W : World} {base : Nat} {v : Value} {d : DataW H} {p : List MemPlace}
    (hv : Value.okWide Tryd.prog W .any base 45 v) (h : DataW.Trod enc Tryd.prog W 0 (fun _ => true) true 45 v d p) :
    ∃ (A : Option Addr) (n cap : Nat) (K : List Nat), v = .slice A n cap ∧ KIn W A K ∧ (∀ x ∈ K, x ≤ 255) ∧ K.length = n ∧ n ≤ 9223372036854775807 := by
  obtain ⟨a0, len, cap, rfl⟩ := okWide_slice Tryd.underlying45 hv
  obtain ⟨fuel, hf⟩ := h
  rcases open_ints Tryd.underlying45 Tryd.underlying5 (by kernel_rfl) hf with ⟨hcs, _⟩ | ⟨a, len', cap', zs, hcs, _, hl, hm, hz, _, hc, hwf⟩
  · simp [Value.cells] at hcs
    obtain ⟨rfl, rfl, rfl⟩ := hcs
    exact ⟨none, 0, 0, [], rfl, fun i hi => by simp at hi, fun t ht => by simp at ht, rfl, by omega⟩
  · simp [Value.cells] at hcs
    obtain ⟨rfl, rfl, rfl⟩ := hcs
    simp only [if_true] at hz
    have hml : maxLen = 9223372036854775807 := rfl
    have hb : ∀ n ∈ zs, 0 ≤ n ∧ n ≤ 255 := fun n hn => bounds_u8 (hwf n hn)
    refine ⟨some a, len, cap, (zs.take len).map Int.toNat, rfl, ?_, ?_, by simp; omega, by omega⟩
    · intro i hi
      have hi1 : i < zs.length := by simp at hi; omega
      have h1 := hc i hi1
      refine ⟨a, rfl, World.block_lt_of_cell? W _ h1, ?_⟩
      rw [h1]
      have h2 := hb zs[i] (List.getElem_mem hi1)
      have e : zs.getD i 0 = zs[i] := by simp [List.getD, List.getElem?_eq_getElem hi1]
      rw [e]
      simp only [List.getElem_map, List.getElem_take]
      rw [Int.toNat_of_nonneg h2.1]
    · intro x hx
      obtain ⟨y, hy, rfl⟩ := List.mem_map.1 hx
      have := hb y (List.mem_of_mem_take hy)
      omega
end Go.Proofs.YtlocbindafdmhaaDoor
