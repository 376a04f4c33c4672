/- Symbol of package token and of the reference: what a call returns. -/
import Derived.Test.YtbbdgncjpbfooaaDoorKb
import Derived.Test.YtbbdgncjpbfooaaDoorShelfK
import Derived.Deep.LoopGhost
import Derived.Lib.Strings
import Derived.Lib.Builder
namespace Go.Proofs.YtbbdgncjpbfooaaDoor
open Go.RowKit

/-- the symbols as they lie in memory -/
def symCells : Array Value := (syms.map fun x => Value.string ⟨x.toArray⟩).toArray
theorem symCells_eq : symCells = (syms.map fun x => Value.string ⟨x.toArray⟩).toArray := rfl
/-- a slice of the symbols in a block of its own -/
def SymW (w w' : World) : Prop := w' = w.alloc (.cells symCells 9)
theorem sym_len : syms.length = 33 := rfl
theorem SymW.below {w w' : World} (h : SymW w w') : Below w.heap.size w w' := by unfold SymW at h; rw [h]; exact below_alloc _ _
theorem SymW.cell {w w' : World} (h : SymW w w') (k : Nat) (hk : k < 33) : ∃ y : ByteArray, syms[k]? = some y.data.toList ∧ w'.cell? ⟨w.heap.size, k, none⟩ = some (.string y) := by
  have hk' : k < syms.length := by rw [sym_len]; exact hk
  refine ⟨⟨(syms[k]).toArray⟩, List.getElem?_eq_getElem hk', ?_⟩
  unfold SymW at h
  subst h
  have hb : (w.alloc (.cells symCells 9)).heap[w.heap.size]? = some (.cells symCells 9 (0, 0)) := Array.getElem?_push_size ..
  have hs : symCells[k]? = some (.string ⟨(syms[k]).toArray⟩) := by
    rw [symCells_eq, List.getElem?_toArray, List.getElem?_map, List.getElem?_eq_getElem hk']; rfl
  rw [Lib.cell_of_heap hb, hs]

theorem sym_hit (l : List UInt8) (k : Nat) (x : List UInt8) (hx : syms[k]? = some x) (h : ∀ y ∈ syms.take k, y.isPrefixOf l = false) (hp : x.isPrefixOf l = true) : symOf l = some x := by
  obtain ⟨hk, hx⟩ := List.getElem?_eq_some_iff.1 hx
  unfold symOf
  conv => lhs; rw [← List.take_append_drop k syms, List.drop_eq_getElem_cons hk, hx]
  rw [List.find?_append, List.find?_eq_none.2 (fun y hy => by simp [h y hy]), Option.none_or, List.find?_cons, hp]
theorem sym_none (l : List UInt8) (k : Nat) (hk : 33 ≤ k) (h : ∀ y ∈ syms.take k, y.isPrefixOf l = false) : symOf l = none := by
  rw [List.take_of_length_le (by rw [sym_len]; exact hk)] at h
  exact List.find?_eq_none.2 (fun y hy => by simp [h y hy])
theorem sym_more (l : List UInt8) (k : Nat) (x : List UInt8) (hx : syms[k]? = some x) (h : ∀ y ∈ syms.take k, y.isPrefixOf l = false) (hp : x.isPrefixOf l = false) : ∀ y ∈ syms.take (k + 1), y.isPrefixOf l = false := by
  obtain ⟨hk, hx⟩ := List.getElem?_eq_some_iff.1 hx
  intro y hy
  rw [List.take_succ_eq_append_getElem hk] at hy
  rcases List.mem_append.1 hy with h1 | h1
  · exact h y h1
  · have : y = x := by rw [← hx]; simpa using h1
    subst this; exact hp
/-- what Symbol returns -/
def symRet : Option (List UInt8) → Ending
  | some x => .returned (.tuple #[.string ⟨x.toArray⟩, .bool true])
  | none => .returned (.tuple #[.string ⟨#[]⟩, .bool false])
def rsymRet : Option (List UInt8) → Ending
  | some x => .returned (.string ⟨x.toArray⟩)
  | none => .returned (.string ⟨#[]⟩)

theorem begins_no (s t : ByteArray) (h : s.size < t.size) : t.data.toList.isPrefixOf s.data.toList = false := by
  cases hp : t.data.toList.isPrefixOf s.data.toList
  · rfl
  · have := List.IsPrefix.length_le (List.isPrefixOf_iff_prefix.1 hp)
    rw [len_byte, len_byte] at this; omega
theorem begins_is (s t : ByteArray) : ((s.extract 0 t.size).toList == t.toList) = t.data.toList.isPrefixOf s.data.toList := by
  rw [ByteArray.toList_eq, ByteArray.toList_eq, Lib.extract_data, Bool.eq_iff_iff, beq_iff_eq, List.isPrefixOf_iff_prefix, List.drop_zero, Nat.sub_zero, List.prefix_iff_eq_take, len_byte]
  exact ⟨fun h => h.symm, fun h => h.symm⟩
theorem sym_small (k : Nat) (y : ByteArray) (h : syms[k]? = some y.data.toList) : y.size ≤ 2 := by
  have h2 : ∀ x ∈ syms, x.length ≤ 2 := by decide
  have := h2 _ (List.mem_of_getElem? h)
  rw [len_byte] at this; exact this

end Go.Proofs.YtbbdgncjpbfooaaDoor
