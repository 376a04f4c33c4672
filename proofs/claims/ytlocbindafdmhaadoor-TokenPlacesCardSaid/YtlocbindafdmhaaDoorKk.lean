/- Symbol of package token and of the reference: what a call returns. -/
import Derived.Test.YtlocbindafdmhaaDoorKb
import Derived.Test.YtlocbindafdmhaaDoorShelfK
import Derived.Deep.LoopGhost
import Derived.Lib.Strings
import Derived.Lib.Builder
namespace Go.Proofs.YtlocbindafdmhaaDoor
open Go.RowKit

/-- the symbols as they lie in memory -/
def symCells : Array Value := (syms.map fun x => Value.string ⟨x.toArray⟩).toArray
theorem symCells_eq : symCells = (syms.map fun x => Value.string ⟨x.toArray⟩).toArray := rfl
/-- a slice of the symbols in a block of its own -/
def SymW (w w' : World) : Prop := w' = w.alloc (.cells symCells 9)
set_option maxRecDepth 100000 in
theorem symbols_any (w : World) : Calls Tryd.prog 34 #[] w fun e w' => e = .returned (.slice (some ⟨w.heap.size, 0, none⟩) 33 33) ∧ SymW w w' := by
  go_enter Tryd.func34, Tryd.ntmps34
  go_wp2_with fail
  go_ret
  exact ⟨rfl, rfl⟩
set_option maxRecDepth 100000 in
theorem rsymbols_any (w : World) : Calls Tryd.prog 35 #[] w fun e w' => e = .returned (.slice (some ⟨w.heap.size, 0, none⟩) 33 33) ∧ SymW w w' := by
  go_enter Tryd.func35, Tryd.ntmps35
  go_wp2_with fail
  go_ret
  exact ⟨rfl, rfl⟩
theorem sym_len : syms.length = 33 := rfl
theorem SymW.below {w w' : World} (h : SymW w w') : Below w.heap.size w w' := by unfold SymW at h; rw [h]; exact below_alloc _ _
theorem SymW.cell {w w' : World} (h : SymW w w') (k : Nat) (hk : k < 33) : ∃ y : ByteArray, syms[k]? = some y.data.toList ∧ w'.cell? ⟨w.heap.size, k, none⟩ = some (.string y) := by
  have hk' : k < syms.length := by rw [sym_len]; exact hk
  refine ⟨⟨(syms[k]).toArray⟩, List.getElem?_eq_getElem hk', ?_⟩
  unfold SymW at h
  subst h
  have hb : (w.alloc (.cells symCells 9)).heap[w.heap.size]? = some (.cells symCells 9 (0, 0)) := Array.getElem?_push_size ..
  have hs : symCells[k]? = some (.string ⟨(syms[k]).toArray⟩) := by
    rw [symCells_eq, List.getElem?_toArray, List.getElem?_map, List.getElem?_eq_getElem hk']; rfl
  rw [Lib.cell_of_heap hb, hs]

theorem sym_hit (l : List UInt8) (k : Nat) (x : List UInt8) (hx : syms[k]? = some x) (h : ∀ y ∈ syms.take k, y.isPrefixOf l = false) (hp : x.isPrefixOf l = true) : symOf l = some x := by
  obtain ⟨hk, hx⟩ := List.getElem?_eq_some_iff.1 hx
  unfold symOf
  conv => lhs; rw [← List.take_append_drop k syms, List.drop_eq_getElem_cons hk, hx]
  rw [List.find?_append, List.find?_eq_none.2 (fun y hy => by simp [h y hy]), Option.none_or, List.find?_cons, hp]
theorem sym_none (l : List UInt8) (k : Nat) (hk : 33 ≤ k) (h : ∀ y ∈ syms.take k, y.isPrefixOf l = false) : symOf l = none := by
  rw [List.take_of_length_le (by rw [sym_len]; exact hk)] at h
  exact List.find?_eq_none.2 (fun y hy => by simp [h y hy])
theorem sym_more (l : List UInt8) (k : Nat) (x : List UInt8) (hx : syms[k]? = some x) (h : ∀ y ∈ syms.take k, y.isPrefixOf l = false) (hp : x.isPrefixOf l = false) : ∀ y ∈ syms.take (k + 1), y.isPrefixOf l = false := by
  obtain ⟨hk, hx⟩ := List.getElem?_eq_some_iff.1 hx
  intro y hy
  rw [List.take_succ_eq_append_getElem hk] at hy
  rcases List.mem_append.1 hy with h1 | h1
  · exact h y h1
  · have : y = x := by rw [← hx]; simpa using h1
    subst this; exact hp
/-- what Symbol returns -/
def symRet : Option (List UInt8) → Ending
  | some x => .returned (.tuple #[.string ⟨x.toArray⟩, .bool true])
  | none => .returned (.tuple #[.string ⟨#[]⟩, .bool false])
def rsymRet : Option (List UInt8) → Ending
  | some x => .returned (.string ⟨x.toArray⟩)
  | none => .returned (.string ⟨#[]⟩)

set_option maxHeartbeats 800000 in
theorem symbol_any (s : ByteArray) (w : World) :
    Calls Tryd.prog 14 #[.string s] w fun e w' => e = symRet (symOf s.data.toList) ∧ Below w.heap.size w w' := by
  go_enter Tryd.func14, Tryd.ntmps14
  go_wp2_with fail
  ((with_reducible refine (symbols_any _).mono ?_); rintro e w1 ⟨rfl, hW⟩)
  have HB := Lib.hid hW.below
  have HW := Lib.hid hW
  have hz : w.heap.size < w1.heap.size := by unfold SymW at hW; rw [hW]; simp
  clear hW
  go_wp2_with fail
  go_loopg [8] (33) (fun g i wr => ∃ k : Nat, k + g = 33 ∧ i = .int .i64 k ∧ (∀ y ∈ syms.take k, y.isPrefixOf s.data.toList = false) ∧ w1 = wr)
  case atStart => exact ⟨0, by omega, rfl, by simp, rfl⟩
  case round =>
    obtain ⟨k, hk, rfl, hall, rfl⟩ := hrel
    have HA := Lib.hid hall
    have hle : k ≤ 33 := by omega
    have HK := Lib.hid hk
    clear hall hk
    by_cases hlt : k < 33
    · obtain ⟨y, hy, hc⟩ := HW.out.cell k hlt
      have HY := Lib.hid hy; clear hy
      cases hp : Lib.hasPrefix s.data.toList y.data.toList
      · have HP := Lib.hid hp
        have HN := Lib.hid (sym_more s.data.toList k _ HY.out HA.out hp)
        clear hp
        go_wp2_with fail
        ((with_reducible refine (Tryd.strings_HasPrefix s y _).mono ?_); rintro e wn ⟨rfl, rfl⟩)
        rw [HP.out]
        go_wp2_with fail
        go_roundg (gk - 1)
        case measure => have := HK.out; omega
        case rel => exact ⟨k + 1, by have := HK.out; omega, by go_num, HN.out, rfl⟩
      · have HP := Lib.hid hp
        have HV := Lib.hid (sym_hit s.data.toList k _ HY.out HA.out hp)
        clear hp
        go_wp2_with fail
        ((with_reducible refine (Tryd.strings_HasPrefix s y _).mono ?_); rintro e wn ⟨rfl, rfl⟩)
        rw [HP.out]
        go_wp2_with fail
        go_ret2
        exact ⟨by rw [HV.out]; rfl, HB.out⟩
    · have HV := Lib.hid (sym_none s.data.toList k (by omega) HA.out)
      go_wp2_with fail
      go_ret2
      exact ⟨by rw [HV.out]; rfl, HB.out⟩

theorem begins_no (s t : ByteArray) (h : s.size < t.size) : t.data.toList.isPrefixOf s.data.toList = false := by
  cases hp : t.data.toList.isPrefixOf s.data.toList
  · rfl
  · have := List.IsPrefix.length_le (List.isPrefixOf_iff_prefix.1 hp)
    rw [len_byte, len_byte] at this; omega
theorem begins_is (s t : ByteArray) : ((s.extract 0 t.size).toList == t.toList) = t.data.toList.isPrefixOf s.data.toList := by
  rw [ByteArray.toList_eq, ByteArray.toList_eq, Lib.extract_data, Bool.eq_iff_iff, beq_iff_eq, List.isPrefixOf_iff_prefix, List.drop_zero, Nat.sub_zero, List.prefix_iff_eq_take, len_byte]
  exact ⟨fun h => h.symm, fun h => h.symm⟩
set_option maxHeartbeats 400000 in
theorem begins_any (s t : ByteArray) (w : World) :
    Calls Tryd.prog 36 #[.string s, .string t] w fun e w' => e = .returned (.bool (t.data.toList.isPrefixOf s.data.toList)) ∧ w = w' := by
  by_cases h : s.size < t.size
  · have HV := Lib.hid (begins_no s t h)
    go_enter Tryd.func36, Tryd.ntmps36
    go_wp2_with fail
    go_ret
    exact ⟨ret_bool (by rw [HV.out]), rfl⟩
  · have HV := Lib.hid (begins_is s t)
    have h' : t.size ≤ s.size := by omega
    clear h
    go_enter Tryd.func36, Tryd.ntmps36
    go_wp2_with fail
    go_ret
    exact ⟨ret_bool HV.out, rfl⟩
theorem sym_small (k : Nat) (y : ByteArray) (h : syms[k]? = some y.data.toList) : y.size ≤ 2 := by
  have h2 : ∀ x ∈ syms, x.length ≤ 2 := by decide
  have := h2 _ (List.mem_of_getElem? h)
  rw [len_byte] at this; exact this

set_option maxHeartbeats 800000 in
theorem rsymbol_any (s : ByteArray) (w : World) :
    Calls Tryd.prog 15 #[.string s] w fun e w' => e = rsymRet (symOf s.data.toList) ∧ Below w.heap.size w w' := by
  go_enter Tryd.func15, Tryd.ntmps15
  go_wp2_with fail
  ((with_reducible refine (rsymbols_any _).mono ?_); rintro e w1 ⟨rfl, hW⟩)
  have HB := Lib.hid hW.below
  have HW := Lib.hid hW
  have hz : w.heap.size < w1.heap.size := by unfold SymW at hW; rw [hW]; simp
  clear hW
  go_wp2_with fail
  go_loopg [4] (33) (fun g i wr => ∃ k : Nat, k + g = 33 ∧ i = .int .i64 k ∧ (∀ y ∈ syms.take k, y.isPrefixOf s.data.toList = false) ∧ w1 = wr)
  case atStart => exact ⟨0, by omega, rfl, by simp, rfl⟩
  case round =>
    obtain ⟨k, hk, rfl, hall, rfl⟩ := hrel
    have HA := Lib.hid hall
    have hle : k ≤ 33 := by omega
    have HK := Lib.hid hk
    clear hall hk
    by_cases hlt : k < 33
    · obtain ⟨y, hy, hc⟩ := HW.out.cell k hlt
      have HY := Lib.hid hy; clear hy
      cases hp : y.data.toList.isPrefixOf s.data.toList
      · have HP := Lib.hid hp
        have HN := Lib.hid (sym_more s.data.toList k _ HY.out HA.out hp)
        clear hp
        go_wp2_with fail
        ((with_reducible refine (begins_any s y _).mono ?_); rintro e wn ⟨rfl, rfl⟩)
        rw [HP.out]
        go_wp2_with fail
        go_roundg (gk - 1)
        case measure => have := HK.out; omega
        case rel => exact ⟨k + 1, by have := HK.out; omega, by go_num, HN.out, rfl⟩
      · have HP := Lib.hid hp
        have HV := Lib.hid (sym_hit s.data.toList k _ HY.out HA.out hp)
        clear hp
        go_wp2_with fail
        ((with_reducible refine (begins_any s y _).mono ?_); rintro e wn ⟨rfl, rfl⟩)
        rw [HP.out]
        go_wp2_with fail
        go_ret
        exact ⟨by rw [HV.out]; rfl, HB.out⟩
    · have HV := Lib.hid (sym_none s.data.toList k (by omega) HA.out)
      go_wp2_with fail
      go_ret
      exact ⟨by rw [HV.out]; rfl, HB.out⟩
end Go.Proofs.YtlocbindafdmhaaDoor
