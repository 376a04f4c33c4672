/- Key of package token and of the reference: what a call returns. -/
import Derived.Test.YtlocbindafdmhaaDoorKk
namespace Go.Proofs.YtlocbindafdmhaaDoor
open Go.RowKit

/-- the key words -/
def keyL : List (List UInt8) := [[97, 110, 100], [101, 108, 115, 101], [102, 97, 108, 115, 101], [105, 102], [105, 110], [110, 111, 116], [111, 114], [116, 104, 101, 110], [116, 114, 117, 101]]
def keyB (l : List UInt8) : Bool := keyL.contains l

set_option maxHeartbeats 1600000 in
theorem tkey_any (s : ByteArray) (w : World) : Calls Tryd.prog 16 #[.string s] w fun e w' => e = .returned (.bool (keyB s.data.toList)) ∧ w = w' := by
  have hd := ByteArray.toList_eq s
  have HD := Lib.hid hd; clear hd
  by_cases hk : keyB s.data.toList = true
  · have hm : s.data.toList ∈ keyL := by unfold keyB at hk; simpa using hk
    have HK := Lib.hid hk; clear hk
    rw [← HD.out] at hm
    simp only [keyL, List.mem_cons, List.not_mem_nil, or_false] at hm
    rcases hm with h | h | h | h | h | h | h | h | h
    all_goals
      go_enter Tryd.func16, Tryd.ntmps16
      go_wp2_with fail
      go_ret
      exact ⟨ret_bool HK.out.symm, rfl⟩
  · have hf : keyB s.data.toList = false := by simpa using hk
    have hm : s.data.toList ∉ keyL := by unfold keyB at hf; simpa using hf
    have HK := Lib.hid hf; clear hk hf
    rw [← HD.out] at hm
    simp only [keyL, List.mem_cons, List.not_mem_nil, or_false, not_or] at hm
    obtain ⟨h1, h2, h3, h4, h5, h6, h7, h8, h9⟩ := hm
    have b1 : (s.toList == [97, 110, 100]) = false := by simpa using h1
    have b2 : (s.toList == [101, 108, 115, 101]) = false := by simpa using h2
    have b3 : (s.toList == [102, 97, 108, 115, 101]) = false := by simpa using h3
    have b4 : (s.toList == [105, 102]) = false := by simpa using h4
    have b5 : (s.toList == [105, 110]) = false := by simpa using h5
    have b6 : (s.toList == [110, 111, 116]) = false := by simpa using h6
    have b7 : (s.toList == [111, 114]) = false := by simpa using h7
    have b8 : (s.toList == [116, 104, 101, 110]) = false := by simpa using h8
    have b9 : (s.toList == [116, 114, 117, 101]) = false := by simpa using h9
    clear h1 h2 h3 h4 h5 h6 h7 h8 h9
    go_enter Tryd.func16, Tryd.ntmps16
    go_wp2_with fail
    go_ret
    exact ⟨ret_bool HK.out.symm, rfl⟩

def keyCells : Array Value := (keyL.map fun x => Value.string ⟨x.toArray⟩).toArray
theorem keyCells_eq : keyCells = (keyL.map fun x => Value.string ⟨x.toArray⟩).toArray := rfl
def KeyW (w w' : World) : Prop := w' = w.alloc (.cells keyCells 9)
set_option maxRecDepth 100000 in
theorem rkeys_any (w : World) : Calls Tryd.prog 38 #[] w fun e w' => e = .returned (.slice (some ⟨w.heap.size, 0, none⟩) 9 9) ∧ KeyW w w' := by
  go_enter Tryd.func38, Tryd.ntmps38
  go_wp2_with fail
  go_ret
  exact ⟨rfl, rfl⟩
theorem key_len : keyL.length = 9 := rfl
theorem KeyW.below {w w' : World} (h : KeyW w w') : Below w.heap.size w w' := by unfold KeyW at h; rw [h]; exact below_alloc _ _
theorem KeyW.cell {w w' : World} (h : KeyW w w') (k : Nat) (hk : k < 9) : ∃ y : ByteArray, keyL[k]? = some y.data.toList ∧ w'.cell? ⟨w.heap.size, k, none⟩ = some (.string y) := by
  have hk' : k < keyL.length := by rw [key_len]; exact hk
  refine ⟨⟨(keyL[k]).toArray⟩, List.getElem?_eq_getElem hk', ?_⟩
  unfold KeyW at h
  subst h
  have hb : (w.alloc (.cells keyCells 9)).heap[w.heap.size]? = some (.cells keyCells 9 (0, 0)) := Array.getElem?_push_size ..
  have hs : keyCells[k]? = some (.string ⟨(keyL[k]).toArray⟩) := by
    rw [keyCells_eq, List.getElem?_toArray, List.getElem?_map, List.getElem?_eq_getElem hk']; rfl
  rw [Lib.cell_of_heap hb, hs]
theorem key_hit (l : List UInt8) (k : Nat) (x : List UInt8) (hx : keyL[k]? = some x) (h : x = l) : keyB l = true := by
  subst h; unfold keyB; simpa using List.mem_of_getElem? hx
theorem key_more (l : List UInt8) (k : Nat) (x : List UInt8) (hx : keyL[k]? = some x) (h : ∀ y ∈ keyL.take k, y ≠ l) (hn : x ≠ l) : ∀ y ∈ keyL.take (k + 1), y ≠ l := by
  obtain ⟨hk, hx⟩ := List.getElem?_eq_some_iff.1 hx
  intro y hy
  rw [List.take_succ_eq_append_getElem hk] at hy
  rcases List.mem_append.1 hy with h1 | h1
  · exact h y h1
  · have : y = x := by rw [← hx]; simpa using h1
    subst this; exact hn
theorem key_none (l : List UInt8) (k : Nat) (hk : 9 ≤ k) (h : ∀ y ∈ keyL.take k, y ≠ l) : keyB l = false := by
  rw [List.take_of_length_le (by rw [key_len]; exact hk)] at h
  unfold keyB
  simp only [List.contains_eq_mem, decide_eq_false_iff_not]
  exact fun hm => h l hm rfl

/-- what Index answers of a list of key words -/
def IdxK (w : World) (l : List UInt8) (e : Ending) (w' : World) : Prop := w = w' ∧ ((keyB l = true ∧ ∃ k : Nat, k < 9 ∧ e = .returned (.int .i64 (k : Int))) ∨ (keyB l = false ∧ e = .returned (.int .i64 (-1))))
set_option maxHeartbeats 800000 in
theorem rindex_keys (s : ByteArray) (w w1 : World) (HW : Hid (KeyW w w1)) :
    Calls Tryd.prog 37 #[.slice (some ⟨w.heap.size, 0, none⟩) 9 9, .string s] w1 (IdxK w1 s.data.toList) := by
  go_enter Tryd.func37, Tryd.ntmps37
  go_wp2_with fail
  go_loopg [5] (9) (fun g i wr => ∃ k : Nat, k + g = 9 ∧ i = .int .i64 k ∧ (∀ y ∈ keyL.take k, y ≠ s.data.toList) ∧ w1 = wr)
  case atStart => exact ⟨0, by omega, rfl, by simp, rfl⟩
  case round =>
    obtain ⟨k, hk, rfl, hall, rfl⟩ := hrel
    have HA := Lib.hid hall
    have hle : k ≤ 9 := by omega
    have HK := Lib.hid hk
    clear hall hk
    by_cases hlt : k < 9
    · obtain ⟨y, hy, hc⟩ := HW.out.cell k hlt
      have HY := Lib.hid hy; clear hy
      by_cases he : y.data.toList = s.data.toList
      · have q1 : (y.toList == s.toList) = true := by rw [ByteArray.toList_eq, ByteArray.toList_eq, he]; simp
        have q2 : y.toList = s.toList := by rw [ByteArray.toList_eq, ByteArray.toList_eq, he]
        have HV := Lib.hid (key_hit s.data.toList k _ HY.out he)
        have Q2 := Lib.hid q2
        clear he q2
        go_wp2_with fail
        go_ret
        exact ⟨rfl, .inl ⟨HV.out, k, hlt, rfl⟩⟩
      · have q1 : (y.toList == s.toList) = false := by rw [ByteArray.toList_eq, ByteArray.toList_eq]; simpa using he
        have HN := Lib.hid (key_more s.data.toList k _ HY.out HA.out he)
        clear he
        go_wp2_with fail
        go_roundg (gk - 1)
        case measure => have := HK.out; omega
        case rel => exact ⟨k + 1, by have := HK.out; omega, by go_num, HN.out, rfl⟩
    · have HV := Lib.hid (key_none s.data.toList k (by omega) HA.out)
      go_wp2_with fail
      go_ret
      exact ⟨rfl, .inr ⟨HV.out, rfl⟩⟩
set_option maxHeartbeats 800000 in
theorem rkey_any (s : ByteArray) (w : World) : Calls Tryd.prog 17 #[.string s] w fun e w' => e = .returned (.bool (keyB s.data.toList)) ∧ Below w.heap.size w w' := by
  go_enter Tryd.func17, Tryd.ntmps17
  go_wp2_with fail
  ((with_reducible refine (rkeys_any _).mono ?_); rintro e w1 ⟨rfl, hW⟩)
  have HB := Lib.hid hW.below
  have HW := Lib.hid hW
  clear hW
  go_wp2_with fail
  ((with_reducible refine (rindex_keys s w w1 HW).mono ?_); rintro e w2 ⟨rfl, hQ⟩)
  rcases hQ with ⟨hk, k, hlt, rfl⟩ | ⟨hk, rfl⟩
  · have HK := Lib.hid hk; clear hk
    have h0 : (0 : Int) ≤ (k : Int) := by omega
    go_wp2_with fail
    go_ret
    exact ⟨ret_bool (by rw [HK.out]), HB.out⟩
  · have HK := Lib.hid hk; clear hk
    go_wp2_with fail
    go_ret
    exact ⟨ret_bool (by rw [HK.out]), HB.out⟩
end Go.Proofs.YtlocbindafdmhaaDoor
