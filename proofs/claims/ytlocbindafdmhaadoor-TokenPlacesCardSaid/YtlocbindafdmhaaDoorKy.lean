/- slices.Equal at two rows of the same tokens. -/
import Derived.Test.YtlocbindafdmhaaDoorKq
import Derived.Laws.StructEq
namespace Go.Proofs.YtlocbindafdmhaaDoor
open Go.RowKit

theorem tkRow_at (L : List Tk) : ∀ (k j : Nat) (x : Tk), L[k]? = some x → j < 5 → (tkRow L)[5 * k + j]? = (tkCells x)[j]? := by
  induction L with
  | nil => intro k j x h; simp at h
  | cons a L ih =>
    intro k j x h hj
    have e : tkRow (a :: L) = tkCells a ++ tkRow L := rfl
    have hl : (tkCells a).length = 5 := rfl
    cases k with
    | zero =>
      simp at h; subst h
      rw [e, List.getElem?_append_left (by omega)]; congr 1; omega
    | succ k =>
      rw [e, List.getElem?_append_right (by omega), hl, show 5 * (k + 1) + j - 5 = 5 * k + j by omega]
      exact ih k j x (by simpa using h) hj
/-- the five cells of a token in a row -/
theorem row_cells {w : World} {b : Nat} {g : Nat} {n cap : Nat} {L : List Tk} (h : w.ownsRow b 33 5 (.slice (some ⟨g, 0, none⟩) n cap) L.length (tkRow L)) (k : Nat) (x : Tk) (hx : L[k]? = some x) :
    w.cell? ⟨g, k * 5, none⟩ = some (.int .i64 (x.1.k : Int)) ∧ w.cell? ⟨g, k * 5 + 1, none⟩ = some (.string ⟨x.1.t.toArray⟩) ∧ w.cell? ⟨g, k * 5 + 2, none⟩ = some (.int .i64 (x.1.n : Int)) ∧ w.cell? ⟨g, k * 5 + 3, none⟩ = some (.int .i64 (x.2.1 : Int)) ∧ w.cell? ⟨g, k * 5 + 4, none⟩ = some (.int .i64 (x.2.2 : Int)) := by
  have key : ∀ j u, j < 5 → (tkCells x)[j]? = some u → w.cell? ⟨g, k * 5 + j, none⟩ = some u := by
    intro j u hj hu
    have := h.cells (g := g) rfl (5 * k + j) u (by rw [tkRow_at L k j x hx hj]; exact hu)
    rw [show 5 * k + j = k * 5 + j by omega] at this
    have e : (⟨g, 0, none⟩ : Addr).add (k * 5 + j) = ⟨g, k * 5 + j, none⟩ := by
      by_cases h0 : k * 5 + j = 0
      · rw [h0]; rfl
      · simp [Addr.add]; omega
    rw [e] at this
    exact this
  exact ⟨key 0 _ (by omega) rfl, key 1 _ (by omega) rfl, key 2 _ (by omega) rfl, key 3 _ (by omega) rfl, key 4 _ (by omega) rfl⟩
theorem own_heap {w wr : World} {b n : Nat} {v : Value} {xs : List Value} (hh : wr.heap = w.heap) (h : w.ownsRow b 33 5 v n xs) : wr.ownsRow b 33 5 v n xs := by
  unfold World.ownsRow at h ⊢; rw [hh]; exact h
theorem own_form {w : World} {b : Nat} {v : Value} {L : List Tk} (h : w.ownsRow b 33 5 v L.length (tkRow L)) : (L = [] ∧ ∃ o c, v = .slice o 0 c) ∨ (∃ g c, v = .slice (some ⟨g, 0, none⟩) L.length c) := by
  rcases h.2 with ⟨hv, hn⟩ | ⟨g, cap, cur, hv, _⟩
  · exact .inl ⟨List.eq_nil_of_length_eq_zero hn, none, 0, hv⟩
  · exact .inr ⟨g, cap, hv⟩

set_option maxHeartbeats 3200000 in
set_option maxRecDepth 100000 in
theorem equal_some (L : List Tk) (g1 g2 c1 c2 b1 b2 : Nat) (w : World) (hl : L.length ≤ 1073741824) (h1 : w.ownsRow b1 33 5 (.slice (some ⟨g1, 0, none⟩) L.length c1) L.length (tkRow L)) (h2 : w.ownsRow b2 33 5 (.slice (some ⟨g2, 0, none⟩) L.length c2) L.length (tkRow L)) :
    Calls Tryd.prog 13 #[.slice (some ⟨g1, 0, none⟩) L.length c1, .slice (some ⟨g2, 0, none⟩) L.length c2] w fun e w' => e = .returned (.bool true) ∧ Below w.heap.size w w' := by
  have H1 := Lib.hid h1
  have H2 := Lib.hid h2
  clear h1 h2
  go_enter Tryd.func13, Tryd.ntmps13
  go_wp2_with fail
  go_loopg [13] (L.length) (fun g i wr => ∃ k : Nat, k + g = L.length ∧ i = .int .i64 k ∧ wr.heap = w.heap ∧ Below w.heap.size w wr)
  case atStart => exact ⟨0, by omega, rfl, rfl, Below.refl _ _⟩
  case round =>
    obtain ⟨k, hk, rfl, hh, hB⟩ := hrel
    have hkl : k ≤ L.length := by omega
    have HK := Lib.hid hk
    have HH := Lib.hid hh
    have HB := Lib.hid hB
    clear hk hh hB
    by_cases hlt : k < L.length
    · obtain ⟨x, hx⟩ : ∃ x, L[k]? = some x := ⟨_, List.getElem?_eq_getElem hlt⟩
      obtain ⟨a0, a1, a2, a3, a4⟩ := row_cells (own_heap HH.out H1.out) k x hx
      obtain ⟨d0, d1, d2, d3, d4⟩ := row_cells (own_heap HH.out H2.out) k x hx
      obtain ⟨⟨xk, xt, xn⟩, xl, xc⟩ := x
      simp only at a0 a1 a2 a3 a4 d0 d1 d2 d3 d4
      generalize (⟨xt.toArray⟩ : ByteArray) = y at a1 d1
      clear hx
      have p1 : (k : Int) < (L.length : Int) := by omega
      go_wp2_with fail
      go_quiet (fail)
      go_wp2_with fail
      go_roundg (gk - 1)
      case measure => have := HK.out; omega
      case rel => exact ⟨k + 1, by have := HK.out; omega, by go_num, HH.out, below_drewN HB.out _⟩
    · go_wp2_with fail
      go_ret
      exact ⟨rfl, HB.out⟩
theorem equal_none (o1 o2 : Option Addr) (c1 c2 : Nat) (w : World) :
    Calls Tryd.prog 13 #[.slice o1 0 c1, .slice o2 0 c2] w fun e w' => e = .returned (.bool true) ∧ Below w.heap.size w w' := by
  go_enter Tryd.func13, Tryd.ntmps13
  go_wp2_with fail
  go_loopg [13] (1) (fun _ i wr => i = .int .i64 0 ∧ w = wr)
  case atStart => exact ⟨rfl, rfl⟩
  case round =>
    obtain ⟨rfl, rfl⟩ := hrel
    go_wp2_with fail
    go_ret
    exact ⟨rfl, Below.refl _ _⟩
/-- slices.Equal at two rows of the same tokens -/
theorem equal_same (L : List Tk) (v1 v2 : Value) (b1 b2 : Nat) (w : World) (hl : L.length ≤ 1073741824) (h1 : w.ownsRow b1 33 5 v1 L.length (tkRow L)) (h2 : w.ownsRow b2 33 5 v2 L.length (tkRow L)) :
    Calls Tryd.prog 13 #[v1, v2] w fun e w' => e = .returned (.bool true) ∧ Below w.heap.size w w' := by
  rcases own_form h1 with ⟨rfl, o1, c1, rfl⟩ | ⟨g1, c1, rfl⟩
  · rcases own_form h2 with ⟨_, o2, c2, rfl⟩ | ⟨g2, c2, rfl⟩
    · exact equal_none _ _ _ _ w
    · exact equal_none _ _ _ _ w
  · rcases own_form h2 with ⟨rfl, o2, c2, rfl⟩ | ⟨g2, c2, rfl⟩
    · exact equal_none _ _ _ _ w
    · exact equal_some L g1 g2 c1 c2 b1 b2 w hl h1 h2
end Go.Proofs.YtlocbindafdmhaaDoor
