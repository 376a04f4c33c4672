/- A token that comes in by value: its fields. -/
import Derived.Test.YtlocbindafdmhaaDoorRq
namespace Go.Proofs.YtlocbindafdmhaaDoor
open Go.ChangeShapes Go.WideShapes Go.ChangeAt Go.WideMaps Go.WideElems Go.RowKit

theorem cInt : Tryd.prog.cellsOf 3 = 1 := by kernel_rfl
theorem cStr : Tryd.prog.cellsOf 9 = 1 := by kernel_rfl
theorem cPos : Tryd.prog.cellsOf 25 = 2 := by kernel_rfl
theorem cTok : Tryd.prog.cellsOf 33 = 5 := by kernel_rfl
section
variable {H : Type} {enc : TypeId × Value → H} {w : World} {base : Nat} {spare : Nat → Bool} {held : Bool}
/-- the five cells of a token, as they are read -/
theorem tok_cells {n : Nat} {c0 c1 c2 c3 c4 : Value} {x : DataW H × List MemPlace} (h : DataW.trod enc Tryd.prog w base spare held n 33 [c0, c1, c2, c3, c4] = some x) :
    ∃ (k m l c : Int) (u : ByteArray), c0 = .int .i64 k ∧ c1 = .string u ∧ c2 = .int .i64 m ∧ c3 = .int .i64 l ∧ c4 = .int .i64 c ∧ u.size ≤ maxLen := by
  obtain ⟨xs, n, _, hx, _, hlen, hg⟩ := DataW.trod_struct Tryd.underlying33 h
  match xs, hlen with
  | [y0, y1, y2, y3], _ =>
    have g0 := hg 0 _ rfl
    have g1 := hg 1 _ rfl
    have g2 := hg 2 _ rfl
    have g3 := hg 3 _ rfl
    simp [cInt, cStr, cPos] at g0 g1 g2 g3
    obtain ⟨k, e0, _, _⟩ := DataW.trod_int Tryd.underlying3 g0
    obtain ⟨u, e1, _, hu⟩ := DataW.trod_string Tryd.underlying9 g1
    obtain ⟨m, e2, _, _⟩ := DataW.trod_int Tryd.underlying3 g2
    obtain ⟨zs, n', _, _, _, hlen', hg'⟩ := DataW.trod_struct Tryd.underlying25 g3
    match zs, hlen' with
    | [z0, z1], _ =>
      have g4 := hg' 0 _ rfl
      have g5 := hg' 1 _ rfl
      simp [cInt] at g4 g5
      obtain ⟨l, e3, _, _⟩ := DataW.trod_int Tryd.underlying3 g4
      obtain ⟨c, e4, _, _⟩ := DataW.trod_int Tryd.underlying3 g5
      simp at e0 e1 e2 e3 e4
      exact ⟨k, m, l, c, u, e0, e1, e2, e3, e4, hu⟩
theorem open_five {P : Program} {r : Reach} {b0 : Nat} {t : TypeId} {fs : Array Field} {v : Value} (hs : P.underlying t = some (.struct fs)) (hC : P.cellsOf t = 5) (hv : Value.okWide P w r b0 t v) : ∃ c0 c1 c2 c3 c4, v = .agg #[c0, c1, c2, c3, c4] := by
  obtain ⟨cs, rfl, hsz⟩ := okWide_struct hs hv
  obtain ⟨q⟩ := cs
  match q, hsz.trans hC with
  | [c0, c1, c2, c3, c4], _ => exact ⟨c0, c1, c2, c3, c4, rfl⟩
set_option maxRecDepth 100000 in
theorem open_token {r : Reach} {b0 : Nat} {v : Value} {d : DataW H} {p : List MemPlace} (hv : Value.okWide Tryd.prog w r b0 33 v) (h : DataW.Trod enc Tryd.prog w base spare held 33 v d p) :
    ∃ (k m l c : Int) (u : ByteArray), v = .agg #[.int .i64 k, .string u, .int .i64 m, .int .i64 l, .int .i64 c] ∧ u.size ≤ maxLen := by
  obtain ⟨c0, c1, c2, c3, c4, rfl⟩ := open_five Tryd.underlying33 cTok hv
  obtain ⟨fuel, hf⟩ := h
  obtain ⟨k, m, l, c, u, rfl, rfl, rfl, rfl, rfl, hu⟩ := tok_cells (c0 := c0) (c1 := c1) (c2 := c2) (c3 := c3) (c4 := c4) hf
  exact ⟨k, m, l, c, u, rfl, hu⟩
end
end Go.Proofs.YtlocbindafdmhaaDoor
