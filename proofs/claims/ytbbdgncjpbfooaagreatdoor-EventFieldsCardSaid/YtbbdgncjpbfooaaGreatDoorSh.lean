/- A value that came in by value: its cells, as they are read. -/
import Derived.Test.YtbbdgncjpbfooaaGreatDoorSe
namespace Go.Proofs.YtbbdgncjpbfooaaGreatDoor
open Go.ChangeShapes Go.WideShapes Go.ChangeAt Go.WideMaps Go.WideElems Go.RowKit Go.Deep

theorem open_three {P : Program} {w : World} {r : Reach} {b0 : Nat} {t : TypeId} {fs : Array Field} {v : Value} (hs : P.underlying t = some (.struct fs)) (hC : P.cellsOf t = 3) (hv : Value.okWide P w r b0 t v) : ∃ c0 c1 c2, v = .agg #[c0, c1, c2] := by
  obtain ⟨cs, rfl, hsz⟩ := okWide_struct hs hv
  obtain ⟨q⟩ := cs
  match q, hsz.trans hC with
  | [c0, c1, c2], _ => exact ⟨c0, c1, c2, rfl⟩
set_option maxRecDepth 100000 in
theorem open_value {H : Type} {enc : TypeId × Value → H} {W : World} {base : Nat} {v : Value} {d : DataW H} {p : List MemPlace}
    (hv : Value.okWide Tryz.prog W .any base 39 v) (h : DataW.Trod enc Tryz.prog W 0 (fun _ => true) true 39 v d p) :
    ∃ x : Vl, v = .agg #[.int .i64 x.k, .int .i64 x.n, .string x.s] ∧ x.s.size ≤ 9223372036854775807 := by
  obtain ⟨c0, c1, c2, rfl⟩ := open_three Tryz.underlying39 c_val hv
  obtain ⟨fuel, hf⟩ := h
  obtain ⟨x, rfl, rfl, rfl, hs, _⟩ := val_cells hf
  exact ⟨x, rfl, hs⟩
end Go.Proofs.YtbbdgncjpbfooaaGreatDoor
