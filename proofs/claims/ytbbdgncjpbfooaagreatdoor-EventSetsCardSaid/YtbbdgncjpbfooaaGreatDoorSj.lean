/- A list of fields that came in, as it is read. -/
import Derived.Test.YtbbdgncjpbfooaaGreatDoorSe
namespace Go.Proofs.YtbbdgncjpbfooaaGreatDoor
open Go.ChangeShapes Go.WideShapes Go.ChangeAt Go.WideMaps Go.WideElems Go.RowKit Go.Deep

set_option maxRecDepth 100000 in
theorem open_fields {H : Type} {enc : TypeId × Value → H} {W : World} {base : Nat} {v : Value} {d : DataW H} {p : List MemPlace}
    (hv : Value.okWide Tryz.prog W .any base 22 v) (h : DataW.Trod enc Tryz.prog W 0 (fun _ => true) true 22 v d p) :
    ∃ (A : Option Addr) (n cap : Nat) (L : List Fd), v = .slice A n cap ∧ FdIn W A L ∧ L.length = n ∧ n ≤ cap ∧ cap ≤ 9223372036854775807 ∧ ∀ f ∈ L, f.nm.size ≤ 9223372036854775807 ∧ f.v.s.size ≤ 9223372036854775807 := by
  obtain ⟨a0, len, cap, rfl⟩ := okWide_slice Tryz.underlying22 hv
  obtain ⟨fuel, hf⟩ := h
  have hc : (Value.slice a0 len cap).cells.toList = [Value.slice a0 len cap] := rfl
  rw [hc] at hf
  obtain ⟨A, n, c, L, e, h1, h2, h3, h4, h5⟩ := open_fds hf
  exact ⟨A, n, c, L, e, h1, h2, h3, h4, h5⟩
end Go.Proofs.YtbbdgncjpbfooaaGreatDoor
