/- The reader of package token: how it goes on. -/
import Derived.Test.YtbbdgncjpbfooaaDoorKb
namespace Go.Proofs.YtbbdgncjpbfooaaDoor
open Go.RowKit

theorem adv_nl (p : Nat × Nat) (c : UInt8) (h : (c.toNat : Int) = 10) : adv p c = (p.1 + 1, 1) := by unfold adv; rw [if_pos (by omega)]
theorem adv_no (p : Nat × Nat) (c : UInt8) (h : (c.toNat : Int) ≠ 10) : adv p c = (p.1, p.2 + 1) := by unfold adv; rw [if_neg (by omega)]

end Go.Proofs.YtbbdgncjpbfooaaDoor
