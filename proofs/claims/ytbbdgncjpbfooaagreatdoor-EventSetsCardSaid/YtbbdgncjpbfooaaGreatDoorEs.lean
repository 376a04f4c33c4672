/- Two fields, two events compared: Same of the reference. -/
import Derived.Test.YtbbdgncjpbfooaaGreatDoorEr
import Derived.Laws.StructEq
namespace Go.Proofs.YtbbdgncjpbfooaaGreatDoor
open Go.RowKit

/-- two fields are equal -/
def fdEq (f g : Fd) : Bool := (f.nm.toList == g.nm.toList) && ((f.v.k == g.v.k) && ((f.v.n == g.v.n) && (f.v.s.toList == g.v.s.toList)))
theorem fd_neq (a b c d : ByteArray) (i j k l : Int) (w : World) :
    (binOp .neq 49 (.agg #[.string a, .int .i64 i, .int .i64 j, .string b]) (.agg #[.string c, .int .i64 k, .int .i64 l, .string d])).run Tryz.prog w = .ok (.bool (!(fdEq ⟨a, i, j, b⟩ ⟨c, k, l, d⟩))) w := by
  unfold fdEq
  cases h1 : (a.toList == c.toList) <;> cases h2 : (i == k) <;> cases h3 : (j == l) <;> cases h4 : (b.toList == d.toList) <;> go_simp <;> simp [h1, h2, h3, h4]
end Go.Proofs.YtbbdgncjpbfooaaGreatDoor
