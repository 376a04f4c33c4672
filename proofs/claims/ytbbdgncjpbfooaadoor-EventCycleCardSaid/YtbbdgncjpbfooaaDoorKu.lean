/- number of the reference: what a call returns. -/
import Derived.Test.YtbbdgncjpbfooaaDoorKt
namespace Go.Proofs.YtbbdgncjpbfooaaDoor
open Go.RowKit

theorem dig_range (c : UInt8) (h : isDig c = true) : 48 ≤ (c.toNat : Int) ∧ (c.toNat : Int) ≤ 57 := by unfold isDig at h; simp at h; omega
theorem dval_from (s : ByteArray) (i k : Nat) (hk : i + k < s.size) (h : 48 ≤ (s[i + k].toNat : Int)) : ((dval ((s.data.toList.drop i).take (k + 1)) : Nat) : Int) = 10 * ((dval ((s.data.toList.drop i).take k) : Nat) : Int) + ((s[i + k].toNat : Int) - 48) := by
  rw [take_from s i k hk, dval_snoc]; omega

end Go.Proofs.YtbbdgncjpbfooaaDoor
