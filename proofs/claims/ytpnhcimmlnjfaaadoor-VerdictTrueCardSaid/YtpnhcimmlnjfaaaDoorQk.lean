/- verdict: given, Closed, Cover, Pump, Opposite: what a call returns. -/
import Derived.Test.YtpnhcimmlnjfaaaDoorQg
namespace Go.Proofs.YtpnhcimmlnjfaaaDoor
open Go.Lib (hid)
open Go.RowKit

/-- the opposite claim -/
def oppV (k : Int) : Int := if 1 ≤ k ∧ k ≤ 10 then (if k % 2 = 1 then k + 1 else k - 1) else 0
def oppE (k : Int) : Int := if 1 ≤ k ∧ k ≤ 10 then 0 else 2
theorem vopp_any (k : Int) (w : World) : Calls Tryd.prog 17 #[.int .i64 k] w fun e w' => e = .returned (.tuple #[.int .i64 (oppV k), .int .i64 (oppE k)]) ∧ Below w.heap.size w w' := by
 by_cases h1 : k < 1
 · have e1 := hid (show oppV k = 0 from if_neg (by omega))
   have e2 := hid (show oppE k = 2 from if_neg (by omega))
   rw [e1.out, e2.out]
   go_enter Tryd.func17, Tryd.ntmps17
   go_wp2
   go_ret2
   exact ⟨rfl, Below.refl _ _⟩
 by_cases h2 : 10 < k
 · have e1 := hid (show oppV k = 0 from if_neg (by omega))
   have e2 := hid (show oppE k = 2 from if_neg (by omega))
   have q1 : decide (k < 1) = false := by simpa using h1
   rw [e1.out, e2.out]
   go_enter Tryd.func17, Tryd.ntmps17
   go_wp2
   go_ret2
   exact ⟨rfl, Below.refl _ _⟩
 have hk : k = 1 ∨ k = 2 ∨ k = 3 ∨ k = 4 ∨ k = 5 ∨ k = 6 ∨ k = 7 ∨ k = 8 ∨ k = 9 ∨ k = 10 := by omega
 rcases hk with rfl | rfl | rfl | rfl | rfl | rfl | rfl | rfl | rfl | rfl
 all_goals
  clear h1 h2
  go_enter Tryd.func17, Tryd.ntmps17
  go_wp2
  go_ret2
  exact ⟨by kernel_rfl, Below.refl _ _⟩
end Go.Proofs.YtpnhcimmlnjfaaaDoor
