/- gcd, abs of package frac: what a call returns. -/
import Derived.Test.YtbdihcpehadbjaaDoorProg
import Derived.WalkKit
import Derived.WalkSpells
import Derived.WalkLawsBesides
import Derived.Deep.QuietTactic
import Derived.BigQuiet
import Derived.Lib.Hide
namespace Go.Proofs.YtbdihcpehadbjaaDoor
open Go.RowKit

theorem ret_int {k : IntKind} {a b : Int} (h : a = b) : Ending.returned (.int k a) = .returned (.int k b) := by rw [h]

/-- the greatest common divisor of two integers, as an integer -/
def gcv (a b : Int) : Int := (Nat.gcd a.natAbs b.natAbs : Int)

theorem gcv_zero (a : Int) (h : 0 ≤ a) : gcv a 0 = a := by unfold gcv; simp; omega
theorem gcv_step (a b : Int) (h0 : 0 ≤ a) (h : 0 < b) : gcv b (a % b) = gcv a b := by
  unfold gcv
  obtain ⟨x, rfl⟩ := Int.eq_ofNat_of_zero_le h0
  obtain ⟨y, rfl⟩ := Int.eq_ofNat_of_zero_le (Int.le_of_lt h)
  have : ((x : Int) % (y : Int)).natAbs = x % y := by omega
  rw [this]
  simp only [Int.natAbs_natCast]
  rw [Nat.gcd_comm x y, Nat.gcd_rec y x, Nat.gcd_comm]

set_option maxHeartbeats 400000 in
theorem gcd_any (a b : Int) (w : World) (ha : 0 ≤ a) (ha' : a ≤ 9223372036854775807) (hb : 0 ≤ b) (hb' : b ≤ 9223372036854775807) :
    Calls Tryd.prog 41 #[.int .i64 a, .int .i64 b] w fun e w' => e = .returned (.int .i64 (gcv a b)) ∧ Below w.heap.size w w' := by
  go_enter Tryd.func41, Tryd.ntmps41
  go_wp2
  go_loopw [0, 1] (fun x y wr => ∃ m n : Int, 0 ≤ m ∧ m ≤ 9223372036854775807 ∧ 0 ≤ n ∧ n ≤ 9223372036854775807 ∧ x = .int .i64 m ∧ y = .int .i64 n ∧ gcv m n = gcv a b ∧ Below w.heap.size w wr) (fun _ y _ => (intOf y).toNat)
  case atStart => exact ⟨a, b, ha, ha', hb, hb', rfl, rfl, rfl, Below.refl _ _⟩
  case round =>
    obtain ⟨m, n, hm, hm', hn, hn', rfl, rfl, hg, hbl⟩ := hrel
    have HG := Lib.hid hg; clear hg
    by_cases h0 : n = 0
    · have hz : (n != 0) = false := by simp [h0]
      have HZ := Lib.hid h0; clear h0
      go_wp2
      go_ret
      exact ⟨ret_int (by rw [← HG.out, HZ.out, gcv_zero m hm]), hbl⟩
    · have hz : (n != 0) = true := by simp [h0]
      have hp : 1 ≤ n := by omega
      clear h0
      go_wp2
      go_quiet (fail)
      go_wp2
      go_roundw
      case rel => exact ⟨n, m % n, by omega, by omega, Int.emod_nonneg _ (by omega), by have := Int.emod_lt_of_pos m (show 0 < n by omega); omega, rfl, rfl, by rw [gcv_step m n hm (by omega)]; exact HG.out, below_drewN hbl _⟩
      case measure => simp [intOf]; have := Int.emod_lt_of_pos m (show 0 < n by omega); have := Int.emod_nonneg m (show n ≠ 0 by omega); omega
end Go.Proofs.YtbdihcpehadbjaaDoor
