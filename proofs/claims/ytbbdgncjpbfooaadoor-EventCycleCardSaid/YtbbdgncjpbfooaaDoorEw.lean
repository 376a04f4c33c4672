/- cmp.Less, slices.IsSorted at numbers that ascend: what a call returns. -/
import Derived.Test.YtbbdgncjpbfooaaDoorEv
namespace Go.Proofs.YtbbdgncjpbfooaaDoor
open Go.RowKit

theorem add_succ (ad : Addr) (j : Nat) : ad.add (j + 1) = ⟨ad.block, ad.off + (j + 1), none⟩ := by unfold Addr.add; rw [if_neg (by omega)]
theorem same_flip {P : Program} {f : FuncId} {args : Array Value} {w : World} {v : Value} (h : Calls P f args w fun e w' => e = .returned v ∧ w = w') : Calls P f args w fun e w' => e = .returned v ∧ w' = w := h.mono fun _ _ ⟨he, hw⟩ => ⟨he, hw.symm⟩
theorem isnan_any (x : Int) (w : World) : Calls Tryd.prog 31 #[.int .i64 x] w fun e w' => e = .returned (.bool false) ∧ w = w' := by
  go_enter Tryd.func31, Tryd.ntmps31
  go_wp2_with fail
  go_ret
  exact ⟨ret_bool (by simp), rfl⟩
theorem less_any (x y : Int) (w : World) : Calls Tryd.prog 20 #[.int .i64 x, .int .i64 y] w fun e w' => e = .returned (.bool (decide (x < y))) ∧ w = w' := by
  go_enter Tryd.func20, Tryd.ntmps20
  go_wp2_with fail
  ((with_reducible refine (isnan_any _ _).mono ?_); rintro e wn ⟨rfl, rfl⟩)
  go_wp2_with fail
  go_ret
  exact ⟨rfl, rfl⟩
/-- numbers that ascend -/
def Asc (Z : List Int) : Prop := ∀ i (h : i + 1 < Z.length), Z[i] ≤ Z[i + 1]
set_option maxHeartbeats 1600000 in
set_option maxRecDepth 100000 in
theorem sorted_true (A : Option Addr) (n cap : Nat) (Z : List Int) (w : World) (h : ZIn w A Z) (hn : Z.length = n) (hn2 : n ≤ 1000000) (ha : Asc Z) :
    Calls Tryd.prog 13 #[.slice A n cap] w fun e w' => e = .returned (.bool true) ∧ Below w.heap.size w w' := by
  have H0 := Lib.hid h
  have HN := Lib.hid hn
  have HA := Lib.hid ha
  clear h hn ha
  cases n with
  | zero =>
    go_enter Tryd.func13, Tryd.ntmps13
    go_wp2_with fail
    go_loopg [3] (1) (fun _ i wr => i = .int .i64 (-1) ∧ w = wr)
    case atStart => exact ⟨rfl, rfl⟩
    case round =>
      obtain ⟨rfl, rfl⟩ := hrel
      go_wp2_with fail
      go_ret
      exact ⟨rfl, Below.refl _ _⟩
  | succ m =>
    go_enter Tryd.func13, Tryd.ntmps13
    go_wp2_with fail
    go_loopg [3] (m) (fun g i wr => ∃ k : Nat, k = g ∧ k ≤ m ∧ i = .int .i64 k ∧ Below w.heap.size w wr)
    case atStart => exact ⟨m, rfl, Nat.le_refl _, rfl, Below.refl _ _⟩
    case round =>
      obtain ⟨k, rfl, hk, rfl, hB⟩ := hrel
      have HB := Lib.hid hB
      cases k with
      | zero =>
        go_wp2_with fail
        go_ret
        exact ⟨rfl, HB.out⟩
      | succ j =>
        have l1 : j + 1 < Z.length := by rw [HN.out]; omega
        obtain ⟨ad, rfl, p1, c1⟩ := (H0.out.below hB) (j + 1) l1
        obtain ⟨ad', had, p2, c2⟩ := (H0.out.below hB) j (by omega)
        obtain rfl := Option.some.inj had
        rw [add_succ] at c1
        have hle := HA.out j l1
        generalize Z[j] = x at *
        generalize Z[j + 1] = y at *
        have hd : decide (y < x) = false := by simpa using hle
        have HL := Lib.hid (fun w => less_any y x w)
        rw [hd] at HL
        have g1 : (j : Int) + 1 < (m : Int) + 1 := by omega
        have g2 : (j : Int) < (m : Int) + 1 := by omega
        have g4 : (j : Int) < (m : Int) := by omega
        have g5 : j < m := by omega
        have g6 : (0 : Int) ≤ (j : Int) + 1 := by omega
        have g7 : j < m + 1 := by omega
        have g3 : IntKind.i64.wrap ((j : Int) + 1 - 1) = j := by rw [Int.add_sub_cancel]; exact IntWalk.i64_in _ (by omega)
        clear hB had l1 hle hd
        go_wp2_with fail
        go_quiet ((exact Calls.quiet_of_same (same_flip (HL.out _))))
        go_wp2_with fail
        go_roundg (j)
        case measure => omega
        case rel => exact ⟨j, rfl, by omega, by go_num, below_then HB.out (below_drewN _ _)⟩
end Go.Proofs.YtbbdgncjpbfooaaDoor
