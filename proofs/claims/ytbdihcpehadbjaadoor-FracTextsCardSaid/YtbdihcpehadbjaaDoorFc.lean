/- Make of package frac: what a call returns. -/
import Derived.Test.YtbdihcpehadbjaaDoorFb
namespace Go.Proofs.YtbdihcpehadbjaaDoor
open Go.RowKit

/-- what Make returns: the fraction's two numbers and the error number -/
def mkv (num den : Int) : Int × Int × Int := if den = 0 then (0, 0, 7) else fitv (decide (num < 0) != decide (den < 0)) num.natAbs den.natAbs

theorem bcell {W w1 : World} (hb : Below W.heap.size W w1) : (∀ b o, b < W.heap.size → w1.cell? ⟨b, o, none⟩ = W.cell? ⟨b, o, none⟩) ∧ (∀ b o, b < W.heap.size → w1.frozen? ⟨b, o, none⟩ = W.frozen? ⟨b, o, none⟩) :=
  ⟨fun b o h => hb.cell (p := ⟨b, o, none⟩) h, fun b o h => hb.frozen (p := ⟨b, o, none⟩) h⟩

set_option maxHeartbeats 800000 in
theorem make_any (num den : Int) (w : World) (h : -9223372036854775808 ≤ num) (h' : num ≤ 9223372036854775807) (hd : -9223372036854775808 ≤ den) (hd' : den ≤ 9223372036854775807) :
    Calls Tryd.prog 12 #[.int .i64 num, .int .i64 den] w fun e w' => e = ret3 (mkv num den) ∧ Below w.heap.size w w' := by
  by_cases h0 : den = 0
  · have hz : (den == 0) = true := by simp [h0]
    have HM := Lib.hid (show mkv num den = (0, 0, 7) by unfold mkv; rw [if_pos h0])
    clear h0
    go_enter Tryd.func12, Tryd.ntmps12
    go_wp2_with fail
    exact bodyPost_ret (v := .tuple #[.agg #[.int .i64 0, .int .i64 0], .int .i64 7]) (by simp [results, Tryd.results12, go_sem]) rfl ⟨by rw [HM.out]; rfl, (Below.refl _ _).alloc (Nat.le_refl _) _⟩
  · have hz : (den == 0) = false := by simp [h0]
    have HM := Lib.hid (show mkv num den = fitv (!(decide (num < 0) == decide (den < 0))) num.natAbs den.natAbs by unfold mkv; rw [if_neg h0]; rfl)
    go_enter Tryd.func12, Tryd.ntmps12
    go_wp2_with fail
    ((with_reducible refine (abs_any _ _ (by omega) (by omega)).mono ?_); rintro e w' ⟨rfl, rfl⟩)
    go_wp2_with fail
    ((with_reducible refine (abs_any _ _ (by omega) (by omega)).mono ?_); rintro e w' ⟨rfl, rfl⟩)
    go_wp2_with fail
    ((with_reducible refine (fit_any _ _ _ _ (by omega) (by omega) (by omega) (by omega)).mono ?_); rintro e w1 ⟨rfl, hb⟩)
    obtain ⟨hc, hf⟩ := bcell hb
    rw [← HM.out]
    unfold ret3
    go_wp2_with fail
    exact bodyPost_ret (v := .tuple #[.agg #[.int .i64 (mkv num den).1, .int .i64 (mkv num den).2.1], .int .i64 (mkv num den).2.2]) (by simp [results, Tryd.results12, go_sem, hc]) rfl ⟨rfl, ((((Below.refl _ _).alloc (Nat.le_refl _) _).trans (hb.mono (by simp))).setCell (Nat.le_refl _) _).setCell (Nat.le_refl _) _⟩
end Go.Proofs.YtbdihcpehadbjaaDoor
