/- Sub of the reference: what a call returns. -/
import Derived.Test.YtbdihcpehadbjaaDoorFl
namespace Go.Proofs.YtbdihcpehadbjaaDoor
open Go.RowKit

set_option maxRecDepth 100000 in
set_option maxHeartbeats 1600000 in
theorem rsub_any (an ad bn bd : Int) (w : World) (ha : i64p (an, ad)) (hb : i64p (bn, bd)) :
    Calls Tryd.prog 28 #[.agg #[.int .i64 an, .int .i64 ad], .agg #[.int .i64 bn, .int .i64 bd]] w fun e w' => e = ret3 (subv an ad bn bd) ∧ Below w.heap.size w w' := by
  cases hv : (vldB an ad && vldB bn bd)
  · exact rsub_bad an ad bn bd w ha hb hv
  · have hva : vldB an ad = true := by revert hv; cases vldB an ad <;> simp
    have hvb : vldB bn bd = true := by revert hv; cases vldB bn bd <;> simp
    obtain ⟨q1, q2, q3, q4, q5⟩ := vldB_parts hvb
    clear q5
    have HA := Lib.hid (show addv an ad (-bn) bd = subv an ad bn bd by unfold subv; rw [hv]; rfl)
    have hbn : i64p (-bn, bd) := ⟨by simp only; omega, by simp only; omega, by simp only; omega, by simp only; omega⟩
    have HB := Lib.hid (Box2.start3 w an ad bn bd)
    go_enter Tryd.func28, Tryd.ntmps28
    go_wp2_with fail
    ((with_reducible refine (rvalid_any _ _ _ ha).mono ?_); rintro e wn ⟨rfl, hbw⟩)
    replace HB := Lib.hid (HB.out.below hbw)
    clear hbw
    obtain ⟨h1, h2, a0, a1, b0, b1, r0, r1, f0, f1⟩ := HB.out
    go_wp2_with fail
    ((with_reducible refine (rvalid_any _ _ _ hb).mono ?_); rintro e wm ⟨rfl, hbm⟩)
    clear h1 h2 a0 a1 b0 b1 r0 r1 f0 f1
    replace HB := Lib.hid (HB.out.below hbm)
    obtain ⟨h1, h2, a0, a1, b0, b1, r0, r1, f0, f1⟩ := HB.out
    clear hbm
    go_wp2_with fail
    go_region_held3 (fun w' => w'.cell? ⟨w.heap.size, 0, none⟩ = some (.int .i64 an) ∧ w'.cell? ⟨w.heap.size, 1, none⟩ = some (.int .i64 ad) ∧ w'.cell? ⟨w.heap.size + 1, 0, none⟩ = some (.int .i64 bn) ∧ w'.cell? ⟨w.heap.size + 1, 1, none⟩ = some (.int .i64 bd))
      (first | exact ⟨by assumption, by assumption, by assumption, by assumption⟩ | (go_keep; done) | exact ⟨keep2 a05 (by omega), keep2 a15 (by omega), keep2 b05 (by omega), keep2 b15 (by omega)⟩)
      (first
        | (go_at_call 18; refine (rneg_any _ _ _ q1 q2).mono ?_; rintro e w4 ⟨rfl, hb4⟩; obtain ⟨h14, h24, a04, a14, b04, b14, r04, r14, f04, f14⟩ := (HB.out.drewN 1).below hb4)
        | (go_at_call 27; refine (radd_any _ _ _ _ _ ha hbn).mono ?_; rintro e w5 ⟨rfl, hb5⟩; obtain ⟨h15, h25, a05, a15, b05, b15, r05, r15, f05, f15⟩ := ((HB.out.drewN 1).below hb4).below hb5; rw [HA.out]; unfold ret3))
    all_goals
      go_wp2_with fail
      exact bodyPost_ret (v := .tuple #[.agg #[.int .i64 (subv an ad bn bd).1, .int .i64 (subv an ad bn bd).2.1], .int .i64 (subv an ad bn bd).2.2]) (by simp [results, Tryd.results28, go_sem, r05, r15]) rfl ⟨rfl, (h15.setCell (by simp; omega) _).setCell (by simp; omega) _⟩
end Go.Proofs.YtbdihcpehadbjaaDoor
