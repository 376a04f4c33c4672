/- Add, Sub, Mul, Div of the reference: what a call returns. -/
import Derived.Test.YtbdihcpehadbjaaDoorFk
namespace Go.Proofs.YtbdihcpehadbjaaDoor
open Go.RowKit

theorem mul_bd2 (a b : Int) (h1 : -1073741824 ≤ a) (h2 : a ≤ 1073741824) (h3 : -1073741824 ≤ b) (h4 : b ≤ 1073741824) : -1152921504606846976 ≤ a * b ∧ a * b ≤ 1152921504606846976 := by
  by_cases hb : 0 ≤ b
  · exact mul_bd a b h1 h2 hb h4
  · have := mul_bd a (-b) h1 h2 (by omega) (by omega)
    rw [Int.mul_neg] at this; omega
theorem Box2.start3 (w : World) (an ad bn bd : Int) : Box2 w (((w.alloc (.cells #[.int .i64 an, .int .i64 ad] 24)).alloc (.cells #[.int .i64 bn, .int .i64 bd] 24)).alloc (.cells #[.int .i64 0, .int .i64 0] 24)) an ad bn bd := by
  refine ⟨(((Below.refl _ _).alloc (Nat.le_refl _) _).alloc (by simp) _).alloc (by simp; omega) _, by simp, ?_, ?_, ?_, ?_, ?_, ?_, ?_, ?_⟩ <;> simp [go_sem]

set_option maxHeartbeats 800000 in
theorem radd_bad (an ad bn bd : Int) (w : World) (ha : i64p (an, ad)) (hb : i64p (bn, bd)) (hv : (vldB an ad && vldB bn bd) = false) :
    Calls Tryd.prog 27 #[.agg #[.int .i64 an, .int .i64 ad], .agg #[.int .i64 bn, .int .i64 bd]] w fun e w' => e = ret3 (addv an ad bn bd) ∧ Below w.heap.size w w' := by
  have HA := Lib.hid (show addv an ad bn bd = (0, 0, 1) by unfold addv; rw [hv]; rfl)
  have HB := Lib.hid (Box2.start3 w an ad bn bd)
  have hw := HB.out.1
  cases hva : vldB an ad
  · go_enter Tryd.func27, Tryd.ntmps27
    go_wp2_with fail
    ((with_reducible refine (rvalid_any _ _ _ ha).mono ?_); rintro e wn ⟨rfl, hbn⟩)
    obtain ⟨h1, h2, a0, a1, b0, b1, r0, r1, f0, f1⟩ := HB.out.below hbn
    clear hw hbn
    go_wp2_with fail
    exact bodyPost_ret (v := .tuple #[.agg #[.int .i64 0, .int .i64 0], .int .i64 1]) (by simp [results, Tryd.results27, go_sem, r0, r1]) rfl ⟨by rw [HA.out]; rfl, (h1.setCell (by simp; omega) _).setCell (by simp; omega) _⟩
  · have hvb : vldB bn bd = false := by rw [hva] at hv; simpa using hv
    go_enter Tryd.func27, Tryd.ntmps27
    go_wp2_with fail
    ((with_reducible refine (rvalid_any _ _ _ ha).mono ?_); rintro e wn ⟨rfl, hbn⟩)
    replace HB := Lib.hid (HB.out.below hbn)
    clear hw hbn
    obtain ⟨h1, h2, a0, a1, b0, b1, r0, r1, f0, f1⟩ := HB.out
    go_wp2_with fail
    ((with_reducible refine (rvalid_any _ _ _ hb).mono ?_); rintro e wm ⟨rfl, hbm⟩)
    clear h1 h2 a0 a1 b0 b1 r0 r1 f0 f1
    obtain ⟨h1, h2, a0, a1, b0, b1, r0, r1, f0, f1⟩ := HB.out.below hbm
    clear hbm
    go_wp2_with fail
    exact bodyPost_ret (v := .tuple #[.agg #[.int .i64 0, .int .i64 0], .int .i64 1]) (by simp [results, Tryd.results27, go_sem, r0, r1]) rfl ⟨by rw [HA.out]; rfl, (h1.setCell (by simp; omega) _).setCell (by simp; omega) _⟩
set_option maxHeartbeats 800000 in
theorem rsub_bad (an ad bn bd : Int) (w : World) (ha : i64p (an, ad)) (hb : i64p (bn, bd)) (hv : (vldB an ad && vldB bn bd) = false) :
    Calls Tryd.prog 28 #[.agg #[.int .i64 an, .int .i64 ad], .agg #[.int .i64 bn, .int .i64 bd]] w fun e w' => e = ret3 (subv an ad bn bd) ∧ Below w.heap.size w w' := by
  have HA := Lib.hid (show subv an ad bn bd = (0, 0, 1) by unfold subv; rw [hv]; rfl)
  have HB := Lib.hid (Box2.start3 w an ad bn bd)
  have hw := HB.out.1
  cases hva : vldB an ad
  · go_enter Tryd.func28, Tryd.ntmps28
    go_wp2_with fail
    ((with_reducible refine (rvalid_any _ _ _ ha).mono ?_); rintro e wn ⟨rfl, hbn⟩)
    obtain ⟨h1, h2, a0, a1, b0, b1, r0, r1, f0, f1⟩ := HB.out.below hbn
    clear hw hbn
    go_wp2_with fail
    exact bodyPost_ret (v := .tuple #[.agg #[.int .i64 0, .int .i64 0], .int .i64 1]) (by simp [results, Tryd.results28, go_sem, r0, r1]) rfl ⟨by rw [HA.out]; rfl, (h1.setCell (by simp; omega) _).setCell (by simp; omega) _⟩
  · have hvb : vldB bn bd = false := by rw [hva] at hv; simpa using hv
    go_enter Tryd.func28, Tryd.ntmps28
    go_wp2_with fail
    ((with_reducible refine (rvalid_any _ _ _ ha).mono ?_); rintro e wn ⟨rfl, hbn⟩)
    replace HB := Lib.hid (HB.out.below hbn)
    clear hw hbn
    obtain ⟨h1, h2, a0, a1, b0, b1, r0, r1, f0, f1⟩ := HB.out
    go_wp2_with fail
    ((with_reducible refine (rvalid_any _ _ _ hb).mono ?_); rintro e wm ⟨rfl, hbm⟩)
    clear h1 h2 a0 a1 b0 b1 r0 r1 f0 f1
    obtain ⟨h1, h2, a0, a1, b0, b1, r0, r1, f0, f1⟩ := HB.out.below hbm
    clear hbm
    go_wp2_with fail
    exact bodyPost_ret (v := .tuple #[.agg #[.int .i64 0, .int .i64 0], .int .i64 1]) (by simp [results, Tryd.results28, go_sem, r0, r1]) rfl ⟨by rw [HA.out]; rfl, (h1.setCell (by simp; omega) _).setCell (by simp; omega) _⟩
set_option maxHeartbeats 800000 in
theorem rmul_bad (an ad bn bd : Int) (w : World) (ha : i64p (an, ad)) (hb : i64p (bn, bd)) (hv : (vldB an ad && vldB bn bd) = false) :
    Calls Tryd.prog 29 #[.agg #[.int .i64 an, .int .i64 ad], .agg #[.int .i64 bn, .int .i64 bd]] w fun e w' => e = ret3 (mulv an ad bn bd) ∧ Below w.heap.size w w' := by
  have HA := Lib.hid (show mulv an ad bn bd = (0, 0, 1) by unfold mulv; rw [hv]; rfl)
  have HB := Lib.hid (Box2.start3 w an ad bn bd)
  have hw := HB.out.1
  cases hva : vldB an ad
  · go_enter Tryd.func29, Tryd.ntmps29
    go_wp2_with fail
    ((with_reducible refine (rvalid_any _ _ _ ha).mono ?_); rintro e wn ⟨rfl, hbn⟩)
    obtain ⟨h1, h2, a0, a1, b0, b1, r0, r1, f0, f1⟩ := HB.out.below hbn
    clear hw hbn
    go_wp2_with fail
    exact bodyPost_ret (v := .tuple #[.agg #[.int .i64 0, .int .i64 0], .int .i64 1]) (by simp [results, Tryd.results29, go_sem, r0, r1]) rfl ⟨by rw [HA.out]; rfl, (h1.setCell (by simp; omega) _).setCell (by simp; omega) _⟩
  · have hvb : vldB bn bd = false := by rw [hva] at hv; simpa using hv
    go_enter Tryd.func29, Tryd.ntmps29
    go_wp2_with fail
    ((with_reducible refine (rvalid_any _ _ _ ha).mono ?_); rintro e wn ⟨rfl, hbn⟩)
    replace HB := Lib.hid (HB.out.below hbn)
    clear hw hbn
    obtain ⟨h1, h2, a0, a1, b0, b1, r0, r1, f0, f1⟩ := HB.out
    go_wp2_with fail
    ((with_reducible refine (rvalid_any _ _ _ hb).mono ?_); rintro e wm ⟨rfl, hbm⟩)
    clear h1 h2 a0 a1 b0 b1 r0 r1 f0 f1
    obtain ⟨h1, h2, a0, a1, b0, b1, r0, r1, f0, f1⟩ := HB.out.below hbm
    clear hbm
    go_wp2_with fail
    exact bodyPost_ret (v := .tuple #[.agg #[.int .i64 0, .int .i64 0], .int .i64 1]) (by simp [results, Tryd.results29, go_sem, r0, r1]) rfl ⟨by rw [HA.out]; rfl, (h1.setCell (by simp; omega) _).setCell (by simp; omega) _⟩
set_option maxHeartbeats 800000 in
theorem rdiv_bad (an ad bn bd : Int) (w : World) (ha : i64p (an, ad)) (hb : i64p (bn, bd)) (hv : (vldB an ad && vldB bn bd) = false) :
    Calls Tryd.prog 30 #[.agg #[.int .i64 an, .int .i64 ad], .agg #[.int .i64 bn, .int .i64 bd]] w fun e w' => e = ret3 (divv an ad bn bd) ∧ Below w.heap.size w w' := by
  have HA := Lib.hid (show divv an ad bn bd = (0, 0, 1) by unfold divv; rw [hv]; rfl)
  have HB := Lib.hid (Box2.start3 w an ad bn bd)
  have hw := HB.out.1
  cases hva : vldB an ad
  · go_enter Tryd.func30, Tryd.ntmps30
    go_wp2_with fail
    ((with_reducible refine (rvalid_any _ _ _ ha).mono ?_); rintro e wn ⟨rfl, hbn⟩)
    obtain ⟨h1, h2, a0, a1, b0, b1, r0, r1, f0, f1⟩ := HB.out.below hbn
    clear hw hbn
    go_wp2_with fail
    exact bodyPost_ret (v := .tuple #[.agg #[.int .i64 0, .int .i64 0], .int .i64 1]) (by simp [results, Tryd.results30, go_sem, r0, r1]) rfl ⟨by rw [HA.out]; rfl, (h1.setCell (by simp; omega) _).setCell (by simp; omega) _⟩
  · have hvb : vldB bn bd = false := by rw [hva] at hv; simpa using hv
    go_enter Tryd.func30, Tryd.ntmps30
    go_wp2_with fail
    ((with_reducible refine (rvalid_any _ _ _ ha).mono ?_); rintro e wn ⟨rfl, hbn⟩)
    replace HB := Lib.hid (HB.out.below hbn)
    clear hw hbn
    obtain ⟨h1, h2, a0, a1, b0, b1, r0, r1, f0, f1⟩ := HB.out
    go_wp2_with fail
    ((with_reducible refine (rvalid_any _ _ _ hb).mono ?_); rintro e wm ⟨rfl, hbm⟩)
    clear h1 h2 a0 a1 b0 b1 r0 r1 f0 f1
    obtain ⟨h1, h2, a0, a1, b0, b1, r0, r1, f0, f1⟩ := HB.out.below hbm
    clear hbm
    go_wp2_with fail
    exact bodyPost_ret (v := .tuple #[.agg #[.int .i64 0, .int .i64 0], .int .i64 1]) (by simp [results, Tryd.results30, go_sem, r0, r1]) rfl ⟨by rw [HA.out]; rfl, (h1.setCell (by simp; omega) _).setCell (by simp; omega) _⟩

set_option maxHeartbeats 800000 in
theorem radd_any (an ad bn bd : Int) (w : World) (ha : i64p (an, ad)) (hb : i64p (bn, bd)) :
    Calls Tryd.prog 27 #[.agg #[.int .i64 an, .int .i64 ad], .agg #[.int .i64 bn, .int .i64 bd]] w fun e w' => e = ret3 (addv an ad bn bd) ∧ Below w.heap.size w w' := by
  cases hv : (vldB an ad && vldB bn bd)
  · exact radd_bad an ad bn bd w ha hb hv
  · have hva : vldB an ad = true := by revert hv; cases vldB an ad <;> simp
    have hvb : vldB bn bd = true := by revert hv; cases vldB bn bd <;> simp
    obtain ⟨p1, p2, p3, p4, p5⟩ := vldB_parts hva
    obtain ⟨q1, q2, q3, q4, q5⟩ := vldB_parts hvb
    clear p5 q5
    obtain ⟨x1, x2⟩ := mul_bd an bd p1 p2 (by omega) q4; obtain ⟨y1, y2⟩ := mul_bd bn ad q1 q2 (by omega) p4; obtain ⟨d1, d2⟩ := mul_bd ad bd (by omega) p4 (by omega) q4
    have HA := Lib.hid (show mkv (an * bd + bn * ad) (ad * bd) = addv an ad bn bd by unfold addv; rw [hv]; rfl)
    have HB := Lib.hid (Box2.start3 w an ad bn bd)
    go_enter Tryd.func27, Tryd.ntmps27
    go_wp2_with fail
    ((with_reducible refine (rvalid_any _ _ _ ha).mono ?_); rintro e wn ⟨rfl, hbn⟩)
    replace HB := Lib.hid (HB.out.below hbn)
    clear hbn
    obtain ⟨h1, h2, a0, a1, b0, b1, r0, r1, f0, f1⟩ := HB.out
    go_wp2_with fail
    ((with_reducible refine (rvalid_any _ _ _ hb).mono ?_); rintro e wm ⟨rfl, hbm⟩)
    clear h1 h2 a0 a1 b0 b1 r0 r1 f0 f1
    replace HB := Lib.hid (HB.out.below hbm)
    obtain ⟨h1, h2, a0, a1, b0, b1, r0, r1, f0, f1⟩ := HB.out
    clear hbm
    go_wp2_with fail
    ((with_reducible refine (rmake_any _ _ _ (by omega) (by omega) (by omega) (by omega)).mono ?_); rintro e wk ⟨rfl, hbk⟩)
    rw [HA.out]
    clear h1 h2 a0 a1 b0 b1 r0 r1 f0 f1
    obtain ⟨h1, h2, a0, a1, b0, b1, r0, r1, f0, f1⟩ := HB.out.below hbk
    clear hbk
    unfold ret3
    go_wp2_with fail
    exact bodyPost_ret (v := .tuple #[.agg #[.int .i64 (addv an ad bn bd).1, .int .i64 (addv an ad bn bd).2.1], .int .i64 (addv an ad bn bd).2.2]) (by simp [results, Tryd.results27, go_sem, r0, r1]) rfl ⟨rfl, (h1.setCell (by simp; omega) _).setCell (by simp; omega) _⟩

set_option maxHeartbeats 800000 in
theorem rmul_any (an ad bn bd : Int) (w : World) (ha : i64p (an, ad)) (hb : i64p (bn, bd)) :
    Calls Tryd.prog 29 #[.agg #[.int .i64 an, .int .i64 ad], .agg #[.int .i64 bn, .int .i64 bd]] w fun e w' => e = ret3 (mulv an ad bn bd) ∧ Below w.heap.size w w' := by
  cases hv : (vldB an ad && vldB bn bd)
  · exact rmul_bad an ad bn bd w ha hb hv
  · have hva : vldB an ad = true := by revert hv; cases vldB an ad <;> simp
    have hvb : vldB bn bd = true := by revert hv; cases vldB bn bd <;> simp
    obtain ⟨p1, p2, p3, p4, p5⟩ := vldB_parts hva
    obtain ⟨q1, q2, q3, q4, q5⟩ := vldB_parts hvb
    clear p5 q5
    obtain ⟨x1, x2⟩ := mul_bd2 an bn p1 p2 q1 q2; obtain ⟨d1, d2⟩ := mul_bd ad bd (by omega) p4 (by omega) q4
    have HA := Lib.hid (show mkv (an * bn) (ad * bd) = mulv an ad bn bd by unfold mulv; rw [hv]; rfl)
    have HB := Lib.hid (Box2.start3 w an ad bn bd)
    go_enter Tryd.func29, Tryd.ntmps29
    go_wp2_with fail
    ((with_reducible refine (rvalid_any _ _ _ ha).mono ?_); rintro e wn ⟨rfl, hbn⟩)
    replace HB := Lib.hid (HB.out.below hbn)
    clear hbn
    obtain ⟨h1, h2, a0, a1, b0, b1, r0, r1, f0, f1⟩ := HB.out
    go_wp2_with fail
    ((with_reducible refine (rvalid_any _ _ _ hb).mono ?_); rintro e wm ⟨rfl, hbm⟩)
    clear h1 h2 a0 a1 b0 b1 r0 r1 f0 f1
    replace HB := Lib.hid (HB.out.below hbm)
    obtain ⟨h1, h2, a0, a1, b0, b1, r0, r1, f0, f1⟩ := HB.out
    clear hbm
    go_wp2_with fail
    ((with_reducible refine (rmake_any _ _ _ (by omega) (by omega) (by omega) (by omega)).mono ?_); rintro e wk ⟨rfl, hbk⟩)
    rw [HA.out]
    clear h1 h2 a0 a1 b0 b1 r0 r1 f0 f1
    obtain ⟨h1, h2, a0, a1, b0, b1, r0, r1, f0, f1⟩ := HB.out.below hbk
    clear hbk
    unfold ret3
    go_wp2_with fail
    exact bodyPost_ret (v := .tuple #[.agg #[.int .i64 (mulv an ad bn bd).1, .int .i64 (mulv an ad bn bd).2.1], .int .i64 (mulv an ad bn bd).2.2]) (by simp [results, Tryd.results29, go_sem, r0, r1]) rfl ⟨rfl, (h1.setCell (by simp; omega) _).setCell (by simp; omega) _⟩

set_option maxHeartbeats 800000 in
theorem rdiv_any (an ad bn bd : Int) (w : World) (ha : i64p (an, ad)) (hb : i64p (bn, bd)) :
    Calls Tryd.prog 30 #[.agg #[.int .i64 an, .int .i64 ad], .agg #[.int .i64 bn, .int .i64 bd]] w fun e w' => e = ret3 (divv an ad bn bd) ∧ Below w.heap.size w w' := by
  cases hv : (vldB an ad && vldB bn bd)
  · exact rdiv_bad an ad bn bd w ha hb hv
  · have hva : vldB an ad = true := by revert hv; cases vldB an ad <;> simp
    have hvb : vldB bn bd = true := by revert hv; cases vldB bn bd <;> simp
    obtain ⟨p1, p2, p3, p4, p5⟩ := vldB_parts hva
    obtain ⟨q1, q2, q3, q4, q5⟩ := vldB_parts hvb
    clear p5 q5
    obtain ⟨x1, x2⟩ := mul_bd an bd p1 p2 (by omega) q4; obtain ⟨d1, d2⟩ := mul_bd2 ad bn (by omega) p4 q1 q2
    have HA := Lib.hid (show mkv (an * bd) (ad * bn) = divv an ad bn bd by unfold divv; rw [hv]; rfl)
    have HB := Lib.hid (Box2.start3 w an ad bn bd)
    go_enter Tryd.func30, Tryd.ntmps30
    go_wp2_with fail
    ((with_reducible refine (rvalid_any _ _ _ ha).mono ?_); rintro e wn ⟨rfl, hbn⟩)
    replace HB := Lib.hid (HB.out.below hbn)
    clear hbn
    obtain ⟨h1, h2, a0, a1, b0, b1, r0, r1, f0, f1⟩ := HB.out
    go_wp2_with fail
    ((with_reducible refine (rvalid_any _ _ _ hb).mono ?_); rintro e wm ⟨rfl, hbm⟩)
    clear h1 h2 a0 a1 b0 b1 r0 r1 f0 f1
    replace HB := Lib.hid (HB.out.below hbm)
    obtain ⟨h1, h2, a0, a1, b0, b1, r0, r1, f0, f1⟩ := HB.out
    clear hbm
    go_wp2_with fail
    ((with_reducible refine (rmake_any _ _ _ (by omega) (by omega) (by omega) (by omega)).mono ?_); rintro e wk ⟨rfl, hbk⟩)
    rw [HA.out]
    clear h1 h2 a0 a1 b0 b1 r0 r1 f0 f1
    obtain ⟨h1, h2, a0, a1, b0, b1, r0, r1, f0, f1⟩ := HB.out.below hbk
    clear hbk
    unfold ret3
    go_wp2_with fail
    exact bodyPost_ret (v := .tuple #[.agg #[.int .i64 (divv an ad bn bd).1, .int .i64 (divv an ad bn bd).2.1], .int .i64 (divv an ad bn bd).2.2]) (by simp [results, Tryd.results30, go_sem, r0, r1]) rfl ⟨rfl, (h1.setCell (by simp; omega) _).setCell (by simp; omega) _⟩

end Go.Proofs.YtbdihcpehadbjaaDoor
