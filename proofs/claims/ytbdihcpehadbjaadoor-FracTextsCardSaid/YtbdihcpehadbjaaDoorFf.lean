/- Add of package frac: what a call returns. -/
import Derived.Test.YtbdihcpehadbjaaDoorFe
import Derived.Test.YtbdihcpehadbjaaDoorPa
namespace Go.Proofs.YtbdihcpehadbjaaDoor
open Go.RowKit

/-- two fractions and a result of zeros lie in three new blocks -/
def Box2 (w w1 : World) (an ad bn bd : Int) : Prop :=
  Below w.heap.size w w1 ∧ w.heap.size + 1 + 1 < w1.heap.size ∧
  w1.cell? ⟨w.heap.size, 0, none⟩ = some (.int .i64 an) ∧ w1.cell? ⟨w.heap.size, 1, none⟩ = some (.int .i64 ad) ∧
  w1.cell? ⟨w.heap.size + 1, 0, none⟩ = some (.int .i64 bn) ∧ w1.cell? ⟨w.heap.size + 1, 1, none⟩ = some (.int .i64 bd) ∧
  w1.cell? ⟨w.heap.size + 1 + 1, 0, none⟩ = some (.int .i64 0) ∧ w1.cell? ⟨w.heap.size + 1 + 1, 1, none⟩ = some (.int .i64 0) ∧
  w1.frozen? ⟨w.heap.size + 1 + 1, 0, none⟩ = false ∧ w1.frozen? ⟨w.heap.size + 1 + 1, 1, none⟩ = false
theorem Box2.drewN {w w1 : World} {an ad bn bd : Int} (h : Box2 w w1 an ad bn bd) (n : Nat) : Box2 w (w1.drewN n) an ad bn bd :=
  ⟨below_drewN h.1 _, h.2.1, h.2.2⟩
theorem Box2.below {w w1 w2 : World} {an ad bn bd : Int} (h : Box2 w w1 an ad bn bd) (hb : Below w1.heap.size w1 w2) : Box2 w w2 an ad bn bd := by
  obtain ⟨h1, h2, a0, a1, b0, b1, r0, r1, f0, f1⟩ := h
  have hc := (bcell hb).1
  have hf := (bcell hb).2
  refine ⟨h1.trans (hb.mono h1.size), Nat.lt_of_lt_of_le h2 hb.size, ?_, ?_, ?_, ?_, ?_, ?_, ?_, ?_⟩
  · rw [hc _ _ (by omega)]; exact a0
  · rw [hc _ _ (by omega)]; exact a1
  · rw [hc _ _ (by omega)]; exact b0
  · rw [hc _ _ (by omega)]; exact b1
  · rw [hc _ _ (by omega)]; exact r0
  · rw [hc _ _ (by omega)]; exact r1
  · rw [hf _ _ (by omega)]; exact f0
  · rw [hf _ _ (by omega)]; exact f1
theorem Box2.start (w : World) (an ad bn bd : Int) (o : Obj) : Box2 w ((((w.alloc (.cells #[.int .i64 an, .int .i64 ad] 24)).alloc (.cells #[.int .i64 bn, .int .i64 bd] 24)).alloc (.cells #[.int .i64 0, .int .i64 0] 24)).alloc o) an ad bn bd := by
  refine ⟨((((Below.refl _ _).alloc (Nat.le_refl _) _).alloc (by simp) _).alloc (by simp; omega) _).alloc (by simp; omega) _, by simp, ?_, ?_, ?_, ?_, ?_, ?_, ?_, ?_⟩ <;> simp [go_sem]

theorem FrS.two (k : Nat) (an ad bn bd : Int) (w : World) (ha : i64p (an, ad)) (hb : i64p (bn, bd)) (hk : k = w.heap.size) :
    FrS (w.alloc (.cells #[.int .i64 an, .int .i64 ad, .int .i64 bn, .int .i64 bd] 24)) (.slice (some ⟨k, 0, none⟩) 2 2) [(an, ad), (bn, bd)] := by
  subst hk
  refine .inr ⟨w.heap.size, 0, 2, rfl, by simp, ?_, by simp⟩
  intro i hi
  match i, hi with
  | 0, _ => exact ⟨ha, by simp, by simp⟩
  | 1, _ => exact ⟨hb, by simp, by simp⟩
theorem vldL_two (an ad bn bd : Int) : vldL [(an, ad), (bn, bd)] = (vldB an ad && vldB bn bd) := by simp [vldL]

theorem valid2_any (k : Nat) (an ad bn bd : Int) (w : World) (ha : i64p (an, ad)) (hb : i64p (bn, bd)) (hk : k = w.heap.size) :
    Calls Tryd.prog 42 #[.slice (some ⟨k, 0, none⟩) 2 2] (w.alloc (.cells #[.int .i64 an, .int .i64 ad, .int .i64 bn, .int .i64 bd] 24)) fun e w' =>
      e = .returned (.bool (vldB an ad && vldB bn bd)) ∧ Below (w.alloc (.cells #[.int .i64 an, .int .i64 ad, .int .i64 bn, .int .i64 bd] 24)).heap.size (w.alloc (.cells #[.int .i64 an, .int .i64 ad, .int .i64 bn, .int .i64 bd] 24)) w' :=
  (valid_any _ _ _ (FrS.two k an ad bn bd w ha hb hk)).mono fun _ _ ⟨h1, h2⟩ => ⟨by rw [h1, vldL_two], h2⟩

theorem vldB_parts {n d : Int} (h : vldB n d = true) : -1073741824 ≤ n ∧ n ≤ 1073741824 ∧ 1 ≤ d ∧ d ≤ 1073741824 ∧ gcv n d = 1 := by
  unfold vldB at h; simpa using h

theorem mul_bd (a b : Int) (h1 : -1073741824 ≤ a) (h2 : a ≤ 1073741824) (h3 : 0 ≤ b) (h4 : b ≤ 1073741824) : -1152921504606846976 ≤ a * b ∧ a * b ≤ 1152921504606846976 := by
  have e1 : a * b ≤ 1073741824 * b := Int.mul_le_mul_of_nonneg_right h2 h3
  have e2 : (-1073741824) * b ≤ a * b := Int.mul_le_mul_of_nonneg_right h1 h3
  omega

/-- what Add returns -/
def addv (an ad bn bd : Int) : Int × Int × Int := if vldB an ad && vldB bn bd then mkv (an * bd + bn * ad) (ad * bd) else (0, 0, 1)

set_option maxHeartbeats 800000 in
theorem add_any (an ad bn bd : Int) (w : World) (ha : i64p (an, ad)) (hb : i64p (bn, bd)) :
    Calls Tryd.prog 23 #[.agg #[.int .i64 an, .int .i64 ad], .agg #[.int .i64 bn, .int .i64 bd]] w fun e w' => e = ret3 (addv an ad bn bd) ∧ Below w.heap.size w w' := by
  cases hv : (vldB an ad && vldB bn bd)
  · have HA := Lib.hid (show addv an ad bn bd = (0, 0, 1) by unfold addv; rw [hv]; rfl)
    go_enter Tryd.func23, Tryd.ntmps23
    go_wp2_with fail
    ((with_reducible refine (valid2_any _ _ _ _ _ _ ha hb (by simp)).mono ?_); rintro e w1 ⟨rfl, hb1⟩)
    have hB := (Box2.start w an ad bn bd _).below hb1
    clear hb1
    obtain ⟨h1, h2, a0, a1, b0, b1, r0, r1, f0, f1⟩ := hB
    go_wp2_with fail
    exact bodyPost_ret (v := .tuple #[.agg #[.int .i64 0, .int .i64 0], .int .i64 1]) (by simp [results, Tryd.results23, go_sem, r0, r1]) rfl ⟨by rw [HA.out]; rfl, (h1.setCell (by simp; omega) _).setCell (by simp; omega) _⟩
  · go_enter Tryd.func23, Tryd.ntmps23
    go_wp2_with fail
    ((with_reducible refine (valid2_any _ _ _ _ _ _ ha hb (by simp)).mono ?_); rintro e w1 ⟨rfl, hb1⟩)
    have hB := (Box2.start w an ad bn bd _).below hb1
    clear hb1
    have hva : vldB an ad = true := by revert hv; cases vldB an ad <;> simp
    have hvb : vldB bn bd = true := by revert hv; cases vldB bn bd <;> simp
    obtain ⟨p1, p2, p3, p4, _⟩ := vldB_parts hva
    obtain ⟨q1, q2, q3, q4, _⟩ := vldB_parts hvb
    have hB0 := Lib.hid hB
    obtain ⟨h1, h2, a0, a1, b0, b1, r0, r1, f0, f1⟩ := hB
    go_wp2_with fail
    ((with_reducible refine (gcd_any _ _ _ (by omega) (by omega) (by omega) (by omega)).mono ?_); rintro e w2 ⟨rfl, hb2⟩)
    have hB2 := hB0.out.below hb2
    clear hb2 hB0 h1 h2 a0 a1 b0 b1 r0 r1 f0 f1
    have g1 := gcv_pos ad bd (by omega)
    have g2 := gcv_le ad bd (by omega)
    generalize hg : gcv ad bd = g at g1 g2 ⊢
    have HG := Lib.hid hg; clear hg
    have hB0 := Lib.hid hB2
    obtain ⟨h1, h2, a0, a1, b0, b1, r0, r1, f0, f1⟩ := hB2
    have B0 : 0 ≤ bd / g := Int.ediv_nonneg (by omega) (by omega)
    have A0 : 0 ≤ ad / g := Int.ediv_nonneg (by omega) (by omega)
    have B1 : bd / g ≤ 1073741824 := Int.le_trans (Int.ediv_le_self g (by omega)) q4
    have A1 : ad / g ≤ 1073741824 := Int.le_trans (Int.ediv_le_self g (by omega)) p4
    obtain ⟨x1, x2⟩ := mul_bd an (bd / g) p1 p2 B0 B1
    obtain ⟨y1, y2⟩ := mul_bd bn (ad / g) q1 q2 A0 A1
    obtain ⟨d1, d2⟩ := mul_bd ad (bd / g) (by omega) p4 B0 B1
    have d0 : 0 ≤ ad * (bd / g) := Int.mul_nonneg (by omega) B0
    go_wp2_with fail
    have k1 : IntKind.i64.wrap (an * (bd / g)) = an * (bd / g) := IntWalk.i64_in _ (by omega)
    have k2 : IntKind.i64.wrap (bn * (ad / g)) = bn * (ad / g) := IntWalk.i64_in _ (by omega)
    go_quiet (fail)
    clear k1 k2
    have hB3 := hB0.out.drewN nq
    clear hB0 h1 h2 a0 a1 b0 b1 r0 r1 f0 f1
    generalize w2.drewN nq = w3 at hB3 ⊢
    have hB0 := Lib.hid hB3
    obtain ⟨h1, h2, a0, a1, b0, b1, r0, r1, f0, f1⟩ := hB3
    go_wp2_with fail
    have k3 : IntKind.u64.wrap (ad * (bd / g)) = ad * (bd / g) := IntWalk.u64_in _ (by omega)
    go_quiet (fail)
    clear k3
    have hB4 := hB0.out.drewN nq
    clear hB0 h1 h2 a0 a1 b0 b1 r0 r1 f0 f1
    generalize w3.drewN nq = w4 at hB4 ⊢
    have hB0 := Lib.hid hB4
    obtain ⟨h1, h2, a0, a1, b0, b1, r0, r1, f0, f1⟩ := hB4
    have HADD := Lib.hid (show addv an ad bn bd = fitv (decide (an * (bd / g) + bn * (ad / g) < 0)) ((an * (bd / g) + bn * (ad / g)).natAbs : Int) (ad * (bd / g)) by unfold addv; rw [hv]; exact add_plain an ad bn bd g p3 q3 HG.out)
    have D1 := den_pos ad bd g p3 q3 HG.out
    generalize an * (bd / g) = x at x1 x2 HADD ⊢
    generalize bn * (ad / g) = y at y1 y2 HADD ⊢
    generalize ad * (bd / g) = den at d1 d2 d0 D1 HADD ⊢
    clear HG hv hva hvb
    by_cases hx : x < 0
    · by_cases hy : y < 0
      · have HF := Lib.hid (show fitv true ((x.natAbs : Int) + (y.natAbs : Int)) den = addv an ad bn bd by rw [HADD.out]; congr 1 <;> first | (simp; omega) | omega)
        go_wp2_with fail
        ((with_reducible refine (abs_any _ _ (by omega) (by omega)).mono ?_); rintro e w' ⟨rfl, rfl⟩)
        go_wp2_with fail
        ((with_reducible refine (abs_any _ _ (by omega) (by omega)).mono ?_); rintro e w' ⟨rfl, rfl⟩)
        go_wp2_with fail
        ((with_reducible refine (fit_any _ _ _ _ (by omega) (by omega) (by omega) (by omega)).mono ?_); rintro e w5 ⟨rfl, hb5⟩)
        rw [HF.out]
        have hB5 := hB0.out.below hb5
        clear hb5 hB0 h1 h2 a0 a1 b0 b1 r0 r1 f0 f1
        obtain ⟨h1, h2, a0, a1, b0, b1, r0, r1, f0, f1⟩ := hB5
        unfold ret3
        go_wp2_with fail
        exact bodyPost_ret (v := .tuple #[.agg #[.int .i64 (addv an ad bn bd).1, .int .i64 (addv an ad bn bd).2.1], .int .i64 (addv an ad bn bd).2.2]) (by simp [results, Tryd.results23, go_sem, r0, r1]) rfl ⟨rfl, (h1.setCell (by simp; omega) _).setCell (by simp; omega) _⟩
      · have HF := Lib.hid (show fitv (decide (x + y < 0)) (((x + y).natAbs : Nat) : Int) den = addv an ad bn bd from HADD.out.symm)
        go_wp2_with fail
        ((with_reducible refine (abs_any _ _ (by omega) (by omega)).mono ?_); rintro e w' ⟨rfl, rfl⟩)
        go_wp2_with fail
        ((with_reducible refine (fit_any _ _ _ _ (by omega) (by omega) (by omega) (by omega)).mono ?_); rintro e w5 ⟨rfl, hb5⟩)
        rw [HF.out]
        have hB5 := hB0.out.below hb5
        clear hb5 hB0 h1 h2 a0 a1 b0 b1 r0 r1 f0 f1
        obtain ⟨h1, h2, a0, a1, b0, b1, r0, r1, f0, f1⟩ := hB5
        unfold ret3
        go_wp2_with fail
        exact bodyPost_ret (v := .tuple #[.agg #[.int .i64 (addv an ad bn bd).1, .int .i64 (addv an ad bn bd).2.1], .int .i64 (addv an ad bn bd).2.2]) (by simp [results, Tryd.results23, go_sem, r0, r1]) rfl ⟨rfl, (h1.setCell (by simp; omega) _).setCell (by simp; omega) _⟩
    · by_cases hy : y < 0
      · have HF := Lib.hid (show fitv (decide (x + y < 0)) (((x + y).natAbs : Nat) : Int) den = addv an ad bn bd from HADD.out.symm)
        go_wp2_with fail
        ((with_reducible refine (abs_any _ _ (by omega) (by omega)).mono ?_); rintro e w' ⟨rfl, rfl⟩)
        go_wp2_with fail
        ((with_reducible refine (fit_any _ _ _ _ (by omega) (by omega) (by omega) (by omega)).mono ?_); rintro e w5 ⟨rfl, hb5⟩)
        rw [HF.out]
        have hB5 := hB0.out.below hb5
        clear hb5 hB0 h1 h2 a0 a1 b0 b1 r0 r1 f0 f1
        obtain ⟨h1, h2, a0, a1, b0, b1, r0, r1, f0, f1⟩ := hB5
        unfold ret3
        go_wp2_with fail
        exact bodyPost_ret (v := .tuple #[.agg #[.int .i64 (addv an ad bn bd).1, .int .i64 (addv an ad bn bd).2.1], .int .i64 (addv an ad bn bd).2.2]) (by simp [results, Tryd.results23, go_sem, r0, r1]) rfl ⟨rfl, (h1.setCell (by simp; omega) _).setCell (by simp; omega) _⟩
      · have HF := Lib.hid (show fitv false ((x.natAbs : Int) + (y.natAbs : Int)) den = addv an ad bn bd by rw [HADD.out]; congr 1 <;> first | (simp; omega) | omega)
        go_wp2_with fail
        ((with_reducible refine (abs_any _ _ (by omega) (by omega)).mono ?_); rintro e w' ⟨rfl, rfl⟩)
        go_wp2_with fail
        ((with_reducible refine (abs_any _ _ (by omega) (by omega)).mono ?_); rintro e w' ⟨rfl, rfl⟩)
        go_wp2_with fail
        ((with_reducible refine (fit_any _ _ _ _ (by omega) (by omega) (by omega) (by omega)).mono ?_); rintro e w5 ⟨rfl, hb5⟩)
        rw [HF.out]
        have hB5 := hB0.out.below hb5
        clear hb5 hB0 h1 h2 a0 a1 b0 b1 r0 r1 f0 f1
        obtain ⟨h1, h2, a0, a1, b0, b1, r0, r1, f0, f1⟩ := hB5
        unfold ret3
        go_wp2_with fail
        exact bodyPost_ret (v := .tuple #[.agg #[.int .i64 (addv an ad bn bd).1, .int .i64 (addv an ad bn bd).2.1], .int .i64 (addv an ad bn bd).2.2]) (by simp [results, Tryd.results23, go_sem, r0, r1]) rfl ⟨rfl, (h1.setCell (by simp; omega) _).setCell (by simp; omega) _⟩
end Go.Proofs.YtbdihcpehadbjaaDoor
