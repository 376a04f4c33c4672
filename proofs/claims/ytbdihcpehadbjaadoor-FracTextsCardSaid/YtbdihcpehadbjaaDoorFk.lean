/- Sub, Mul, Div of package frac and Add, Sub, Mul, Div of the reference: what a call returns. -/
import Derived.Test.YtbdihcpehadbjaaDoorPc
import Derived.Deep.RegionHeld3
namespace Go.Proofs.YtbdihcpehadbjaaDoor
open Go.RowKit

/-- what Sub, Mul, Div return -/
def subv (an ad bn bd : Int) : Int × Int × Int := if vldB an ad && vldB bn bd then addv an ad (-bn) bd else (0, 0, 1)
def mulv (an ad bn bd : Int) : Int × Int × Int := if vldB an ad && vldB bn bd then mkv (an * bn) (ad * bd) else (0, 0, 1)
def divv (an ad bn bd : Int) : Int × Int × Int := if vldB an ad && vldB bn bd then mkv (an * bd) (ad * bn) else (0, 0, 1)

theorem fitv_zero (b : Bool) (d : Int) : fitv b 0 d = fitv false 0 d := by
  unfold fitv; simp
theorem sgn_mul_pos (a b : Int) (hb : 1 ≤ b) : decide (a * b < 0) = decide (a < 0) := by
  rw [decide_eq_decide]
  constructor
  · intro h; apply Int.lt_of_not_ge; intro h2; have := Int.mul_nonneg h2 (show 0 ≤ b by omega); omega
  · intro h; exact Int.mul_neg_of_neg_of_pos h (by omega)
theorem mul_plain (an ad bn bd : Int) (ha : 1 ≤ ad) (hb : 1 ≤ bd) :
    mkv (an * bn) (ad * bd) = fitv (!(decide (an < 0) == decide (bn < 0))) ((an.natAbs : Int) * (bn.natAbs : Int)) (ad * bd) := by
  rw [mkv_pos _ _ (mul_one_le ha hb), Int.natAbs_mul, Int.natCast_mul]
  by_cases h0 : an = 0
  · subst h0; simp only [Int.natAbs_zero, Int.natCast_zero, Int.zero_mul]; rw [fitv_zero, fitv_zero (!_)]
  · by_cases h1 : bn = 0
    · subst h1; simp only [Int.natAbs_zero, Int.natCast_zero, Int.mul_zero]; rw [fitv_zero, fitv_zero (!_)]
    · congr 1
      by_cases s1 : an < 0
      · by_cases s2 : bn < 0
        · have := Int.mul_pos_of_neg_of_neg s1 s2
          have e1 : decide (an * bn < 0) = false := by simp; omega
          rw [e1]; simp [s1, s2]
        · have := Int.mul_neg_of_neg_of_pos s1 (show 0 < bn by omega)
          have e1 : decide (an * bn < 0) = true := by simp; omega
          rw [e1]; simp [s1, s2]
      · by_cases s2 : bn < 0
        · have := Int.mul_neg_of_pos_of_neg (show 0 < an by omega) s2
          have e1 : decide (an * bn < 0) = true := by simp; omega
          rw [e1]; simp [s1, s2]
        · have := Int.mul_pos (show 0 < an by omega) (show 0 < bn by omega)
          have e1 : decide (an * bn < 0) = false := by simp; omega
          rw [e1]; simp [s1, s2]
theorem div_plain (an ad bn bd : Int) (ha : 1 ≤ ad) (hb : 1 ≤ bd) (h0 : bn ≠ 0) :
    mkv (an * bd) (ad * bn) = fitv (!(decide (an < 0) == decide (bn < 0))) ((an.natAbs : Int) * bd) (ad * (bn.natAbs : Int)) := by
  unfold mkv
  have hz : ad * bn ≠ 0 := by intro e; rcases Int.mul_eq_zero.1 e with h | h <;> omega
  rw [if_neg hz, sgn_mul_pos an bd hb, Int.mul_comm ad bn, sgn_mul_pos bn ad ha, Int.natAbs_mul, Int.natAbs_mul, Int.natCast_mul, Int.natCast_mul]
  have e1 : ((bd.natAbs : Nat) : Int) = bd := by omega
  have e2 : ((ad.natAbs : Nat) : Int) = ad := by omega
  rw [e1, e2, Int.mul_comm ((bn.natAbs : Nat) : Int) ad]
  rfl

theorem abs_still (n : Int) (w : World) (h : -9223372036854775808 ≤ n) (h' : n ≤ 9223372036854775807) :
    Calls Tryd.prog 40 #[.int .i64 n] w fun e w' => e = .returned (.int .u64 (n.natAbs : Int)) ∧ w' = w :=
  (abs_any n w h h').mono fun _ _ ⟨a, b⟩ => ⟨a, b.symm⟩

theorem abs_bd (n : Int) (h1 : -1073741824 ≤ n) (h2 : n ≤ 1073741824) : -1073741824 ≤ ((n.natAbs : Nat) : Int) ∧ ((n.natAbs : Nat) : Int) ≤ 1073741824 := by omega

theorem keep2 {w5 : World} {B C o o1 o2 : Nat} {v x y : Value} (h : w5.cell? ⟨B, o, none⟩ = some v) (hne : B < C) : ((w5.setCell ⟨C, o1, none⟩ x).setCell ⟨C, o2, none⟩ y).cell? ⟨B, o, none⟩ = some v := by
  rw [World.cell?_setCell_far _ _ _ _ (by simp; omega), World.cell?_setCell_far _ _ _ _ (by simp; omega)]; exact h

set_option maxRecDepth 100000 in
set_option maxHeartbeats 1600000 in
theorem mul_any (an ad bn bd : Int) (w : World) (ha : i64p (an, ad)) (hb : i64p (bn, bd)) :
    Calls Tryd.prog 25 #[.agg #[.int .i64 an, .int .i64 ad], .agg #[.int .i64 bn, .int .i64 bd]] w fun e w' => e = ret3 (mulv an ad bn bd) ∧ Below w.heap.size w w' := by
  cases hv : (vldB an ad && vldB bn bd)
  · have HA := Lib.hid (show mulv an ad bn bd = (0, 0, 1) by unfold mulv; rw [hv]; rfl)
    go_enter Tryd.func25, Tryd.ntmps25
    go_wp2_with fail
    ((with_reducible refine (valid2_any _ _ _ _ _ _ ha hb (by simp)).mono ?_); rintro e w1 ⟨rfl, hb1⟩)
    have hB := (Box2.start w an ad bn bd _).below hb1
    clear hb1
    obtain ⟨h1, h2, a0, a1, b0, b1, r0, r1, f0, f1⟩ := hB
    go_wp2_with fail
    exact bodyPost_ret (v := .tuple #[.agg #[.int .i64 0, .int .i64 0], .int .i64 1]) (by simp [results, Tryd.results25, go_sem, r0, r1]) rfl ⟨by rw [HA.out]; rfl, (h1.setCell (by simp; omega) _).setCell (by simp; omega) _⟩
  · have hva : vldB an ad = true := by revert hv; cases vldB an ad <;> simp
    have hvb : vldB bn bd = true := by revert hv; cases vldB bn bd <;> simp
    obtain ⟨p1, p2, p3, p4, p5⟩ := vldB_parts hva
    obtain ⟨q1, q2, q3, q4, q5⟩ := vldB_parts hvb
    clear p5 q5
    have HM := Lib.hid (show mulv an ad bn bd = fitv (!(decide (an < 0) == decide (bn < 0))) ((an.natAbs : Int) * (bn.natAbs : Int)) (ad * bd) by unfold mulv; rw [hv]; exact mul_plain an ad bn bd p3 q3)
    obtain ⟨m1, m2⟩ := mul_bd (an.natAbs : Int) (bn.natAbs : Int) (abs_bd an p1 p2).1 (abs_bd an p1 p2).2 (by omega) (abs_bd bn q1 q2).2
    obtain ⟨d1, d2⟩ := mul_bd ad bd (by omega) p4 (by omega) q4
    have d0 := mul_one_le p3 q3
    have m0 : 0 ≤ ((an.natAbs : Nat) : Int) * ((bn.natAbs : Nat) : Int) := Int.mul_nonneg (by omega) (by omega)
    go_enter Tryd.func25, Tryd.ntmps25
    go_wp2_with fail
    ((with_reducible refine (valid2_any _ _ _ _ _ _ ha hb (by simp)).mono ?_); rintro e w1 ⟨rfl, hb1⟩)
    have hB := (Box2.start w an ad bn bd _).below hb1
    clear hb1
    have HB := Lib.hid hB
    obtain ⟨h1, h2, a0, a1, b0, b1, r0, r1, f0, f1⟩ := hB
    go_wp2_with fail
    have k1 : IntKind.u64.wrap (((an.natAbs : Nat) : Int) * ((bn.natAbs : Nat) : Int)) = ((an.natAbs : Nat) : Int) * ((bn.natAbs : Nat) : Int) := IntWalk.u64_in _ (by omega)
    have k2 : IntKind.u64.wrap (ad * bd) = ad * bd := IntWalk.u64_in _ (by omega)
    have k3 : IntKind.u64.wrap ad = ad := IntWalk.u64_in _ (by omega)
    have k4 : IntKind.u64.wrap bd = bd := IntWalk.u64_in _ (by omega)
    go_region_held3 (fun w' => w'.cell? ⟨w.heap.size, 0, none⟩ = some (.int .i64 an) ∧ w'.cell? ⟨w.heap.size, 1, none⟩ = some (.int .i64 ad) ∧ w'.cell? ⟨w.heap.size + 1, 0, none⟩ = some (.int .i64 bn) ∧ w'.cell? ⟨w.heap.size + 1, 1, none⟩ = some (.int .i64 bd))
      (first | exact ⟨by assumption, by assumption, by assumption, by assumption⟩ | (go_keep; done) | exact ⟨keep2 a05 (by omega), keep2 a15 (by omega), keep2 b05 (by omega), keep2 b15 (by omega)⟩)
      (first
        | (go_at_call 40; refine (abs_any _ _ (by omega) (by omega)).mono ?_; rintro e w' ⟨rfl, rfl⟩)
        | (go_at_call 39; refine (fit_any _ _ _ _ (by omega) (by omega) (by omega) (by omega)).mono ?_; rintro e w5 ⟨rfl, hb5⟩; obtain ⟨h15, h25, a05, a15, b05, b15, r05, r15, f05, f15⟩ := (HB.out.drewN 1).below hb5; rw [← HM.out]; unfold ret3))
    all_goals
      go_wp2_with fail
      exact bodyPost_ret (v := .tuple #[.agg #[.int .i64 (mulv an ad bn bd).1, .int .i64 (mulv an ad bn bd).2.1], .int .i64 (mulv an ad bn bd).2.2]) (by simp [results, Tryd.results25, go_sem, r05, r15]) rfl ⟨rfl, (h15.setCell (by simp; omega) _).setCell (by simp; omega) _⟩
set_option maxRecDepth 100000 in
set_option maxHeartbeats 1600000 in
theorem div_any (an ad bn bd : Int) (w : World) (ha : i64p (an, ad)) (hb : i64p (bn, bd)) :
    Calls Tryd.prog 26 #[.agg #[.int .i64 an, .int .i64 ad], .agg #[.int .i64 bn, .int .i64 bd]] w fun e w' => e = ret3 (divv an ad bn bd) ∧ Below w.heap.size w w' := by
  cases hv : (vldB an ad && vldB bn bd)
  · have HA := Lib.hid (show divv an ad bn bd = (0, 0, 1) by unfold divv; rw [hv]; rfl)
    go_enter Tryd.func26, Tryd.ntmps26
    go_wp2_with fail
    ((with_reducible refine (valid2_any _ _ _ _ _ _ ha hb (by simp)).mono ?_); rintro e w1 ⟨rfl, hb1⟩)
    have hB := (Box2.start w an ad bn bd _).below hb1
    clear hb1
    obtain ⟨h1, h2, a0, a1, b0, b1, r0, r1, f0, f1⟩ := hB
    go_wp2_with fail
    exact bodyPost_ret (v := .tuple #[.agg #[.int .i64 0, .int .i64 0], .int .i64 1]) (by simp [results, Tryd.results26, go_sem, r0, r1]) rfl ⟨by rw [HA.out]; rfl, (h1.setCell (by simp; omega) _).setCell (by simp; omega) _⟩
  · have hva : vldB an ad = true := by revert hv; cases vldB an ad <;> simp
    have hvb : vldB bn bd = true := by revert hv; cases vldB bn bd <;> simp
    obtain ⟨p1, p2, p3, p4, p5⟩ := vldB_parts hva
    obtain ⟨q1, q2, q3, q4, q5⟩ := vldB_parts hvb
    clear p5 q5
    by_cases h0 : bn = 0
    · have HA := Lib.hid (show divv an ad bn bd = (0, 0, 7) by unfold divv mkv; rw [hv, h0]; simp)
      have hz : (bn == 0) = true := by simp [h0]
      clear h0
      go_enter Tryd.func26, Tryd.ntmps26
      go_wp2_with fail
      ((with_reducible refine (valid2_any _ _ _ _ _ _ ha hb (by simp)).mono ?_); rintro e w1 ⟨rfl, hb1⟩)
      have hB := (Box2.start w an ad bn bd _).below hb1
      clear hb1
      obtain ⟨h1, h2, a0, a1, b0, b1, r0, r1, f0, f1⟩ := hB
      go_wp2_with fail
      exact bodyPost_ret (v := .tuple #[.agg #[.int .i64 0, .int .i64 0], .int .i64 7]) (by simp [results, Tryd.results26, go_sem, r0, r1]) rfl ⟨by rw [HA.out]; rfl, (h1.setCell (by simp; omega) _).setCell (by simp; omega) _⟩
    have hz : (bn == 0) = false := by simp [h0]
    have HM := Lib.hid (show divv an ad bn bd = fitv (!(decide (an < 0) == decide (bn < 0))) ((an.natAbs : Int) * bd) (ad * (bn.natAbs : Int)) by unfold divv; rw [hv]; exact div_plain an ad bn bd p3 q3 h0)
    obtain ⟨m1, m2⟩ := mul_bd (an.natAbs : Int) bd (abs_bd an p1 p2).1 (abs_bd an p1 p2).2 (by omega) q4
    obtain ⟨d1, d2⟩ := mul_bd ad (bn.natAbs : Int) (by omega) p4 (by omega) (abs_bd bn q1 q2).2
    have d0 := mul_one_le p3 (show 1 ≤ ((bn.natAbs : Nat) : Int) by omega)
    have m0 : 0 ≤ ((an.natAbs : Nat) : Int) * bd := Int.mul_nonneg (by omega) (by omega)
    clear h0
    go_enter Tryd.func26, Tryd.ntmps26
    go_wp2_with fail
    ((with_reducible refine (valid2_any _ _ _ _ _ _ ha hb (by simp)).mono ?_); rintro e w1 ⟨rfl, hb1⟩)
    have hB := (Box2.start w an ad bn bd _).below hb1
    clear hb1
    have HB := Lib.hid hB
    obtain ⟨h1, h2, a0, a1, b0, b1, r0, r1, f0, f1⟩ := hB
    go_wp2_with fail
    have k1 : IntKind.u64.wrap (((an.natAbs : Nat) : Int) * bd) = ((an.natAbs : Nat) : Int) * bd := IntWalk.u64_in _ (by omega)
    have k2 : IntKind.u64.wrap (ad * ((bn.natAbs : Nat) : Int)) = ad * ((bn.natAbs : Nat) : Int) := IntWalk.u64_in _ (by omega)
    have k3 : IntKind.u64.wrap ad = ad := IntWalk.u64_in _ (by omega)
    have k4 : IntKind.u64.wrap bd = bd := IntWalk.u64_in _ (by omega)
    go_region_held3 (fun w' => w'.cell? ⟨w.heap.size, 0, none⟩ = some (.int .i64 an) ∧ w'.cell? ⟨w.heap.size, 1, none⟩ = some (.int .i64 ad) ∧ w'.cell? ⟨w.heap.size + 1, 0, none⟩ = some (.int .i64 bn) ∧ w'.cell? ⟨w.heap.size + 1, 1, none⟩ = some (.int .i64 bd))
      (first | exact ⟨by assumption, by assumption, by assumption, by assumption⟩ | (go_keep; done) | exact ⟨keep2 a05 (by omega), keep2 a15 (by omega), keep2 b05 (by omega), keep2 b15 (by omega)⟩)
      (first
        | (go_at_call 40; refine (abs_any _ _ (by omega) (by omega)).mono ?_; rintro e w' ⟨rfl, rfl⟩)
        | (go_at_call 39; refine (fit_any _ _ _ _ (by omega) (by omega) (by omega) (by omega)).mono ?_; rintro e w5 ⟨rfl, hb5⟩; obtain ⟨h15, h25, a05, a15, b05, b15, r05, r15, f05, f15⟩ := (HB.out.drewN 1).below hb5; rw [← HM.out]; unfold ret3))
    all_goals
      go_wp2_with fail
      exact bodyPost_ret (v := .tuple #[.agg #[.int .i64 (divv an ad bn bd).1, .int .i64 (divv an ad bn bd).2.1], .int .i64 (divv an ad bn bd).2.2]) (by simp [results, Tryd.results26, go_sem, r05, r15]) rfl ⟨rfl, (h15.setCell (by simp; omega) _).setCell (by simp; omega) _⟩

set_option maxRecDepth 100000 in
set_option maxHeartbeats 1600000 in
theorem sub_any (an ad bn bd : Int) (w : World) (ha : i64p (an, ad)) (hb : i64p (bn, bd)) :
    Calls Tryd.prog 24 #[.agg #[.int .i64 an, .int .i64 ad], .agg #[.int .i64 bn, .int .i64 bd]] w fun e w' => e = ret3 (subv an ad bn bd) ∧ Below w.heap.size w w' := by
  cases hv : (vldB an ad && vldB bn bd)
  · have HA := Lib.hid (show subv an ad bn bd = (0, 0, 1) by unfold subv; rw [hv]; rfl)
    go_enter Tryd.func24, Tryd.ntmps24
    go_wp2_with fail
    ((with_reducible refine (valid2_any _ _ _ _ _ _ ha hb (by simp)).mono ?_); rintro e w1 ⟨rfl, hb1⟩)
    have hB := (Box2.start w an ad bn bd _).below hb1
    clear hb1
    obtain ⟨h1, h2, a0, a1, b0, b1, r0, r1, f0, f1⟩ := hB
    go_wp2_with fail
    exact bodyPost_ret (v := .tuple #[.agg #[.int .i64 0, .int .i64 0], .int .i64 1]) (by simp [results, Tryd.results24, go_sem, r0, r1]) rfl ⟨by rw [HA.out]; rfl, (h1.setCell (by simp; omega) _).setCell (by simp; omega) _⟩
  · have hva : vldB an ad = true := by revert hv; cases vldB an ad <;> simp
    have hvb : vldB bn bd = true := by revert hv; cases vldB bn bd <;> simp
    obtain ⟨q1, q2, q3, q4, q5⟩ := vldB_parts hvb
    clear q5
    have HS := Lib.hid (show addv an ad (-bn) bd = subv an ad bn bd by unfold subv; rw [hv]; rfl)
    go_enter Tryd.func24, Tryd.ntmps24
    go_wp2_with fail
    ((with_reducible refine (valid2_any _ _ _ _ _ _ ha hb (by simp)).mono ?_); rintro e w1 ⟨rfl, hb1⟩)
    have hfz : w1.frozen? ⟨w.heap.size + 1, 0, none⟩ = false := by rw [(bcell hb1).2 _ _ (by simp)]; simp [go_sem]
    have hB := (Box2.start w an ad bn bd _).below hb1
    clear hb1
    have HB := Lib.hid hB
    obtain ⟨h1, h2, a0, a1, b0, b1, r0, r1, f0, f1⟩ := hB
    go_wp2_with fail
    have hbn : i64p (-bn, bd) := ⟨by simp only; omega, by simp only; omega, by simp only; omega, by simp only; omega⟩
    have s0 : (w1.setCell ⟨w.heap.size + 1, 0, none⟩ (.int .i64 (-bn))).cell? ⟨w.heap.size + 1 + 1, 0, none⟩ = some (.int .i64 0) := by rw [World.cell?_setCell_far _ _ _ _ (by simp)]; exact r0
    have s1 : (w1.setCell ⟨w.heap.size + 1, 0, none⟩ (.int .i64 (-bn))).cell? ⟨w.heap.size + 1 + 1, 1, none⟩ = some (.int .i64 0) := by rw [World.cell?_setCell_far _ _ _ _ (by simp)]; exact r1
    have s2 : (w1.setCell ⟨w.heap.size + 1, 0, none⟩ (.int .i64 (-bn))).frozen? ⟨w.heap.size + 1 + 1, 0, none⟩ = false := by simpa [go_sem] using f0
    have s3 : (w1.setCell ⟨w.heap.size + 1, 0, none⟩ (.int .i64 (-bn))).frozen? ⟨w.heap.size + 1 + 1, 1, none⟩ = false := by simpa [go_sem] using f1
    have s4 : w.heap.size + 1 + 1 < (w1.setCell ⟨w.heap.size + 1, 0, none⟩ (.int .i64 (-bn))).heap.size := by simpa using h2
    have s5 : Below w.heap.size w (w1.setCell ⟨w.heap.size + 1, 0, none⟩ (.int .i64 (-bn))) := h1.setCell (by simp) _
    clear HB h1 h2 a0 a1 b0 b1 r0 r1 f0 f1 hfz
    generalize w1.setCell ⟨w.heap.size + 1, 0, none⟩ (.int .i64 (-bn)) = w2 at s0 s1 s2 s3 s4 s5 ⊢
    ((with_reducible refine (add_any _ _ _ _ _ ha hbn).mono ?_); rintro e w3 ⟨rfl, hb3⟩)
    rw [HS.out]
    have r0 := ((bcell hb3).1 _ 0 s4).trans s0
    have r1 := ((bcell hb3).1 _ 1 s4).trans s1
    have f0 := ((bcell hb3).2 _ 0 s4).trans s2
    have f1 := ((bcell hb3).2 _ 1 s4).trans s3
    have h3 := below_then s5 hb3
    have h2 := Nat.lt_of_lt_of_le s4 hb3.size
    clear s0 s1 s2 s3 s4 s5 hb3
    unfold ret3
    go_wp2_with fail
    exact bodyPost_ret (v := .tuple #[.agg #[.int .i64 (subv an ad bn bd).1, .int .i64 (subv an ad bn bd).2.1], .int .i64 (subv an ad bn bd).2.2]) (by simp [results, Tryd.results24, go_sem, r0, r1]) rfl ⟨rfl, (h3.setCell (by simp; omega) _).setCell (by simp; omega) _⟩
end Go.Proofs.YtbdihcpehadbjaaDoor
