/- Plain facts: what Make of the reference computes is what Make of frac computes. -/
import Derived.Test.YtbdihcpehadbjaaDoorPa
namespace Go.Proofs.YtbdihcpehadbjaaDoor
open Go.RowKit

theorem mkv_exact (g N D : Int) (hg : 1 ≤ g) (h : gcv (g * N) (g * D) = g) (hD : D ≠ 0) :
    mkv (g * N) (g * D) = if (N.natAbs : Int) ≤ 1073741824 ∧ (D.natAbs : Int) ≤ 1073741824 then (if decide (N < 0) != decide (D < 0) then -(N.natAbs : Int) else (N.natAbs : Int), (D.natAbs : Int), 0) else (0, 0, 6) := by
  have s : ∀ x : Int, decide (g * x < 0) = decide (x < 0) := fun x => by
    rw [decide_eq_decide]
    constructor
    · intro h; apply Int.lt_of_not_ge; intro h2; have := Int.mul_nonneg (show 0 ≤ g by omega) h2; omega
    · intro h; exact Int.mul_neg_of_pos_of_neg (by omega) h
  have a : ∀ x : Int, ((g * x).natAbs : Int) = g * (x.natAbs : Int) := fun x => by rw [Int.natAbs_mul, Int.natCast_mul]; congr 1; omega
  have hgD : g * D ≠ 0 := by
    intro e; rcases Int.mul_eq_zero.1 e with h1 | h1 <;> omega
  unfold mkv
  rw [if_neg hgD, s, s]
  unfold fitv
  rw [gcv_abs, h, a, a, Int.mul_ediv_cancel_left _ (by omega : g ≠ 0), Int.mul_ediv_cancel_left _ (by omega : g ≠ 0)]

theorem ref_parts (num den m : Int) (h : -9223372036854775808 ≤ num) (h' : num ≤ 9223372036854775807) (hd : -9223372036854775808 ≤ den) (hd' : den ≤ 9223372036854775807) (h0 : den ≠ 0) (HM : -m = gcv num den) :
    ∃ N D : Int, num.tdiv m = -N ∧ den.tdiv m = -D ∧ D ≠ 0 ∧ -9223372036854775808 ≤ N ∧ N ≤ 9223372036854775807 ∧ -9223372036854775808 ≤ D ∧ D ≤ 9223372036854775807 ∧
      mkv num den = if (N.natAbs : Int) ≤ 1073741824 ∧ (D.natAbs : Int) ≤ 1073741824 then (if decide (N < 0) != decide (D < 0) then -(N.natAbs : Int) else (N.natAbs : Int), (D.natAbs : Int), 0) else (0, 0, 6) := by
  have hg := gcv_pos num den h0
  have e1 := gcv_left num den
  have e2 := gcv_right num den
  obtain ⟨g, hgm⟩ : ∃ g, g = gcv num den := ⟨_, rfl⟩
  have hm : m = -g := by omega
  generalize hN : num / gcv num den = N at *
  generalize hDD : den / gcv num den = D at *
  rw [← hgm] at e1 e2 hg
  have hself : gcv (g * N) (g * D) = g := by rw [e1, e2]; exact hgm.symm
  have hD : D ≠ 0 := by intro e; rw [e] at e2; simp at e2; omega
  have a : ∀ x : Int, ((g * x).natAbs : Int) = g * (x.natAbs : Int) := fun x => by rw [Int.natAbs_mul, Int.natCast_mul]; congr 1; omega
  have bd : ∀ x : Int, (x.natAbs : Int) ≤ ((g * x).natAbs : Int) := fun x => by
    rw [a]; have := Int.mul_le_mul_of_nonneg_right hg (show (0 : Int) ≤ (x.natAbs : Int) by omega); omega
  have b1 := bd N
  have b2 := bd D
  have hN1 : g * N < 0 → N < 0 := fun h => by
    apply Int.lt_of_not_ge; intro h2; have := Int.mul_nonneg (show 0 ≤ g by omega) h2; omega
  have hD1 : g * D < 0 → D < 0 := fun h => by
    apply Int.lt_of_not_ge; intro h2; have := Int.mul_nonneg (show 0 ≤ g by omega) h2; omega
  have hN2 : 0 ≤ g * N → 0 ≤ N := fun h => by
    apply Int.le_of_not_gt; intro h2; have := Int.mul_neg_of_pos_of_neg (show 0 < g by omega) h2; omega
  have hD2 : 0 ≤ g * D → 0 ≤ D := fun h => by
    apply Int.le_of_not_gt; intro h2; have := Int.mul_neg_of_pos_of_neg (show 0 < g by omega) h2; omega
  refine ⟨N, D, ?_, ?_, hD, by omega, by omega, by omega, by omega, ?_⟩
  · rw [hm, Int.tdiv_neg, ← e1, Int.mul_tdiv_cancel_left _ (by omega : g ≠ 0)]
  · rw [hm, Int.tdiv_neg, ← e2, Int.mul_tdiv_cancel_left _ (by omega : g ≠ 0)]
  · rw [← e1, ← e2]; exact mkv_exact g N D hg hself hD

theorem ref_ok1 (num den m : Int) (h : -9223372036854775808 ≤ num) (h' : num ≤ 9223372036854775807) (hd : -9223372036854775808 ≤ den) (hd' : den ≤ 9223372036854775807) (h0 : den ≠ 0) (HM : -m = gcv num den) (_hneg : wrap64 (den.tdiv m) < 0)
    (c1 : -1073741824 ≤ wrap64 (-wrap64 (num.tdiv m))) (c2 : wrap64 (-wrap64 (num.tdiv m)) ≤ 1073741824) (c3 : 1 ≤ wrap64 (-wrap64 (den.tdiv m))) (c4 : wrap64 (-wrap64 (den.tdiv m)) ≤ 1073741824) :
    mkv num den = (wrap64 (-wrap64 (num.tdiv m)), wrap64 (-wrap64 (den.tdiv m)), 0) := by
  obtain ⟨N, D, e1, e2, hD, n1, n2, d1, d2, hm⟩ := ref_parts num den m h h' hd hd' h0 HM
  rw [e1] at c1 c2 ⊢
  rw [e2] at c3 c4 ⊢
  unfold wrap64 at *
  rw [hm, if_pos (by omega)]
  by_cases hn : N < 0
  · have : decide (D < 0) = false := by simp; omega
    simp only [hn, this, decide_true, Prod.mk.injEq]
    refine ⟨?_, by omega, trivial⟩
    simp; omega
  · have : decide (D < 0) = false := by simp; omega
    have h2 : decide (N < 0) = false := by simp; omega
    simp only [h2, this, bne_self_eq_false, Prod.mk.injEq]
    refine ⟨?_, by omega, trivial⟩
    simp; omega
theorem ref_ok0 (num den m : Int) (h : -9223372036854775808 ≤ num) (h' : num ≤ 9223372036854775807) (hd : -9223372036854775808 ≤ den) (hd' : den ≤ 9223372036854775807) (h0 : den ≠ 0) (HM : -m = gcv num den) (_hneg : 0 ≤ wrap64 (den.tdiv m))
    (c1 : -1073741824 ≤ wrap64 (num.tdiv m)) (c2 : wrap64 (num.tdiv m) ≤ 1073741824) (c3 : 1 ≤ wrap64 (den.tdiv m)) (c4 : wrap64 (den.tdiv m) ≤ 1073741824) :
    mkv num den = (wrap64 (num.tdiv m), wrap64 (den.tdiv m), 0) := by
  obtain ⟨N, D, e1, e2, hD, n1, n2, d1, d2, hm⟩ := ref_parts num den m h h' hd hd' h0 HM
  rw [e1] at c1 c2 ⊢
  rw [e2] at c3 c4 ⊢
  unfold wrap64 at *
  rw [hm, if_pos (by omega)]
  have : decide (D < 0) = true := by simp; omega
  by_cases hn : N < 0
  · simp only [hn, this, decide_true, bne_self_eq_false, Prod.mk.injEq]
    refine ⟨?_, by omega, trivial⟩
    simp; omega
  · have h2 : decide (N < 0) = false := by simp; omega
    simp only [h2, this, Prod.mk.injEq]
    refine ⟨?_, by omega, trivial⟩
    simp; omega
theorem ref_big1 (num den m : Int) (h : -9223372036854775808 ≤ num) (h' : num ≤ 9223372036854775807) (hd : -9223372036854775808 ≤ den) (hd' : den ≤ 9223372036854775807) (h0 : den ≠ 0) (HM : -m = gcv num den) (hneg : wrap64 (den.tdiv m) < 0)
    (c : wrap64 (-wrap64 (num.tdiv m)) < -1073741824 ∨ 1073741824 < wrap64 (-wrap64 (num.tdiv m)) ∨ wrap64 (-wrap64 (den.tdiv m)) < 1 ∨ 1073741824 < wrap64 (-wrap64 (den.tdiv m))) :
    mkv num den = (0, 0, 6) := by
  obtain ⟨N, D, e1, e2, hD, n1, n2, d1, d2, hm⟩ := ref_parts num den m h h' hd hd' h0 HM
  rw [e1, e2] at c
  rw [e2] at hneg
  unfold wrap64 at *
  rw [hm, if_neg (by omega)]
theorem ref_big0 (num den m : Int) (h : -9223372036854775808 ≤ num) (h' : num ≤ 9223372036854775807) (hd : -9223372036854775808 ≤ den) (hd' : den ≤ 9223372036854775807) (h0 : den ≠ 0) (HM : -m = gcv num den) (hneg : 0 ≤ wrap64 (den.tdiv m))
    (c : wrap64 (num.tdiv m) < -1073741824 ∨ 1073741824 < wrap64 (num.tdiv m) ∨ wrap64 (den.tdiv m) < 1 ∨ 1073741824 < wrap64 (den.tdiv m)) :
    mkv num den = (0, 0, 6) := by
  obtain ⟨N, D, e1, e2, hD, n1, n2, d1, d2, hm⟩ := ref_parts num den m h h' hd hd' h0 HM
  rw [e1, e2] at c
  rw [e2] at hneg
  unfold wrap64 at *
  rw [hm, if_neg (by omega)]
end Go.Proofs.YtbdihcpehadbjaaDoor
