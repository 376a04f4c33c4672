/- Plain facts on the order of fractions and on sums. -/
import Derived.Test.YtbdihcpehadbjaaDoorFj
import Derived.Test.YtbdihcpehadbjaaDoorLa
namespace Go.Proofs.YtbdihcpehadbjaaDoor
open Go.RowKit

theorem cmpv_anti (an ad bn bd : Int) : cmpv an ad bn bd = -cmpv bn bd an ad := by
  unfold cmpv; split <;> split <;> (try split) <;> omega
theorem cmpv_bd (an ad bn bd : Int) : -1 ≤ cmpv an ad bn bd ∧ cmpv an ad bn bd ≤ 1 := by
  unfold cmpv; split <;> (try split) <;> omega
theorem gcv_comm (a b : Int) : gcv a b = gcv b a := by unfold gcv; rw [Nat.gcd_comm]
/-- two fractions in lowest terms with one value are one fraction -/
theorem lowest (an ad bn bd : Int) (ha : vldB an ad = true) (hb : vldB bn bd = true) (h : an * bd = bn * ad) : an = bn ∧ ad = bd := by
  obtain ⟨p1, p2, p3, p4, p5⟩ := vldB_parts ha
  obtain ⟨q1, q2, q3, q4, q5⟩ := vldB_parts hb
  have d1 : ad.natAbs ∣ bd.natAbs := by
    have h1 : ad.natAbs ∣ an.natAbs * bd.natAbs := by rw [← Int.natAbs_mul, h, Int.natAbs_mul]; exact Nat.dvd_mul_left _ _
    have hc : Nat.Coprime ad.natAbs an.natAbs := by unfold Nat.Coprime; rw [Nat.gcd_comm]; unfold gcv at p5; omega
    exact hc.dvd_of_dvd_mul_left h1
  have d2 : bd.natAbs ∣ ad.natAbs := by
    have h1 : bd.natAbs ∣ bn.natAbs * ad.natAbs := by rw [← Int.natAbs_mul, ← h, Int.natAbs_mul]; exact Nat.dvd_mul_left _ _
    have hc : Nat.Coprime bd.natAbs bn.natAbs := by unfold Nat.Coprime; rw [Nat.gcd_comm]; unfold gcv at q5; omega
    exact hc.dvd_of_dvd_mul_left h1
  have e := Nat.dvd_antisymm d1 d2
  have e2 : ad = bd := by omega
  subst e2
  exact ⟨Int.eq_of_mul_eq_mul_right (by omega) h, rfl⟩
theorem cmpv_zero (an ad bn bd : Int) (ha : vldB an ad = true) (hb : vldB bn bd = true) : cmpv an ad bn bd = 0 ↔ (an = bn ∧ ad = bd) := by
  constructor
  · intro h
    refine lowest an ad bn bd ha hb ?_
    unfold cmpv at h
    split at h
    · omega
    · split at h <;> omega
  · rintro ⟨rfl, rfl⟩; unfold cmpv; simp
theorem cmpv_sign (an ad bn bd : Int) : (cmpv an ad bn bd < 0 ↔ an * bd < bn * ad) ∧ (cmpv an ad bn bd ≤ 0 ↔ an * bd ≤ bn * ad) := by
  unfold cmpv; split
  · omega
  · split <;> omega
theorem mul_le_cancel {a b c : Int} (hc : 1 ≤ c) (h : a * c ≤ b * c) : a ≤ b := Int.le_of_mul_le_mul_right h (by omega)
theorem mul_lt_cancel {a b c : Int} (hc : 1 ≤ c) (h : a * c < b * c) : a < b := Int.lt_of_mul_lt_mul_right h (by omega)
theorem le_trans_frac (an ad bn bd cn cd : Int) (h1 : 1 ≤ ad) (h2 : 1 ≤ bd) (h3 : 1 ≤ cd) (ab : an * bd ≤ bn * ad) (bc : bn * cd ≤ cn * bd) : an * cd ≤ cn * ad := by
  apply mul_le_cancel h2
  have e1 : an * bd * cd ≤ bn * ad * cd := Int.mul_le_mul_of_nonneg_right ab (by omega)
  have e2 : bn * cd * ad ≤ cn * bd * ad := Int.mul_le_mul_of_nonneg_right bc (by omega)
  have i1 : an * cd * bd = an * bd * cd := by grind
  have i2 : bn * ad * cd = bn * cd * ad := by grind
  have i3 : cn * bd * ad = cn * ad * bd := by grind
  omega
theorem lt_trans_frac1 (an ad bn bd cn cd : Int) (h1 : 1 ≤ ad) (h2 : 1 ≤ bd) (h3 : 1 ≤ cd) (ab : an * bd < bn * ad) (bc : bn * cd ≤ cn * bd) : an * cd < cn * ad := by
  apply mul_lt_cancel h2
  have e1 : an * bd * cd < bn * ad * cd := Int.mul_lt_mul_of_pos_right ab (by omega)
  have e2 : bn * cd * ad ≤ cn * bd * ad := Int.mul_le_mul_of_nonneg_right bc (by omega)
  have i1 : an * cd * bd = an * bd * cd := by grind
  have i2 : bn * ad * cd = bn * cd * ad := by grind
  have i3 : cn * bd * ad = cn * ad * bd := by grind
  omega
theorem lt_trans_frac2 (an ad bn bd cn cd : Int) (h1 : 1 ≤ ad) (h2 : 1 ≤ bd) (h3 : 1 ≤ cd) (ab : an * bd ≤ bn * ad) (bc : bn * cd < cn * bd) : an * cd < cn * ad := by
  apply mul_lt_cancel h2
  have e1 : an * bd * cd ≤ bn * ad * cd := Int.mul_le_mul_of_nonneg_right ab (by omega)
  have e2 : bn * cd * ad < cn * bd * ad := Int.mul_lt_mul_of_pos_right bc (by omega)
  have i1 : an * cd * bd = an * bd * cd := by grind
  have i2 : bn * ad * cd = bn * cd * ad := by grind
  have i3 : cn * bd * ad = cn * ad * bd := by grind
  omega
/-- the order is transitive -/
theorem cmpv_trans (an ad bn bd cn cd : Int) (h1 : 1 ≤ ad) (h2 : 1 ≤ bd) (h3 : 1 ≤ cd) (ab : cmpv an ad bn bd ≤ 0) (bc : cmpv bn bd cn cd ≤ 0) :
    cmpv an ad cn cd ≤ 0 ∧ (cmpv an ad cn cd = 0 → 0 ≤ cmpv an ad bn bd ∧ 0 ≤ cmpv bn bd cn cd) := by
  have sab := cmpv_sign an ad bn bd
  have sbc := cmpv_sign bn bd cn cd
  have sac := cmpv_sign an ad cn cd
  have l1 := sab.2.1 ab
  have l2 := sbc.2.1 bc
  refine ⟨sac.2.2 (le_trans_frac an ad bn bd cn cd h1 h2 h3 l1 l2), fun h => ⟨?_, ?_⟩⟩
  · apply Int.le_of_not_gt; intro hlt
    have := sac.1.2 (lt_trans_frac1 an ad bn bd cn cd h1 h2 h3 (sab.1.1 hlt) l2); omega
  · apply Int.le_of_not_gt; intro hlt
    have := sac.1.2 (lt_trans_frac2 an ad bn bd cn cd h1 h2 h3 l1 (sbc.1.1 hlt)); omega
/-- the value of what Make returns -/
theorem mkv_val (n d : Int) (hd : 1 ≤ d) (h0 : (mkv n d).2.2 = 0) : (mkv n d).1 * d = n * (mkv n d).2.1 := by
  rw [mkv_pos n d hd] at h0 ⊢
  unfold fitv at h0 ⊢
  split
  · have e1 := gcv_left (n.natAbs : Int) d
    have e2 := gcv_right (n.natAbs : Int) d
    generalize gcv (n.natAbs : Int) d = g at *
    simp only
    split
    · rename_i hn
      have hn' : n < 0 := by simpa using hn
      have : n = -((n.natAbs : Nat) : Int) := by omega
      generalize (n.natAbs : Int) = m at *
      generalize m / g = M at *
      generalize d / g = D at *
      subst this; rw [← e1, ← e2]; grind
    · rename_i hn
      have hn' : ¬ n < 0 := by simpa using hn
      have : n = ((n.natAbs : Nat) : Int) := by omega
      generalize (n.natAbs : Int) = m at *
      generalize m / g = M at *
      generalize d / g = D at *
      subst this; rw [← e1, ← e2]; grind
  · rename_i hc; rw [if_neg hc] at h0; simp at h0
theorem addv_ok (an ad bn bd : Int) (ha : vldB an ad = true) (hb : vldB bn bd = true) : addv an ad bn bd = mkv (an * bd + bn * ad) (ad * bd) := by
  unfold addv; rw [ha, hb]; rfl
theorem cmpv_scale (an ad bn bd xn xd yn yd K L : Int) (hK : 1 ≤ K) (hL : 1 ≤ L) (h : (xn * yd - yn * xd) * K = (an * bd - bn * ad) * L) : cmpv xn xd yn yd = cmpv an ad bn bd := by
  have e1 : xn * yd < yn * xd ↔ an * bd < bn * ad := by
    constructor
    · intro hlt
      have := Int.mul_neg_of_neg_of_pos (show xn * yd - yn * xd < 0 by omega) (show 0 < K by omega)
      apply Int.lt_of_not_ge; intro hge
      have := Int.mul_nonneg (show 0 ≤ an * bd - bn * ad by omega) (show 0 ≤ L by omega); omega
    · intro hlt
      have := Int.mul_neg_of_neg_of_pos (show an * bd - bn * ad < 0 by omega) (show 0 < L by omega)
      apply Int.lt_of_not_ge; intro hge
      have := Int.mul_nonneg (show 0 ≤ xn * yd - yn * xd by omega) (show 0 ≤ K by omega); omega
  have e2 : yn * xd < xn * yd ↔ bn * ad < an * bd := by
    constructor
    · intro hlt
      have := Int.mul_pos (show 0 < xn * yd - yn * xd by omega) (show 0 < K by omega)
      apply Int.lt_of_not_ge; intro hge
      have := Int.mul_nonpos_of_nonpos_of_nonneg (show an * bd - bn * ad ≤ 0 by omega) (show 0 ≤ L by omega); omega
    · intro hlt
      have := Int.mul_pos (show 0 < an * bd - bn * ad by omega) (show 0 < L by omega)
      apply Int.lt_of_not_ge; intro hge
      have := Int.mul_nonpos_of_nonpos_of_nonneg (show xn * yd - yn * xd ≤ 0 by omega) (show 0 ≤ K by omega); omega
  unfold cmpv
  simp only [e1, e2]
theorem mul_one_le {a b : Int} (ha : 1 ≤ a) (hb : 1 ≤ b) : 1 ≤ a * b := by
  have := Int.mul_le_mul_of_nonneg_right ha (show 0 ≤ b by omega); omega
/-- adding one fraction keeps the order -/
theorem cmpv_add (an ad bn bd cn cd xn xd yn yd : Int) (ha : vldB an ad = true) (hb : vldB bn bd = true) (hc : vldB cn cd = true)
    (hx : addv an ad cn cd = (xn, xd, 0)) (hy : addv bn bd cn cd = (yn, yd, 0)) :
    vldB xn xd = true ∧ vldB yn yd = true ∧ cmpv xn xd yn yd = cmpv an ad bn bd := by
  obtain ⟨_, _, a1, _, _⟩ := vldB_parts ha
  obtain ⟨_, _, b1, _, _⟩ := vldB_parts hb
  obtain ⟨_, _, c1, _, _⟩ := vldB_parts hc
  rw [addv_ok _ _ _ _ ha hc] at hx
  rw [addv_ok _ _ _ _ hb hc] at hy
  have hac := mul_one_le a1 c1
  have hbc := mul_one_le b1 c1
  have vx := mkv_val (an * cd + cn * ad) (ad * cd) hac (by rw [hx])
  have vy := mkv_val (bn * cd + cn * bd) (bd * cd) hbc (by rw [hy])
  have ox := mkv_ok (an * cd + cn * ad) (ad * cd) (by rw [hx])
  have oy := mkv_ok (bn * cd + cn * bd) (bd * cd) (by rw [hy])
  rw [hx] at vx ox
  rw [hy] at vy oy
  simp only at vx vy ox oy
  refine ⟨ox, oy, ?_⟩
  obtain ⟨_, _, x1, _, _⟩ := vldB_parts ox
  obtain ⟨_, _, y1, _, _⟩ := vldB_parts oy
  refine cmpv_scale an ad bn bd xn xd yn yd (ad * cd * (bd * cd)) (xd * yd * (cd * cd)) (mul_one_le hac hbc) (mul_one_le (mul_one_le x1 y1) (mul_one_le c1 c1)) ?_
  clear hx hy hac hbc ox oy
  have e1 : (xn * yd - yn * xd) * (ad * cd * (bd * cd)) = xn * (ad * cd) * (yd * (bd * cd)) - yn * (bd * cd) * (xd * (ad * cd)) := by grind
  rw [e1, vx, vy]
  grind
end Go.Proofs.YtbdihcpehadbjaaDoor
