/- Plain facts: sums and products of fractions are commutative, associative and distributive as far as they fit; subtracting and dividing undo. -/
import Derived.Test.YtbdihcpehadbjaaDoorFk
import Derived.Test.YtbdihcpehadbjaaDoorLa
namespace Go.Proofs.YtbdihcpehadbjaaDoor
open Go.RowKit

/-- n/d is a value of the fraction p/q -/
def Val (p q n d : Int) : Prop := vldB p q = true ∧ 1 ≤ d ∧ p * d = n * q
theorem mkv_Val (n d p q : Int) (hd : 1 ≤ d) (h : mkv n d = (p, q, 0)) : Val p q n d := by
  have h1 := mkv_ok n d (by rw [h])
  have h2 := mkv_val n d hd (by rw [h])
  rw [h] at h1 h2
  exact ⟨h1, hd, h2⟩
/-- a value determines the fraction -/
theorem Val.eq {p q p' q' n d n' d' : Int} (h : Val p q n d) (h' : Val p' q' n' d') (e : n * d' = n' * d) : p = p' ∧ q = q' := by
  refine lowest p q p' q' h.1 h'.1 ?_
  have hd := h.2.1
  have hd' := h'.2.1
  have e1 := h.2.2
  have e2 := h'.2.2
  have e3 : p * q' * (d * d') = p' * q * (d * d') := by
    have i1 : p * q' * (d * d') = (p * d) * (q' * d') := by grind
    have i2 : p' * q * (d * d') = (p' * d') * (q * d) := by grind
    rw [i1, i2, e1, e2]; grind
  exact Int.eq_of_mul_eq_mul_right (by have := mul_one_le hd hd'; omega) e3
theorem Val.self {p q : Int} (h : vldB p q = true) : Val p q p q := ⟨h, (vldB_parts h).2.2.1, rfl⟩
theorem add_Val {an ad bn bd p q n d m k : Int} (ha : Val an ad n d) (hb : Val bn bd m k) (h : addv an ad bn bd = (p, q, 0)) : Val p q (n * k + m * d) (d * k) := by
  rw [addv_ok _ _ _ _ ha.1 hb.1] at h
  have h1 := (vldB_parts ha.1).2.2.1
  have h2 := (vldB_parts hb.1).2.2.1
  have hv := mkv_Val _ _ _ _ (mul_one_le h1 h2) h
  refine ⟨hv.1, mul_one_le ha.2.1 hb.2.1, ?_⟩
  have e := hv.2.2
  have e1 := ha.2.2
  have e2 := hb.2.2
  have hp := mul_one_le h1 h2
  apply Int.eq_of_mul_eq_mul_right (a := ad * bd) (by omega)
  have i1 : p * (d * k) * (ad * bd) = p * (ad * bd) * (d * k) := by grind
  rw [i1, e]
  have i2 : (an * bd + bn * ad) * q * (d * k) = (an * d) * (bd * k) * q + (bn * k) * (ad * d) * q := by grind
  rw [i2, e1, e2]; grind
theorem mulv_ok (an ad bn bd : Int) (ha : vldB an ad = true) (hb : vldB bn bd = true) : mulv an ad bn bd = mkv (an * bn) (ad * bd) := by
  unfold mulv; rw [ha, hb]; rfl
theorem mul_Val {an ad bn bd p q n d m k : Int} (ha : Val an ad n d) (hb : Val bn bd m k) (h : mulv an ad bn bd = (p, q, 0)) : Val p q (n * m) (d * k) := by
  rw [mulv_ok _ _ _ _ ha.1 hb.1] at h
  have h1 := (vldB_parts ha.1).2.2.1
  have h2 := (vldB_parts hb.1).2.2.1
  have hv := mkv_Val _ _ _ _ (mul_one_le h1 h2) h
  refine ⟨hv.1, mul_one_le ha.2.1 hb.2.1, ?_⟩
  have e := hv.2.2
  have e1 := ha.2.2
  have e2 := hb.2.2
  have hp := mul_one_le h1 h2
  apply Int.eq_of_mul_eq_mul_right (a := ad * bd) (by omega)
  have i1 : p * (d * k) * (ad * bd) = p * (ad * bd) * (d * k) := by grind
  rw [i1, e]
  have i2 : an * bn * q * (d * k) = (an * d) * (bn * k) * q := by grind
  rw [i2, e1, e2]; grind
theorem addv_comm (an ad bn bd : Int) : addv an ad bn bd = addv bn bd an ad := by
  unfold addv; rw [Bool.and_comm, Int.mul_comm ad bd, Int.add_comm]
theorem mulv_comm (an ad bn bd : Int) : mulv an ad bn bd = mulv bn bd an ad := by
  unfold mulv; rw [Bool.and_comm, Int.mul_comm ad bd, Int.mul_comm an bn]
theorem addv_assoc {an ad bn bd cn cd xn xd ln ld mn md rn rd : Int} (ha : vldB an ad = true) (hb : vldB bn bd = true) (hc : vldB cn cd = true)
    (h1 : addv an ad bn bd = (xn, xd, 0)) (h2 : addv xn xd cn cd = (ln, ld, 0)) (h3 : addv bn bd cn cd = (mn, md, 0)) (h4 : addv an ad mn md = (rn, rd, 0)) : ln = rn ∧ ld = rd :=
  (add_Val (add_Val (Val.self ha) (Val.self hb) h1) (Val.self hc) h2).eq (add_Val (Val.self ha) (add_Val (Val.self hb) (Val.self hc) h3) h4) (by grind)
theorem mulv_assoc {an ad bn bd cn cd xn xd ln ld mn md rn rd : Int} (ha : vldB an ad = true) (hb : vldB bn bd = true) (hc : vldB cn cd = true)
    (h1 : mulv an ad bn bd = (xn, xd, 0)) (h2 : mulv xn xd cn cd = (ln, ld, 0)) (h3 : mulv bn bd cn cd = (mn, md, 0)) (h4 : mulv an ad mn md = (rn, rd, 0)) : ln = rn ∧ ld = rd :=
  (mul_Val (mul_Val (Val.self ha) (Val.self hb) h1) (Val.self hc) h2).eq (mul_Val (Val.self ha) (mul_Val (Val.self hb) (Val.self hc) h3) h4) (by grind)
theorem distr {an ad bn bd cn cd sn sd ln ld xn xd yn yd rn rd : Int} (ha : vldB an ad = true) (hb : vldB bn bd = true) (hc : vldB cn cd = true)
    (h1 : addv bn bd cn cd = (sn, sd, 0)) (h2 : mulv an ad sn sd = (ln, ld, 0)) (h3 : mulv an ad bn bd = (xn, xd, 0)) (h4 : mulv an ad cn cd = (yn, yd, 0)) (h5 : addv xn xd yn yd = (rn, rd, 0)) : ln = rn ∧ ld = rd :=
  (mul_Val (Val.self ha) (add_Val (Val.self hb) (Val.self hc) h1) h2).eq (add_Val (mul_Val (Val.self ha) (Val.self hb) h3) (mul_Val (Val.self ha) (Val.self hc) h4) h5) (by grind)
/-- the fraction with a value that a valid fraction has is that fraction -/
theorem mkv_of_val (n d p q : Int) (hd : 1 ≤ d) (hv : vldB p q = true) (e : p * d = n * q) : mkv n d = (p, q, 0) := by
  obtain ⟨v1, v2, v3, v4, v5⟩ := vldB_parts hv
  have hself : mkv p q = (p, q, 0) := by
    have h := mkv_self p q v1 v2 v3 v4
    rw [hv] at h
    simp only [Bool.and_eq_true, beq_iff_eq] at h
    have h3 : (mkv p q).2.2 = 0 := by
      rw [mkv_pos _ _ v3]; unfold fitv
      have e : gcv (p.natAbs : Int) q = gcv p q := by unfold gcv; simp
      rw [e, v5]; simp only [Int.ediv_one]
      rw [if_pos (by omega)]
    exact Prod.ext h.1 (Prod.ext h.2 h3)
  have h1 := mkv_scale d p q hd v3
  have h2 := mkv_scale q n d v3 hd
  have e3 : d * p = q * n := by rw [Int.mul_comm, e, Int.mul_comm]
  rw [e3, Int.mul_comm d q, h2] at h1
  rw [h1, hself]
theorem sub_back {an ad bn bd p q : Int} (ha : vldB an ad = true) (hb : vldB bn bd = true) (h : subv an ad bn bd = (p, q, 0)) : addv p q bn bd = (an, ad, 0) := by
  have hbn := vldB_neg bn bd hb
  have h' : addv an ad (-bn) bd = (p, q, 0) := by unfold subv at h; rw [ha, hb] at h; exact h
  have hv := add_Val (Val.self ha) (Val.self hbn) h'
  rw [addv_ok _ _ _ _ hv.1 hb]
  have hq := (vldB_parts hv.1).2.2.1
  have hbd := (vldB_parts hb).2.2.1
  have had := (vldB_parts ha).2.2.1
  refine mkv_of_val _ _ _ _ (mul_one_le hq hbd) ha ?_
  have e := hv.2.2
  apply Int.eq_of_mul_eq_mul_right (a := bd) (by omega)
  have i1 : (p * bd + bn * q) * ad * bd = (p * (ad * bd)) * bd + bn * q * ad * bd := by grind
  rw [i1, e]; grind
theorem divv_ok (an ad bn bd : Int) (ha : vldB an ad = true) (hb : vldB bn bd = true) : divv an ad bn bd = mkv (an * bd) (ad * bn) := by
  unfold divv; rw [ha, hb]; rfl
theorem mkv_negneg (n d : Int) (hd : d ≠ 0) : mkv (-n) (-d) = mkv n d ∨ n = 0 := by
  by_cases hn : n = 0
  · exact .inr hn
  · left
    unfold mkv
    rw [if_neg (by omega), if_neg hd, Int.natAbs_neg, Int.natAbs_neg]
    have e1 : decide (-n < 0) = !decide (n < 0) := by rw [Bool.eq_iff_iff]; simp; omega
    have e2 : decide (-d < 0) = !decide (d < 0) := by rw [Bool.eq_iff_iff]; simp; omega
    rw [e1, e2]; cases decide (n < 0) <;> cases decide (d < 0) <;> rfl
theorem div_back {an ad bn bd p q : Int} (ha : vldB an ad = true) (hb : vldB bn bd = true) (h0 : bn ≠ 0) (h : divv an ad bn bd = (p, q, 0)) : mulv p q bn bd = (an, ad, 0) := by
  rw [divv_ok _ _ _ _ ha hb] at h
  have had := (vldB_parts ha).2.2.1
  have hbd := (vldB_parts hb).2.2.1
  have key : vldB p q = true ∧ p * (ad * bn) = an * bd * q := by
    by_cases hn : 0 < bn
    · have hv := mkv_Val _ _ _ _ (mul_one_le had (show 1 ≤ bn by omega)) h
      exact ⟨hv.1, hv.2.2⟩
    · rcases mkv_negneg (an * bd) (ad * bn) (by intro e; rcases Int.mul_eq_zero.1 e with h | h <;> omega) with hm | hz
      · have h' : mkv (-(an * bd)) (ad * -bn) = (p, q, 0) := by rw [Int.mul_neg, hm]; exact h
        have hv := mkv_Val _ _ _ _ (mul_one_le had (show 1 ≤ -bn by omega)) h'
        refine ⟨hv.1, ?_⟩
        have e := hv.2.2
        have i1 : p * (ad * -bn) = -(p * (ad * bn)) := by grind
        rw [i1] at e
        have i2 : -(an * bd) * q = -(an * bd * q) := by grind
        rw [i2] at e; omega
      · have han : an = 0 := by rcases Int.mul_eq_zero.1 hz with h | h <;> omega
        have hk := mkv_ok _ _ (by rw [h] : (mkv (an * bd) (ad * bn)).2.2 = 0)
        rw [h] at hk
        refine ⟨hk, ?_⟩
        have hp : p = 0 := by
          have : (mkv (an * bd) (ad * bn)).1 = 0 := by
            unfold mkv fitv; rw [hz]; simp; split
            · rfl
            · split <;> simp
          rw [h] at this; exact this
        rw [hp, han]; simp
  rw [mulv_ok _ _ _ _ key.1 hb]
  have hq := (vldB_parts key.1).2.2.1
  refine mkv_of_val _ _ _ _ (mul_one_le hq hbd) ha ?_
  have e := key.2
  have i1 : p * bn * ad = p * (ad * bn) := by grind
  rw [i1, e]; grind
theorem mkv_i64 {n d p q r : Int} (h : mkv n d = (p, q, r)) : i64p (p, q) := by
  have := mkv_bd n d
  rw [h] at this
  simp only at this
  exact ⟨by simp only; omega, by simp only; omega, by simp only; omega, by simp only; omega⟩
theorem i64_zero : i64p (0, 0) := by unfold i64p; decide
theorem addv_i64 {an ad bn bd p q r : Int} (h : addv an ad bn bd = (p, q, r)) : i64p (p, q) := by
  unfold addv at h
  split at h
  · exact mkv_i64 h
  · cases h; exact i64_zero
theorem mulv_i64 {an ad bn bd p q r : Int} (h : mulv an ad bn bd = (p, q, r)) : i64p (p, q) := by
  unfold mulv at h
  split at h
  · exact mkv_i64 h
  · cases h; exact i64_zero
theorem subv_i64 {an ad bn bd p q r : Int} (h : subv an ad bn bd = (p, q, r)) : i64p (p, q) := by
  unfold subv at h
  split at h
  · exact addv_i64 h
  · cases h; exact i64_zero
theorem divv_i64 {an ad bn bd p q r : Int} (h : divv an ad bn bd = (p, q, r)) : i64p (p, q) := by
  unfold divv at h
  split at h
  · exact mkv_i64 h
  · cases h; exact i64_zero
theorem divv_zero {an ad bd : Int} (ha : vldB an ad = true) (hb : vldB 0 bd = true) : divv an ad 0 bd = (0, 0, 7) := by
  rw [divv_ok _ _ _ _ ha hb]; unfold mkv; simp
end Go.Proofs.YtbdihcpehadbjaaDoor
