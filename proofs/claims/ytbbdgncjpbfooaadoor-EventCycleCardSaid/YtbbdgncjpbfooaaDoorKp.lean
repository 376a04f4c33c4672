/- next of package token's reader: a literal; and next at every text. -/
import Derived.Test.YtbbdgncjpbfooaaDoorKm
import Derived.Test.YtbbdgncjpbfooaaDoorKo
namespace Go.Proofs.YtbbdgncjpbfooaaDoor
open Go.RowKit

theorem lit_code (f : Nat) : ∀ (l : List UInt8), l.length ≤ f → ∀ k, lit l = .error k → k = 3 ∨ k = 4 := by
  induction f with
  | zero =>
    intro l hl k h
    have : l = [] := List.eq_nil_of_length_eq_zero (by omega)
    subst this
    rw [lit.eq_def] at h; cases h; exact .inr rfl
  | succ f ih =>
    intro l hl k h
    cases l with
    | nil => rw [lit.eq_def] at h; cases h; exact .inr rfl
    | cons c l =>
      rw [lit.eq_def] at h
      simp only at h
      split at h
      · cases h
      · split at h
        · cases h; exact .inl rfl
        · split at h
          · cases l with
            | nil => simp only at h; cases h; exact .inr rfl
            | cons d m =>
              simp only at h
              split at h
              · cases hm : lit m with
                | error e => rw [hm] at h; simp only [Except.error.injEq] at h; subst h; exact ih m (by simp at hl; omega) _ hm
                | ok x => rw [hm] at h; cases h
              · cases h; exact .inl rfl
          · cases hm : lit l with
            | error e => rw [hm] at h; simp only [Except.error.injEq] at h; subst h; exact ih l (by simp at hl; omega) _ hm
            | ok x => rw [hm] at h; cases h
theorem q_not (c : UInt8) (h : (c.toNat : Int) = 34) : isLet c = false ∧ isDig c = false := by
  unfold isLet isDig; simp; omega
theorem read_lit (c : UInt8) (r : List UInt8) (h : (c.toNat : Int) = 34) : readTok (c :: r) = match lit r with | .ok (t, n) => .ok (⟨3, t, 0⟩, n + 1) | .error e => .error e := by
  simp only [readTok, (q_not c h).1, (q_not c h).2, Bool.false_eq_true, if_false, if_pos (show c.toNat = 34 by omega)]
  rfl
end Go.Proofs.YtbbdgncjpbfooaaDoor
