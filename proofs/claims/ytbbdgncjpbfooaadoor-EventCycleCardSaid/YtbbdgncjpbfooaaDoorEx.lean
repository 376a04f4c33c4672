/- The life cycle is one: plain Lean, no program in sight. -/
import Derived.Test.YtbbdgncjpbfooaaDoorEw
namespace Go.Proofs.YtbbdgncjpbfooaaDoor

theorem lives_err (l : List Int) : ∀ (k : Nat) (st i e : Int), livesZ k st l = (i, e) → e ≠ 0 → (e = 2 ∨ e = 20) ∧ ∃ m : Nat, i = (k : Int) + m ∧ m < l.length ∧ (livesZ k st (l.take m)).2 = 0 ∧ livesZ k st (l.take (m + 1)) = (i, e) := by
  induction l with
  | nil => intro k st i e h he; rw [lives_nil] at h; cases h; exact absurd rfl he
  | cons x l ih =>
    intro k st i e h he
    by_cases hx : x < 1 ∨ 6 < x
    · rw [lives_range _ _ _ _ hx] at h
      cases h
      refine ⟨.inl rfl, 0, by simp, by simp, by rw [List.take_zero, lives_nil], ?_⟩
      rw [List.take_succ_cons, lives_range _ _ _ _ hx]
    · by_cases ha : aftZ st x = -1
      · rw [lives_no _ _ _ _ (by omega) (by omega) ha] at h
        cases h
        refine ⟨.inr rfl, 0, by simp, by simp, by rw [List.take_zero, lives_nil], ?_⟩
        rw [List.take_succ_cons, lives_no _ _ _ _ (by omega) (by omega) ha]
      · rw [lives_on _ _ _ _ (by omega) (by omega) ha] at h
        obtain ⟨h1, m, h2, h3, h4, h5⟩ := ih _ _ _ _ h he
        refine ⟨h1, m + 1, by rw [h2]; simp; omega, by simp; omega, ?_, ?_⟩
        · rw [List.take_succ_cons, lives_on _ _ _ _ (by omega) (by omega) ha]; exact h4
        · rw [List.take_succ_cons, lives_on _ _ _ _ (by omega) (by omega) ha]; exact h5
theorem lives_short (Z : List Int) (h : Z.length ≤ 1000) : livesV Z = livesZ 0 0 Z := by unfold livesV; rw [if_neg (by omega)]
/-- a list that is not possible: what comes before is, and with the wrong step it is not -/
theorem cyc_err (Z : List Int) (h : Z.length ≤ 60) (i e : Int) (hv : livesV Z = (i, e)) (he : e ≠ 0) :
    (e = 2 ∨ e = 20) ∧ ∃ m : Nat, i = (m : Int) ∧ m < Z.length ∧ (livesV (Z.take m)).2 = 0 ∧ livesV (Z.take (m + 1)) = ((m : Int), e) := by
  rw [lives_short Z (by omega)] at hv
  obtain ⟨h1, m, h2, h3, h4, h5⟩ := lives_err Z 0 0 i e hv he
  have hi : i = (m : Int) := by simpa using h2
  refine ⟨h1, m, hi, h3, ?_, ?_⟩
  · rw [lives_short _ (by rw [List.length_take]; omega)]; exact h4
  · rw [lives_short _ (by rw [List.length_take]; omega), h5, hi]
theorem aft_end (st x : Int) (h : 4 ≤ st) (h5 : st ≤ 5) : aftZ st x = -1 := by
  unfold aftZ
  rw [if_neg (by omega), if_neg (by omega), if_neg (by omega), if_neg (by omega), if_neg (by omega), if_neg (by omega)]
theorem lives_end (k : Nat) (st fin : Int) (l : List Int) (h4 : 4 ≤ st) (h5 : st ≤ 5) (h : livesZ k st l = (fin, 0)) : l = [] := by
  cases l with
  | nil => rfl
  | cons x l =>
    exfalso
    by_cases hx : x < 1 ∨ 6 < x
    · rw [lives_range _ _ _ _ hx] at h; simp at h
    · rw [lives_no _ _ _ _ (by omega) (by omega) (aft_end st x h4 h5)] at h; simp at h
/-- one step of a list that is possible -/
theorem cyc_step (k : Nat) (st x fin : Int) (l : List Int) (h0 : 0 ≤ st) (h3 : st ≤ 3) (h : livesZ k st (x :: l) = (fin, 0)) :
    ∃ st', livesZ (k + 1) st' l = (fin, 0) ∧ (((x = 1 ∨ x = 2) ∧ st ≠ 3 ∧ 0 ≤ st' ∧ st' ≤ 2) ∨ (x = 3 ∧ st ≠ 3 ∧ st' = 3) ∨ (x = 4 ∧ st = 3 ∧ st' = 2) ∨ (x = 5 ∧ st ≠ 3 ∧ st' = 4 ∧ l = []) ∨ (x = 6 ∧ st' = 5 ∧ l = [])) := by
  by_cases hx : x < 1 ∨ 6 < x
  · rw [lives_range _ _ _ _ hx] at h; simp at h
  · by_cases ha : aftZ st x = -1
    · rw [lives_no _ _ _ _ (by omega) (by omega) ha] at h; simp at h
    · rw [lives_on _ _ _ _ (by omega) (by omega) ha] at h
      refine ⟨aftZ st x, h, ?_⟩
      have hend := lives_end (k + 1) (aftZ st x) fin l
      have hst : st = 0 ∨ st = 1 ∨ st = 2 ∨ st = 3 := by omega
      have hxx := step_of x (by omega) (by omega)
      rcases hst with rfl | rfl | rfl | rfl <;> rcases hxx with rfl | rfl | rfl | rfl | rfl | rfl <;> first
        | exact absurd rfl ha
        | exact .inl ⟨by omega, by omega, by decide, by decide⟩
        | exact .inr (.inl ⟨rfl, by omega, rfl⟩)
        | exact .inr (.inr (.inl ⟨rfl, rfl, rfl⟩))
        | exact .inr (.inr (.inr (.inl ⟨rfl, by omega, rfl, hend (by decide) (by decide) h⟩)))
        | exact .inr (.inr (.inr (.inr ⟨rfl, rfl, hend (by decide) (by decide) h⟩)))
theorem lives_snoc (l : List Int) : ∀ (k : Nat) (st fin s : Int), 1 ≤ s → s ≤ 6 → livesZ k st l = (fin, 0) → livesZ k st (l ++ [s]) = if aftZ fin s = -1 then ((k : Int) + l.length, 20) else (aftZ fin s, 0) := by
  induction l with
  | nil =>
    intro k st fin s h1 h6 h
    rw [lives_nil] at h
    cases h
    rw [List.nil_append]
    by_cases ha : aftZ st s = -1
    · rw [lives_no _ _ _ _ h1 h6 ha, if_pos ha]; simp
    · rw [lives_on _ _ _ _ h1 h6 ha, if_neg ha, lives_nil]
  | cons x l ih =>
    intro k st fin s h1 h6 h
    by_cases hx : x < 1 ∨ 6 < x
    · rw [lives_range _ _ _ _ hx] at h; simp at h
    · by_cases ha : aftZ st x = -1
      · rw [lives_no _ _ _ _ (by omega) (by omega) ha] at h; simp at h
      · rw [lives_on _ _ _ _ (by omega) (by omega) ha] at h
        rw [List.cons_append, lives_on _ _ _ _ (by omega) (by omega) ha, ih _ _ _ _ h1 h6 h]
        congr 2
        simp; omega
theorem cyc_snoc (Z : List Int) (h : Z.length ≤ 60) (fin s : Int) (h1 : 1 ≤ s) (h6 : s ≤ 6) (hv : livesV Z = (fin, 0)) : livesV (Z ++ [s]) = if aftZ fin s = -1 then ((Z.length : Int), 20) else (aftZ fin s, 0) := by
  rw [lives_short Z (by omega)] at hv
  rw [lives_short _ (by simp; omega), lives_snoc Z 0 0 fin s h1 h6 hv]; simp
theorem nxt_has (st : Int) (k : Nat) (s : Nat) (hs : s < k) : (nxtTo st k).contains (s : Int) = (aftZ st s != -1) := by
  induction k with
  | zero => omega
  | succ k ih =>
    have hlt : ∀ k : Nat, ∀ x ∈ nxtTo st k, x < (k : Int) := by
      intro k
      induction k with
      | zero => intro x hx; simp [nxtTo] at hx
      | succ k ih2 =>
        intro x hx
        by_cases ha : aftZ st k = -1
        · rw [nxt_no _ _ ha] at hx; have := ih2 x hx; omega
        · rw [nxt_yes _ _ ha] at hx
          rcases List.mem_append.1 hx with h1 | h1
          · have := ih2 x h1; omega
          · have : x = k := by simpa using h1
            omega
    rcases Nat.lt_or_ge s k with h1 | h1
    · have hi := ih h1
      by_cases ha : aftZ st k = -1
      · rw [nxt_no _ _ ha]; exact hi
      · rw [nxt_yes _ _ ha, List.contains_append, hi]
        have : ([(k : Int)] : List Int).contains (s : Int) = false := by simp; omega
        rw [this, Bool.or_false]
    · obtain rfl : s = k := by omega
      by_cases ha : aftZ st s = -1
      · rw [nxt_no _ _ ha]
        have h2 : (nxtTo st s).contains (s : Int) = false := by
          rw [Bool.eq_false_iff]
          intro hc
          have := hlt s s (by simpa using hc)
          omega
        rw [h2, ha]; rfl
      · rw [nxt_yes _ _ ha, List.contains_append]
        simp [ha]
theorem next_has (Z : List Int) (fin s : Int) (h1 : 1 ≤ s) (h6 : s ≤ 6) (hv : livesV Z = (fin, 0)) : (nextV Z).contains s = (aftZ fin s != -1) := by
  unfold nextV
  rw [hv]
  simp only [if_true]
  obtain ⟨m, rfl⟩ := Int.eq_ofNat_of_zero_le (show 0 ≤ s by omega)
  exact nxt_has fin 7 m (by omega)
theorem asc_of (l : List Int) (h : l.Pairwise (· ≤ ·)) : Asc l := fun i hi => (List.pairwise_iff_getElem.1 h) i (i + 1) (by omega) hi (by omega)
theorem next_asc (Z : List Int) (fin : Int) (h0 : 0 ≤ fin) (h5 : fin ≤ 5) (hv : livesV Z = (fin, 0)) : Asc (nextV Z) := by
  unfold nextV
  rw [hv]
  simp only [if_true]
  refine asc_of _ ?_
  rcases six_of fin h0 h5 with rfl | rfl | rfl | rfl | rfl | rfl <;> decide
theorem next_end (Z : List Int) (fin : Int) (h0 : 4 ≤ fin) (h5 : fin ≤ 5) (hv : livesV Z = (fin, 0)) : nextV Z = [] := by
  unfold nextV
  rw [hv]
  simp only [if_true]
  have : fin = 4 ∨ fin = 5 := by omega
  rcases this with rfl | rfl <;> decide
theorem next_err (Z : List Int) (h : (livesV Z).2 ≠ 0) : nextV Z = [] := by unfold nextV; rw [if_neg h]
end Go.Proofs.YtbbdgncjpbfooaaDoor
