/- Values and events out of their texts: plain Lean, no program in sight. -/
import Derived.Test.YtbbdgncjpbfooaaGreatDoorEb
import Derived.Lib.AtoiAll
namespace Go.Proofs.YtbbdgncjpbfooaaGreatDoor

theorem bytes_ext {a b : ByteArray} (h : a.data.toList = b.data.toList) : a = b := by
  obtain ⟨⟨l⟩⟩ := a
  obtain ⟨⟨m⟩⟩ := b
  simp only at h
  subst h; rfl
theorem litF_take (f : Nat) : ∀ (l : List UInt8), l.length ≤ f → ∀ t n, litF l = .ok (t, n) → l.take n = escL t ++ [34] := by
  induction f with
  | zero =>
    intro l hl t n h
    cases l with
    | nil => simp [litF] at h
    | cons c l => simp at hl
  | succ f ih =>
    intro l hl t n h
    match l with
    | [] => simp [litF] at h
    | c :: l =>
      rw [litF.eq_def] at h
      simp only at h
      split at h
      · rename_i h34
        cases h
        have hc : c = 34 := UInt8.toNat_inj.1 h34
        subst hc; rfl
      · rename_i h34
        split at h
        · rename_i h92
          split at h
          · cases h
          · rename_i d m
            split at h
            · rename_i hd
              cases hm : litF m with
              | error e => rw [hm] at h; cases h
              | ok x =>
                obtain ⟨t', n'⟩ := x
                rw [hm] at h
                simp only [Except.ok.injEq, Prod.mk.injEq] at h
                obtain ⟨rfl, rfl⟩ := h
                have hi := ih m (by simp at hl; omega) _ _ hm
                have e : escL (d :: t') = escB d ++ escL t' := rfl
                have e2 : escB d = [92, d] := by unfold escB; rw [if_pos hd]
                have hc : c = 92 := UInt8.toNat_inj.1 h92
                subst hc
                rw [show n' + 2 = n' + 1 + 1 from rfl, List.take_succ_cons, List.take_succ_cons, hi, e, e2]; rfl
            · cases h
        · rename_i h92
          cases hm : litF l with
          | error e => rw [hm] at h; cases h
          | ok x =>
            obtain ⟨t', n'⟩ := x
            rw [hm] at h
            simp only [Except.ok.injEq, Prod.mk.injEq] at h
            obtain ⟨rfl, rfl⟩ := h
            have hi := ih l (by simp at hl; omega) _ _ hm
            have e : escL (c :: t') = escB c ++ escL t' := rfl
            have e2 : escB c = [c] := by unfold escB; rw [if_neg (by omega)]
            rw [List.take_succ_cons, hi, e, e2]; rfl
/-- a literal that is read whole is the literal of its text -/
theorem litF_whole (m t : List UInt8) (h : litF m = .ok (t, m.length)) : 34 :: m = quoteL t := by
  have := litF_take _ m (Nat.le_refl _) _ _ h
  rw [List.take_length] at this
  rw [this]; rfl
theorem litF_quote (t : List UInt8) : litF (escL t ++ [34]) = .ok (t, (escL t ++ [34]).length) := by
  have := litF_esc t []
  rw [this]; simp
theorem esc_inj (a b : List UInt8) (h : quoteL a = quoteL b) : a = b := by
  have h1 : escL a ++ [34] = escL b ++ [34] := List.cons.inj h |>.2
  have h2 := litF_quote a
  rw [h1, litF_quote b] at h2
  simp only [Except.ok.injEq, Prod.mk.injEq] at h2
  exact h2.1.symm
theorem dec_head (u : Nat) : ∃ c r, Lib.decDigits u = c :: r ∧ 48 ≤ c.toNat ∧ c.toNat ≤ 57 := by
  induction u using Nat.strongRecOn with
  | _ u ih =>
    by_cases h : u < 10
    · rw [Lib.decDigits_one h]
      exact ⟨_, _, rfl, by rw [UInt8.toNat_ofNat']; omega, by rw [UInt8.toNat_ofNat']; omega⟩
    · rw [Lib.decDigits, dif_neg h]
      obtain ⟨c, r, e, h1, h2⟩ := ih (u / 10) (by omega)
      rw [e]; exact ⟨c, r ++ _, rfl, h1, h2⟩
/-- a number's text begins with a digit or a minus -/
theorem itoa_head (n : Int) : ∃ c r, Lib.itoa n = c :: r ∧ (c.toNat = 45 ∨ (48 ≤ c.toNat ∧ c.toNat ≤ 57)) := by
  by_cases h : 0 ≤ n
  · obtain ⟨m, rfl⟩ := Int.eq_ofNat_of_zero_le h
    rw [Lib.itoa_nonneg]
    obtain ⟨c, r, e, h1, h2⟩ := dec_head m
    exact ⟨c, r, e, .inr ⟨h1, h2⟩⟩
  · rw [Lib.itoa, if_pos (by omega)]
    exact ⟨_, _, rfl, .inl (by decide)⟩
theorem dig_byte (k : Nat) (h : k < 10) : (UInt8.ofNat (48 + k)).toNat = 48 + k := by
  simp [UInt8.toNat_ofNat']; omega
theorem dec_induct {P : Nat → List UInt8 → Prop} (h0 : ∀ u, u < 10 → P u [UInt8.ofNat (48 + u)]) (hs : ∀ u, 10 ≤ u → P (u / 10) (Lib.decDigits (u / 10)) → P u (Lib.decDigits (u / 10) ++ [UInt8.ofNat (48 + u % 10)])) : ∀ u, P u (Lib.decDigits u) := by
  intro u
  induction u using Nat.strongRecOn with
  | _ u ih =>
    by_cases h : u < 10
    · rw [Lib.decDigits_one h]; exact h0 u h
    · rw [Lib.decDigits, dif_neg h]; exact hs u (by omega) (ih (u / 10) (by omega))
theorem dec_dig (u : Nat) : ∀ c ∈ Lib.decDigits u, isDig c = true := by
  refine dec_induct (P := fun _ l => ∀ c ∈ l, isDig c = true) ?_ ?_ u
  · intro u hu c hc
    have : c = UInt8.ofNat (48 + u) := by simpa using hc
    subst this; unfold isDig; rw [dig_byte u hu]; simp; omega
  · intro u hu ih c hc
    rcases List.mem_append.1 hc with h | h
    · exact ih c h
    · have : c = UInt8.ofNat (48 + u % 10) := by simpa using h
      subst this; unfold isDig; rw [dig_byte _ (by omega)]; simp; omega
theorem dec_val (u : Nat) : dval (Lib.decDigits u) = u := by
  refine dec_induct (P := fun u l => dval l = u) ?_ ?_ u
  · intro u hu; unfold dval; simp only [List.foldl]; rw [dig_byte u hu]; omega
  · intro u hu ih; rw [dval_snoc, ih, dig_byte _ (by omega)]; omega
theorem dec_ne (u : Nat) : Lib.decDigits u ≠ [] := by
  refine dec_induct (P := fun _ l => l ≠ []) ?_ ?_ u
  · intro u hu; simp
  · intro u hu ih; simp
theorem parse_snoc (l : List UInt8) : ∀ (acc v : Nat) (c : UInt8), Lib.parseUint10 acc l = .ok v → isDig c = true → v * 10 + (c.toNat - 48) < 9223372036854775808 → Lib.parseUint10 acc (l ++ [c]) = .ok (v * 10 + (c.toNat - 48)) := by
  induction l with
  | nil =>
    intro acc v c h hc hv
    simp only [Lib.parseUint10] at h
    injection h with h
    subst h
    have hc' : 48 ≤ c.toNat ∧ c.toNat ≤ 57 := by unfold isDig at hc; simpa using hc
    simp only [List.nil_append, Lib.parseUint10]
    rw [if_pos hc', if_neg (by omega), if_neg (by omega)]
  | cons a l ih =>
    intro acc v c h hc hv
    simp only [Lib.parseUint10, List.cons_append] at h ⊢
    by_cases h1 : 48 ≤ a.toNat ∧ a.toNat ≤ 57
    · rw [if_pos h1] at h ⊢
      by_cases h2 : 1844674407370955162 ≤ acc
      · rw [if_pos h2] at h; cases h
      · rw [if_neg h2] at h ⊢
        by_cases h3 : 18446744073709551616 ≤ acc * 10 + (a.toNat - 48)
        · rw [if_pos h3] at h; cases h
        · rw [if_neg h3] at h ⊢; exact ih _ _ _ h hc hv
    · rw [if_neg h1] at h; cases h
theorem dec_parse (u : Nat) (hu : u < 9223372036854775808) : Lib.parseMag (Lib.decDigits u) = .ok u := by
  unfold Lib.parseMag
  rw [if_neg (dec_ne u)]
  revert hu
  refine dec_induct (P := fun u l => u < 9223372036854775808 → Lib.parseUint10 0 l = .ok u) ?_ ?_ u
  · intro u hu _
    have := parse_snoc [] 0 0 (UInt8.ofNat (48 + u)) rfl (by unfold isDig; rw [dig_byte u hu]; simp; omega) (by rw [dig_byte u hu]; omega)
    rw [dig_byte u hu] at this
    simpa using this
  · intro u hu ih hb
    have := parse_snoc _ 0 (u / 10) (UInt8.ofNat (48 + u % 10)) (ih (by omega)) (by unfold isDig; rw [dig_byte _ (by omega)]; simp; omega) (by rw [dig_byte _ (by omega)]; omega)
    rw [dig_byte _ (by omega)] at this
    rw [this]; congr 1; omega
theorem itoa_atoi (n : Int) (h1 : -9223372036854775808 < n) (h2 : n < 9223372036854775808) : Lib.atoiAll (Lib.itoa n) = .ok n := by
  unfold Lib.itoa
  by_cases hn : n < 0
  · rw [if_pos hn]
    unfold Lib.atoiAll
    simp only
    have e : (45 : UInt8).toNat = 45 := rfl
    rw [e, if_pos (Or.inr rfl), dec_parse _ (by omega)]
    simp only
    rw [if_neg (by simp), if_neg (by omega), if_pos trivial]
    congr 1; omega
  · rw [if_neg hn]
    have hd := dec_dig n.toNat
    have hne := dec_ne n.toNat
    have hp := dec_parse n.toNat (by omega)
    cases hl : Lib.decDigits n.toNat with
    | nil => exact absurd hl hne
    | cons c r =>
      rw [hl] at hd hp
      have hc : 48 ≤ c.toNat ∧ c.toNat ≤ 57 := by have := hd c (List.mem_cons_self ..); unfold isDig at this; simpa using this
      unfold Lib.atoiAll
      simp only
      rw [if_neg (by omega), hp]
      simp only
      rw [if_neg (by omega), if_neg (by omega), if_neg (by omega)]
      congr 1; omega
/-- the number that a text with digits spells -/
def numOf (s : List UInt8) : Int := match s with | [] => 0 | c :: r => if c.toNat = 45 then -(dval r : Int) else (dval (c :: r) : Int)
theorem numOf_itoa (n : Int) : numOf (Lib.itoa n) = n := by
  unfold Lib.itoa
  by_cases hn : n < 0
  · rw [if_pos hn]
    unfold numOf
    simp only
    rw [if_pos (by decide), dec_val]; omega
  · rw [if_neg hn]
    have hd := dec_dig n.toNat
    have hv := dec_val n.toNat
    have hne := dec_ne n.toNat
    cases hl : Lib.decDigits n.toNat with
    | nil => exact absurd hl hne
    | cons c r =>
      rw [hl] at hd hv
      have hc : 48 ≤ c.toNat ∧ c.toNat ≤ 57 := by have := hd c (List.mem_cons_self ..); unfold isDig at this; simpa using this
      unfold numOf
      simp only
      rw [if_neg (by omega), hv]; omega
theorem itoa_inj (a b : Int) (h : Lib.itoa a = Lib.itoa b) : a = b := by rw [← numOf_itoa a, h, numOf_itoa]
/-- the texts of the truths, a text of a number, a text of a text -/
def tTrue : List UInt8 := [116, 114, 117, 101]
def tFalse : List UInt8 := [102, 97, 108, 115, 101]
/-- a value out of its text -/
def valP (s : List UInt8) : Option Vl :=
  if s = tTrue then some ⟨1, 1, ⟨#[]⟩⟩
  else if s = tFalse then some ⟨1, 0, ⟨#[]⟩⟩
  else if (⟨2, numOf s, ⟨#[]⟩⟩ : Vl).ok = true ∧ Lib.itoa (numOf s) = s then some ⟨2, numOf s, ⟨#[]⟩⟩
  else match s with
    | [] => none
    | c :: m => if c.toNat = 34 then (match litF m with
      | .ok (t, n) => if n = m.length ∧ (⟨3, 0, ⟨t.toArray⟩⟩ : Vl).ok = true then some ⟨3, 0, ⟨t.toArray⟩⟩ else none
      | .error _ => none) else none
theorem tx_true (s : ByteArray) : (⟨1, 1, s⟩ : Vl).tx = tTrue := rfl
theorem tx_false (s : ByteArray) : (⟨1, 0, s⟩ : Vl).tx = tFalse := rfl
theorem tx_num (n : Int) (s : ByteArray) : (⟨2, n, s⟩ : Vl).tx = Lib.itoa n := rfl
theorem tx_text (n : Int) (s : ByteArray) : (⟨3, n, s⟩ : Vl).tx = quoteL s.data.toList := rfl
theorem valP_some (s : List UInt8) (v : Vl) (h : valP s = some v) : v.ok = true ∧ v.tx = s := by
  unfold valP at h
  split at h
  · rename_i hs; cases h; exact ⟨rfl, hs.symm⟩
  · split at h
    · rename_i hs; cases h; exact ⟨rfl, hs.symm⟩
    · split at h
      · rename_i hs; cases h; exact ⟨hs.1, hs.2⟩
      · cases s with
        | nil => cases h
        | cons c m =>
          simp only at h
          by_cases hc : c.toNat = 34
          · rw [if_pos hc] at h
            cases hl : litF m with
            | error e => rw [hl] at h; cases h
            | ok x =>
              obtain ⟨t, n⟩ := x
              rw [hl] at h
              simp only at h
              by_cases hn : n = m.length ∧ (⟨3, 0, ⟨t.toArray⟩⟩ : Vl).ok = true
              · rw [if_pos hn] at h
                cases h
                refine ⟨hn.2, ?_⟩
                rw [hn.1] at hl
                have e : c = 34 := UInt8.toNat_inj.1 hc
                rw [e]
                exact (litF_whole m t hl).symm
              · rw [if_neg hn] at h; cases h
          · rw [if_neg hc] at h; cases h
theorem itoa_not (n : Int) : Lib.itoa n ≠ tTrue ∧ Lib.itoa n ≠ tFalse ∧ ∀ t, Lib.itoa n ≠ quoteL t := by
  obtain ⟨c, r, e, h⟩ := itoa_head n
  rw [e]
  refine ⟨fun h2 => ?_, fun h2 => ?_, fun t h2 => ?_⟩
  · have := (List.cons.inj h2).1; subst this; revert h; decide
  · have := (List.cons.inj h2).1; subst this; revert h; decide
  · have := (List.cons.inj h2).1; subst this; revert h; decide
theorem quote_not (t : List UInt8) : quoteL t ≠ tTrue ∧ quoteL t ≠ tFalse := by
  unfold quoteL tTrue tFalse
  refine ⟨fun h => ?_, fun h => ?_⟩
  · have := (List.cons.inj h).1; revert this; decide
  · have := (List.cons.inj h).1; revert this; decide
/-- a valid value, written with an empty string where it must be -/
theorem valP_tx (v : Vl) (h : v.ok = true) : valP v.tx = some v := by
  have hb : ∀ b : ByteArray, b.data.toList = [] → b = ⟨#[]⟩ := fun b hb => bytes_ext hb
  have h' := h
  rcases val_cases v h with ⟨hk, hn, hs⟩ | ⟨hk, h1, h2, hs⟩ | ⟨hk, hn, hs, hp⟩
  · obtain ⟨k, n, s⟩ := v
    simp only at hk hn hs
    subst hk
    rw [hb s hs]
    rcases hn with rfl | rfl
    · rw [tx_false]; rfl
    · rw [tx_true]; rfl
  · obtain ⟨k, n, s⟩ := v
    simp only at hk h1 h2 hs
    subst hk
    rw [tx_num]
    have e := hb s hs
    subst e
    unfold valP
    rw [if_neg (itoa_not n).1, if_neg (itoa_not n).2.1, numOf_itoa, if_pos ⟨h', rfl⟩]
  · obtain ⟨k, n, s⟩ := v
    simp only at hk hn hs hp
    subst hk hn
    rw [tx_text]
    unfold valP
    rw [if_neg (quote_not _).1, if_neg (quote_not _).2, if_neg (fun hx => (itoa_not _).2.2 _ hx.2)]
    have e : quoteL s.data.toList = 34 :: (escL s.data.toList ++ [34]) := rfl
    rw [e]
    simp only
    rw [if_pos (by decide), litF_quote]
    simp only
    rw [if_pos ⟨trivial, h'⟩]
theorem valP_none (s : List UInt8) (h : valP s = none) (v : Vl) (hv : v.ok = true) : v.tx ≠ s := by
  intro e
  rw [← e, valP_tx v hv] at h; cases h
end Go.Proofs.YtbbdgncjpbfooaaGreatDoor
