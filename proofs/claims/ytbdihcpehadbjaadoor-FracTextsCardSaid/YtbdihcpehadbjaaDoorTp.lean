/- Plain facts on decimal numerals: their digits, their value, how they are read again. -/
import Derived.Test.YtbdihcpehadbjaaDoorFi
import Derived.Lib.AtoiAll
import Derived.Lib.IndexMore
namespace Go.Proofs.YtbdihcpehadbjaaDoor
open Go.RowKit

/-- a byte is a decimal digit -/
def isDig (c : UInt8) : Bool := decide (48 ≤ c.toNat ∧ c.toNat ≤ 57)
/-- the number that digits spell -/
def dval (l : List UInt8) : Nat := l.foldl (fun n c => 10 * n + (c.toNat - 48)) 0
theorem dval_snoc (l : List UInt8) (c : UInt8) : dval (l ++ [c]) = 10 * dval l + (c.toNat - 48) := by unfold dval; simp
theorem dig_byte (k : Nat) (h : k < 10) : (UInt8.ofNat (48 + k)).toNat = 48 + k := by
  simp [UInt8.toNat_ofNat']; omega
theorem dec_induct {P : Nat → List UInt8 → Prop} (h0 : ∀ u, u < 10 → P u [UInt8.ofNat (48 + u)]) (hs : ∀ u, 10 ≤ u → P (u / 10) (Lib.decDigits (u / 10)) → P u (Lib.decDigits (u / 10) ++ [UInt8.ofNat (48 + u % 10)])) : ∀ u, P u (Lib.decDigits u) := by
  intro u
  induction u using Nat.strongRecOn with
  | _ u ih =>
    by_cases h : u < 10
    · rw [Lib.decDigits_one h]; exact h0 u h
    · rw [Lib.decDigits, dif_neg h]; exact hs u (by omega) (ih (u / 10) (by omega))
theorem dec_dig (u : Nat) : ∀ c ∈ Lib.decDigits u, isDig c = true := by
  refine dec_induct (P := fun _ l => ∀ c ∈ l, isDig c = true) ?_ ?_ u
  · intro u hu c hc
    have : c = UInt8.ofNat (48 + u) := by simpa using hc
    subst this; unfold isDig; rw [dig_byte u hu]; simp; omega
  · intro u hu ih c hc
    rcases List.mem_append.1 hc with h | h
    · exact ih c h
    · have : c = UInt8.ofNat (48 + u % 10) := by simpa using h
      subst this; unfold isDig; rw [dig_byte _ (by omega)]; simp; omega
theorem dec_val (u : Nat) : dval (Lib.decDigits u) = u := by
  refine dec_induct (P := fun u l => dval l = u) ?_ ?_ u
  · intro u hu; unfold dval; simp only [List.foldl]; rw [dig_byte u hu]; omega
  · intro u hu ih; rw [dval_snoc, ih, dig_byte _ (by omega)]; omega
theorem dec_ne (u : Nat) : Lib.decDigits u ≠ [] := by
  refine dec_induct (P := fun _ l => l ≠ []) ?_ ?_ u
  · intro u hu; simp
  · intro u hu ih; simp
theorem dec_len (k : Nat) : ∀ u, u < 10 ^ (k + 1) → (Lib.decDigits u).length ≤ k + 1 := by
  induction k with
  | zero => intro u hu; rw [Lib.decDigits_one (by simpa using hu)]; simp
  | succ k ih =>
    intro u hu
    by_cases h : u < 10
    · rw [Lib.decDigits_one h]; simp
    · rw [Lib.decDigits, dif_neg h]
      have := ih (u / 10) (by rw [Nat.pow_succ] at hu; omega)
      simp; omega
theorem parse_snoc (l : List UInt8) : ∀ (acc v : Nat) (c : UInt8), Lib.parseUint10 acc l = .ok v → isDig c = true → v * 10 + (c.toNat - 48) < 9223372036854775808 → Lib.parseUint10 acc (l ++ [c]) = .ok (v * 10 + (c.toNat - 48)) := by
  induction l with
  | nil =>
    intro acc v c h hc hv
    simp only [Lib.parseUint10] at h
    injection h with h
    subst h
    have hc' : 48 ≤ c.toNat ∧ c.toNat ≤ 57 := by unfold isDig at hc; simpa using hc
    simp only [List.nil_append, Lib.parseUint10]
    rw [if_pos hc', if_neg (by omega), if_neg (by omega)]
  | cons a l ih =>
    intro acc v c h hc hv
    simp only [Lib.parseUint10, List.cons_append] at h ⊢
    by_cases h1 : 48 ≤ a.toNat ∧ a.toNat ≤ 57
    · rw [if_pos h1] at h ⊢
      by_cases h2 : 1844674407370955162 ≤ acc
      · rw [if_pos h2] at h; cases h
      · rw [if_neg h2] at h ⊢
        by_cases h3 : 18446744073709551616 ≤ acc * 10 + (a.toNat - 48)
        · rw [if_pos h3] at h; cases h
        · rw [if_neg h3] at h ⊢; exact ih _ _ _ h hc hv
    · rw [if_neg h1] at h; cases h
theorem dec_parse (u : Nat) (hu : u < 9223372036854775808) : Lib.parseMag (Lib.decDigits u) = .ok u := by
  unfold Lib.parseMag
  rw [if_neg (dec_ne u)]
  revert hu
  refine dec_induct (P := fun u l => u < 9223372036854775808 → Lib.parseUint10 0 l = .ok u) ?_ ?_ u
  · intro u hu _
    have := parse_snoc [] 0 0 (UInt8.ofNat (48 + u)) rfl (by unfold isDig; rw [dig_byte u hu]; simp; omega) (by rw [dig_byte u hu]; omega)
    rw [dig_byte u hu] at this
    simpa using this
  · intro u hu ih hb
    have := parse_snoc _ 0 (u / 10) (UInt8.ofNat (48 + u % 10)) (ih (by omega)) (by unfold isDig; rw [dig_byte _ (by omega)]; simp; omega) (by rw [dig_byte _ (by omega)]; omega)
    rw [dig_byte _ (by omega)] at this
    rw [this]; congr 1; omega
theorem itoa_atoi (n : Int) (h1 : -9223372036854775808 < n) (h2 : n < 9223372036854775808) : Lib.atoiAll (Lib.itoa n) = .ok n := by
  unfold Lib.itoa
  by_cases hn : n < 0
  · rw [if_pos hn]
    unfold Lib.atoiAll
    simp only
    have e : (45 : UInt8).toNat = 45 := rfl
    rw [e, if_pos (Or.inr rfl), dec_parse _ (by omega)]
    simp only
    rw [if_neg (by simp), if_neg (by omega), if_pos trivial]
    congr 1; omega
  · rw [if_neg hn]
    have hd := dec_dig n.toNat
    have hne := dec_ne n.toNat
    have hp := dec_parse n.toNat (by omega)
    cases hl : Lib.decDigits n.toNat with
    | nil => exact absurd hl hne
    | cons c r =>
      rw [hl] at hd hp
      have hc : 48 ≤ c.toNat ∧ c.toNat ≤ 57 := by have := hd c (List.mem_cons_self ..); unfold isDig at this; simpa using this
      unfold Lib.atoiAll
      simp only
      rw [if_neg (by omega), hp]
      simp only
      rw [if_neg (by omega), if_neg (by omega), if_neg (by omega)]
      congr 1; omega
theorem itoa_no47 (n : Int) : ∀ c ∈ Lib.itoa n, c ≠ 47 := by
  have key : ∀ u, ∀ c ∈ Lib.decDigits u, c ≠ 47 := fun u c hc e => by
    have := dec_dig u c hc
    subst e; revert this; decide
  intro c hc
  unfold Lib.itoa at hc
  split at hc
  · rcases List.mem_cons.1 hc with h | h
    · subst h; decide
    · exact key _ c h
  · exact key _ c hc
theorem index_slash (l r : List UInt8) (h : ∀ c ∈ l, c ≠ 47) : Lib.index (l ++ 47 :: r) [47] = l.length := by
  induction l with
  | nil => simp [Lib.index, List.isPrefixOf]
  | cons a l ih =>
    have ha : a ≠ 47 := h a (List.mem_cons_self ..)
    have hih := ih (fun c hc => h c (List.mem_cons_of_mem _ hc))
    rw [List.cons_append, Lib.index, hih]
    have : List.isPrefixOf [47] (a :: (l ++ 47 :: r)) = false := by simp [List.isPrefixOf]; exact fun e => ha e.symm
    rw [this]
    simp only [Bool.false_eq_true, if_false]
    rw [if_neg (by simp)]; simp
theorem index_noslash (l : List UInt8) (h : ∀ c ∈ l, c ≠ 47) : Lib.index l [47] = -1 := by
  induction l with
  | nil => simp [Lib.index]
  | cons a l ih =>
    have ha : a ≠ 47 := h a (List.mem_cons_self ..)
    have hih := ih (fun c hc => h c (List.mem_cons_of_mem _ hc))
    rw [Lib.index, hih]
    have : List.isPrefixOf [47] (a :: l) = false := by simp [List.isPrefixOf]; exact fun e => ha e.symm
    rw [this]; simp
theorem cut_text1 (n : Int) : Lib.cut (textv n 1) [47] = (Lib.itoa n, [], false) := by
  unfold Lib.cut textv
  rw [if_pos rfl, index_noslash _ (itoa_no47 n), if_neg (by omega)]
theorem cut_text2 (n d : Int) (hd : d ≠ 1) : Lib.cut (textv n d) [47] = (Lib.itoa n, Lib.itoa d, true) := by
  unfold Lib.cut textv
  rw [if_neg hd, index_slash _ _ (itoa_no47 n), if_pos (by omega)]
  simp
theorem itoa_len (n : Int) (h1 : -1073741824 ≤ n) (h2 : n ≤ 1073741824) : (Lib.itoa n).length ≤ 11 := by
  unfold Lib.itoa
  split
  · have := dec_len 9 n.natAbs (by omega); simp; omega
  · have := dec_len 9 n.toNat (by omega); omega
theorem textv_len (n d : Int) (hv : vldB n d = true) : (textv n d).length ≤ 23 := by
  obtain ⟨p1, p2, p3, p4, _⟩ := vldB_parts hv
  have l1 := itoa_len n p1 p2
  have l2 := itoa_len d (by omega) p4
  unfold textv
  split
  · omega
  · simp; omega
end Go.Proofs.YtbdihcpehadbjaaDoor
