/- The places of tokens in their text, and its lines: plain Lean, no program in sight. -/
import Derived.Test.YtlocbindafdmhaaDoorNk
import Derived.Lib.Split
import Derived.Lib.IndexBytes
namespace Go.Proofs.YtlocbindafdmhaaDoor

/-- the lines of a text, the first one behind some bytes -/
def lnp : List UInt8 → List UInt8 → List (List UInt8)
  | pre, [] => [pre]
  | pre, c :: l => if c.toNat = 10 then pre :: lnp [] l else lnp (pre ++ [c]) l
theorem lnp_head (l : List UInt8) : ∀ pre, (lnp pre l)[0]? = some (pre ++ l.take (lineN l)) := by
  induction l with
  | nil => intro pre; simp [lnp]
  | cons c l ih =>
    intro pre
    by_cases h : c.toNat = 10
    · simp [lnp, lineN, h]
    · simp only [lnp, lineN, if_neg h, List.take_succ_cons]; rw [ih]; simp
theorem place_in (l : List UInt8) : ∀ (j : Nat) (pre : List UInt8) (a : Nat), j ≤ l.length → ∃ i L, (advs (a, pre.length + 1) (l.take j)).1 = a + i ∧ (lnp pre l)[i]? = some L ∧ 1 ≤ (advs (a, pre.length + 1) (l.take j)).2 ∧ (advs (a, pre.length + 1) (l.take j)).2 ≤ L.length + 1 ∧ L.drop ((advs (a, pre.length + 1) (l.take j)).2 - 1) = (l.drop j).take (lineN (l.drop j)) := by
  induction l with
  | nil =>
    intro j pre a h
    refine ⟨0, pre, ?_⟩
    simp [advs, lnp, lineN]
  | cons c l ih =>
    intro j pre a h
    cases j with
    | zero => exact ⟨0, _, rfl, lnp_head _ _, by simp [advs], by simp [advs], by simp [advs]⟩
    | succ j =>
      have hl : j ≤ l.length := by simpa using h
      rw [List.take_succ_cons, List.drop_succ_cons]
      have e0 : ∀ p, advs p (c :: l.take j) = advs (adv p c) (l.take j) := fun _ => rfl
      rw [e0]
      by_cases hc : c.toNat = 10
      · have e : adv (a, pre.length + 1) c = (a + 1, 1) := by simp [adv, hc]
        obtain ⟨i, L, h1, h2, h3, h4, h5⟩ := ih j [] (a + 1) hl
        rw [e]
        exact ⟨i + 1, L, by have h1' : (advs (a + 1, 1) (l.take j)).1 = a + 1 + i := h1; rw [h1']; omega, by simp [lnp, hc, h2], h3, h4, h5⟩
      · have e : adv (a, pre.length + 1) c = (a, (pre ++ [c]).length + 1) := by simp [adv, hc]
        obtain ⟨i, L, h1, h2, h3, h4, h5⟩ := ih j (pre ++ [c]) a hl
        rw [e]
        exact ⟨i, L, h1, by simp [lnp, hc, h2], h3, h4, h5⟩
theorem lnp_split (l : List UInt8) : ∀ pre, lnp pre l = if lineN l = l.length then [pre ++ l] else (pre ++ l.take (lineN l)) :: lnp [] (l.drop (lineN l + 1)) := by
  induction l with
  | nil => intro pre; simp [lnp, lineN]
  | cons c l ih =>
    intro pre
    by_cases h : c.toNat = 10
    · simp [lnp, lineN, h]
    · simp only [lnp, lineN, if_neg h, List.take_succ_cons, List.length_cons, List.drop_succ_cons]
      rw [ih]
      by_cases h2 : lineN l = l.length
      · rw [if_pos h2, if_pos (by omega)]; simp
      · rw [if_neg h2, if_neg (by omega)]; simp
theorem split_lnp (f : Nat) : ∀ l : List UInt8, l.length < f → Lib.splitK [10] 0 (Lib.count l [10]) l = lnp [] l := by
  induction f with
  | zero => intro l h; omega
  | succ f ih =>
    intro l h
    rcases lineN_index l with ⟨h1, h2⟩ | ⟨h1, h2⟩
    · have hi : Lib.index l [10] = (lineN l : Int) := by rw [Lib.index_one]; exact h2
      rw [Lib.count_hit (i := lineN l) (by simp) hi, show ∀ x, 1 + x = x + 1 from fun x => Nat.add_comm 1 x, Lib.splitK, hi]
      rw [if_neg (by simp), lnp_split, if_neg (by omega)]
      rw [List.nil_append, show ((lineN l : Nat) : Int).toNat = lineN l by omega]
      simp only [List.length_cons, List.length_nil, Nat.add_zero]
      rw [ih _ (by rw [List.length_drop]; omega)]
    · have hi : Lib.index l [10] = -1 := by rw [Lib.index_one]; exact h2
      rw [Lib.count_miss hi, Lib.splitK, lnp_split, if_pos h1]; simp
/-- the lines of a string, as Split returns them -/
theorem lines_of (s : ByteArray) : (Lib.splitB ⟨#[10]⟩ 0 (Lib.countB s ⟨#[10]⟩) s).map (·.data.toList) = lnp [] s.data.toList := by
  rw [Lib.splitB_data]
  exact split_lnp _ _ (Nat.lt_succ_self _)
theorem lnp_len (l : List UInt8) : ∀ pre, (lnp pre l).length ≤ l.length + 1 := by
  induction l with
  | nil => intro pre; simp [lnp]
  | cons c l ih =>
    intro pre
    by_cases h : c.toNat = 10
    · simp [lnp, h]; have := ih []; omega
    · simp only [lnp, if_neg h, List.length_cons]; have := ih (pre ++ [c]); omega
theorem count_len (s : ByteArray) : Lib.countB s ⟨#[10]⟩ + 1 = (lnp [] s.data.toList).length := by
  have key : ∀ f : Nat, ∀ l : List UInt8, l.length < f → Lib.count l [10] + 1 = (lnp [] l).length := by
    intro f
    induction f with
    | zero => intro l h; omega
    | succ f ih =>
      intro l h
      rcases lineN_index l with ⟨h1, h2⟩ | ⟨h1, h2⟩
      · have hi : Lib.index l [10] = (lineN l : Int) := by rw [Lib.index_one]; exact h2
        rw [Lib.count_hit (i := lineN l) (by simp) hi, lnp_split, if_neg (by omega), List.length_cons]
        have := ih (l.drop (lineN l + 1)) (by rw [List.length_drop]; omega)
        simp only [List.length_cons, List.length_nil, Nat.zero_add]
        omega
      · have hi : Lib.index l [10] = -1 := by rw [Lib.index_one]; exact h2
        rw [Lib.count_miss hi, lnp_split, if_pos h1]; simp
  exact key _ s.data.toList (Nat.lt_succ_self _)

/-- a place before another one -/
def plt (p q : Nat × Nat) : Prop := p.1 < q.1 ∨ (p.1 = q.1 ∧ p.2 < q.2)
theorem adv_lt (p : Nat × Nat) (c : UInt8) : plt p (adv p c) := by
  unfold plt adv; split
  · left; simp
  · right; simp
theorem plt_trans {p q r : Nat × Nat} (h : plt p q) (g : plt q r) : plt p r := by unfold plt at *; omega
theorem advs_lt (x : List UInt8) : ∀ p, x ≠ [] → plt p (advs p x) := by
  induction x with
  | nil => intro p h; exact absurd rfl h
  | cons c x ih =>
    intro p _
    show plt p (advs (adv p c) x)
    by_cases h : x = []
    · subst h; exact adv_lt p c
    · exact plt_trans (adv_lt p c) (ih _ h)
theorem place_lt (s : List UInt8) (i j : Nat) (h : i < j) (hj : j ≤ s.length) : plt (advs (1, 1) (s.take i)) (advs (1, 1) (s.take j)) := by
  have e : s.take j = s.take i ++ (s.drop i).take (j - i) := by
    rw [← List.take_add, show i + (j - i) = j by omega]
  rw [e, advs_append]
  refine advs_lt _ _ fun h0 => ?_
  have := congrArg List.length h0
  simp at this; omega

/-- tokens of a text from an offset on, with their places -/
def Placed (s : List UInt8) : Nat → List Tk → Prop
  | _, [] => False
  | j, x :: N => ∃ i, j ≤ i ∧ i ≤ s.length ∧ x.2 = advs (1, 1) (s.take i) ∧ ((x.1 = ⟨5, [], 0⟩ ∧ N = []) ∨ ∃ n, readTok (s.drop i) = .ok (x.1, n) ∧ Placed s (i + n) N)
theorem toks_placed (s : List UInt8) (f : Nat) : ∀ (j : Nat) (out M : List Tk), j ≤ s.length → toks f (s.drop j) (advs (1, 1) (s.take j)) out = .ok M → ∃ N, M = out ++ N ∧ Placed s j N := by
  induction f with
  | zero => intro j out M _ h; simp [toks] at h
  | succ f ih =>
    intro j out M hj h
    have hk := skipN_le (s.drop j) false
    rw [List.length_drop] at hk
    have hq : advs (advs (1, 1) (s.take j)) ((s.drop j).take (skipN (s.drop j) false)) = advs (1, 1) (s.take (j + skipN (s.drop j) false)) := by
      rw [← advs_append, ← List.take_add]
    have hd : (s.drop j).drop (skipN (s.drop j) false) = s.drop (j + skipN (s.drop j) false) := by rw [List.drop_drop]
    by_cases h0 : (s.drop j).drop (skipN (s.drop j) false) = []
    · rw [toks_end f _ _ _ h0] at h
      cases h
      refine ⟨_, rfl, j + skipN (s.drop j) false, by omega, by omega, hq, .inl ⟨rfl, rfl⟩⟩
    · cases hr : readTok ((s.drop j).drop (skipN (s.drop j) false)) with
      | error e => rw [toks_err f _ _ _ e h0 hr] at h; cases h
      | ok x =>
        obtain ⟨t, n⟩ := x
        by_cases ho : out.length = 4000
        · rw [toks_full f _ _ _ t n h0 hr ho] at h; cases h
        · rw [toks_next f _ _ _ t n h0 hr ho] at h
          have hf := (readTok_facts _ _ _ hr).2.1
          rw [hd, List.length_drop] at hf
          rw [hq, hd, List.drop_drop, ← advs_append, ← List.take_add] at h
          rw [hd] at hr
          obtain ⟨N, hN, hP⟩ := ih (j + skipN (s.drop j) false + n) _ M (by omega) h
          refine ⟨(t, advs (1, 1) (s.take (j + skipN (s.drop j) false))) :: N, by rw [hN]; simp, ?_⟩
          exact ⟨j + skipN (s.drop j) false, by omega, by omega, rfl, .inr ⟨n, hr, hP⟩⟩
theorem tokens_placed (s : List UInt8) (M : List Tk) (p : Nat × Nat) (h : tokens s = (M, p, 0)) (hM : M ≠ []) : Placed s 0 M ∧ p = (0, 0) := by
  unfold tokens at h
  split at h
  · cases h
  · cases ht : toks (s.length + 1) s (1, 1) [] with
    | error e =>
      obtain ⟨q, k⟩ := e
      rw [ht] at h
      simp only [Prod.mk.injEq] at h
      exact absurd h.1.symm hM
    | ok out =>
      rw [ht] at h
      simp only [Prod.mk.injEq] at h
      obtain ⟨rfl, rfl, _⟩ := h
      obtain ⟨N, h1, h2⟩ := toks_placed s (s.length + 1) 0 [] out (by omega) (by simpa [advs] using ht)
      rw [h1]; exact ⟨h2, rfl⟩
theorem placed_at (s : List UInt8) : ∀ (N : List Tk) (j : Nat), Placed s j N → ∀ i (h : i < N.length), ∃ o, j ≤ o ∧ o ≤ s.length ∧ N[i].2 = advs (1, 1) (s.take o) ∧ ((N[i].1 = ⟨5, [], 0⟩ ∧ i + 1 = N.length) ∨ ((∃ n, readTok (s.drop o) = .ok (N[i].1, n)) ∧ i + 1 < N.length)) := by
  intro N
  induction N with
  | nil => intro j h; exact absurd h id
  | cons x N ih =>
    intro j h i hi
    obtain ⟨o, h1, h2, h3, h4⟩ := h
    cases i with
    | zero =>
      refine ⟨o, h1, h2, h3, ?_⟩
      rcases h4 with ⟨h5, h6⟩ | ⟨n, h5, h6⟩
      · exact .inl ⟨h5, by simp [h6]⟩
      · refine .inr ⟨⟨n, h5⟩, ?_⟩
        cases N with
        | nil => exact absurd h6 id
        | cons y N => simp
    | succ i =>
      rcases h4 with ⟨h5, h6⟩ | ⟨n, h5, h6⟩
      · rw [h6] at hi; simp at hi
      · obtain ⟨o', g1, g2, g3, g4⟩ := ih _ h6 i (by simpa using hi)
        exact ⟨o', by omega, g2, g3, by simpa using g4⟩
theorem placed_ord (s : List UInt8) : ∀ (N : List Tk) (j : Nat), Placed s j N → ∀ i (h : i + 1 < N.length), plt (N[i].2) (N[i + 1].2) := by
  intro N
  induction N with
  | nil => intro j h; exact absurd h id
  | cons x N ih =>
    intro j h i hi
    obtain ⟨o, h1, h2, h3, h4⟩ := h
    rcases h4 with ⟨h5, h6⟩ | ⟨n, h5, h6⟩
    · rw [h6] at hi; simp at hi
    · cases i with
      | zero =>
        obtain ⟨o', g1, g2, g3, g4⟩ := placed_at s N _ h6 0 (by simpa using hi)
        have hn := (readTok_facts _ _ _ h5).1
        show plt x.2 (N[0].2)
        rw [h3, g3]
        exact place_lt s o o' (by omega) g2
      | succ i => exact ih _ h6 i (by simpa using hi)

theorem lit_len (f : Nat) : ∀ (l : List UInt8), l.length ≤ f → ∀ t n, lit l = .ok (t, n) → (escL t).length + 1 = n ∧ t.all isPr = true := by
  induction f with
  | zero =>
    intro l hl t n h
    cases l with
    | nil => simp [lit] at h
    | cons c l => simp at hl
  | succ f ih =>
    intro l hl t n h
    match l with
    | [] => simp [lit] at h
    | c :: l =>
      rw [lit.eq_def] at h
      simp only at h
      split at h
      · cases h; exact ⟨rfl, rfl⟩
      · rename_i h34
        split at h
        · cases h
        · rename_i hpr
          split at h
          · split at h
            · cases h
            · rename_i d m
              split at h
              · rename_i hd
                cases hm : lit m with
                | error e => rw [hm] at h; cases h
                | ok x =>
                  obtain ⟨t', n'⟩ := x
                  rw [hm] at h
                  simp only [Except.ok.injEq, Prod.mk.injEq] at h
                  obtain ⟨rfl, rfl⟩ := h
                  obtain ⟨g1, g2⟩ := ih m (by simp at hl; omega) _ _ hm
                  have e : escL (d :: t') = escB d ++ escL t' := rfl
                  have e2 : escB d = [92, d] := by unfold escB; rw [if_pos hd]
                  refine ⟨by rw [e, e2]; simp; omega, ?_⟩
                  simp only [List.all_cons, g2, Bool.and_true]
                  unfold isPr; simp; omega
              · cases h
          · rename_i h92
            cases hm : lit l with
            | error e => rw [hm] at h; cases h
            | ok x =>
              obtain ⟨t', n'⟩ := x
              rw [hm] at h
              simp only [Except.ok.injEq, Prod.mk.injEq] at h
              obtain ⟨rfl, rfl⟩ := h
              obtain ⟨g1, g2⟩ := ih l (by simp at hl; omega) _ _ hm
              have e : escL (c :: t') = escB c ++ escL t' := rfl
              have e2 : escB c = [c] := by unfold escB; rw [if_neg (by omega)]
              refine ⟨by rw [e, e2]; simp; omega, ?_⟩
              simp only [List.all_cons, g2, Bool.and_true]
              simpa using hpr
theorem dval_lt (l : List UInt8) (h : ∀ c ∈ l, isDig c = true) : dval l < 10 ^ l.length := by
  have key : ∀ (l : List UInt8) (n : Nat), (∀ c ∈ l, isDig c = true) → l.foldl (fun n c => 10 * n + (c.toNat - 48)) n < (n + 1) * 10 ^ l.length := by
    intro l
    induction l with
    | nil => intro n _; simp
    | cons c l ih =>
      intro n h
      have hc := h c (by simp)
      unfold isDig at hc
      simp at hc
      have := ih (10 * n + (c.toNat - 48)) (fun d hd => h d (by simp [hd]))
      rw [List.foldl_cons, List.length_cons]
      refine Nat.lt_of_lt_of_le this ?_
      rw [Nat.pow_succ, show (n + 1) * (10 ^ l.length * 10) = ((n + 1) * 10) * 10 ^ l.length by rw [Nat.mul_assoc, Nat.mul_comm 10]]
      exact Nat.mul_le_mul_right _ (by omega)
  have := key l 0 h
  simpa [dval] using this
theorem nDigits_le (k u : Nat) (hk : 1 ≤ k) (h : u < 10 ^ k) : Lib.nDigits u ≤ k := by
  induction k generalizing u with
  | zero => omega
  | succ k ih =>
    by_cases h1 : u < 10
    · rw [Lib.nDigits_small h1]; omega
    · rw [Lib.nDigits_big h1]
      have hk0 : 1 ≤ k := by
        rcases Nat.eq_zero_or_pos k with rfl | hk'
        · simp at h; omega
        · exact hk'
      have := ih (u / 10) hk0 (by rw [Nat.pow_succ] at h; omega)
      omega
theorem nm_line (c : UInt8) (h : isNm c = true) : c.toNat ≠ 10 := by
  unfold isNm isLet isDig at h
  simp at h
  omega
theorem lineN_ge (t r : List UInt8) (h : ∀ c ∈ t, c.toNat ≠ 10) : t.length ≤ lineN (t ++ r) := by
  induction t with
  | nil => simp
  | cons c t ih =>
    rw [List.cons_append, lineN, if_neg (h c (by simp)), List.length_cons]
    have := ih (fun d hd => h d (by simp [hd]))
    omega
/-- what is known of a token that was read -/
theorem read_good (l : List UInt8) (t : Tok) (n : Nat) (h : readTok l = .ok (t, n)) (hl : l.length ≤ 16384) :
    validB t.k t.n t.t = true ∧ (textK t.k t.n t.t).length ≤ n ∧ ((t.k = 1 ∨ t.k = 4) → t.t <+: l.take (lineN l)) := by
  cases l with
  | nil => simp [readTok] at h
  | cons c r =>
    have hpre : ∀ x : List UInt8, x <+: (c :: r) → (∀ d ∈ x, d.toNat ≠ 10) → x <+: (c :: r).take (lineN (c :: r)) := by
      intro x hx hd
      obtain ⟨y, hy⟩ := hx
      have h1 := lineN_ge x y hd
      rw [hy] at h1
      rw [List.prefix_take_iff]
      exact ⟨⟨y, hy⟩, h1⟩
    cases hL : isLet c
    · cases hD : isDig c
      · by_cases h34 : (c.toNat : Int) = 34
        · rw [read_lit c r h34] at h
          cases hm : lit r with
          | error e => rw [hm] at h; cases h
          | ok x =>
            obtain ⟨t', n'⟩ := x
            rw [hm] at h
            simp only [Except.ok.injEq, Prod.mk.injEq] at h
            obtain ⟨rfl, rfl⟩ := h
            obtain ⟨g1, g2⟩ := lit_len _ _ (Nat.le_refl _) _ _ hm
            have g3 := (lit_facts _ _ (Nat.le_refl _) _ _ hm).2.2.1
            have g4 := (lit_facts _ _ (Nat.le_refl _) _ _ hm).2.1
            simp only [List.length_cons] at hl
            refine ⟨?_, ?_, fun h => by simp at h⟩
            · show validB 3 0 t' = true
              rw [valid_text, g2]; simp; omega
            · show (quoteL t').length ≤ _
              simp [quoteL]; omega
        · rw [read_sym c r hL hD h34] at h
          cases hs : symOf (c :: r) with
          | none => rw [hs] at h; cases h
          | some x =>
            rw [hs] at h
            simp only [Except.ok.injEq, Prod.mk.injEq] at h
            obtain ⟨rfl, rfl⟩ := h
            have hmem := List.mem_of_find?_eq_some hs
            have hs2 := hs
            unfold symOf at hs2
            have hs3 := List.find?_some hs2
            have hp := List.isPrefixOf_iff_prefix.1 hs3
            have hall : ∀ y ∈ syms, symOf y = some y ∧ ∀ d ∈ y, d.toNat ≠ 10 := by decide
            refine ⟨?_, ?_, fun _ => hpre x hp (hall x hmem).2⟩
            · show validB 4 0 x = true
              rw [valid_sym]; simp [(hall x hmem).1]
            · show x.length ≤ _; exact Nat.le_refl _
      · rw [read_num c r hD] at h
        split at h
        · cases h
        · split at h
          · cases h
          · rename_i hbig
            simp only [Except.ok.injEq, Prod.mk.injEq] at h
            obtain ⟨rfl, rfl⟩ := h
            refine ⟨?_, ?_, fun h => by simp at h⟩
            · show validB 2 _ [] = true
              rw [valid_num]; simp; omega
            · show (Lib.itoa ((dval (List.take (spanN isDig (c :: r)) (c :: r)) : Nat) : Int)).length ≤ _
              rw [Lib.itoa_nonneg, Lib.decDigits_length]
              have h1 := span_pos c r hD
              refine nDigits_le _ _ h1 ?_
              have h2 := dval_lt _ (span_dig (c :: r))
              rw [List.length_take, Nat.min_eq_left (spanN_le _ _)] at h2
              exact h2
    · rw [read_name c r hL] at h
      split at h
      · cases h
      · rename_i h40
        simp only [Except.ok.injEq, Prod.mk.injEq] at h
        obtain ⟨rfl, rfl⟩ := h
        have htw : (c :: r).take (spanN isNm (c :: r)) = (c :: r).takeWhile isNm := by
          unfold spanN
          exact (List.prefix_iff_eq_take.1 (List.takeWhile_prefix isNm)).symm
        have hall : ∀ d ∈ (c :: r).take (spanN isNm (c :: r)), isNm d = true := by
          rw [htw]; intro d hd; exact List.all_eq_true.1 List.all_takeWhile d hd
        have h1 := span_pos_nm c r hL
        refine ⟨?_, ?_, fun _ => hpre _ (List.take_prefix _ _) fun d hd => nm_line d (hall d hd)⟩
        · show validB 1 0 _ = true
          rw [valid_name]
          obtain ⟨m, hm⟩ : ∃ m, spanN isNm (c :: r) = m + 1 := ⟨spanN isNm (c :: r) - 1, by omega⟩
          have hle := spanN_le isNm (c :: r)
          rw [hm] at hall hle h40 ⊢
          rw [List.take_succ_cons] at hall ⊢
          have ha : (c :: r.take m).all isNm = true := List.all_eq_true.2 hall
          simp only [List.length_cons] at hle
          unfold isNameB
          simp only [ha, hL, Bool.and_true, decide_eq_true_eq, List.length_cons, List.length_take]
          omega
        · show (List.take _ _).length ≤ _
          rw [List.length_take]; omega

theorem tkTd_tok (x : Tk) : (tkTd x).tok = x.1 := by
  obtain ⟨⟨k, t, n⟩, p⟩ := x
  simp [tkTd, Td.tok]
theorem placed_ok (s : List UInt8) (N : List Tk) (h : Placed s 0 N) (hl : s.length ≤ 16384) : ∀ i (hi : i < N.length), (tkTd N[i]).ok = true ∧ (N[i].1.k = 5 ↔ i + 1 = N.length) := by
  intro i hi
  obtain ⟨o, _, h2, _, h4⟩ := placed_at s N 0 h i hi
  rcases h4 with ⟨h5, h6⟩ | ⟨⟨n, h5⟩, h6⟩
  · refine ⟨?_, by simp [h5, h6]⟩
    unfold Td.ok tkTd; simp only [h5]; decide
  · have hf := readTok_facts _ _ _ h5
    refine ⟨(read_good _ _ _ h5 (by rw [List.length_drop]; omega)).1, by omega⟩
theorem placed_join (s : List UInt8) (N : List Tk) (h : Placed s 0 N) (hl : s.length ≤ 16384) : joinB (N.map tkTd) = true := by
  unfold joinB okTo
  rw [List.all_eq_true]
  intro i hi
  rw [List.mem_range, List.length_map] at hi
  rw [okAt_at _ _ (by rw [List.length_map]; exact hi)]
  simp only [List.getElem_map, List.length_map]
  obtain ⟨h1, h2⟩ := placed_ok s N h hl i hi
  rw [h1]
  have e : (tkTd N[i]).k = (N[i].1.k : Int) := rfl
  by_cases h5 : N[i].1.k = 5
  · have := h2.1 h5; simp; omega
  · simp [e]; omega
theorem placed_count (s : List UInt8) : ∀ (N : List Tk) (j : Nat), Placed s j N → j + N.length ≤ s.length + 1 := by
  intro N
  induction N with
  | nil => intro j h; exact absurd h id
  | cons x N ih =>
    intro j h
    obtain ⟨o, h1, h2, h3, h4⟩ := h
    rcases h4 with ⟨h5, h6⟩ | ⟨n, h5, h6⟩
    · rw [h6]; simp; omega
    · have := ih _ h6
      have := (readTok_facts _ _ _ h5).1
      simp only [List.length_cons]; omega
theorem jn_cons_le (x : Td) (L : List Td) : (jn (x :: L)).length ≤ x.tx.length + 1 + (jn L).length := by
  cases L with
  | nil => simp [jn]
  | cons y L => simp [jn]; omega
theorem placed_text (s : List UInt8) (hl : s.length ≤ 16384) : ∀ (N : List Tk) (j : Nat), Placed s j N → (jn ((N.map tkTd).take (N.length - 1))).length + j ≤ s.length + N.length := by
  intro N
  induction N with
  | nil => intro j h; exact absurd h id
  | cons x N ih =>
    intro j h
    have hj := placed_count s _ _ h
    obtain ⟨o, h1, h2, h3, h4⟩ := h
    rcases h4 with ⟨h5, h6⟩ | ⟨n, h5, h6⟩
    · subst h6; simp [jn]; simp at hj; omega
    · have h7 := ih _ h6
      have h8 := (read_good _ _ _ h5 (by rw [List.length_drop]; omega)).2.1
      cases N with
      | nil => exact absurd h6 id
      | cons y N =>
        simp only [List.length_cons, List.map_cons, Nat.add_sub_cancel, List.take_succ_cons] at h7 ⊢
        have h9 := jn_cons_le (tkTd x) ((tkTd y :: N.map tkTd).take N.length)
        have e : (tkTd x).tx = textK x.1.k x.1.n x.1.t := rfl
        rw [e] at h9
        omega
theorem placed_body (s : List UInt8) (N : List Tk) (h : Placed s 0 N) (hl : s.length ≤ 16384) : bodyN (N.map tkTd) = N.length - 1 := by
  have hp : 0 < N.length := by
    cases N with
    | nil => exact absurd h id
    | cons x N => simp
  have h1 := (placed_ok s N h hl (N.length - 1) (by omega)).2.2 (by omega)
  refine bodyN_end _ _ (by rw [List.length_map]; omega) ?_
  simp only [List.getElem_map]
  show (N[N.length - 1].1.k : Int) = 5
  rw [h1]; rfl
/-- the tokens of a short text: joined they are short, and read again they are the same -/
theorem placed_back (s : List UInt8) (N : List Tk) (h : Placed s 0 N) (hl : s.length ≤ 400) :
    joinB (N.map tkTd) = true ∧ (joinL (N.map tkTd)).length ≤ 1000 ∧ N.length ≤ 401 ∧ 0 < N.length ∧ ∃ M, tokens (joinL (N.map tkTd)) = (M, (0, 0), 0) ∧ M.map (·.1) = (N.map tkTd).map Td.tok := by
  have hj := placed_join s N h (by omega)
  have hc := placed_count s N 0 h
  have ht := placed_text s (by omega) N 0 h
  have hb := placed_body s N h (by omega)
  have hp : 0 < N.length := by
    cases N with
    | nil => exact absurd h id
    | cons x N => simp
  have hlen : (joinL (N.map tkTd)).length ≤ 1000 := by unfold joinL; rw [hb]; omega
  obtain ⟨M, h1, h2⟩ := tokens_join (N.map tkTd) hj (by omega) (by rw [List.length_map]; omega)
  refine ⟨hj, hlen, by omega, hp, M, h1, ?_⟩
  rw [h2]
  have hml : (N.map tkTd).length = (N.length - 1) + 1 := by rw [List.length_map]; omega
  refine back_end (N.map tkTd) (N.length - 1) hml hj ?_
  simp only [List.getElem_map]
  show (N[N.length - 1].1.k : Int) = 5
  rw [(placed_ok s N h (by omega) (N.length - 1) (by omega)).2.2 (by omega)]; rfl
end Go.Proofs.YtlocbindafdmhaaDoor
