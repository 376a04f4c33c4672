/- Lines of words: what Words and Join return, and that a line is read as its words: plain Lean, no program in sight. -/
import Derived.Test.YtbbdgncjpbfooaaGreatDoorKi
import Derived.Test.YtbbdgncjpbfooaaGreatDoorNa
namespace Go.Proofs.YtbbdgncjpbfooaaGreatDoor

/-- a byte that stands in a bare word -/
def isBw (c : UInt8) : Bool := !decide (c.toNat = 32)
/-- the words from here on, behind those that were read; or an error number -/
def wordsA : Nat → List UInt8 → List (List UInt8) → Except Nat (List (List UInt8))
  | 0, _, _ => .error 0
  | _ + 1, [], out => .ok out
  | f + 1, c :: l, out =>
    if c.toNat = 32 then wordsA f l out
    else if c.toNat = 34 then
      match litF l with
      | .error e => .error e
      | .ok (t, n) => match l.drop n with
        | [] => wordsA f [] (out ++ [t])
        | d :: r => if d.toNat = 32 then wordsA f (d :: r) (out ++ [t]) else .error 3
    else if ((c :: l).takeWhile isBw).any (fun x => decide (x.toNat = 34)) then .error 3
    else wordsA f ((c :: l).drop ((c :: l).takeWhile isBw).length) (out ++ [(c :: l).takeWhile isBw])
theorem wordsA_nil (f : Nat) (out : List (List UInt8)) : wordsA (f + 1) [] out = .ok out := rfl
theorem wordsA_blank (f : Nat) (c : UInt8) (l : List UInt8) (out : List (List UInt8)) (h : (c.toNat : Int) = 32) : wordsA (f + 1) (c :: l) out = wordsA f l out := by
  rw [wordsA, if_pos (by omega)]
theorem wordsA_lit (f : Nat) (c : UInt8) (l : List UInt8) (out : List (List UInt8)) (h : (c.toNat : Int) = 34) (e : Nat) (hl : litF l = .error e) : wordsA (f + 1) (c :: l) out = .error e := by
  rw [wordsA, if_neg (by omega), if_pos (by omega), hl]
theorem wordsA_end (f : Nat) (c : UInt8) (l : List UInt8) (out : List (List UInt8)) (h : (c.toNat : Int) = 34) (t : List UInt8) (n : Nat) (hl : litF l = .ok (t, n)) (hd : l.drop n = []) : wordsA (f + 1) (c :: l) out = wordsA f (l.drop n) (out ++ [t]) := by
  rw [wordsA, if_neg (by omega), if_pos (by omega), hl]; simp only [hd]
theorem wordsA_on (f : Nat) (c : UInt8) (l : List UInt8) (out : List (List UInt8)) (h : (c.toNat : Int) = 34) (t : List UInt8) (n : Nat) (hl : litF l = .ok (t, n)) (d : UInt8) (r : List UInt8) (hd : l.drop n = d :: r) (h3 : (d.toNat : Int) = 32) : wordsA (f + 1) (c :: l) out = wordsA f (l.drop n) (out ++ [t]) := by
  rw [wordsA, if_neg (by omega), if_pos (by omega), hl]; simp only [hd]; rw [if_pos (by omega)]
theorem wordsA_bad (f : Nat) (c : UInt8) (l : List UInt8) (out : List (List UInt8)) (h : (c.toNat : Int) = 34) (t : List UInt8) (n : Nat) (hl : litF l = .ok (t, n)) (d : UInt8) (r : List UInt8) (hd : l.drop n = d :: r) (h3 : (d.toNat : Int) ≠ 32) : wordsA (f + 1) (c :: l) out = .error 3 := by
  rw [wordsA, if_neg (by omega), if_pos (by omega), hl]; simp only [hd]; rw [if_neg (by omega)]
theorem wordsA_bare (f : Nat) (c : UInt8) (l : List UInt8) (out : List (List UInt8)) (h1 : (c.toNat : Int) ≠ 32) (h2 : (c.toNat : Int) ≠ 34) :
    wordsA (f + 1) (c :: l) out = if ((c :: l).takeWhile isBw).any (fun x => decide (x.toNat = 34)) then .error 3 else wordsA f ((c :: l).drop ((c :: l).takeWhile isBw).length) (out ++ [(c :: l).takeWhile isBw]) := by
  rw [wordsA, if_neg (by omega), if_neg (by omega)]
/-- what Words answers -/
def wordsX (R : Except Nat (List (List UInt8))) : Except Nat (List (List UInt8)) := match R with | .ok L => if 1000 < L.length then .error 5 else .ok L | .error e => .error e
def words (l : List UInt8) : Except Nat (List (List UInt8)) := if 16384 < l.length then .error 5 else if l.all isPr then wordsX (wordsA (l.length + 1) l []) else .error 3

/-- a text that stands for itself in a line -/
def bareB (t : List UInt8) : Bool := !t.isEmpty && t.all (fun c => isBw c && !decide (c.toNat = 34))
/-- a text as it stands in a line -/
def partL (t : List UInt8) : List UInt8 := if bareB t then t else quoteL t
/-- the line of texts -/
def lineL : List (List UInt8) → List UInt8
  | [] => []
  | x :: L => match L with | [] => partL x | _ => partL x ++ 32 :: lineL L
theorem lineL_one (x : List UInt8) : lineL [x] = partL x := rfl
theorem lineL_cons (x y : List UInt8) (L : List (List UInt8)) : lineL (x :: y :: L) = partL x ++ 32 :: lineL (y :: L) := rfl
theorem lineL_snoc (L : List (List UInt8)) (t : List UInt8) : lineL (L ++ [t]) = (if L = [] then partL t else lineL L ++ 32 :: partL t) := by
  induction L with
  | nil => rfl
  | cons x L ih =>
    rw [if_neg (by simp)]
    cases L with
    | nil => rfl
    | cons y L =>
      rw [List.cons_append, List.cons_append, lineL_cons, ← List.cons_append, ih, if_neg (by simp), lineL_cons]
      simp
theorem litF_esc (u r : List UInt8) : litF (escL u ++ 34 :: r) = .ok (u, (escL u).length + 1) := by
  induction u with
  | nil => show litF (34 :: r) = .ok ([], 1); rw [litF.eq_def]; rfl
  | cons c u ih =>
    have e : escL (c :: u) = escB c ++ escL u := rfl
    rw [e]
    unfold escB
    split
    · rename_i hc
      show litF (92 :: c :: (escL u ++ 34 :: r)) = _
      rw [litF]
      rw [if_neg (by decide), if_pos (by decide)]
      rw [if_pos hc, ih]
      simp
    · rename_i hc
      show litF (c :: (escL u ++ 34 :: r)) = _
      have h1 : c.toNat ≠ 34 := fun h => hc (.inl h)
      have h2 : c.toNat ≠ 92 := fun h => hc (.inr h)
      rw [litF.eq_def]
      simp only
      rw [if_neg h1, if_neg h2, ih]
      simp
/-- a line ends, or goes on with a blank -/
def Blank (r : List UInt8) : Prop := r = [] ∨ ∃ r', r = 32 :: r'
theorem take_bare (t r : List UInt8) (h : t.all isBw = true) (hr : Blank r) : (t ++ r).takeWhile isBw = t := by
  induction t with
  | nil =>
    rcases hr with rfl | ⟨r', rfl⟩
    · rfl
    · simp [isBw]
  | cons c t ih =>
    simp only [List.all_cons, Bool.and_eq_true] at h
    rw [List.cons_append, List.takeWhile_cons, if_pos h.1, ih h.2]
/-- a part is read as its text -/
theorem read_part (f : Nat) (t r : List UInt8) (out : List (List UInt8)) (hr : Blank r) : wordsA (f + 1) (partL t ++ r) out = wordsA f r (out ++ [t]) := by
  unfold partL
  split
  · rename_i hb
    unfold bareB at hb
    cases t with
    | nil => simp at hb
    | cons c t =>
      simp only [Bool.and_eq_true, List.all_eq_true] at hb
      have hc := hb.2 c (by simp)
      have hall : (c :: t).all isBw = true := List.all_eq_true.2 fun x hx => (hb.2 x hx).1
      simp only [isBw, Bool.not_eq_true', decide_eq_false_iff_not] at hc
      have htw := take_bare (c :: t) r hall hr
      rw [List.cons_append] at htw ⊢
      rw [wordsA_bare f c (t ++ r) out (by omega) (by omega), htw, if_neg (by
        rw [Bool.not_eq_true, List.any_eq_false]
        intro x hx
        have := hb.2 x hx
        simp only [Bool.not_eq_true', decide_eq_false_iff_not] at this
        simp [this.2])]
      rw [← List.cons_append, List.drop_left]
  · have e : quoteL t ++ r = 34 :: (escL t ++ 34 :: r) := by simp [quoteL]
    rw [e]
    have hl := litF_esc t r
    have hd : (escL t ++ 34 :: r).drop ((escL t).length + 1) = r := by rw [← List.drop_drop, List.drop_left]; rfl
    rcases hr with rfl | ⟨r', rfl⟩
    · rw [wordsA_end f 34 _ out (by decide) t _ hl hd, hd]
    · rw [wordsA_on f 34 _ out (by decide) t _ hl 32 r' hd (by decide), hd]
theorem part_ne (t : List UInt8) : partL t ≠ [] := by
  unfold partL
  split
  · rename_i h; intro e; subst e; simp [bareB] at h
  · simp [quoteL]
theorem wordsA_line (L : List (List UInt8)) : ∀ (f : Nat) (out : List (List UInt8)), (lineL L).length < f → wordsA f (lineL L) out = .ok (out ++ L) := by
  induction L with
  | nil =>
    intro f out h
    obtain ⟨f, rfl⟩ : ∃ m, f = m + 1 := ⟨f - 1, by omega⟩
    rw [List.append_nil]; rfl
  | cons x L ih =>
    intro f out h
    obtain ⟨f, rfl⟩ : ∃ m, f = m + 1 := ⟨f - 1, by omega⟩
    have hp : 0 < (partL x).length := List.length_pos_iff.2 (part_ne x)
    cases L with
    | nil =>
      rw [lineL_one] at h ⊢
      have := read_part f x [] out (.inl rfl)
      rw [List.append_nil] at this
      obtain ⟨g, rfl⟩ : ∃ m, f = m + 1 := ⟨f - 1, by omega⟩
      rw [this]; rfl
    | cons y L =>
      rw [lineL_cons] at h ⊢
      rw [read_part f x _ out (.inr ⟨_, rfl⟩)]
      simp only [List.length_append, List.length_cons] at h
      obtain ⟨g, rfl⟩ : ∃ m, f = m + 1 := ⟨f - 1, by omega⟩
      rw [wordsA_blank g 32 _ _ (by decide), ih g _ (by omega)]
      simp
theorem esc_pr (t : List UInt8) (h : t.all isPr = true) : (escL t).all isPr = true := by
  induction t with
  | nil => rfl
  | cons c t ih =>
    simp only [List.all_cons, Bool.and_eq_true] at h
    have e : escL (c :: t) = escB c ++ escL t := rfl
    rw [e, List.all_append, ih h.2, Bool.and_true]
    unfold escB
    split
    · simp only [List.all_cons, List.all_nil, Bool.and_true, h.1]; decide
    · simp [h.1]
theorem quote_pr (t : List UInt8) (h : t.all isPr = true) : (quoteL t).all isPr = true := by
  unfold quoteL
  rw [List.all_cons, List.all_append, esc_pr t h]; decide
theorem part_pr (t : List UInt8) (h : t.all isPr = true) : (partL t).all isPr = true := by
  unfold partL
  split
  · exact h
  · exact quote_pr t h
theorem line_pr (L : List (List UInt8)) (h : ∀ t ∈ L, t.all isPr = true) : (lineL L).all isPr = true := by
  induction L with
  | nil => rfl
  | cons x L ih =>
    have hx := part_pr x (h x (by simp))
    have hL := ih (fun t ht => h t (by simp [ht]))
    cases L with
    | nil => exact hx
    | cons y L => rw [lineL_cons, List.all_append, hx, List.all_cons, hL]; decide
/-- a line is read as its words -/
theorem words_line (L : List (List UInt8)) (h : ∀ t ∈ L, t.all isPr = true) (hl : (lineL L).length ≤ 16384) (hn : L.length ≤ 1000) : words (lineL L) = .ok L := by
  unfold words
  rw [if_neg (by omega), if_pos (line_pr L h), wordsA_line L _ [] (Nat.lt_succ_self _)]
  unfold wordsX
  rw [List.nil_append]
  simp only
  rw [if_neg (by omega)]
theorem litF_len (f : Nat) : ∀ (l : List UInt8), l.length ≤ f → ∀ t n, litF l = .ok (t, n) → 1 ≤ n ∧ n ≤ l.length ∧ t.length + 1 ≤ n := by
  induction f with
  | zero =>
    intro l hl t n h
    cases l with
    | nil => simp [litF] at h
    | cons c l => simp at hl
  | succ f ih =>
    intro l hl t n h
    match l with
    | [] => simp [litF] at h
    | c :: l =>
      rw [litF.eq_def] at h
      simp only at h
      split at h
      · cases h; exact ⟨by omega, by simp, by simp⟩
      · split at h
        · split at h
          · cases h
          · rename_i d m
            split at h
            · cases hm : litF m with
              | error e => rw [hm] at h; cases h
              | ok x =>
                obtain ⟨t', n'⟩ := x
                rw [hm] at h
                simp only [Except.ok.injEq, Prod.mk.injEq] at h
                obtain ⟨rfl, rfl⟩ := h
                have := ih m (by simp at hl; omega) _ _ hm
                simp; omega
            · cases h
        · cases hm : litF l with
          | error e => rw [hm] at h; cases h
          | ok x =>
            obtain ⟨t', n'⟩ := x
            rw [hm] at h
            simp only [Except.ok.injEq, Prod.mk.injEq] at h
            obtain ⟨rfl, rfl⟩ := h
            have := ih l (by simp at hl; omega) _ _ hm
            simp; omega
theorem litF_code (f : Nat) : ∀ (l : List UInt8), l.length ≤ f → ∀ e, litF l = .error e → 1 ≤ e := by
  induction f with
  | zero =>
    intro l hl e h
    cases l with
    | nil => simp [litF] at h; omega
    | cons c l => simp at hl
  | succ f ih =>
    intro l hl e h
    match l with
    | [] => simp [litF] at h; omega
    | c :: l =>
      rw [litF.eq_def] at h
      simp only at h
      split at h
      · cases h
      · split at h
        · split at h
          · cases h; omega
          · rename_i d m
            split at h
            · cases hm : litF m with
              | error e' =>
                rw [hm] at h
                cases h
                exact ih m (by simp at hl; omega) _ hm
              | ok x => rw [hm] at h; cases h
            · cases h; omega
        · cases hm : litF l with
          | error e' =>
            rw [hm] at h
            cases h
            exact ih l (by simp at hl; omega) _ hm
          | ok x => rw [hm] at h; cases h
end Go.Proofs.YtbbdgncjpbfooaaGreatDoor
