/- Events out of their texts: plain Lean, no program in sight. -/
import Derived.Test.YtbbdgncjpbfooaaGreatDoorEn
namespace Go.Proofs.YtbbdgncjpbfooaaGreatDoor

/-- the words of the steps -/
def wordsL : List ByteArray := [lifeB 1, lifeB 2, lifeB 3, lifeB 4, lifeB 5, lifeB 6]
/-- the step with a word -/
def lifeI (t : ByteArray) : Int := 1 + Lib.idxOfS wordsL t
theorem lifeI_word (n : Int) (h1 : 1 ≤ n) (h6 : n ≤ 6) : lifeI (lifeB n) = n := by
  rcases step_of n h1 h6 with rfl | rfl | rfl | rfl | rfl | rfl <;> decide
/-- the number of some digits; 0 if they are none -/
def instG : Nat → List UInt8 → Nat
  | n, [] => n
  | n, c :: l => if c.toNat < 48 ∨ 57 < c.toNat ∨ 1099511627776 < n then 0 else instG (10 * n + (c.toNat - 48)) l
theorem fold_ge (l : List UInt8) : ∀ n : Nat, n ≤ l.foldl (fun n c => 10 * n + (c.toNat - 48)) n := by
  induction l with
  | nil => intro n; exact Nat.le_refl _
  | cons c l ih => intro n; have := ih (10 * n + (c.toNat - 48)); simp only [List.foldl_cons]; omega
theorem instG_digits (l : List UInt8) : ∀ n : Nat, (∀ c ∈ l, isDig c = true) → l.foldl (fun n c => 10 * n + (c.toNat - 48)) n ≤ 1099511627776 → instG n l = l.foldl (fun n c => 10 * n + (c.toNat - 48)) n := by
  induction l with
  | nil => intro n _ _; rfl
  | cons c l ih =>
    intro n hd hb
    have hc := hd c (by simp)
    unfold isDig at hc
    have hc' : 48 ≤ c.toNat ∧ c.toNat ≤ 57 := by simpa using hc
    have h2 := fold_ge l (10 * n + (c.toNat - 48))
    simp only [List.foldl_cons] at hb ⊢
    rw [instG, if_neg (by omega)]
    exact ih _ (fun x hx => hd x (by simp [hx])) hb
theorem instG_itoa (n : Int) (h0 : 0 ≤ n) (h1 : n ≤ 1099511627776) : (instG 0 (Lib.itoa n) : Int) = n := by
  obtain ⟨u, rfl⟩ := Int.eq_ofNat_of_zero_le h0
  rw [Lib.itoa_nonneg]
  have hv : (Lib.decDigits u).foldl (fun n c => 10 * n + (c.toNat - 48)) 0 = u := dec_val u
  rw [instG_digits _ 0 (dec_dig u) (by rw [hv]; omega), hv]
theorem index_eq (a r : List UInt8) (h : ∀ c ∈ a, c ≠ 61) : Lib.index (a ++ 61 :: r) [61] = a.length := by
  induction a with
  | nil => rw [List.nil_append, Lib.index]; rfl
  | cons c a ih =>
    have hi := ih (fun x hx => h x (by simp [hx]))
    have hc : c ≠ 61 := h c (by simp)
    rw [List.cons_append, Lib.index, hi, if_neg (by simp [List.isPrefixOf, Ne.symm hc]), if_neg (by simp)]
    simp
theorem cut_eq (a r : List UInt8) (h : ∀ c ∈ a, c ≠ 61) : Lib.cut (a ++ 61 :: r) [61] = (a, r, true) := by
  unfold Lib.cut
  rw [index_eq a r h, if_pos (by omega)]
  simp
/-- fields out of their words -/
def fieldsA : List (List UInt8) → List Fd → Option (List Fd)
  | [], d => some d
  | t :: l, d => match valP (Lib.cut t [61]).2.1 with
    | none => none
    | some v => fieldsA l (d ++ [⟨⟨(Lib.cut t [61]).1.toArray⟩, v⟩])
theorem fieldsA_none (t : List UInt8) (l : List (List UInt8)) (d : List Fd) (h : valP (Lib.cut t [61]).2.1 = none) : fieldsA (t :: l) d = none := by rw [fieldsA, h]
theorem fieldsA_some (t : List UInt8) (l : List (List UInt8)) (d : List Fd) (v : Vl) (h : valP (Lib.cut t [61]).2.1 = some v) : fieldsA (t :: l) d = fieldsA l (d ++ [⟨⟨(Lib.cut t [61]).1.toArray⟩, v⟩]) := by rw [fieldsA, h]
theorem name_eq (l : List UInt8) (h : isNameB l = true) : ∀ c ∈ l, c ≠ 61 := by
  intro c hc e
  have := (name_pr l h).2.2.2 c hc
  subst e
  revert this; decide
theorem fieldsA_tx (L : List Fd) : ∀ d : List Fd, (∀ f ∈ L, isNameB f.nm.data.toList = true ∧ f.v.ok = true) → fieldsA (L.map Fd.tx) d = some (d ++ L) := by
  induction L with
  | nil => intro d _; rw [List.append_nil]; rfl
  | cons f L ih =>
    intro d h
    obtain ⟨h1, h2⟩ := h f (by simp)
    have hc : Lib.cut f.tx [61] = (f.nm.data.toList, f.v.tx, true) := cut_eq _ _ (name_eq _ h1)
    rw [List.map_cons, fieldsA_some _ _ _ f.v (by rw [hc]; exact valP_tx _ h2), hc, ih _ (fun g hg => h g (by simp [hg]))]
    rw [List.append_assoc]
    rfl
/-- the event that words may stand for -/
def candE (L : List (List UInt8)) : Option Ev := match L with
  | c :: a :: r :: f :: t :: l => match fieldsA l [] with
    | none => none
    | some d => some ⟨⟨c.toArray⟩, ⟨a.toArray⟩, ⟨r.toArray⟩, lifeI ⟨f.toArray⟩, instG 0 t, d⟩
  | _ => none
/-- the event with a text -/
def evP (s : List UInt8) : Option Ev := match words s with
  | .error _ => none
  | .ok L => match candE L with
    | none => none
    | some e => if e.ok then (if e.tx = s then some e else none) else none
theorem evP_err (s : List UInt8) (k : Nat) (h : words s = .error k) : evP s = none := by unfold evP; rw [h]
theorem evP_no (s : List UInt8) (L : List (List UInt8)) (h : words s = .ok L) (hc : candE L = none) : evP s = none := by unfold evP; rw [h]; simp only; rw [hc]
theorem evP_cand (s : List UInt8) (L : List (List UInt8)) (e : Ev) (h : words s = .ok L) (hc : candE L = some e) : evP s = if e.ok then (if e.tx = s then some e else none) else none := by unfold evP; rw [h]; simp only; rw [hc]
theorem evP_some (s : List UInt8) (e : Ev) (h : evP s = some e) : e.ok = true ∧ e.tx = s := by
  cases hw : words s with
  | error k => rw [evP_err s k hw] at h; cases h
  | ok L =>
    cases hc : candE L with
    | none => rw [evP_no s L hw hc] at h; cases h
    | some e' =>
      rw [evP_cand s L e' hw hc] at h
      split at h
      · rename_i h1
        split at h
        · rename_i h2; cases h; exact ⟨h1, h2⟩
        · cases h
      · cases h
theorem ev_names (e : Ev) (h : e.ok = true) : ∀ f ∈ e.d, isNameB f.nm.data.toList = true ∧ f.v.ok = true := by
  intro f hf
  obtain ⟨k, hk, rfl⟩ := List.getElem_of_mem hf
  unfold Ev.ok at h
  rw [Bool.and_eq_true] at h
  exact fdsB_at e.d k hk h.2
theorem candE_ws (e : Ev) (h : e.ok = true) : candE e.ws = some e := by
  obtain ⟨h1, h6, ht0, ht1, _⟩ := ev_head e h
  have hf := fieldsA_tx e.d [] (ev_names e h)
  have hl : lifeI ⟨(lifeW e.life).toArray⟩ = e.life := lifeI_word e.life h1 h6
  unfold Ev.ws
  show candE (e.c.data.toList :: e.a.data.toList :: e.r.data.toList :: lifeW e.life :: Lib.itoa e.time :: e.d.map Fd.tx) = _
  unfold candE
  simp only
  rw [hf]
  simp only [List.nil_append]
  rw [hl, instG_itoa e.time ht0 ht1]
theorem evP_tx (e : Ev) (h : e.ok = true) : evP e.tx = some e := by
  rw [evP_cand _ e.ws e (words_ev e h) (candE_ws e h), if_pos h, if_pos rfl]
/-- what Parse answers -/
def evR (s : List UInt8) : Except Nat Ev := if 16384 < s.length then .error 5 else match evP s with | some e => .ok e | none => .error 3
end Go.Proofs.YtbbdgncjpbfooaaGreatDoor
