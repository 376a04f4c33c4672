/- Tokens of package token: what the loop holds on to. -/
import Derived.Test.YtbbdgncjpbfooaaDoorKp
namespace Go.Proofs.YtbbdgncjpbfooaaDoor
open Go.RowKit

theorem advs_le1 (l : List UInt8) : ∀ p : Nat × Nat, 1 ≤ p.2 → 1 ≤ (advs p l).2 ∧ (advs p l).2 ≤ p.2 + l.length ∧ (advs p l).1 ≤ p.1 + l.length := by
  induction l with
  | nil => intro p h; exact ⟨h, Nat.le_refl _, Nat.le_refl _⟩
  | cons c l ih =>
    intro p h
    show 1 ≤ (advs (adv p c) l).2 ∧ (advs (adv p c) l).2 ≤ _ ∧ (advs (adv p c) l).1 ≤ _
    simp only [List.length_cons]
    by_cases hc : c.toNat = 10
    · have e : adv p c = (p.1 + 1, 1) := by simp [adv, hc]
      have h0 := ih (adv p c) (by rw [e]; exact Nat.le_refl _)
      rw [e] at h0 ⊢
      simp only at h0
      omega
    · have e : adv p c = (p.1, p.2 + 1) := by simp [adv, hc]
      have h0 := ih (adv p c) (by rw [e]; simp)
      rw [e] at h0 ⊢
      simp only at h0
      omega
theorem span_pos_nm (c : UInt8) (r : List UInt8) (h : isLet c = true) : 1 ≤ spanN isNm (c :: r) := by
  unfold spanN; rw [List.takeWhile_cons, nm_let c h]; simp
theorem sym_in (l x : List UInt8) (h : symOf l = some x) : 1 ≤ x.length ∧ x.length ≤ l.length := by
  unfold symOf at h
  have h1 := List.mem_of_find?_eq_some h
  have h2 := List.find?_some h
  have h3 : ∀ y ∈ syms, 1 ≤ y.length := by decide
  exact ⟨h3 x h1, List.IsPrefix.length_le (List.isPrefixOf_iff_prefix.1 h2)⟩
theorem readTok_facts (l : List UInt8) (t : Tok) (n : Nat) (h : readTok l = .ok (t, n)) : 1 ≤ n ∧ n ≤ l.length ∧ 1 ≤ t.k ∧ t.k ≤ 4 := by
  cases l with
  | nil => simp [readTok] at h
  | cons c r =>
    cases hL : isLet c
    · cases hD : isDig c
      · by_cases h34 : (c.toNat : Int) = 34
        · rw [read_lit c r h34] at h
          cases hm : lit r with
          | error e => rw [hm] at h; cases h
          | ok x =>
            obtain ⟨t', n'⟩ := x
            rw [hm] at h
            simp only [Except.ok.injEq, Prod.mk.injEq] at h
            obtain ⟨rfl, rfl⟩ := h
            obtain ⟨g1, g2, _⟩ := lit_facts _ _ (Nat.le_refl _) _ _ hm
            exact ⟨by omega, by simp; omega, by simp, by simp⟩
        · rw [read_sym c r hL hD h34] at h
          cases hs : symOf (c :: r) with
          | none => rw [hs] at h; cases h
          | some x =>
            rw [hs] at h
            simp only [Except.ok.injEq, Prod.mk.injEq] at h
            obtain ⟨rfl, rfl⟩ := h
            have := sym_in _ _ hs
            exact ⟨this.1, this.2, by simp, by simp⟩
      · rw [read_num c r hD] at h
        split at h
        · cases h
        · split at h
          · cases h
          · simp only [Except.ok.injEq, Prod.mk.injEq] at h
            obtain ⟨rfl, rfl⟩ := h
            exact ⟨span_pos c r hD, spanN_le _ _, by simp, by simp⟩
    · rw [read_name c r hL] at h
      split at h
      · cases h
      · simp only [Except.ok.injEq, Prod.mk.injEq] at h
        obtain ⟨rfl, rfl⟩ := h
        exact ⟨span_pos_nm c r hL, spanN_le _ _, by simp, by simp⟩

/-- a token's cells -/
def tkCells (x : Tk) : List Value := [.int .i64 (x.1.k : Int), .string ⟨x.1.t.toArray⟩, .int .i64 (x.1.n : Int), .int .i64 (x.2.1 : Int), .int .i64 (x.2.2 : Int)]
/-- the tokens' cells -/
def tkRow (L : List Tk) : List Value := L.flatMap tkCells
theorem tkRow_snoc (L : List Tk) (x : Tk) : tkRow (L ++ [x]) = tkRow L ++ tkCells x := by unfold tkRow; simp
theorem PR.grown {w w' : World} {b : Nat} (h : PR w) (hg : w.grownBy w' (some b)) (hb : 3 < b) : PR w' := by
  obtain ⟨tp, q, h1⟩ := h
  have hl := var_lt gRan h1
  refine ⟨tp, q, ?_⟩
  have hk := hg.block _ hl (fun e => by have := Option.some.inj e; omega)
  simpa [World.var?, gRan, hk] using h1
end Go.Proofs.YtbbdgncjpbfooaaDoor
