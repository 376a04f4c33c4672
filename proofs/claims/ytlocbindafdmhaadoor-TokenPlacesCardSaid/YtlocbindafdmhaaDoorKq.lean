/- Tokens of package token: what the loop holds on to. -/
import Derived.Test.YtlocbindafdmhaaDoorKp
namespace Go.Proofs.YtlocbindafdmhaaDoor
open Go.RowKit

theorem advs_le1 (l : List UInt8) : ∀ p : Nat × Nat, 1 ≤ p.2 → 1 ≤ (advs p l).2 ∧ (advs p l).2 ≤ p.2 + l.length ∧ (advs p l).1 ≤ p.1 + l.length := by
  induction l with
  | nil => intro p h; exact ⟨h, Nat.le_refl _, Nat.le_refl _⟩
  | cons c l ih =>
    intro p h
    show 1 ≤ (advs (adv p c) l).2 ∧ (advs (adv p c) l).2 ≤ _ ∧ (advs (adv p c) l).1 ≤ _
    simp only [List.length_cons]
    by_cases hc : c.toNat = 10
    · have e : adv p c = (p.1 + 1, 1) := by simp [adv, hc]
      have h0 := ih (adv p c) (by rw [e]; exact Nat.le_refl _)
      rw [e] at h0 ⊢
      simp only at h0
      omega
    · have e : adv p c = (p.1, p.2 + 1) := by simp [adv, hc]
      have h0 := ih (adv p c) (by rw [e]; simp)
      rw [e] at h0 ⊢
      simp only at h0
      omega
theorem span_pos_nm (c : UInt8) (r : List UInt8) (h : isLet c = true) : 1 ≤ spanN isNm (c :: r) := by
  unfold spanN; rw [List.takeWhile_cons, nm_let c h]; simp
theorem sym_in (l x : List UInt8) (h : symOf l = some x) : 1 ≤ x.length ∧ x.length ≤ l.length := by
  unfold symOf at h
  have h1 := List.mem_of_find?_eq_some h
  have h2 := List.find?_some h
  have h3 : ∀ y ∈ syms, 1 ≤ y.length := by decide
  exact ⟨h3 x h1, List.IsPrefix.length_le (List.isPrefixOf_iff_prefix.1 h2)⟩
theorem readTok_facts (l : List UInt8) (t : Tok) (n : Nat) (h : readTok l = .ok (t, n)) : 1 ≤ n ∧ n ≤ l.length ∧ 1 ≤ t.k ∧ t.k ≤ 4 := by
  cases l with
  | nil => simp [readTok] at h
  | cons c r =>
    cases hL : isLet c
    · cases hD : isDig c
      · by_cases h34 : (c.toNat : Int) = 34
        · rw [read_lit c r h34] at h
          cases hm : lit r with
          | error e => rw [hm] at h; cases h
          | ok x =>
            obtain ⟨t', n'⟩ := x
            rw [hm] at h
            simp only [Except.ok.injEq, Prod.mk.injEq] at h
            obtain ⟨rfl, rfl⟩ := h
            obtain ⟨g1, g2, _⟩ := lit_facts _ _ (Nat.le_refl _) _ _ hm
            exact ⟨by omega, by simp; omega, by simp, by simp⟩
        · rw [read_sym c r hL hD h34] at h
          cases hs : symOf (c :: r) with
          | none => rw [hs] at h; cases h
          | some x =>
            rw [hs] at h
            simp only [Except.ok.injEq, Prod.mk.injEq] at h
            obtain ⟨rfl, rfl⟩ := h
            have := sym_in _ _ hs
            exact ⟨this.1, this.2, by simp, by simp⟩
      · rw [read_num c r hD] at h
        split at h
        · cases h
        · split at h
          · cases h
          · simp only [Except.ok.injEq, Prod.mk.injEq] at h
            obtain ⟨rfl, rfl⟩ := h
            exact ⟨span_pos c r hD, spanN_le _ _, by simp, by simp⟩
    · rw [read_name c r hL] at h
      split at h
      · cases h
      · simp only [Except.ok.injEq, Prod.mk.injEq] at h
        obtain ⟨rfl, rfl⟩ := h
        exact ⟨span_pos_nm c r hL, spanN_le _ _, by simp, by simp⟩

/-- a token's cells -/
def tkCells (x : Tk) : List Value := [.int .i64 (x.1.k : Int), .string ⟨x.1.t.toArray⟩, .int .i64 (x.1.n : Int), .int .i64 (x.2.1 : Int), .int .i64 (x.2.2 : Int)]
/-- the tokens' cells -/
def tkRow (L : List Tk) : List Value := L.flatMap tkCells
theorem tkRow_snoc (L : List Tk) (x : Tk) : tkRow (L ++ [x]) = tkRow L ++ tkCells x := by unfold tkRow; simp
theorem tkInfo : (Tryd.prog.info? 33).map (fun i => (i.zero, i.size, i.bytes)) = some (some (.agg #[.int .i64 0, .string ⟨#[]⟩, .int .i64 0, .int .i64 0, .int .i64 0]), 5, 48) := by kernel_rfl

/-- inside the loop: the reader, the place that is returned, the row of tokens, and what else stands -/
def TS (w wr : World) (v : Value) (t : ByteArray) (p : Nat × Nat) (out : List Tk) : Prop :=
  RD wr (w.heap.size + 1) t p ∧ wr.heap[w.heap.size]? = some (.cells #[.int .i64 0, .int .i64 0] 25 (0, 0)) ∧ wr.ownsRow (w.heap.size + 2) 33 5 v out.length (tkRow out) ∧
    Below w.heap.size w wr ∧ PR wr
theorem TS.rd {w wr : World} {v : Value} {t : ByteArray} {p : Nat × Nat} {out : List Tk} (h : TS w wr v t p out) : RD wr (w.heap.size + 1) t p := h.1
theorem TS.pr {w wr : World} {v : Value} {t : ByteArray} {p : Nat × Nat} {out : List Tk} (h : TS w wr v t p out) : PR wr := h.2.2.2.2
theorem TS.own {w wr : World} {v : Value} {t : ByteArray} {p : Nat × Nat} {out : List Tk} (h : TS w wr v t p out) : wr.ownsRow (w.heap.size + 2) 33 5 v out.length (tkRow out) := h.2.2.1
theorem TS.bel {w wr : World} {v : Value} {t : ByteArray} {p : Nat × Nat} {out : List Tk} (h : TS w wr v t p out) : Below w.heap.size w wr := h.2.2.2.1
theorem TS.size {w wr : World} {v : Value} {t : ByteArray} {p : Nat × Nat} {out : List Tk} (h : TS w wr v t p out) : w.heap.size + 2 ≤ wr.heap.size := h.1.lt
theorem TS.slice {w wr : World} {v : Value} {t : ByteArray} {p : Nat × Nat} {out : List Tk} (h : TS w wr v t p out) : ∃ o c, v = .slice o out.length c := by
  rcases h.own.2 with ⟨hv, hn⟩ | ⟨g, cap, cur, hv, _⟩
  · exact ⟨none, 0, by rw [hv, hn]⟩
  · exact ⟨_, _, hv⟩
theorem PR.grown {w w' : World} {b : Nat} (h : PR w) (hg : w.grownBy w' (some b)) (hb : 2 < b) : PR w' := by
  obtain ⟨tp, q, h1⟩ := h
  have hl := var_lt gRan h1
  refine ⟨tp, q, ?_⟩
  have hk := hg.block _ hl (fun e => by have := Option.some.inj e; omega)
  simpa [World.var?, gRan, hk] using h1
theorem TS.grown {w wr w' : World} {v : Value} {t t' : ByteArray} {p p' : Nat × Nat} {out : List Tk} (h : TS w wr v t p out) (hw : PR w) (hR : RD w' (w.heap.size + 1) t' p') (hg : wr.grownBy w' (some (w.heap.size + 1))) : TS w w' v t' p' out := by
  obtain ⟨h1, h2, h3, h4, h5⟩ := h
  have hs := h1.lt
  obtain ⟨tp, q, hv⟩ := hw
  have hl := var_lt gRan hv
  refine ⟨hR, ?_, h3.kept hg ?_, h4.grown hg (by omega) (fun k hk => by cases hk; omega), h5.grown hg (by omega)⟩
  · rw [hg.block _ (by omega) (fun e => by have := Option.some.inj e; omega)]; exact h2
  · right
    intro e
    have := (h3.lt _ e).1
    omega
theorem TS.below {w wr w' : World} {v : Value} {t : ByteArray} {p : Nat × Nat} {out : List Tk} (h : TS w wr v t p out) (hb : Below wr.heap.size wr w') : TS w w' v t p out := by
  obtain ⟨h1, h2, h3, h4, h5⟩ := h
  have hs := h1.lt
  refine ⟨h1.kept hb, ?_, ?_, h4.trans (hb.mono (by omega)), h5.below hb⟩
  · rw [hb.block _ (by omega)]; exact h2
  · refine h3.kept (row := none) ⟨hb.os, hb.tape, hb.output, hb.size, fun k hk _ => hb.block k hk⟩ ?_
    cases hv : v.ownBlock
    · exact .inl rfl
    · right; simp
/-- what Tokens leaves -/
def TokPost (X : List Tk × (Nat × Nat) × Nat) (w : World) (e : Ending) (w' : World) : Prop :=
  ∃ v, e = .returned (.tuple #[v, .agg #[.int .i64 (X.2.1.1 : Int), .int .i64 (X.2.1.2 : Int)], .int .i64 (X.2.2 : Int)]) ∧ w'.ownsRow w.heap.size 33 5 v X.1.length (tkRow X.1) ∧ Below w.heap.size w w'
end Go.Proofs.YtlocbindafdmhaaDoor
