/- Runs along paths of the tree. -/
import Derived.Test.YtjojmmabcjccdaaDoorDb
namespace Go.Proofs.YtjojmmabcjccdaaDoor

/-- a run of transitions, with any number of tokens: what is reached -/
def fires (N : Nt) : List Int → List Nat → Option (List Int)
  | x, [] => some x
  | x, k :: l => match N.tr[k]? with
    | some t => if canT t x then fires N (fireT t x) l else none
    | none => none
theorem fires_app (N : Nt) (l r : List Nat) : ∀ x : List Int, fires N x (l ++ r) = (fires N x l).bind fun y => fires N y r := by
  induction l with
  | nil => intro x; rfl
  | cons k l ih =>
    intro x
    rw [List.cons_append, fires, fires]
    cases N.tr[k]? with
    | none => rfl
    | some t =>
      simp only
      split
      · exact ih _
      · rfl
theorem fires_reach {N : Nt} {m : List Int} (l : List Nat) : ∀ {x y : List Int}, Reach N m x → fires N x l = some y → Reach N m y := by
  induction l with
  | nil => intro x y h e; unfold fires at e; cases e; exact h
  | cons k l ih =>
    intro x y h e
    unfold fires at e
    cases hk : N.tr[k]? with
    | none => rw [hk] at e; cases e
    | some t =>
      rw [hk] at e
      simp only at e
      split at e
      · rename_i hc; exact ih (h.step hk hc) e
      · cases e
/-- the effect of a run on a place -/
def dls (N : Nt) (l : List Nat) (p : Nat) : Int := (l.map fun k => match N.tr[k]? with | some t => dl t p | none => 0).sum
theorem dls_app (N : Nt) (l r : List Nat) (p : Nat) : dls N (l ++ r) p = dls N l p + dls N r p := by unfold dls; rw [List.map_append, List.sum_append]
theorem dls_bd (N : Nt) (l : List Nat) (p : Nat) : -(l.length : Int) ≤ dls N l p := by
  induction l with
  | nil => simp [dls]
  | cons k l ih =>
    have : dls N (k :: l) p = (match N.tr[k]? with | some t => dl t p | none => 0) + dls N l p := by simp [dls]
    rw [this, List.length_cons]
    have h2 : -1 ≤ (match N.tr[k]? with | some t => dl t p | none => (0 : Int)) := by
      split
      · exact (dl_bd _ p).1
      · omega
    omega
/-- the nodes from one down to another one: child after child, by the transitions of a run -/
inductive Path (N : Nt) (T : TS) : Nat → Nat → List Nat → Prop where
  | nil {i : Nat} : Path N T i i []
  | snoc {a i j k : Nat} {l : List Nat} {d : Nd} : Path N T a i l → T.nodes[j]? = some d → 0 < j → d.ab = (i : Int) → d.tr = (k : Int) → Path N T a j (l ++ [k])
theorem fires_val {N : Nt} {n : Nat} (hN : netOk N n) (l : List Nat) : ∀ {x y : List Int}, nonneg x → x.length = n → fires N x l = some y → nonneg y ∧ y.length = n ∧ ∀ p, y.getD p 0 = x.getD p 0 + dls N l p := by
  induction l with
  | nil => intro x y h hl e; unfold fires at e; cases e; exact ⟨h, hl, fun p => by simp [dls]⟩
  | cons k l ih =>
    intro x y h hl e
    unfold fires at e
    cases hk : N.tr[k]? with
    | none => rw [hk] at e; cases e
    | some t =>
      rw [hk] at e
      simp only at e
      split at e
      · rename_i hc
        have hv := fire_real (by rw [hl]; exact hN k t hk) h hc
        obtain ⟨h1, h2, h3⟩ := ih (fun p => by rw [(hv p).1]; exact (hv p).2) (by rw [fireT_len]; exact hl) e
        refine ⟨h1, h2, fun p => ?_⟩
        have : dls N (k :: l) p = dl t p + dls N l p := by simp [dls, hk]
        rw [h3, (hv p).1, this]; omega
      · cases e
/-- a run along a path: at the places that have no Omega at its end -/
theorem path_fires {N : Nt} {m : List Int} {T : TS} (h : TInv N m T) (hN : netOk N m.length) (hm : isM m) {a i : Nat} {w : List Nat} (hp : Path N T a i w) :
    ∀ {da di : Nd}, T.nodes[a]? = some da → T.nodes[i]? = some di → ∀ (S : Nat → Prop) (x : List Int), nonneg x → x.length = m.length →
    (∀ p, p < m.length → S p → di.ms.getD p 0 ≠ -1) → (∀ p, p < m.length → S p → da.ms.getD p 0 ≤ x.getD p 0) → (∀ p, p < m.length → ¬ S p → (w.length : Int) ≤ x.getD p 0) →
    (∀ p, p < m.length → S p → da.ms.getD p 0 ≠ -1 ∧ di.ms.getD p 0 = da.ms.getD p 0 + dls N w p) ∧ ∃ y, fires N x w = some y := by
  have hF := h.fine hN hm
  induction hp with
  | nil =>
    intro da di ha hi S x hx hl h0 h1 h2
    rw [ha] at hi; cases hi
    exact ⟨fun p hp hs => ⟨h0 p hp hs, by simp [dls]⟩, x, rfl⟩
  | @snoc i j k l d hp hj hj0 hab htr ih =>
    intro da dj ha hj' S x hx hl h0 h1 h2
    rw [hj] at hj'; cases hj'
    obtain ⟨i', k', e, t, hij, q1, q2, q3, q4, q5, q6, q7, q8, q9⟩ := h.par j d hj hj0
    obtain rfl : i' = i := by omega
    obtain rfl : k' = k := by omega
    have hfe := hF i' e q3
    have hfd := hF j d hj
    have hok : trOk t e.ms.length := by rw [hfe.lm]; exact hN k' t q5
    have hne : ∀ p, p < m.length → S p → e.ms.getD p 0 ≠ -1 ∧ d.ms.getD p 0 = e.ms.getD p 0 + dl t p := by
      intro p hp hs
      have hd := h0 p hp hs
      rcases hfd.up p (by omega) with g | g
      · rw [g, q7] at hd ⊢
        have hg := (fire_get hok hfe.em q6 p).1
        rw [hg] at hd ⊢
        by_cases hh : e.ms.getD p 0 = -1
        · rw [if_pos hh] at hd; exact absurd rfl hd
        · exact ⟨hh, by rw [if_neg hh]⟩
      · exact absurd g hd
    have hlen : ((l ++ [k']).length : Int) = l.length + 1 := by simp
    obtain ⟨g1, y, g2⟩ := ih ha q3 S x hx hl (fun p hp hs => (hne p hp hs).1) h1 (fun p hp hs => by have := h2 p hp hs; omega)
    obtain ⟨y1, y2, y3⟩ := fires_val hN l hx hl g2
    have hdk : ∀ p, dls N [k'] p = dl t p := fun p => by simp [dls, q5]
    refine ⟨fun p hp hs => ⟨(g1 p hp hs).1, ?_⟩, ?_⟩
    · rw [(hne p hp hs).2, (g1 p hp hs).2, dls_app, hdk]; omega
    · have hcy : canT t y = true := by
        refine canT_of (fun p hp => ((hN k' t q5).1.1 p hp).1) fun p hpi => ?_
        have hpl : p < m.length := by have := ((hN k' t q5).1.1 _ hpi).2; omega
        have c1 := canT_get q6 p hpi
        have c2 := hfe.em p
        rw [y3]
        by_cases hs : S p
        · have a1 := g1 p hpl hs
          have a2 := h1 p hpl hs
          have a3 := (hne p hpl hs).1
          omega
        · have a2 := h2 p hpl hs
          have a3 := dls_bd N l p
          omega
      refine ⟨fireT t y, ?_⟩
      rw [fires_app, g2]
      show fires N y [k'] = _
      unfold fires
      rw [q5]
      simp only [hcy, if_true]
      rfl
/-- a marking that is as great as an extended one, with at least K tokens for Omega -/
def atL (K : Int) (s x : List Int) : Prop := ∀ p, p < s.length → (s.getD p 0 ≠ -1 → s.getD p 0 ≤ x.getD p 0) ∧ (s.getD p 0 = -1 → K ≤ x.getD p 0)
end Go.Proofs.YtjojmmabcjccdaaDoor
