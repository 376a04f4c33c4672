/- Each node of the tree is a limit of what is reached. -/
import Derived.Test.YtjojmmabcjccdaaDoorDc
namespace Go.Proofs.YtjojmmabcjccdaaDoor

theorem Path.trans {N : Nt} {T : TS} {a b c : Nat} {l r : List Nat} (h : Path N T a b l) (k : Path N T b c r) : Path N T a c (l ++ r) := by
  induction k with
  | nil => rw [List.append_nil]; exact h
  | snoc _ h1 h2 h3 h4 ih => rw [← List.append_assoc]; exact .snoc ih h1 h2 h3 h4
/-- a marking that is reached, at the places without Omega at least as great, with at least K tokens at the others -/
def Lim (N : Nt) (m s : List Int) : Prop := ∀ K : Nat, ∃ x, Reach N m x ∧ atL K s x
theorem lim_raise {N : Nt} {m : List Int} {T : TS} (h : TInv N m T) (hN : netOk N m.length) (hm : isM m) {a i k : Nat} {w : List Nat} (hp : Path N T a i w) {z e : Nd} {t : Tr}
    (ha : T.nodes[a]? = some z) (hi : T.nodes[i]? = some e) (hk : N.tr[k]? = some t) (hc : canT t e.ms = true) {y : List Int} (hy : y.length = m.length) (hyp : ∀ p, p < m.length → y.getD p 0 = (fireT t e.ms).getD p 0 ∨ y.getD p 0 = -1) (hl : Lim N m y) (hz : leE z.ms y) :
    Lim N m (List.zipWith (fun a b : Int => if a ≠ b then -1 else b) z.ms y) := by
  have hF := h.fine hN hm
  have hfz := hF a z ha
  have hfe := hF i e hi
  have hok : trOk t e.ms.length := by rw [hfe.lm]; exact hN k t hk
  -- one more round
  have step : ∀ (c M : Nat), (∃ x, Reach N m x ∧ (∀ p, p < m.length → y.getD p 0 ≠ -1 → y.getD p 0 + (c : Int) * (y.getD p 0 - z.ms.getD p 0) ≤ x.getD p 0) ∧ (∀ p, p < m.length → y.getD p 0 = -1 → ((M + (w.length + 1) : Nat) : Int) ≤ x.getD p 0)) →
      ∃ x, Reach N m x ∧ (∀ p, p < m.length → y.getD p 0 ≠ -1 → y.getD p 0 + ((c + 1 : Nat) : Int) * (y.getD p 0 - z.ms.getD p 0) ≤ x.getD p 0) ∧ (∀ p, p < m.length → y.getD p 0 = -1 → (M : Int) ≤ x.getD p 0) := by
    intro c M ⟨x, hr, h1, h2⟩
    obtain ⟨hx, hxl⟩ := hr.good hN (fun p => (hm p).1)
    have hzy : ∀ p, p < m.length → y.getD p 0 ≠ -1 → z.ms.getD p 0 ≠ -1 ∧ z.ms.getD p 0 ≤ y.getD p 0 := by
      intro p hp hne
      have := (lessE_iff _ _).1 (hz p (by rw [hfz.lm]; exact hp))
      omega
    have hge : ∀ p, p < m.length → y.getD p 0 ≠ -1 → y.getD p 0 ≤ x.getD p 0 := by
      intro p hp hne
      have a1 := h1 p hp hne
      have a2 := hzy p hp hne
      have a3 : 0 ≤ (c : Int) * (y.getD p 0 - z.ms.getD p 0) := Int.mul_nonneg (by omega) (by omega)
      omega
    have hpn : ∀ p, p < m.length → y.getD p 0 ≠ -1 → e.ms.getD p 0 ≠ -1 ∧ y.getD p 0 = e.ms.getD p 0 + dl t p := by
      intro p hp hne
      rcases hyp p hp with g | g
      · have hg := (fire_get hok hfe.em hc p).1
        rw [hg] at g
        by_cases hh : e.ms.getD p 0 = -1
        · rw [if_pos hh] at g; exact absurd g hne
        · rw [if_neg hh] at g; exact ⟨hh, g⟩
      · exact absurd g hne
    obtain ⟨g1, v, g2⟩ := path_fires h hN hm hp ha hi (fun p => y.getD p 0 ≠ -1) x hx hxl (fun p hp hs => (hpn p hp hs).1) (fun p hp hs => Int.le_trans (hzy p hp hs).2 (hge p hp hs)) (fun p hp hs => by
      have := h2 p hp (Classical.byContradiction hs); omega)
    obtain ⟨v1, v2, v3⟩ := fires_val hN w hx hxl g2
    have hcv : canT t v = true := by
      refine canT_of (fun p hp => (hok.1.1 p hp).1) fun p hpi => ?_
      have hpl : p < m.length := by have := (hok.1.1 _ hpi).2; have := hfe.lm; omega
      have c1 := canT_get hc p hpi
      have c2 := hfe.em p
      rw [v3]
      by_cases hs : y.getD p 0 = -1
      · have a2 := h2 p hpl hs
        have a3 := dls_bd N w p
        omega
      · have a1 := (g1 p hpl hs).2
        have a2 := hzy p hpl hs
        have a3 := hge p hpl hs
        have a4 := (hpn p hpl hs).1
        omega
    have hfv := fun p => fire_real (by rw [v2]; exact hN k t hk) v1 hcv p
    refine ⟨fireT t v, (fires_reach w hr g2).step hk hcv, fun p hp hne => ?_, fun p hp hs => ?_⟩
    · rw [(hfv p).1, v3]
      have a1 := (g1 p hp hne).2
      have a2 := (hpn p hp hne).2
      have a3 := h1 p hp hne
      have a4 : ((c + 1 : Nat) : Int) * (y.getD p 0 - z.ms.getD p 0) = (c : Int) * (y.getD p 0 - z.ms.getD p 0) + (y.getD p 0 - z.ms.getD p 0) := by
        rw [show ((c + 1 : Nat) : Int) = (c : Int) + 1 by omega, Int.add_mul, Int.one_mul]
      rw [a4]; omega
    · rw [(hfv p).1, v3]
      have a1 := h2 p hp hs
      have a2 := dls_bd N w p
      have a3 := (dl_bd t p).1
      omega
  have iter : ∀ (c M : Nat), ∃ x, Reach N m x ∧ (∀ p, p < m.length → y.getD p 0 ≠ -1 → y.getD p 0 + (c : Int) * (y.getD p 0 - z.ms.getD p 0) ≤ x.getD p 0) ∧ (∀ p, p < m.length → y.getD p 0 = -1 → (M : Int) ≤ x.getD p 0) := by
    intro c
    induction c with
    | zero =>
      intro M
      obtain ⟨x, hr, hx⟩ := hl M
      exact ⟨x, hr, fun p hp hne => by have := (hx p (by omega)).1 hne; simpa using this, fun p hp hs => (hx p (by omega)).2 hs⟩
    | succ c ih => intro M; exact step c M (ih _)
  intro K
  obtain ⟨x, hr, h1, h2⟩ := iter K K
  obtain ⟨hx, _⟩ := hr.good hN (fun p => (hm p).1)
  refine ⟨x, hr, fun p hp => ?_⟩
  rw [List.length_zipWith, hfz.lm, hy, Nat.min_self] at hp
  rw [zip_get _ _ (by rw [hfz.lm, hy]) p (by omega)]
  have hzp := (lessE_iff _ _).1 (hz p (by rw [hfz.lm]; exact hp))
  by_cases hs : y.getD p 0 = -1
  · have a1 := h2 p hp hs
    rw [hs]
    constructor
    · intro hne; split at hne <;> omega
    · intro _; exact a1
  · have a1 := h1 p hp hs
    by_cases he : z.ms.getD p 0 = y.getD p 0
    · rw [if_neg (by simpa using he)]
      constructor
      · intro _
        rw [he, Int.sub_self, Int.mul_zero] at a1
        omega
      · intro hh; exact absurd hh hs
    · rw [if_pos he]
      constructor
      · intro hh; exact absurd rfl hh
      · intro _
        have a2 : (K : Int) * 1 ≤ (K : Int) * (y.getD p 0 - z.ms.getD p 0) := Int.mul_le_mul_of_nonneg_left (by omega) (by omega)
        rcases hyp p hp with g | g
        · have := fire_okE hok hfe.em hc p
          omega
        · exact absurd g hs
/-- the way up keeps limits limits -/
theorem lim_up {N : Nt} {m : List Int} {T : TS} (h : TInv N m T) (hN : netOk N m.length) (hm : isM m) {i k : Nat} {e : Nd} {t : Tr} (hi : T.nodes[i]? = some e) (hk : N.tr[k]? = some t) (hc : canT t e.ms = true) :
    ∀ (f : Nat) (a : Int) (u : Up), (∀ b : Nat, a = b → ∃ w, Path N T b i w) → u.y.length = m.length → (∀ p, p < m.length → u.y.getD p 0 = (fireT t e.ms).getD p 0 ∨ u.y.getD p 0 = -1) → Lim N m u.y → Lim N m (upAll T.nodes f a u).y := by
  have hF := h.fine hN hm
  intro f
  induction f with
  | zero => intro a u _ _ _ hl; exact hl
  | succ f ih =>
    intro a u hp hy hyp hl
    unfold upAll
    by_cases h0 : a < 0
    · rw [if_pos h0]; exact hl
    rw [if_neg h0]
    obtain ⟨b, rfl⟩ := Int.eq_ofNat_of_zero_le (show 0 ≤ a by omega)
    obtain ⟨w, hw⟩ := hp b rfl
    cases hd : T.nodes[((b : Nat) : Int).toNat]? with
    | none => exact hl
    | some d =>
      simp only
      have hd' : T.nodes[b]? = some d := by simpa using hd
      have hfd := hF b d hd'
      have h1 := upOne_len (a := ((b : Nat) : Int).toNat) (z := d.ms) (u := u) (by rw [hfd.lm, hy])
      refine ih d.ab _ (fun c hcb => ?_) (by rw [h1]; exact hy) (fun p hp => ?_) ?_
      · -- the path from the node above
        have hb0 : 0 < b := by
          rcases Nat.eq_zero_or_pos b with g | g
          · subst g
            rw [h.root] at hd'
            cases hd'
            have : (-1 : Int) = (c : Int) := hcb
            omega
          · exact g
        obtain ⟨i', k', e', t', q0, q1, q2, _⟩ := h.par b d hd' hb0
        obtain rfl : i' = c := by omega
        exact ⟨[] ++ [k'] ++ w, (Path.snoc .nil hd' hb0 q1 q2).trans hw⟩
      · rcases upOne_get (a := ((b : Nat) : Int).toNat) (z := d.ms) (u := u) (by rw [hfd.lm, hy]) p (by omega) with g | g
        · rw [g]; exact hyp p hp
        · exact .inr g
      · unfold upOne
        by_cases hcond : (atMost d.ms u.y && decide (d.ms ≠ u.y)) = true
        · rw [if_pos hcond]
          simp only
          unfold lift1
          rw [if_pos hcond]
          rw [Bool.and_eq_true] at hcond
          exact lim_raise h hN hm hw hd' hi hk hc hy hyp hl ((atMost_iff _ _).1 hcond.1)
        · rw [if_neg hcond]; exact hl
/-- each node is a limit of what is reached -/
theorem sound {N : Nt} {m : List Int} {T : TS} (h : TInv N m T) (hN : netOk N m.length) (hm : isM m) : ∀ (j : Nat) (d : Nd), T.nodes[j]? = some d → Lim N m d.ms := by
  have hF := h.fine hN hm
  intro j
  induction j using Nat.strongRecOn with
  | ind j ih =>
    intro d hd
    rcases Nat.eq_zero_or_pos j with h0 | h0
    · subst h0
      rw [h.root] at hd; cases hd
      intro K
      refine ⟨m, .base, fun p _ => ⟨fun _ => Int.le_refl _, fun hs => ?_⟩⟩
      have := (hm p).1
      have : m.getD p 0 = -1 := hs
      omega
    · obtain ⟨i, k, e, t, hij, h1, h2, h3, h4, h5, h6, h7, h8, h9⟩ := h.par j d hd h0
      have hfe := hF i e h3
      have hok : trOk t e.ms.length := by rw [hfe.lm]; exact hN k t h5
      have hl0 : Lim N m d.pn := by
        intro K
        obtain ⟨x, hr, hx⟩ := ih i hij e h3 (K + 1)
        obtain ⟨hxn, hxl⟩ := hr.good hN (fun p => (hm p).1)
        have hcx : canT t x = true := by
          refine canT_of (fun p hp => (hok.1.1 p hp).1) fun p hpi => ?_
          have hpl : p < e.ms.length := by have := (hok.1.1 _ hpi).2; omega
          have c1 := canT_get h6 p hpi
          have c2 := hfe.em p
          have c3 := hx p hpl
          by_cases hs : e.ms.getD p 0 = -1
          · have := c3.2 hs; omega
          · have := c3.1 hs; omega
        have hfx := fun p => fire_real (by rw [hxl]; exact hN k t h5) hxn hcx p
        refine ⟨fireT t x, hr.step h5 hcx, fun p hp => ?_⟩
        rw [h7, fireT_len] at hp
        have hg := (fire_get hok hfe.em h6 p).1
        rw [h7, hg, (hfx p).1]
        have c3 := hx p hp
        have c4 := (dl_bd t p).1
        by_cases hs : e.ms.getD p 0 = -1
        · rw [if_pos hs]
          have := c3.2 hs
          exact ⟨fun hh => absurd rfl hh, fun _ => by omega⟩
        · rw [if_neg hs]
          have := c3.1 hs
          exact ⟨fun _ => by omega, fun hh => by have := (fire_get hok hfe.em h6 p).2 hs; omega⟩
      have := lim_up h hN hm h3 h5 h6 (i + 1) i ⟨d.pn, -1, false⟩ (fun b hb => ⟨[], by
        obtain rfl : b = i := by omega
        exact .nil⟩) (by rw [h7, fireT_len]; exact hfe.lm) (fun p _ => .inl (by rw [h7])) hl0
      rw [h9] at this
      exact this
/-- more tokens never lower a state -/
theorem more_states {N : Nt} {m m' : List Int} {T T' : TS} (h : TInv N m T) (h' : TInv N m' T') (hD' : Done N T') (hN : netOk N m.length) (hm : isM m) (hm' : isM m') (hl : m.length = m'.length) (hle : leE m m') :
    ∀ (j : Nat) (d : Nd), T.nodes[j]? = some d → ∃ (j' : Nat) (d' : Nd), T'.nodes[j']? = some d' ∧ leE d.ms d'.ms := by
  intro j d hd
  obtain ⟨x, hr, hx⟩ := sound h hN hm j d hd 101
  -- what is reached from fewer tokens is less than what is reached from more
  have key : ∀ x, Reach N m x → ∃ x', Reach N m' x' ∧ leE x x' := by
    intro x hr
    induction hr with
    | base => exact ⟨m', .base, hle⟩
    | @step x k t hr hk hc ih =>
      obtain ⟨x', hr', hxx⟩ := ih
      obtain ⟨g1, g2⟩ := hr.good hN (fun p => (hm p).1)
      obtain ⟨g3, g4⟩ := hr'.good (by rw [← hl]; exact hN) (fun p => (hm' p).1)
      obtain ⟨c1, c2⟩ := fire_mono (t := t) (by rw [g2, g4, hl]) (by rw [g2]; exact hN k t hk) g1 g3.okE hxx hc
      exact ⟨_, hr'.step hk c1, c2⟩
  obtain ⟨x', hr', hxx⟩ := key x hr
  obtain ⟨j', d', hd', _, hle'⟩ := complete h' hD' (by rw [← hl]; exact hN) hm' hr'
  obtain ⟨g1, g2⟩ := hr.good hN (fun p => (hm p).1)
  obtain ⟨g3, g4⟩ := hr'.good (by rw [← hl]; exact hN) (fun p => (hm' p).1)
  have hf := h.fine hN hm j d hd
  have hf' := h'.fine (by rw [← hl]; exact hN) hm' j' d' hd'
  refine ⟨j', d', hd', fun p hp => ?_⟩
  have hpl : p < m.length := by rw [hf.lm] at hp; exact hp
  have a1 := (lessE_iff _ _).1 (hxx p (by omega))
  have a2 := (lessE_iff _ _).1 (hle' p (by omega))
  have a3 := hx p hp
  have a4 := g3 p
  have a5 := hf'.sp p
  have a6 := hf'.up p (by omega)
  have a7 := g1 p
  rw [lessE_iff]
  by_cases hs : d.ms.getD p 0 = -1
  · have := a3.2 hs; omega
  · have := a3.1 hs; omega
end Go.Proofs.YtjojmmabcjccdaaDoor
