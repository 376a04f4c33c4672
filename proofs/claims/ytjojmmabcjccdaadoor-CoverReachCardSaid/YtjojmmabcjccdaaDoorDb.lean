/- Firing in extended markings; whatever is reached is covered. -/
import Derived.Test.YtjojmmabcjccdaaDoorDa
namespace Go.Proofs.YtjojmmabcjccdaaDoor

/-- a list of places, each once -/
def plsOk (l : List Int) (n : Nat) : Prop := (∀ p ∈ l, 0 ≤ p ∧ p < (n : Int)) ∧ l.Nodup
theorem set_get (m : List Int) (p q : Nat) (x : Int) (h : p < m.length) : (m.set p x).getD q 0 = if p = q then x else m.getD q 0 := by
  rw [List.getD_eq_getElem?_getD, List.getD_eq_getElem?_getD, List.getElem?_set]
  by_cases e : p = q
  · rw [if_pos e, if_pos e]; subst e; simp [h]
  · rw [if_neg e, if_neg e]
theorem fold_get (f : Int → Int) (l : List Int) : ∀ m : List Int, plsOk l m.length → ∀ p : Nat, (l.foldl (fun m p => m.set p.toNat (f (m.getD p.toNat 0))) m).getD p 0 = if (p : Int) ∈ l then f (m.getD p 0) else m.getD p 0 := by
  induction l with
  | nil => intro m _ p; simp
  | cons a l ih =>
    intro m h p
    rw [List.foldl_cons]
    obtain ⟨h1, h2⟩ := h
    rw [List.nodup_cons] at h2
    have ha := h1 a (List.mem_cons_self ..)
    obtain ⟨q, rfl⟩ := Int.eq_ofNat_of_zero_le ha.1
    have hq : q < m.length := by omega
    rw [ih _ ⟨by rw [List.length_set]; exact fun p hp => h1 p (List.mem_cons_of_mem _ hp), h2.2⟩ p]
    simp only [Int.toNat_natCast]
    rw [set_get m q p _ hq]
    by_cases e : q = p
    · subst e
      rw [if_neg h2.1, if_pos rfl, if_pos (List.mem_cons_self ..)]
    · rw [if_neg e]
      by_cases hm : (p : Int) ∈ l
      · rw [if_pos hm, if_pos (List.mem_cons_of_mem _ hm)]
      · rw [if_neg hm, if_neg (by rw [List.mem_cons]; rintro (h | h)
                                  · exact e (by omega)
                                  · exact hm h)]
theorem decs_get (m l : List Int) (h : plsOk l m.length) (p : Nat) : (decs m l).getD p 0 = if (p : Int) ∈ l then dec1 (m.getD p 0) else m.getD p 0 := fold_get dec1 l m h p
theorem incs_get (m l : List Int) (h : plsOk l m.length) (p : Nat) : (incs m l).getD p 0 = if (p : Int) ∈ l then inc1 (m.getD p 0) else m.getD p 0 := fold_get inc1 l m h p
/-- what a transition does to a place -/
def dl (t : Tr) (p : Nat) : Int := (if (p : Int) ∈ t.o then 1 else 0) - (if (p : Int) ∈ t.i then 1 else 0)
theorem dl_bd (t : Tr) (p : Nat) : -1 ≤ dl t p ∧ dl t p ≤ 1 := by unfold dl; split <;> split <;> omega
def trOk (t : Tr) (n : Nat) : Prop := plsOk t.i n ∧ plsOk t.o n
/-- no number is less than -1 -/
def okE (m : List Int) : Prop := ∀ p : Nat, -1 ≤ m.getD p 0
theorem canT_get {t : Tr} {m : List Int} (h : canT t m = true) (p : Nat) (hp : (p : Int) ∈ t.i) : m.getD p 0 ≠ 0 := by
  unfold canT at h
  rw [List.all_eq_true] at h
  have := h _ hp
  simpa using this
theorem canT_of {t : Tr} {m : List Int} (ht : ∀ p ∈ t.i, 0 ≤ p) (h : ∀ p : Nat, (p : Int) ∈ t.i → m.getD p 0 ≠ 0) : canT t m = true := by
  unfold canT
  rw [List.all_eq_true]
  intro p hp
  obtain ⟨q, rfl⟩ := Int.eq_ofNat_of_zero_le (ht p hp)
  simpa using h q hp
theorem fire_get {t : Tr} {m : List Int} (ht : trOk t m.length) (hm : okE m) (hc : canT t m = true) (p : Nat) :
    (fireT t m).getD p 0 = (if m.getD p 0 = -1 then -1 else m.getD p 0 + dl t p) ∧ (m.getD p 0 ≠ -1 → 0 ≤ m.getD p 0 + dl t p) := by
  have h1 := hm p
  have h2 := canT_get hc p
  unfold fireT
  rw [incs_get _ _ (by rw [decs_len]; exact ht.2), decs_get _ _ ht.1]
  unfold dl dec1 inc1
  generalize m.getD p 0 = x at *
  by_cases hi : (p : Int) ∈ t.i
  · have h3 := h2 hi
    simp only [if_pos hi]
    by_cases ho : (p : Int) ∈ t.o
    · simp only [if_pos ho]; constructor
      · split
        · split <;> omega
        · split <;> omega
      · intro; omega
    · simp only [if_neg ho]; constructor
      · split <;> omega
      · intro; omega
  · simp only [if_neg hi]
    by_cases ho : (p : Int) ∈ t.o
    · simp only [if_pos ho]; constructor
      · split <;> omega
      · intro; omega
    · simp only [if_neg ho]; constructor
      · split <;> omega
      · intro; omega
theorem fire_okE {t : Tr} {m : List Int} (ht : trOk t m.length) (hm : okE m) (hc : canT t m = true) : okE (fireT t m) := by
  intro p
  obtain ⟨h1, h2⟩ := fire_get ht hm hc p
  rw [h1]
  split
  · omega
  · have := h2 ‹_›; omega
/-- less or equal, at each place -/
def leE (x y : List Int) : Prop := ∀ p : Nat, p < x.length → lessE (x.getD p 0) (y.getD p 0) = true
theorem lessE_iff (a b : Int) : lessE a b = true ↔ b = -1 ∨ (a ≠ -1 ∧ a ≤ b) := by unfold lessE; simp
theorem atMost_iff (x y : List Int) : atMost x y = true ↔ leE x y := by
  unfold atMost atMTo leE atM
  rw [List.all_eq_true]
  constructor
  · intro h p hp; exact h p (List.mem_range.2 hp)
  · intro h p hp; exact h p (List.mem_range.1 hp)
theorem ext_get {x y : List Int} (hl : x.length = y.length) (h : ∀ p, p < x.length → x.getD p 0 = y.getD p 0) : x = y := by
  apply List.ext_getElem hl
  intro p h1 h2
  have := h p h1
  simpa [h1, h2] using this
theorem lift_len {z y : List Int} (h : z.length = y.length) : (lift1 z y).length = y.length := by
  unfold lift1; split
  · rw [List.length_zipWith, h, Nat.min_self]
  · rfl
theorem zip_get (z y : List Int) (h : z.length = y.length) (p : Nat) (hp : p < y.length) : (List.zipWith (fun a b : Int => if a ≠ b then -1 else b) z y).getD p 0 = if z.getD p 0 ≠ y.getD p 0 then -1 else y.getD p 0 := by
  have h1 : p < z.length := by omega
  rw [List.getD_eq_getElem?_getD, List.getElem?_zipWith, List.getElem?_eq_getElem h1, List.getElem?_eq_getElem hp]
  simp [h1, hp]
theorem upOne_len {z : List Int} {a : Nat} {u : Up} (h : z.length = u.y.length) : (upOne z a u).y.length = u.y.length := by
  unfold upOne; split
  · exact lift_len h
  · rfl
/-- the marking that is lifted is greater -/
theorem upOne_get {z : List Int} {a : Nat} {u : Up} (h : z.length = u.y.length) (p : Nat) (hp : p < u.y.length) : (upOne z a u).y.getD p 0 = u.y.getD p 0 ∨ (upOne z a u).y.getD p 0 = -1 := by
  unfold upOne lift1; split
  · rename_i hc
    simp only
    rw [zip_get _ _ h p hp]
    split
    · exact .inr rfl
    · exact .inl rfl
  · exact .inl rfl
theorem upAll_get (N : List Nd) (n : Nat) (hN : ∀ (j : Nat) (d : Nd), N[j]? = some d → d.ms.length = n) : ∀ (f : Nat) (a : Int) (u : Up), u.y.length = n → (upAll N f a u).y.length = n ∧ ∀ p, p < n → (upAll N f a u).y.getD p 0 = u.y.getD p 0 ∨ (upAll N f a u).y.getD p 0 = -1 := by
  intro f
  induction f with
  | zero => intro a u hu; exact ⟨hu, fun p _ => .inl rfl⟩
  | succ f ih =>
    intro a u hu
    unfold upAll
    by_cases h0 : a < 0
    · rw [if_pos h0]; exact ⟨hu, fun p _ => .inl rfl⟩
    · rw [if_neg h0]
      cases hd : N[a.toNat]? with
      | none => exact ⟨hu, fun p _ => .inl rfl⟩
      | some d =>
        simp only
        have hl := hN _ d hd
        have h1 := upOne_len (a := a.toNat) (z := d.ms) (u := u) (by omega)
        obtain ⟨h2, h3⟩ := ih d.ab (upOne d.ms a.toNat u) (by omega)
        refine ⟨h2, fun p hp => ?_⟩
        rcases h3 p hp with h4 | h4
        · rw [h4]; exact upOne_get (by omega) p (by omega)
        · exact .inr h4
/-- all transitions of a net are good for markings of n places -/
def netOk (N : Nt) (n : Nat) : Prop := ∀ (k : Nat) (t : Tr), N.tr[k]? = some t → trOk t n
theorem upAll_part {N : List Nd} {i : Nat} {u : Up} (hi : i < N.length) (h : ∀ (j : Nat) (d : Nd), N[j]? = some d → d.ab < (j : Int)) : upAll (N.take (i + 1)) (i + 1) i u = upAll N (i + 1) i u := by
  have e : N = N.take (i + 1) ++ N.drop (i + 1) := (List.take_append_drop _ _).symm
  have := up_pre (N.take (i + 1)) (N.drop (i + 1)) (i + 1) i u (by rw [List.length_take]; omega) (fun j d hd => h j d (by
    rw [List.getElem?_take] at hd; split at hd
    · exact hd
    · cases hd))
  rw [← e] at this
  exact this.symm
structure Fine (n : Nat) (d : Nd) : Prop where
  lp : d.pn.length = n
  lm : d.ms.length = n
  ep : okE d.pn
  em : okE d.ms
  sp : ∀ p, d.pn.getD p 0 ≤ 100
  up : ∀ p, p < n → d.ms.getD p 0 = d.pn.getD p 0 ∨ d.ms.getD p 0 = -1
theorem getD_out {m : List Int} {p : Nat} (h : m.length ≤ p) : m.getD p 0 = 0 := by rw [List.getD_eq_getElem?_getD, List.getElem?_eq_none h]; rfl
theorem bigM_le {m : List Int} (h : bigM m = false) (p : Nat) : m.getD p 0 ≤ 100 := by
  rcases Nat.lt_or_ge p m.length with hp | hp
  · unfold bigM at h
    rw [List.any_eq_false] at h
    have := h _ (List.getElem_mem hp)
    simpa [hp] using this
  · rw [getD_out hp]; omega
/-- a marking -/
def isM (m : List Int) : Prop := ∀ p : Nat, 0 ≤ m.getD p 0 ∧ m.getD p 0 ≤ 100
theorem TInv.fine {N : Nt} {m : List Int} {T : TS} (h : TInv N m T) (hN : netOk N m.length) (hm : isM m) : ∀ (j : Nat) (d : Nd), T.nodes[j]? = some d → Fine m.length d := by
  intro j
  induction j using Nat.strongRecOn with
  | ind j ih =>
    intro d hd
    rcases Nat.eq_zero_or_pos j with h0 | h0
    · subst h0
      rw [h.root] at hd; cases hd
      exact ⟨rfl, rfl, fun p => by have := (hm p).1; simp only; omega, fun p => by have := (hm p).1; simp only; omega, fun p => (hm p).2, fun p _ => .inl rfl⟩
    · obtain ⟨i, k, e, t, hij, h1, h2, h3, h4, h5, h6, h7, h8, h9⟩ := h.par j d hd h0
      have he := ih i hij e h3
      have hok := hN k t h5
      have hlp : d.pn.length = m.length := by rw [h7, fireT_len]; exact he.lm
      have hep : okE d.pn := by rw [h7]; exact fire_okE (by rw [he.lm]; exact hok) he.em h6
      have hil := (List.getElem?_eq_some_iff.1 h3).1
      rw [← upAll_part hil h.ab] at h9
      have hg := upAll_get (T.nodes.take (i + 1)) m.length (fun q c hc => by
        rw [List.getElem?_take] at hc
        split at hc
        · exact (ih q (by omega) c hc).lm
        · cases hc) (i + 1) i ⟨d.pn, -1, false⟩ hlp
      rw [h9] at hg
      obtain ⟨g1, g2⟩ := hg
      refine ⟨hlp, g1, hep, fun p => ?_, bigM_le h8, g2⟩
      rcases Nat.lt_or_ge p m.length with hp | hp
      · rcases g2 p hp with g3 | g3
        · rw [g3]; exact hep p
        · rw [g3]; omega
      · rw [getD_out (by rw [g1]; exact hp)]; omega
/-- what can be reached, with any number of tokens -/
inductive Reach (N : Nt) (m : List Int) : List Int → Prop where
  | base : Reach N m m
  | step {x : List Int} {k : Nat} {t : Tr} : Reach N m x → N.tr[k]? = some t → canT t x = true → Reach N m (fireT t x)
def nonneg (m : List Int) : Prop := ∀ p : Nat, 0 ≤ m.getD p 0
theorem nonneg.okE {m : List Int} (h : nonneg m) : okE m := fun p => by have := h p; omega
theorem fire_real {t : Tr} {x : List Int} (ht : trOk t x.length) (hx : nonneg x) (hc : canT t x = true) (p : Nat) : (fireT t x).getD p 0 = x.getD p 0 + dl t p ∧ 0 ≤ x.getD p 0 + dl t p := by
  obtain ⟨h1, h2⟩ := fire_get ht hx.okE hc p
  have := hx p
  rw [if_neg (by omega)] at h1
  exact ⟨h1, h2 (by omega)⟩
theorem Reach.good {N : Nt} {m x : List Int} (h : Reach N m x) (hN : netOk N m.length) (hm : nonneg m) : nonneg x ∧ x.length = m.length := by
  induction h with
  | base => exact ⟨hm, rfl⟩
  | step _ hk hc ih =>
    refine ⟨fun p => ?_, by rw [fireT_len]; exact ih.2⟩
    have := fire_real (by rw [ih.2]; exact hN _ _ hk) ih.1 hc p
    omega
/-- firing is monotone -/
theorem fire_mono {t : Tr} {x y : List Int} (hl : x.length = y.length) (ht : trOk t x.length) (hx : nonneg x) (hy : okE y) (h : leE x y) (hc : canT t x = true) : canT t y = true ∧ leE (fireT t x) (fireT t y) := by
  have hcy : canT t y = true := by
    refine canT_of (fun p hp => (ht.1.1 p hp).1) fun p hp => ?_
    have h1 := canT_get hc p hp
    have hpl : p < x.length := by have := (ht.1.1 _ hp).2; omega
    have h2 := (lessE_iff _ _).1 (h p hpl)
    have h3 := hx p
    omega
  refine ⟨hcy, fun p hp => ?_⟩
  rw [fireT_len] at hp
  have h1 := fire_real ht hx hc p
  have h2 := fire_get (by rw [← hl]; exact ht) hy hcy p
  have h3 := (lessE_iff _ _).1 (h p hp)
  rw [h1.1, h2.1, lessE_iff]
  split
  · exact .inl rfl
  · exact .inr ⟨by omega, by omega⟩
def Done (N : Nt) (T : TS) : Prop := ∀ j, j < T.nodes.length → DoneK N T j N.tr.length
theorem leE_up {n : Nat} {x : List Int} {d : Nd} (hd : Fine n d) (hx : x.length = n) (h : leE x d.pn) : leE x d.ms := by
  intro p hp
  have h1 := (lessE_iff _ _).1 (h p hp)
  rw [lessE_iff]
  rcases hd.up p (by omega) with h2 | h2
  · rw [h2]; exact h1
  · exact .inl h2
/-- whatever is reached is covered -/
theorem complete {N : Nt} {m : List Int} {T : TS} (h : TInv N m T) (hD : Done N T) (hN : netOk N m.length) (hm : isM m) {x : List Int} (hr : Reach N m x) : ∃ (j : Nat) (d : Nd), T.nodes[j]? = some d ∧ d.nw = true ∧ leE x d.ms := by
  have hF := h.fine hN hm
  induction hr with
  | base => exact ⟨0, _, h.root, rfl, fun p hp => by rw [lessE_iff]; have := hm p; exact .inr ⟨by omega, Int.le_refl _⟩⟩
  | @step x k t hr hk hc ih =>
    obtain ⟨j, d, hd, hn, hle⟩ := ih
    have hg := hr.good hN (fun p => (hm p).1)
    have hfd := hF j d hd
    obtain ⟨hcd, hle2⟩ := fire_mono (by rw [hg.2, hfd.lm]) (by rw [hg.2]; exact hN k t hk) hg.1 hfd.em hle hc
    obtain ⟨c, e, he, hea, het⟩ := hD j (List.getElem?_eq_some_iff.1 hd).1 d hd hn k t (List.getElem?_eq_some_iff.1 hk).1 hk hcd
    have hc0 : 0 < c := by
      rcases Nat.eq_zero_or_pos c with h0 | h0
      · subst h0; rw [h.root] at he; cases he; simp at hea
      · exact h0
    obtain ⟨i', k', e', t', _, h1, h2, h3, _, h5, _, h7, _⟩ := h.par c e he hc0
    obtain rfl : i' = j := by omega
    obtain rfl : k' = k := by omega
    rw [hd] at h3; cases h3
    rw [hk] at h5; cases h5
    have hfe := hF c e he
    have hle3 : leE (fireT t x) e.ms := leE_up hfe (by rw [fireT_len]; exact hg.2) (by rw [h7]; exact hle2)
    have hs := h.st c e he
    obtain ⟨q, f, hq, hqn, hqs⟩ := h.own e.st (List.getElem?_eq_some_iff.1 hs).1
    have hs2 := h.st q f hq
    rw [hqs, hs] at hs2
    refine ⟨q, f, hq, hqn, ?_⟩
    rw [← Option.some.inj hs2]; exact hle3
end Go.Proofs.YtjojmmabcjccdaaDoor
