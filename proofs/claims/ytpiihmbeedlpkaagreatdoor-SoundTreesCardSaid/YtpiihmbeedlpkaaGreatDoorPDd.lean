/- Firing in extended markings; whatever is reached is covered. Runs along paths of the tree. Each node of the tree is a limit of what is reached. -/
import Derived.Test.YtpiihmbeedlpkaaGreatDoorPUu
import Derived.Test.YtpiihmbeedlpkaaGreatDoorPDa
namespace Go.Proofs.YtpiihmbeedlpkaaGreatDoor
section
def plsOk (l : List Int) (n : Nat) : Prop := (∀ p ∈ l, 0 ≤ p ∧ p < (n : Int)) ∧ l.Nodup
theorem set_get (m : List Int) (p q : Nat) (x : Int) (h : p < m.length) : (m.set p x).getD q 0 = if p = q then x else m.getD q 0 := by
 rw [List.getD_eq_getElem?_getD, List.getD_eq_getElem?_getD, List.getElem?_set];by_cases e : p = q
 · rw [if_pos e, if_pos e]; subst e; simp [h]
 · rw [if_neg e, if_neg e]
theorem fold_get (f : Int → Int) (l : List Int) : ∀ m : List Int, plsOk l m.length → ∀ p : Nat, (l.foldl (fun m p => m.set p.toNat (f (m.getD p.toNat 0))) m).getD p 0 = if (p : Int) ∈ l then f (m.getD p 0) else m.getD p 0 := by
  induction l with
  | nil => intro m _ p; simp
  | cons a l ih =>
    intro m h p;rw [List.foldl_cons];obtain ⟨h1, h2⟩ := h;rw [List.nodup_cons] at h2;have ha := h1 a (List.mem_cons_self ..);obtain ⟨q, rfl⟩ := Int.eq_ofNat_of_zero_le ha.1;have hq : q < m.length := by omega
    rw [ih _ ⟨by rw [List.length_set]; exact fun p hp => h1 p (List.mem_cons_of_mem _ hp), h2.2⟩ p];simp only [Int.toNat_natCast];rw [set_get m q p _ hq];by_cases e : q = p
    · subst e;rw [if_neg h2.1, if_pos rfl, if_pos (List.mem_cons_self ..)]
    · rw [if_neg e];by_cases hm : (p : Int) ∈ l
      · rw [if_pos hm, if_pos (List.mem_cons_of_mem _ hm)]
      · rw [if_neg hm, if_neg (by rw [List.mem_cons]; rintro (h | h)
                                  · exact e (by omega)
                                  · exact hm h)]
theorem decs_get (m l : List Int) (h : plsOk l m.length) (p : Nat) : (decs m l).getD p 0 = if (p : Int) ∈ l then dec1 (m.getD p 0) else m.getD p 0 := fold_get dec1 l m h p
theorem incs_get (m l : List Int) (h : plsOk l m.length) (p : Nat) : (incs m l).getD p 0 = if (p : Int) ∈ l then inc1 (m.getD p 0) else m.getD p 0 := fold_get inc1 l m h p
def dl (t : Tr) (p : Nat) : Int := (if (p : Int) ∈ t.o then 1 else 0) - (if (p : Int) ∈ t.i then 1 else 0)
theorem dl_bd (t : Tr) (p : Nat) : -1 ≤ dl t p ∧ dl t p ≤ 1 := by unfold dl; split <;> split <;> omega
def trOk (t : Tr) (n : Nat) : Prop := plsOk t.i n ∧ plsOk t.o n
def okE (m : List Int) : Prop := ∀ p : Nat, -1 ≤ m.getD p 0
theorem canT_get {t : Tr} {m : List Int} (h : canT t m = true) (p : Nat) (hp : (p : Int) ∈ t.i) : m.getD p 0 ≠ 0 := by
 unfold canT at h;rw [List.all_eq_true] at h;have := h _ hp;simpa using this
theorem canT_of {t : Tr} {m : List Int} (ht : ∀ p ∈ t.i, 0 ≤ p) (h : ∀ p : Nat, (p : Int) ∈ t.i → m.getD p 0 ≠ 0) : canT t m = true := by
 unfold canT;rw [List.all_eq_true];intro p hp;obtain ⟨q, rfl⟩ := Int.eq_ofNat_of_zero_le (ht p hp);simpa using h q hp
theorem fire_get {t : Tr} {m : List Int} (ht : trOk t m.length) (hm : okE m) (hc : canT t m = true) (p : Nat) :
 (fireT t m).getD p 0 = (if m.getD p 0 = -1 then -1 else m.getD p 0 + dl t p) ∧ (m.getD p 0 ≠ -1 → 0 ≤ m.getD p 0 + dl t p) := by
 have h1 := hm p;have h2 := canT_get hc p;unfold fireT;rw [incs_get _ _ (by rw [decs_len]; exact ht.2), decs_get _ _ ht.1];unfold dl dec1 inc1;generalize m.getD p 0 = x at *;by_cases hi : (p : Int) ∈ t.i
 · have h3 := h2 hi;simp only [if_pos hi];by_cases ho : (p : Int) ∈ t.o
   · simp only [if_pos ho]; constructor
     · split
       · split <;> omega
       · split <;> omega
     · intro; omega
   · simp only [if_neg ho]; constructor
     · split <;> omega
     · intro; omega
 · simp only [if_neg hi];by_cases ho : (p : Int) ∈ t.o
   · simp only [if_pos ho]; constructor
     · split <;> omega
     · intro; omega
   · simp only [if_neg ho]; constructor
     · split <;> omega
     · intro; omega
theorem fire_okE {t : Tr} {m : List Int} (ht : trOk t m.length) (hm : okE m) (hc : canT t m = true) : okE (fireT t m) := by
 intro p;obtain ⟨h1, h2⟩ := fire_get ht hm hc p;rw [h1];split
 · omega
 · have := h2 ‹_›; omega
def leE (x y : List Int) : Prop := ∀ p : Nat, p < x.length → lessE (x.getD p 0) (y.getD p 0) = true
theorem lessE_iff (a b : Int) : lessE a b = true ↔ b = -1 ∨ (a ≠ -1 ∧ a ≤ b) := by unfold lessE; simp
theorem atMost_iff (x y : List Int) : atMost x y = true ↔ leE x y := by
 unfold atMost atMTo leE atM;rw [List.all_eq_true];constructor
 · intro h p hp; exact h p (List.mem_range.2 hp)
 · intro h p hp; exact h p (List.mem_range.1 hp)
theorem ext_get {x y : List Int} (hl : x.length = y.length) (h : ∀ p, p < x.length → x.getD p 0 = y.getD p 0) : x = y := by
 apply List.ext_getElem hl;intro p h1 h2;have := h p h1;simpa [h1, h2] using this
theorem lift_len {z y : List Int} (h : z.length = y.length) : (lift1 z y).length = y.length := by
 unfold lift1; split
 · rw [List.length_zipWith, h, Nat.min_self]
 · rfl
theorem zip_get (z y : List Int) (h : z.length = y.length) (p : Nat) (hp : p < y.length) : (List.zipWith (fun a b : Int => if a ≠ b then -1 else b) z y).getD p 0 = if z.getD p 0 ≠ y.getD p 0 then -1 else y.getD p 0 := by
 have h1 : p < z.length := by omega
 rw [List.getD_eq_getElem?_getD, List.getElem?_zipWith, List.getElem?_eq_getElem h1, List.getElem?_eq_getElem hp];simp [h1, hp]
theorem upOne_len {z : List Int} {a : Nat} {u : Up} (h : z.length = u.y.length) : (upOne z a u).y.length = u.y.length := by
 unfold upOne; split
 · exact lift_len h
 · rfl
theorem upOne_get {z : List Int} {a : Nat} {u : Up} (h : z.length = u.y.length) (p : Nat) (hp : p < u.y.length) : (upOne z a u).y.getD p 0 = u.y.getD p 0 ∨ (upOne z a u).y.getD p 0 = -1 := by
 unfold upOne lift1; split
 · rename_i hc;simp only;rw [zip_get _ _ h p hp];split
   · exact .inr rfl
   · exact .inl rfl
 · exact .inl rfl
theorem upAll_get (N : List Nd) (n : Nat) (hN : ∀ (j : Nat) (d : Nd), N[j]? = some d → d.ms.length = n) : ∀ (f : Nat) (a : Int) (u : Up), u.y.length = n → (upAll N f a u).y.length = n ∧ ∀ p, p < n → (upAll N f a u).y.getD p 0 = u.y.getD p 0 ∨ (upAll N f a u).y.getD p 0 = -1 := by
 intro f
 induction f with
 | zero => intro a u hu; exact ⟨hu, fun p _ => .inl rfl⟩
 | succ f ih =>
  intro a u hu;unfold upAll;by_cases h0 : a < 0
  · rw [if_pos h0]; exact ⟨hu, fun p _ => .inl rfl⟩
  · rw [if_neg h0];cases hd : N[a.toNat]? with
    | none => exact ⟨hu, fun p _ => .inl rfl⟩
    | some d =>
     simp only;have hl := hN _ d hd;have h1 := upOne_len (a := a.toNat) (z := d.ms) (u := u) (by omega);obtain ⟨h2, h3⟩ := ih d.ab (upOne d.ms a.toNat u) (by omega);refine ⟨h2, fun p hp => ?_⟩;rcases h3 p hp with h4 | h4
     · rw [h4]; exact upOne_get (by omega) p (by omega)
     · exact .inr h4
def netOk (N : Nt) (n : Nat) : Prop := ∀ (k : Nat) (t : Tr), N.tr[k]? = some t → trOk t n
theorem upAll_part {N : List Nd} {i : Nat} {u : Up} (hi : i < N.length) (h : ∀ (j : Nat) (d : Nd), N[j]? = some d → d.ab < (j : Int)) : upAll (N.take (i + 1)) (i + 1) i u = upAll N (i + 1) i u := by
 have e : N = N.take (i + 1) ++ N.drop (i + 1) := (List.take_append_drop _ _).symm;have := up_pre (N.take (i + 1)) (N.drop (i + 1)) (i + 1) i u (by rw [List.length_take]; omega) (fun j d hd => h j d (by
  rw [List.getElem?_take] at hd; split at hd
  · exact hd
  · cases hd))
 rw [← e] at this;exact this.symm
structure Fine (n : Nat) (d : Nd) : Prop where
 lp : d.pn.length = n
 lm : d.ms.length = n
 ep : okE d.pn
 em : okE d.ms
 sp : ∀ p, d.pn.getD p 0 ≤ 100
 up : ∀ p, p < n → d.ms.getD p 0 = d.pn.getD p 0 ∨ d.ms.getD p 0 = -1
theorem getD_out {m : List Int} {p : Nat} (h : m.length ≤ p) : m.getD p 0 = 0 := by rw [List.getD_eq_getElem?_getD, List.getElem?_eq_none h]; rfl
theorem bigM_le {m : List Int} (h : bigM m = false) (p : Nat) : m.getD p 0 ≤ 100 := by
 rcases Nat.lt_or_ge p m.length with hp | hp
 · unfold bigM at h;rw [List.any_eq_false] at h;have := h _ (List.getElem_mem hp);simpa [hp] using this
 · rw [getD_out hp]; omega
def isM (m : List Int) : Prop := ∀ p : Nat, 0 ≤ m.getD p 0 ∧ m.getD p 0 ≤ 100
theorem TInv.fine {N : Nt} {m : List Int} {T : TS} (h : TInv N m T) (hN : netOk N m.length) (hm : isM m) : ∀ (j : Nat) (d : Nd), T.nodes[j]? = some d → Fine m.length d := by
 intro j
 induction j using Nat.strongRecOn with
 | ind j ih =>
  intro d hd;rcases Nat.eq_zero_or_pos j with h0 | h0
  · subst h0;rw [h.root] at hd; cases hd;exact ⟨rfl, rfl, fun p => by have := (hm p).1; simp only; omega, fun p => by have := (hm p).1; simp only; omega, fun p => (hm p).2, fun p _ => .inl rfl⟩
  · obtain ⟨i, k, e, t, hij, h1, h2, h3, h4, h5, h6, h7, h8, h9⟩ := h.par j d hd h0;have he := ih i hij e h3;have hok := hN k t h5;have hlp : d.pn.length = m.length := by rw [h7, fireT_len]; exact he.lm
    have hep : okE d.pn := by rw [h7]; exact fire_okE (by rw [he.lm]; exact hok) he.em h6
    have hil := (List.getElem?_eq_some_iff.1 h3).1;rw [← upAll_part hil h.ab] at h9;have hg := upAll_get (T.nodes.take (i + 1)) m.length (fun q c hc => by
     rw [List.getElem?_take] at hc;split at hc
     · exact (ih q (by omega) c hc).lm
     · cases hc) (i + 1) i ⟨d.pn, -1, false⟩ hlp
    rw [h9] at hg;obtain ⟨g1, g2⟩ := hg;refine ⟨hlp, g1, hep, fun p => ?_, bigM_le h8, g2⟩;rcases Nat.lt_or_ge p m.length with hp | hp
    · rcases g2 p hp with g3 | g3
      · rw [g3]; exact hep p
      · rw [g3]; omega
    · rw [getD_out (by rw [g1]; exact hp)]; omega
inductive Reach (N : Nt) (m : List Int) : List Int → Prop where
 | base : Reach N m m
 | step {x : List Int} {k : Nat} {t : Tr} : Reach N m x → N.tr[k]? = some t → canT t x = true → Reach N m (fireT t x)
def nonneg (m : List Int) : Prop := ∀ p : Nat, 0 ≤ m.getD p 0
theorem nonneg.okE {m : List Int} (h : nonneg m) : okE m := fun p => by have := h p; omega
theorem fire_real {t : Tr} {x : List Int} (ht : trOk t x.length) (hx : nonneg x) (hc : canT t x = true) (p : Nat) : (fireT t x).getD p 0 = x.getD p 0 + dl t p ∧ 0 ≤ x.getD p 0 + dl t p := by
 obtain ⟨h1, h2⟩ := fire_get ht hx.okE hc p;have := hx p;rw [if_neg (by omega)] at h1;exact ⟨h1, h2 (by omega)⟩
theorem Reach.good {N : Nt} {m x : List Int} (h : Reach N m x) (hN : netOk N m.length) (hm : nonneg m) : nonneg x ∧ x.length = m.length := by
 induction h with
 | base => exact ⟨hm, rfl⟩
 | step _ hk hc ih =>
  refine ⟨fun p => ?_, by rw [fireT_len]; exact ih.2⟩;have := fire_real (by rw [ih.2]; exact hN _ _ hk) ih.1 hc p;omega
def Done (N : Nt) (T : TS) : Prop := ∀ j, j < T.nodes.length → DoneK N T j N.tr.length
theorem leE_up {n : Nat} {x : List Int} {d : Nd} (hd : Fine n d) (hx : x.length = n) (h : leE x d.pn) : leE x d.ms := by
 intro p hp;have h1 := (lessE_iff _ _).1 (h p hp);rw [lessE_iff];rcases hd.up p (by omega) with h2 | h2
 · rw [h2]; exact h1
 · exact .inl h2
end
section
def fires (N : Nt) : List Int → List Nat → Option (List Int)
 | x, [] => some x
 | x, k :: l => match N.tr[k]? with
  | some t => if canT t x then fires N (fireT t x) l else none
  | none => none
theorem fires_app (N : Nt) (l r : List Nat) : ∀ x : List Int, fires N x (l ++ r) = (fires N x l).bind fun y => fires N y r := by
 induction l with
 | nil => intro x; rfl
 | cons k l ih =>
  intro x;rw [List.cons_append, fires, fires];cases N.tr[k]? with
  | none => rfl
  | some t =>
   simp only;split
   · exact ih _
   · rfl
theorem fires_reach {N : Nt} {m : List Int} (l : List Nat) : ∀ {x y : List Int}, Reach N m x → fires N x l = some y → Reach N m y := by
 induction l with
 | nil => intro x y h e; unfold fires at e; cases e; exact h
 | cons k l ih =>
  intro x y h e;unfold fires at e;cases hk : N.tr[k]? with
  | none => rw [hk] at e; cases e
  | some t =>
   rw [hk] at e;simp only at e;split at e
   · rename_i hc; exact ih (h.step hk hc) e
   · cases e
def dls (N : Nt) (l : List Nat) (p : Nat) : Int := (l.map fun k => match N.tr[k]? with | some t => dl t p | none => 0).sum
theorem dls_app (N : Nt) (l r : List Nat) (p : Nat) : dls N (l ++ r) p = dls N l p + dls N r p := by unfold dls; rw [List.map_append, List.sum_append]
theorem dls_bd (N : Nt) (l : List Nat) (p : Nat) : -(l.length : Int) ≤ dls N l p := by
 induction l with
 | nil => simp [dls]
 | cons k l ih =>
  have : dls N (k :: l) p = (match N.tr[k]? with | some t => dl t p | none => 0) + dls N l p := by simp [dls]
  rw [this, List.length_cons];have h2 : -1 ≤ (match N.tr[k]? with | some t => dl t p | none => (0 : Int)) := by
   split
   · exact (dl_bd _ p).1
   · omega
  omega
inductive Path (N : Nt) (T : TS) : Nat → Nat → List Nat → Prop where
 | nil {i : Nat} : Path N T i i []
 | snoc {a i j k : Nat} {l : List Nat} {d : Nd} : Path N T a i l → T.nodes[j]? = some d → 0 < j → d.ab = (i : Int) → d.tr = (k : Int) → Path N T a j (l ++ [k])
theorem fires_val {N : Nt} {n : Nat} (hN : netOk N n) (l : List Nat) : ∀ {x y : List Int}, nonneg x → x.length = n → fires N x l = some y → nonneg y ∧ y.length = n ∧ ∀ p, y.getD p 0 = x.getD p 0 + dls N l p := by
 induction l with
 | nil => intro x y h hl e; unfold fires at e; cases e; exact ⟨h, hl, fun p => by simp [dls]⟩
 | cons k l ih =>
  intro x y h hl e;unfold fires at e;cases hk : N.tr[k]? with
  | none => rw [hk] at e; cases e
  | some t =>
   rw [hk] at e;simp only at e;split at e
   · rename_i hc;have hv := fire_real (by rw [hl]; exact hN k t hk) h hc;obtain ⟨h1, h2, h3⟩ := ih (fun p => by rw [(hv p).1]; exact (hv p).2) (by rw [fireT_len]; exact hl) e;refine ⟨h1, h2, fun p => ?_⟩;have : dls N (k :: l) p = dl t p + dls N l p := by simp [dls, hk]
     rw [h3, (hv p).1, this]; omega
   · cases e
theorem path_fires {N : Nt} {m : List Int} {T : TS} (h : TInv N m T) (hN : netOk N m.length) (hm : isM m) {a i : Nat} {w : List Nat} (hp : Path N T a i w) :
 ∀ {da di : Nd}, T.nodes[a]? = some da → T.nodes[i]? = some di → ∀ (S : Nat → Prop) (x : List Int), nonneg x → x.length = m.length →
 (∀ p, p < m.length → S p → di.ms.getD p 0 ≠ -1) → (∀ p, p < m.length → S p → da.ms.getD p 0 ≤ x.getD p 0) → (∀ p, p < m.length → ¬ S p → (w.length : Int) ≤ x.getD p 0) →
 (∀ p, p < m.length → S p → da.ms.getD p 0 ≠ -1 ∧ di.ms.getD p 0 = da.ms.getD p 0 + dls N w p) ∧ ∃ y, fires N x w = some y := by
 have hF := h.fine hN hm
 induction hp with
 | nil =>
  intro da di ha hi S x hx hl h0 h1 h2;rw [ha] at hi; cases hi;exact ⟨fun p hp hs => ⟨h0 p hp hs, by simp [dls]⟩, x, rfl⟩
 | @snoc i j k l d hp hj hj0 hab htr ih =>
  intro da dj ha hj' S x hx hl h0 h1 h2;rw [hj] at hj'; cases hj';obtain ⟨i', k', e, t, hij, q1, q2, q3, q4, q5, q6, q7, q8, q9⟩ := h.par j d hj hj0;obtain rfl : i' = i := by omega
  obtain rfl : k' = k := by omega
  have hfe := hF i' e q3;have hfd := hF j d hj;have hok : trOk t e.ms.length := by rw [hfe.lm]; exact hN k' t q5
  have hne : ∀ p, p < m.length → S p → e.ms.getD p 0 ≠ -1 ∧ d.ms.getD p 0 = e.ms.getD p 0 + dl t p := by
   intro p hp hs;have hd := h0 p hp hs;rcases hfd.up p (by omega) with g | g
   · rw [g, q7] at hd ⊢;have hg := (fire_get hok hfe.em q6 p).1;rw [hg] at hd ⊢;by_cases hh : e.ms.getD p 0 = -1
     · rw [if_pos hh] at hd; exact absurd rfl hd
     · exact ⟨hh, by rw [if_neg hh]⟩
   · exact absurd g hd
  have hlen : ((l ++ [k']).length : Int) = l.length + 1 := by simp
  obtain ⟨g1, y, g2⟩ := ih ha q3 S x hx hl (fun p hp hs => (hne p hp hs).1) h1 (fun p hp hs => by have := h2 p hp hs; omega);obtain ⟨y1, y2, y3⟩ := fires_val hN l hx hl g2;have hdk : ∀ p, dls N [k'] p = dl t p := fun p => by simp [dls, q5]
  refine ⟨fun p hp hs => ⟨(g1 p hp hs).1, ?_⟩, ?_⟩
  · rw [(hne p hp hs).2, (g1 p hp hs).2, dls_app, hdk]; omega
  · have hcy : canT t y = true := by
     refine canT_of (fun p hp => ((hN k' t q5).1.1 p hp).1) fun p hpi => ?_
     have hpl : p < m.length := by have := ((hN k' t q5).1.1 _ hpi).2; omega
     have c1 := canT_get q6 p hpi;have c2 := hfe.em p;rw [y3];by_cases hs : S p
     · have a1 := g1 p hpl hs;have a2 := h1 p hpl hs;have a3 := (hne p hpl hs).1;omega
     · have a2 := h2 p hpl hs;have a3 := dls_bd N l p;omega
    refine ⟨fireT t y, ?_⟩;rw [fires_app, g2];show fires N y [k'] = _;unfold fires;rw [q5];simp only [hcy, if_true];rfl
def atL (K : Int) (s x : List Int) : Prop := ∀ p, p < s.length → (s.getD p 0 ≠ -1 → s.getD p 0 ≤ x.getD p 0) ∧ (s.getD p 0 = -1 → K ≤ x.getD p 0)
end
section
theorem Path.trans {N : Nt} {T : TS} {a b c : Nat} {l r : List Nat} (h : Path N T a b l) (k : Path N T b c r) : Path N T a c (l ++ r) := by
 induction k with
 | nil => rw [List.append_nil]; exact h
 | snoc _ h1 h2 h3 h4 ih => rw [← List.append_assoc]; exact .snoc ih h1 h2 h3 h4
def Lim (N : Nt) (m s : List Int) : Prop := ∀ K : Nat, ∃ x, Reach N m x ∧ atL K s x
theorem lim_raise {N : Nt} {m : List Int} {T : TS} (h : TInv N m T) (hN : netOk N m.length) (hm : isM m) {a i k : Nat} {w : List Nat} (hp : Path N T a i w) {z e : Nd} {t : Tr}
 (ha : T.nodes[a]? = some z) (hi : T.nodes[i]? = some e) (hk : N.tr[k]? = some t) (hc : canT t e.ms = true) {y : List Int} (hy : y.length = m.length) (hyp : ∀ p, p < m.length → y.getD p 0 = (fireT t e.ms).getD p 0 ∨ y.getD p 0 = -1) (hl : Lim N m y) (hz : leE z.ms y) :
 Lim N m (List.zipWith (fun a b : Int => if a ≠ b then -1 else b) z.ms y) := by
 have hF := h.fine hN hm;have hfz := hF a z ha;have hfe := hF i e hi;have hok : trOk t e.ms.length := by rw [hfe.lm]; exact hN k t hk
 -- one more round
 have step : ∀ (c M : Nat), (∃ x, Reach N m x ∧ (∀ p, p < m.length → y.getD p 0 ≠ -1 → y.getD p 0 + (c : Int) * (y.getD p 0 - z.ms.getD p 0) ≤ x.getD p 0) ∧ (∀ p, p < m.length → y.getD p 0 = -1 → ((M + (w.length + 1) : Nat) : Int) ≤ x.getD p 0)) →
  ∃ x, Reach N m x ∧ (∀ p, p < m.length → y.getD p 0 ≠ -1 → y.getD p 0 + ((c + 1 : Nat) : Int) * (y.getD p 0 - z.ms.getD p 0) ≤ x.getD p 0) ∧ (∀ p, p < m.length → y.getD p 0 = -1 → (M : Int) ≤ x.getD p 0) := by
  intro c M ⟨x, hr, h1, h2⟩;obtain ⟨hx, hxl⟩ := hr.good hN (fun p => (hm p).1);have hzy : ∀ p, p < m.length → y.getD p 0 ≠ -1 → z.ms.getD p 0 ≠ -1 ∧ z.ms.getD p 0 ≤ y.getD p 0 := by
   intro p hp hne;have := (lessE_iff _ _).1 (hz p (by rw [hfz.lm]; exact hp));omega
  have hge : ∀ p, p < m.length → y.getD p 0 ≠ -1 → y.getD p 0 ≤ x.getD p 0 := by
   intro p hp hne;have a1 := h1 p hp hne;have a2 := hzy p hp hne;have a3 : 0 ≤ (c : Int) * (y.getD p 0 - z.ms.getD p 0) := Int.mul_nonneg (by omega) (by omega);omega
  have hpn : ∀ p, p < m.length → y.getD p 0 ≠ -1 → e.ms.getD p 0 ≠ -1 ∧ y.getD p 0 = e.ms.getD p 0 + dl t p := by
   intro p hp hne;rcases hyp p hp with g | g
   · have hg := (fire_get hok hfe.em hc p).1;rw [hg] at g;by_cases hh : e.ms.getD p 0 = -1
     · rw [if_pos hh] at g; exact absurd g hne
     · rw [if_neg hh] at g; exact ⟨hh, g⟩
   · exact absurd g hne
  obtain ⟨g1, v, g2⟩ := path_fires h hN hm hp ha hi (fun p => y.getD p 0 ≠ -1) x hx hxl (fun p hp hs => (hpn p hp hs).1) (fun p hp hs => Int.le_trans (hzy p hp hs).2 (hge p hp hs)) (fun p hp hs => by
   have := h2 p hp (Classical.byContradiction hs); omega)
  obtain ⟨v1, v2, v3⟩ := fires_val hN w hx hxl g2;have hcv : canT t v = true := by
   refine canT_of (fun p hp => (hok.1.1 p hp).1) fun p hpi => ?_
   have hpl : p < m.length := by have := (hok.1.1 _ hpi).2; have := hfe.lm; omega
   have c1 := canT_get hc p hpi;have c2 := hfe.em p;rw [v3];by_cases hs : y.getD p 0 = -1
   · have a2 := h2 p hpl hs;have a3 := dls_bd N w p;omega
   · have a1 := (g1 p hpl hs).2;have a2 := hzy p hpl hs;have a3 := hge p hpl hs;have a4 := (hpn p hpl hs).1;omega
  have hfv := fun p => fire_real (by rw [v2]; exact hN k t hk) v1 hcv p
  refine ⟨fireT t v, (fires_reach w hr g2).step hk hcv, fun p hp hne => ?_, fun p hp hs => ?_⟩
  · rw [(hfv p).1, v3];have a1 := (g1 p hp hne).2;have a2 := (hpn p hp hne).2;have a3 := h1 p hp hne;have a4 : ((c + 1 : Nat) : Int) * (y.getD p 0 - z.ms.getD p 0) = (c : Int) * (y.getD p 0 - z.ms.getD p 0) + (y.getD p 0 - z.ms.getD p 0) := by
     rw [show ((c + 1 : Nat) : Int) = (c : Int) + 1 by omega, Int.add_mul, Int.one_mul]
    rw [a4]; omega
  · rw [(hfv p).1, v3];have a1 := h2 p hp hs;have a2 := dls_bd N w p;have a3 := (dl_bd t p).1;omega
 have iter : ∀ (c M : Nat), ∃ x, Reach N m x ∧ (∀ p, p < m.length → y.getD p 0 ≠ -1 → y.getD p 0 + (c : Int) * (y.getD p 0 - z.ms.getD p 0) ≤ x.getD p 0) ∧ (∀ p, p < m.length → y.getD p 0 = -1 → (M : Int) ≤ x.getD p 0) := by
  intro c
  induction c with
  | zero =>
   intro M;obtain ⟨x, hr, hx⟩ := hl M;exact ⟨x, hr, fun p hp hne => by have := (hx p (by omega)).1 hne; simpa using this, fun p hp hs => (hx p (by omega)).2 hs⟩
  | succ c ih => intro M; exact step c M (ih _)
 intro K;obtain ⟨x, hr, h1, h2⟩ := iter K K;obtain ⟨hx, _⟩ := hr.good hN (fun p => (hm p).1);refine ⟨x, hr, fun p hp => ?_⟩;rw [List.length_zipWith, hfz.lm, hy, Nat.min_self] at hp;rw [zip_get _ _ (by rw [hfz.lm, hy]) p (by omega)];have hzp := (lessE_iff _ _).1 (hz p (by rw [hfz.lm]; exact hp));by_cases hs : y.getD p 0 = -1
 · have a1 := h2 p hp hs;rw [hs];constructor
   · intro hne; split at hne <;> omega
   · intro _; exact a1
 · have a1 := h1 p hp hs;by_cases he : z.ms.getD p 0 = y.getD p 0
   · rw [if_neg (by simpa using he)];constructor
     · intro _;rw [he, Int.sub_self, Int.mul_zero] at a1;omega
     · intro hh; exact absurd hh hs
   · rw [if_pos he];constructor
     · intro hh; exact absurd rfl hh
     · intro _;have a2 : (K : Int) * 1 ≤ (K : Int) * (y.getD p 0 - z.ms.getD p 0) := Int.mul_le_mul_of_nonneg_left (by omega) (by omega);rcases hyp p hp with g | g
       · have := fire_okE hok hfe.em hc p;omega
       · exact absurd g hs
theorem lim_up {N : Nt} {m : List Int} {T : TS} (h : TInv N m T) (hN : netOk N m.length) (hm : isM m) {i k : Nat} {e : Nd} {t : Tr} (hi : T.nodes[i]? = some e) (hk : N.tr[k]? = some t) (hc : canT t e.ms = true) :
 ∀ (f : Nat) (a : Int) (u : Up), (∀ b : Nat, a = b → ∃ w, Path N T b i w) → u.y.length = m.length → (∀ p, p < m.length → u.y.getD p 0 = (fireT t e.ms).getD p 0 ∨ u.y.getD p 0 = -1) → Lim N m u.y → Lim N m (upAll T.nodes f a u).y := by
 have hF := h.fine hN hm;intro f
 induction f with
 | zero => intro a u _ _ _ hl; exact hl
 | succ f ih =>
  intro a u hp hy hyp hl;unfold upAll;by_cases h0 : a < 0
  · rw [if_pos h0]; exact hl
  rw [if_neg h0];obtain ⟨b, rfl⟩ := Int.eq_ofNat_of_zero_le (show 0 ≤ a by omega);obtain ⟨w, hw⟩ := hp b rfl;cases hd : T.nodes[((b : Nat) : Int).toNat]? with
  | none => exact hl
  | some d =>
   simp only;have hd' : T.nodes[b]? = some d := by simpa using hd
   have hfd := hF b d hd';have h1 := upOne_len (a := ((b : Nat) : Int).toNat) (z := d.ms) (u := u) (by rw [hfd.lm, hy]);refine ih d.ab _ (fun c hcb => ?_) (by rw [h1]; exact hy) (fun p hp => ?_) ?_
   · -- the path from the node above
     have hb0 : 0 < b := by
      rcases Nat.eq_zero_or_pos b with g | g
      · subst g;rw [h.root] at hd';cases hd';have : (-1 : Int) = (c : Int) := hcb;omega
      · exact g
     obtain ⟨i', k', e', t', q0, q1, q2, _⟩ := h.par b d hd' hb0;obtain rfl : i' = c := by omega
     exact ⟨[] ++ [k'] ++ w, (Path.snoc .nil hd' hb0 q1 q2).trans hw⟩
   · rcases upOne_get (a := ((b : Nat) : Int).toNat) (z := d.ms) (u := u) (by rw [hfd.lm, hy]) p (by omega) with g | g
     · rw [g]; exact hyp p hp
     · exact .inr g
   · unfold upOne;by_cases hcond : (atMost d.ms u.y && decide (d.ms ≠ u.y)) = true
     · rw [if_pos hcond];simp only;unfold lift1;rw [if_pos hcond];rw [Bool.and_eq_true] at hcond;exact lim_raise h hN hm hw hd' hi hk hc hy hyp hl ((atMost_iff _ _).1 hcond.1)
     · rw [if_neg hcond]; exact hl
theorem sound {N : Nt} {m : List Int} {T : TS} (h : TInv N m T) (hN : netOk N m.length) (hm : isM m) : ∀ (j : Nat) (d : Nd), T.nodes[j]? = some d → Lim N m d.ms := by
 have hF := h.fine hN hm;intro j
 induction j using Nat.strongRecOn with
 | ind j ih =>
  intro d hd;rcases Nat.eq_zero_or_pos j with h0 | h0
  · subst h0;rw [h.root] at hd; cases hd;intro K;refine ⟨m, .base, fun p _ => ⟨fun _ => Int.le_refl _, fun hs => ?_⟩⟩;have := (hm p).1;have : m.getD p 0 = -1 := hs;omega
  · obtain ⟨i, k, e, t, hij, h1, h2, h3, h4, h5, h6, h7, h8, h9⟩ := h.par j d hd h0;have hfe := hF i e h3;have hok : trOk t e.ms.length := by rw [hfe.lm]; exact hN k t h5
    have hl0 : Lim N m d.pn := by
     intro K;obtain ⟨x, hr, hx⟩ := ih i hij e h3 (K + 1);obtain ⟨hxn, hxl⟩ := hr.good hN (fun p => (hm p).1);have hcx : canT t x = true := by
      refine canT_of (fun p hp => (hok.1.1 p hp).1) fun p hpi => ?_
      have hpl : p < e.ms.length := by have := (hok.1.1 _ hpi).2; omega
      have c1 := canT_get h6 p hpi;have c2 := hfe.em p;have c3 := hx p hpl;by_cases hs : e.ms.getD p 0 = -1
      · have := c3.2 hs; omega
      · have := c3.1 hs; omega
     have hfx := fun p => fire_real (by rw [hxl]; exact hN k t h5) hxn hcx p
     refine ⟨fireT t x, hr.step h5 hcx, fun p hp => ?_⟩;rw [h7, fireT_len] at hp;have hg := (fire_get hok hfe.em h6 p).1;rw [h7, hg, (hfx p).1];have c3 := hx p hp;have c4 := (dl_bd t p).1;by_cases hs : e.ms.getD p 0 = -1
     · rw [if_pos hs];have := c3.2 hs;exact ⟨fun hh => absurd rfl hh, fun _ => by omega⟩
     · rw [if_neg hs];have := c3.1 hs;exact ⟨fun _ => by omega, fun hh => by have := (fire_get hok hfe.em h6 p).2 hs; omega⟩
    have := lim_up h hN hm h3 h5 h6 (i + 1) i ⟨d.pn, -1, false⟩ (fun b hb => ⟨[], by
     obtain rfl : b = i := by omega
     exact .nil⟩) (by rw [h7, fireT_len]; exact hfe.lm) (fun p _ => .inl (by rw [h7])) hl0
    rw [h9] at this;exact this
end
end Go.Proofs.YtpiihmbeedlpkaaGreatDoor
