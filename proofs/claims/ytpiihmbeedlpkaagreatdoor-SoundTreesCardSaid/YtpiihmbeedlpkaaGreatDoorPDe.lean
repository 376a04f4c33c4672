/- Bounded nets, certificates, runs: plain. -/
import Derived.Test.YtpiihmbeedlpkaaGreatDoorPUu
import Derived.Test.YtpiihmbeedlpkaaGreatDoorPDd
namespace Go.Proofs.YtpiihmbeedlpkaaGreatDoor

def hasO (m : List Int) : Bool := m.any fun x => decide (x = -1)
theorem hasO_iff (m : List Int) : hasO m = true ↔ ∃ p, p < m.length ∧ m.getD p 0 = -1 := by
 unfold hasO;rw [List.any_eq_true];constructor
 · rintro ⟨x, hx, h⟩;obtain ⟨p, hp, rfl⟩ := List.getElem_of_mem hx;exact ⟨p, hp, by simpa [hp] using h⟩
 · rintro ⟨p, hp, h⟩;exact ⟨m[p], List.getElem_mem hp, by simpa [hp] using h⟩
theorem hasO_no {m : List Int} (h : hasO m = false) (p : Nat) : m.getD p 0 ≠ -1 := by
 intro hp;rcases Nat.lt_or_ge p m.length with hl | hl
 · have := (hasO_iff m).2 ⟨p, hl, hp⟩;rw [h] at this; cases this
 · rw [getD_out hl] at hp; omega
theorem up_first {N : Nt} {m : List Int} {T : TS} (h : TInv N m T) (hF : ∀ (j : Nat) (d : Nd), T.nodes[j]? = some d → d.ms.length = m.length) (i : Nat) :
 ∀ (f a : Nat) (pn : List Int), pn.length = m.length → (∃ w, Path N T a i w) → a < f →
 (upAll T.nodes f a ⟨pn, -1, false⟩ = ⟨pn, -1, false⟩) ∨ ∃ (g : Nat) (z : Nd) (w : List Nat), (upAll T.nodes f a ⟨pn, -1, false⟩).gr = (g : Int) ∧ (upAll T.nodes f a ⟨pn, -1, false⟩).om = true ∧ hasO (upAll T.nodes f a ⟨pn, -1, false⟩).y = true ∧ T.nodes[g]? = some z ∧ Path N T g i w ∧ leE z.ms pn ∧ z.ms ≠ pn := by
 have grOm : ∀ (f : Nat) (a : Int) (u : Up), 0 ≤ u.gr → u.om = true → u.y.length = m.length → hasO u.y = true → (upAll T.nodes f a u).gr = u.gr ∧ (upAll T.nodes f a u).om = true ∧ hasO (upAll T.nodes f a u).y = true := by
  intro f
  induction f with
  | zero => intro a u _ h2 _ h3; exact ⟨rfl, h2, h3⟩
  | succ f ih =>
   intro a u h1 h2 hy h3;unfold upAll;by_cases h0 : a < 0
   · rw [if_pos h0]; exact ⟨rfl, h2, h3⟩
   rw [if_neg h0];cases hd : T.nodes[a.toNat]? with
   | none => exact ⟨rfl, h2, h3⟩
   | some d =>
    simp only;have hl : d.ms.length = u.y.length := by rw [hF _ d hd, hy]
    have e1 : (upOne d.ms a.toNat u).gr = u.gr := by
     unfold upOne; split
     · simp only; rw [if_neg (by omega)]
     · rfl
    have e2 : (upOne d.ms a.toNat u).om = true := by
     unfold upOne; split
     · rfl
     · exact h2
    obtain ⟨p, hp, hpo⟩ := (hasO_iff _).1 h3;have e4 := upOne_len (a := a.toNat) (z := d.ms) (u := u) hl;have e3 : hasO (upOne d.ms a.toNat u).y = true := by
     rw [hasO_iff];refine ⟨p, by omega, ?_⟩;rcases upOne_get (a := a.toNat) (z := d.ms) (u := u) hl p hp with g | g
     · rw [g]; exact hpo
     · exact g
    obtain ⟨q1, q2, q3⟩ := ih d.ab (upOne d.ms a.toNat u) (by omega) e2 (by omega) e3;exact ⟨by rw [q1, e1], q2, q3⟩
 intro f
 induction f with
 | zero => intro a pn _ _ hf; omega
 | succ f ih =>
  intro a pn hpn ⟨w, hw⟩ hf;unfold upAll;rw [if_neg (by omega)];simp only [Int.toNat_natCast];cases hd : T.nodes[a]? with
  | none => exact .inl rfl
  | some d =>
   simp only;have hl : d.ms.length = pn.length := by rw [hF _ d hd, hpn]
   by_cases hcond : (atMost d.ms pn && decide (d.ms ≠ pn)) = true
   · right;have e : upOne d.ms a ⟨pn, -1, false⟩ = ⟨lift1 d.ms pn, (a : Int), true⟩ := by
      unfold upOne; rw [if_pos hcond]; simp
     have hc := hcond;rw [Bool.and_eq_true] at hc;have hne : d.ms ≠ pn := by simpa using hc.2
     have hO : hasO (lift1 d.ms pn) = true := by
      rw [hasO_iff];unfold lift1;rw [if_pos hcond, List.length_zipWith, hl, Nat.min_self];apply Classical.byContradiction;intro hno;apply hne;refine ext_get hl fun p hp => ?_
      apply Classical.byContradiction;intro hpe;exact hno ⟨p, by omega, by rw [zip_get _ _ hl p (by omega), if_pos hpe]⟩
     rw [e];obtain ⟨q1, q2, q3⟩ := grOm f d.ab ⟨lift1 d.ms pn, (a : Int), true⟩ (by simp only; omega) rfl (by simp only; rw [lift_len hl]; exact hpn) hO;exact ⟨a, d, w, q1, q2, q3, hd, hw, (atMost_iff _ _).1 hc.1, hne⟩
   · have e : upOne d.ms a ⟨pn, -1, false⟩ = ⟨pn, -1, false⟩ := by unfold upOne; rw [if_neg hcond]
     rw [e];rcases Int.lt_or_le d.ab 0 with h0 | h0
     · left;cases f with
       | zero => rfl
       | succ f => unfold upAll; rw [if_pos h0]
     · obtain ⟨b, hb⟩ := Int.eq_ofNat_of_zero_le h0;have hba : b < a := by have := h.ab a d hd; omega
       have ha0 : 0 < a := by omega
       obtain ⟨i', k', e', t', q0, q1, q2, _⟩ := h.par a d hd ha0;obtain rfl : i' = b := by omega
       rw [hb];exact ih i' pn hpn ⟨[] ++ [k'] ++ w, (Path.snoc .nil hd ha0 q1 q2).trans hw⟩ (by omega)
theorem node_om {N : Nt} {m : List Int} {T : TS} (h : TInv N m T) (hN : netOk N m.length) (hm : isM m) {j : Nat} {d : Nd} (hd : T.nodes[j]? = some d) :
 (d.om = false ∧ d.ms = d.pn ∧ d.gr = -1) ∨ (d.om = true ∧ hasO d.ms = true ∧ 0 < j ∧ ∃ (g : Nat) (z : Nd) (w : List Nat), d.gr = (g : Int) ∧ T.nodes[g]? = some z ∧ Path N T g j w ∧ w ≠ [] ∧ leE z.ms d.pn ∧ z.ms ≠ d.pn) := by
 have hF := h.fine hN hm;rcases Nat.eq_zero_or_pos j with h0 | h0
 · subst h0;rw [h.root] at hd; cases hd;exact .inl ⟨rfl, rfl, rfl⟩
 · obtain ⟨i, k, e, t, hij, h1, h2, h3, h4, h5, h6, h7, h8, h9⟩ := h.par j d hd h0;have hfd := hF j d hd;rcases up_first h (fun q c hc => (hF q c hc).lm) i (i + 1) i d.pn hfd.lp ⟨[], .nil⟩ (by omega) with g | ⟨g, z, w, q1, q2, q3, q4, q5, q6, q7⟩
   · rw [h9] at g;have a1 := congrArg Up.y g;have a2 := congrArg Up.gr g;have a3 := congrArg Up.om g;exact .inl ⟨a3, a1, a2⟩
   · rw [h9] at q1 q2 q3;exact .inr ⟨q2, q3, h0, g, z, w ++ [k], q1, q4, .snoc q5 hd h0 h1 h2, by simp, q6, q7⟩
theorem no_omega {N : Nt} {m : List Int} {T : TS} (h : TInv N m T) (hN : netOk N m.length) (hm : isM m) (i : Nat) (hno : ∀ (j : Nat) (d : Nd), j < i → T.nodes[j]? = some d → d.om = false) :
 ∀ (j : Nat) (d : Nd), j ≤ i → T.nodes[j]? = some d → hasO d.pn = false ∧ (j < i → isM d.ms ∧ d.ms = d.pn) := by
 have hF := h.fine hN hm;intro j
 induction j using Nat.strongRecOn with
 | ind j ih =>
  intro d hji hd;have hfd := hF j d hd;have hp : hasO d.pn = false := by
   rcases Nat.eq_zero_or_pos j with h0 | h0
   · subst h0;rw [h.root] at hd; cases hd;cases hh : hasO m with
     | false => rfl
     | true =>
      obtain ⟨p, _, hp⟩ := (hasO_iff _).1 hh;have := hm p; omega
   · obtain ⟨a, k, e, t, hij, h1, h2, h3, h4, h5, h6, h7, h8, h9⟩ := h.par j d hd h0;obtain ⟨g1, g2⟩ := ih a hij e (by omega) h3;obtain ⟨g3, g4⟩ := g2 (by omega);have hfe := hF a e h3;cases hh : hasO d.pn with
     | false => rfl
     | true =>
      obtain ⟨p, _, hp⟩ := (hasO_iff _).1 hh;obtain ⟨c1, c2⟩ := fire_get (by rw [hfe.lm]; exact hN k t h5) hfe.em h6 p;have := g3 p;rw [h7, c1, if_neg (by omega)] at hp;have := c2 (by omega);omega
  refine ⟨hp, fun hlt => ?_⟩;have ho := hno j d hlt hd;rcases node_om h hN hm hd with ⟨_, g2, _⟩ | ⟨g1, _⟩
  · refine ⟨fun p => ?_, g2⟩;rw [g2];have a1 := hfd.ep p;have a2 := hasO_no hp p;have a3 := hfd.sp p;omega
  · rw [ho] at g1; cases g1
theorem omega_iff {N : Nt} {m : List Int} {T : TS} (h : TInv N m T) (hN : netOk N m.length) (hm : isM m) : (∃ s ∈ T.states, hasO s = true) ↔ ∃ (j : Nat) (d : Nd), T.nodes[j]? = some d ∧ d.om = true := by
 constructor
 · rintro ⟨s, hs, ho⟩;apply Classical.byContradiction;intro hno;obtain ⟨q, hq, rfl⟩ := List.getElem_of_mem hs;obtain ⟨j, d, hd, _, hst⟩ := h.own q hq;have hst2 := h.st j d hd;rw [hst, List.getElem?_eq_getElem hq] at hst2;have e := Option.some.inj hst2;have := no_omega h hN hm (j + 1) (fun j' d' _ hd' => by
    cases hh : d'.om with
    | false => rfl
    | true => exact absurd ⟨j', d', hd', hh⟩ hno) j d (by omega) hd
   obtain ⟨g1, g2⟩ := this;have g3 := (g2 (by omega)).2;rw [e, g3, g1] at ho; cases ho
 · rintro ⟨j, d, hd, ho⟩;rcases node_om h hN hm hd with ⟨g1, _⟩ | ⟨_, g2, _⟩
   · rw [ho] at g1; cases g1
   · exact ⟨d.ms, List.mem_of_getElem? (h.st j d hd), g2⟩
def fireV (N : Nt) (m : List Int) (t : Int) : List Int × Int :=
 if t < 0 then ([], 2) else match N.tr[t.toNat]? with
  | none => ([], 2)
  | some x => if canT x m then (if bigM (fireT x m) then ([], 5) else (fireT x m, 0)) else ([], 12)
def runV (N : Nt) : List Int → Nat → List Int → List Int × Nat × Int
 | m, k, [] => (m, k, 0)
 | m, k, t :: l => if (fireV N m t).2 = 0 then runV N (fireV N m t).1 (k + 1) l else ([], k, (fireV N m t).2)
theorem runV_app (N : Nt) (l r : List Int) : ∀ (m : List Int) (k : Nat), runV N m k (l ++ r) = if (runV N m k l).2.2 = 0 then runV N (runV N m k l).1 (runV N m k l).2.1 r else runV N m k l := by
 induction l with
 | nil => intro m k; simp [runV]
 | cons t l ih =>
  intro m k;rw [List.cons_append, runV, runV];by_cases h : (fireV N m t).2 = 0
  · rw [if_pos h, if_pos h]; exact ih _ _
  · rw [if_neg h, if_neg h, if_neg h]
theorem path_run {N : Nt} {m : List Int} {T : TS} (h : TInv N m T) {a i : Nat} {w : List Nat} (hp : Path N T a i w) :
 ∀ {da di : Nd}, T.nodes[a]? = some da → T.nodes[i]? = some di → (∀ (j : Nat) (d : Nd), j < i → T.nodes[j]? = some d → d.ms = d.pn) → runV N (da.ms) 0 (w.map Int.ofNat) = (if w = [] then di.ms else di.pn, w.length, 0) := by
 induction hp with
 | nil => intro da di ha hi _; rw [ha] at hi; cases hi; rfl
 | @snoc i j k l d hp hj hj0 hab htr ih =>
  intro da dj ha hj' hno;rw [hj] at hj'; cases hj';obtain ⟨i', k', e, t, hij, q1, q2, q3, q4, q5, q6, q7, q8, q9⟩ := h.par j d hj hj0;obtain rfl : i' = i := by omega
  obtain rfl : k' = k := by omega
  rw [List.map_append, runV_app, ih ha q3 (fun j' d' hj' => hno j' d' (by omega))];simp only [if_true];have he : (if l = [] then e.ms else e.pn) = e.ms := by
   split
   · rfl
   · exact (hno i' e hij q3).symm
  rw [he, if_neg (by simp)];have hf : fireV N e.ms (Int.ofNat k') = (d.pn, 0) := by
   unfold fireV;have h0 : ¬ (Int.ofNat k' < 0) := by simp
   rw [if_neg h0];have h1 : (Int.ofNat k').toNat = k' := rfl;rw [h1, q5];simp only;rw [if_pos q6, ← q7, q8]; rfl
  show runV N e.ms l.length [Int.ofNat k'] = _;unfold runV;rw [hf];simp [runV]
theorem Path.le {N : Nt} {m : List Int} {T : TS} (h : TInv N m T) {a i : Nat} {w : List Nat} (hp : Path N T a i w) : a ≤ i ∧ (w ≠ [] → a < i) := by
 induction hp with
 | nil => exact ⟨Nat.le_refl _, fun h => absurd rfl h⟩
 | @snoc i j k l d hp hj hj0 hab htr ih =>
  have := h.ab j d hj;exact ⟨by omega, fun _ => by omega⟩
theorem root_path {N : Nt} {m : List Int} {T : TS} (h : TInv N m T) : ∀ (j : Nat) (d : Nd), T.nodes[j]? = some d → ∃ w, Path N T 0 j w := by
 intro j
 induction j using Nat.strongRecOn with
 | ind j ih =>
  intro d hd;rcases Nat.eq_zero_or_pos j with h0 | h0
  · subst h0; exact ⟨[], .nil⟩
  · obtain ⟨i, k, e, t, hij, h1, h2, h3, _⟩ := h.par j d hd h0;obtain ⟨w, hw⟩ := ih i hij e h3;exact ⟨w ++ [k], .snoc hw hd h0 h1 h2⟩
theorem path_len {N : Nt} {m : List Int} {T : TS} (h : TInv N m T) {a i : Nat} {w : List Nat} (hp : Path N T a i w) : ∀ {d : Nd}, T.nodes[i]? = some d → (d.nw = true → w.length ≤ d.st) ∧ w.length ≤ T.states.length := by
 induction hp with
 | nil => intro d hd; exact ⟨fun _ => by simp, by simp⟩
 | @snoc i j k l d hp hj hj0 hab htr ih =>
  intro d' hd';rw [hj] at hd'; cases hd';obtain ⟨i', k', e, t, hij, q1, q2, q3, q4, _⟩ := h.par j d hj hj0;obtain rfl : i' = i := by omega
  have h1 := (ih q3).1 q4;have h2 := (List.getElem?_eq_some_iff.1 (h.st i' e q3)).1;refine ⟨fun hn => ?_, by rw [List.length_append]; simp; omega⟩;have := h.asc i' j e d hij q3 hj q4 hn;rw [List.length_append]; simp; omega
theorem bounded_closed {N : Nt} {m : List Int} {T : TS} (h : TInv N m T) (hD : Done N T) (hN : netOk N m.length) (hm : isM m) (hno : ∀ (j : Nat) (d : Nd), T.nodes[j]? = some d → d.om = false) :
 m ∈ T.states ∧ ∀ s ∈ T.states, s.length = m.length ∧ isM s ∧ ∀ (k : Nat) (t : Tr), N.tr[k]? = some t → canT t s = true → bigM (fireT t s) = false ∧ fireT t s ∈ T.states := by
 have hF := h.fine hN hm;refine ⟨List.mem_of_getElem? h.one, fun s hs => ?_⟩;obtain ⟨q, hq, rfl⟩ := List.getElem_of_mem hs;obtain ⟨j, d, hd, hn, hst⟩ := h.own q hq;have hst2 := h.st j d hd;rw [hst, List.getElem?_eq_getElem hq] at hst2;have e := Option.some.inj hst2;have hmj := ((no_omega h hN hm (j + 1) (fun j' d' _ hd' => hno j' d' hd') j d (by omega) hd).2 (by omega)).1;rw [e];refine ⟨(hF j d hd).lm, hmj, fun k t hk hc => ?_⟩;obtain ⟨c, x, hx, hxa, hxt⟩ := hD j (List.getElem?_eq_some_iff.1 hd).1 d hd hn k t (List.getElem?_eq_some_iff.1 hk).1 hk hc;have hc0 : 0 < c := by
  rcases Nat.eq_zero_or_pos c with h0 | h0
  · subst h0; rw [h.root] at hx; cases hx; simp at hxa
  · exact h0
 obtain ⟨i', k', e', t', _, h1, h2, h3, _, h5, _, h7, h8, _⟩ := h.par c x hx hc0;obtain rfl : i' = j := by omega
 obtain rfl : k' = k := by omega
 rw [hd] at h3; cases h3;rw [hk] at h5; cases h5;rw [← h7];refine ⟨h8, ?_⟩;rcases node_om h hN hm hx with ⟨_, g2, _⟩ | ⟨g1, _⟩
 · rw [← g2]; exact List.mem_of_getElem? (h.st c x hx)
 · rw [hno c x hx] at g1; cases g1
end Go.Proofs.YtpiihmbeedlpkaaGreatDoor
