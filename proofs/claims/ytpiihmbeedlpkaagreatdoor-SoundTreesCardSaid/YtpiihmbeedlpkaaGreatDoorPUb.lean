/- Nets of blocks, plain: what can be reached, and that it ends. -/
import Derived.Test.YtpiihmbeedlpkaaGreatDoorPUu
import Derived.Test.YtpiihmbeedlpkaaGreatDoorPCd
namespace Go.Proofs.YtpiihmbeedlpkaaGreatDoor

structure Tn where
 i : List Nat
 o : List Nat
def cn (l : List Nat) (x : Nat) : Nat := l.count x
def en (t : Tn) (m : Nat → Nat) : Prop := ∀ x ∈ t.i, 0 < m x
def fi (t : Tn) (m : Nat → Nat) (x : Nat) : Nat := m x - cn t.i x + cn t.o x
inductive Rr (T : List Tn) (m : Nat → Nat) : (Nat → Nat) → Prop
 | refl : Rr T m m
 | step {m' : Nat → Nat} (t : Tn) (ht : t ∈ T) (h : Rr T m m') (he : en t m') : Rr T m (fi t m')
theorem cn_self (p : Nat) : cn [p] p = 1 := by simp [cn]
theorem cn_one {p x : Nat} (h : 0 < cn [p] x) : x = p := by
 unfold cn at h;exact List.mem_singleton.1 (List.count_pos_iff.1 h)
theorem cn_mem {l : List Nat} {x : Nat} : 0 < cn l x ↔ x ∈ l := List.count_pos_iff
theorem cn_le {l : List Nat} (h : l.Nodup) (x : Nat) : cn l x ≤ 1 := List.nodup_iff_count.1 h x
theorem cn_cons (a : Nat) (l : List Nat) (x : Nat) : cn (a :: l) x = cn [a] x + cn l x := by
 unfold cn; rw [List.count_cons, List.count_cons, List.count_nil]; omega
theorem Rr.mono {T U : List Tn} (hs : ∀ t ∈ T, t ∈ U) {m m' : Nat → Nat} (h : Rr T m m') : Rr U m m' := by
 induction h with
 | refl => exact .refl
 | step t ht _ he ih => exact .step t (hs t ht) ih he
theorem Rr.trans {T : List Tn} {m m' m2 : Nat → Nat} (h : Rr T m m') (k : Rr T m' m2) : Rr T m m2 := by
 induction k with
 | refl => exact h
 | step t ht _ he ih => exact .step t ht ih he
theorem en_cn {t : Tn} (hn : t.i.Nodup) {m : Nat → Nat} (h : en t m) (x : Nat) : cn t.i x ≤ m x := by
 by_cases hx : x ∈ t.i
 · have := h x hx; have := cn_le hn x; omega
 · have : cn t.i x = 0 := List.count_eq_zero.2 hx;omega
theorem Rr.lift {T : List Tn} (hn : ∀ t ∈ T, t.i.Nodup) {m m' : Nat → Nat} (h : Rr T m m') (z : Nat → Nat) : Rr T (fun x => m x + z x) (fun x => m' x + z x) := by
 induction h with
 | refl => exact .refl
 | @step m1 t ht _ he ih =>
  have e : (fun x => fi t m1 x + z x) = fi t (fun x => m1 x + z x) := by
   funext x
   have := en_cn (hn t ht) he x;show m1 x - cn t.i x + cn t.o x + z x = m1 x + z x - cn t.i x + cn t.o x;omega
  rw [e];exact .step t ht ih (fun x hx => by have := he x hx; omega)
structure BC (p q : Nat) (I : List Nat) (T : List Tn) : Prop where
 pq : p ≠ q
 pI : p ∉ I
 qI : q ∉ I
 nd : ∀ t ∈ T, t.i.Nodup
 ne : ∀ t ∈ T, ∃ x, x ∈ t.i
 oe : ∀ t ∈ T, ∃ x, x ∈ t.o
 ins : ∀ t ∈ T, ∀ x ∈ t.i, x = p ∨ x ∈ I
 out : ∀ t ∈ T, ∀ x ∈ t.o, x = q ∨ x ∈ I
 use : ∀ x, x = p ∨ x ∈ I → ∃ t ∈ T, x ∈ t.i
 sup : ∀ m, Rr T (cn [p]) m → ∀ x, 0 < m x → x = p ∨ x = q ∨ x ∈ I
 saf : ∀ m, Rr T (cn [p]) m → ∀ x, m x ≤ 1
 fst : ∀ m, Rr T (cn [p]) m → 0 < m p → m = cn [p]
 lst : ∀ m, Rr T (cn [p]) m → 0 < m q → m = cn [q]
 comp : ∀ m, Rr T (cn [p]) m → Rr T m (cn [q])
 live : ∀ t ∈ T, ∃ m, Rr T (cn [p]) m ∧ en t m
theorem fi_all (l o : List Nat) : fi ⟨l, o⟩ (cn l) = cn o := by funext x; unfold fi; simp
theorem act_reach {p q : Nat} (h : p ≠ q) {m : Nat → Nat} (hm : Rr [⟨[p], [q]⟩] (cn [p]) m) : m = cn [p] ∨ m = cn [q] := by
 induction hm with
 | refl => exact .inl rfl
 | step t ht _ he ih =>
  have := List.mem_singleton.1 ht;subst this;rcases ih with e | e
  · subst e; exact .inr (fi_all _ _)
  · subst e;exact absurd (cn_one (he p (by simp))) h
theorem BC.act {p q : Nat} (h : p ≠ q) : BC p q [] [⟨[p], [q]⟩] := by
 have hs : Rr [⟨[p], [q]⟩] (cn [p]) (cn [q]) := by
  have := Rr.step (T := [⟨[p], [q]⟩]) (m := cn [p]) ⟨[p], [q]⟩ (by simp) .refl (fun x hx => by have := List.mem_singleton.1 hx; subst this; rw [cn_self]; decide);rw [fi_all] at this; exact this
 refine ⟨h, by simp, by simp, by simp, by simp, by simp, by simp, by simp, by simp, ?_, ?_, ?_, ?_, ?_, ?_⟩
 · intro m hm x hx;rcases act_reach h hm with e | e
   · subst e; exact .inl (cn_one hx)
   · subst e; exact .inr (.inl (cn_one hx))
 · intro m hm x;rcases act_reach h hm with e | e <;> (subst e; exact cn_le (by simp) x)
 · intro m hm hx;rcases act_reach h hm with e | e
   · exact e
   · subst e; exact absurd (cn_one hx) h
 · intro m hm hx;rcases act_reach h hm with e | e
   · subst e; exact absurd (cn_one hx).symm h
   · exact e
 · intro m hm;rcases act_reach h hm with e | e
   · subst e; exact hs
   · subst e; exact .refl
 · intro t ht;have := List.mem_singleton.1 ht;subst this;exact ⟨_, .refl, fun x hx => by have := List.mem_singleton.1 hx; subst this; rw [cn_self]; decide⟩
structure Bk where
 p : Nat
 q : Nat
 I : List Nat
 T : List Tn
def allT (L : List Bk) : List Tn := L.flatMap Bk.T
theorem mem_allT {L : List Bk} {t : Tn} : t ∈ allT L ↔ ∃ b ∈ L, t ∈ b.T := by unfold allT; exact List.mem_flatMap
structure Gl (p q : Nat) (E : List Nat) (L : List Bk) (I : List Nat) : Prop where
 bc : ∀ b ∈ L, BC b.p b.q b.I b.T
 ends : ∀ b ∈ L, b.p ∈ E ∧ b.q ∈ E
 inn : ∀ b ∈ L, ∀ x ∈ b.I, x ∉ E
 dis : ∀ b ∈ L, ∀ c ∈ L, ∀ x, x ∈ b.I → x ∈ c.I → b = c
 pE : p ∈ E
 qE : q ∈ E
 pq : p ≠ q
 noP : ∀ b ∈ L, b.q ≠ p
 noQ : ∀ b ∈ L, b.p ≠ q
 ini : ∀ b ∈ L, Rr (allT L) (cn [p]) (cn [b.p])
 fin : ∀ b ∈ L, Rr (allT L) (cn [b.q]) (cn [q])
 fr : ∀ e ∈ E, e ≠ q → ∃ b ∈ L, b.p = e
 hI : ∀ x, x ∈ I ↔ (x ∈ E ∧ x ≠ p ∧ x ≠ q) ∨ ∃ b ∈ L, x ∈ b.I
section
variable {p q : Nat} {E I : List Nat} {L : List Bk}
theorem Gl.reach (h : Gl p q E L I) {m : Nat → Nat} (hm : Rr (allT L) (cn [p]) m) : ∃ b ∈ L, Rr b.T (cn [b.p]) m := by
 induction hm with
 | refl =>
  obtain ⟨b, hb, e⟩ := h.fr p h.pE h.pq;exact ⟨b, hb, by rw [e]; exact .refl⟩
 | @step m1 t ht _ he ih =>
  obtain ⟨b, hb, hr⟩ := ih;obtain ⟨c, hc, htc⟩ := mem_allT.1 ht;obtain ⟨x, hx⟩ := (h.bc c hc).ne t htc;have hmx := he x hx;have hs := (h.bc b hb).sup _ hr x hmx;have key : ∃ d ∈ L, t ∈ d.T ∧ Rr d.T (cn [d.p]) m1 := by
   rcases (h.bc c hc).ins t htc x hx with e | e
   · have hxE : x ∈ E := by rw [e]; exact (h.ends c hc).1
     rcases hs with e2 | e2 | e2
     · have := (h.bc b hb).fst _ hr (by rw [← e2]; exact hmx);exact ⟨c, hc, htc, by rw [this, ← e2, e]; exact .refl⟩
     · have := (h.bc b hb).lst _ hr (by rw [← e2]; exact hmx);exact ⟨c, hc, htc, by rw [this, ← e2, e]; exact .refl⟩
     · exact absurd hxE (h.inn b hb x e2)
   · have hxE := h.inn c hc x e;rcases hs with e2 | e2 | e2
     · exact absurd (by rw [e2]; exact (h.ends b hb).1) hxE
     · exact absurd (by rw [e2]; exact (h.ends b hb).2) hxE
     · have := h.dis b hb c hc x e2 e;subst this;exact ⟨b, hb, htc, hr⟩
  obtain ⟨d, hd, htd, hrd⟩ := key;exact ⟨d, hd, .step t htd hrd he⟩
theorem Gl.sub {b : Bk} (hb : b ∈ L) : ∀ t ∈ b.T, t ∈ allT L := fun _ ht => mem_allT.2 ⟨b, hb, ht⟩
theorem Gl.block (h : Gl p q E L I) : BC p q I (allT L) := by
 refine ⟨h.pq, ?_, ?_, ?_, ?_, ?_, ?_, ?_, ?_, ?_, ?_, ?_, ?_, ?_, ?_⟩
 · intro hp;rcases (h.hI p).1 hp with e | ⟨b, hb, e⟩
   · exact e.2.1 rfl
   · exact h.inn b hb p e h.pE
 · intro hp;rcases (h.hI q).1 hp with e | ⟨b, hb, e⟩
   · exact e.2.2 rfl
   · exact h.inn b hb q e h.qE
 · intro t ht; obtain ⟨b, hb, h1⟩ := mem_allT.1 ht; exact (h.bc b hb).nd t h1
 · intro t ht; obtain ⟨b, hb, h1⟩ := mem_allT.1 ht; exact (h.bc b hb).ne t h1
 · intro t ht; obtain ⟨b, hb, h1⟩ := mem_allT.1 ht; exact (h.bc b hb).oe t h1
 · intro t ht x hx;obtain ⟨b, hb, h1⟩ := mem_allT.1 ht;rcases (h.bc b hb).ins t h1 x hx with e | e
   · by_cases hp : x = p
     · exact .inl hp
     · exact .inr ((h.hI x).2 (.inl ⟨by rw [e]; exact (h.ends b hb).1, hp, by rw [e]; exact h.noQ b hb⟩))
   · exact .inr ((h.hI x).2 (.inr ⟨b, hb, e⟩))
 · intro t ht x hx;obtain ⟨b, hb, h1⟩ := mem_allT.1 ht;rcases (h.bc b hb).out t h1 x hx with e | e
   · by_cases hq : x = q
     · exact .inl hq
     · exact .inr ((h.hI x).2 (.inl ⟨by rw [e]; exact (h.ends b hb).2, by rw [e]; exact h.noP b hb, hq⟩))
   · exact .inr ((h.hI x).2 (.inr ⟨b, hb, e⟩))
 · intro x hx;have key : (∃ b ∈ L, b.p = x) ∨ ∃ b ∈ L, x ∈ b.I := by
    rcases hx with e | e
    · subst e; exact .inl (h.fr x h.pE h.pq)
    · rcases (h.hI x).1 e with e2 | e2
      · exact .inl (h.fr x e2.1 e2.2.2)
      · exact .inr e2
   rcases key with ⟨b, hb, e⟩ | ⟨b, hb, e⟩
   · obtain ⟨t, ht, hx⟩ := (h.bc b hb).use x (.inl e.symm);exact ⟨t, Gl.sub hb t ht, hx⟩
   · obtain ⟨t, ht, hx⟩ := (h.bc b hb).use x (.inr e);exact ⟨t, Gl.sub hb t ht, hx⟩
 · intro m hm x hx;obtain ⟨b, hb, hr⟩ := h.reach hm;have key : x ∈ E ∨ x ∈ I := by
    rcases (h.bc b hb).sup m hr x hx with e | e | e
    · exact .inl (by rw [e]; exact (h.ends b hb).1)
    · exact .inl (by rw [e]; exact (h.ends b hb).2)
    · exact .inr ((h.hI x).2 (.inr ⟨b, hb, e⟩))
   rcases key with e | e
   · by_cases hp : x = p
     · exact .inl hp
     · by_cases hq : x = q
       · exact .inr (.inl hq)
       · exact .inr (.inr ((h.hI x).2 (.inl ⟨e, hp, hq⟩)))
   · exact .inr (.inr e)
 · intro m hm x;obtain ⟨b, hb, hr⟩ := h.reach hm;exact (h.bc b hb).saf m hr x
 · intro m hm hx;obtain ⟨b, hb, hr⟩ := h.reach hm;rcases (h.bc b hb).sup m hr p hx with e | e | e
   · rw [e]; exact (h.bc b hb).fst m hr (by rw [← e]; exact hx)
   · exact absurd e.symm (h.noP b hb)
   · exact absurd h.pE (h.inn b hb p e)
 · intro m hm hx;obtain ⟨b, hb, hr⟩ := h.reach hm;rcases (h.bc b hb).sup m hr q hx with e | e | e
   · exact absurd e.symm (h.noQ b hb)
   · rw [e]; exact (h.bc b hb).lst m hr (by rw [← e]; exact hx)
   · exact absurd h.qE (h.inn b hb q e)
 · intro m hm;obtain ⟨b, hb, hr⟩ := h.reach hm;exact (((h.bc b hb).comp m hr).mono (Gl.sub hb)).trans (h.fin b hb)
 · intro t ht;obtain ⟨b, hb, h1⟩ := mem_allT.1 ht;obtain ⟨m, hm, he⟩ := (h.bc b hb).live t h1;exact ⟨m, (h.ini b hb).trans (hm.mono (Gl.sub hb)), he⟩
end
theorem BC.way {p q : Nat} {I : List Nat} {T : List Tn} (h : BC p q I T) : Rr T (cn [p]) (cn [q]) := h.comp _ .refl
structure PC (fs ts I : List Nat) (T : List Tn) : Prop where
 fn : fs.Nodup
 tn : ts.Nodup
 ft : ∀ x ∈ fs, x ∉ ts ∧ x ∉ I
 tI : ∀ x ∈ ts, x ∉ I
 nd : ∀ t ∈ T, t.i.Nodup
 ne : ∀ t ∈ T, ∃ x, x ∈ t.i
 oe : ∀ t ∈ T, ∃ x, x ∈ t.o
 ins : ∀ t ∈ T, ∀ x ∈ t.i, x ∈ fs ∨ x ∈ I
 out : ∀ t ∈ T, ∀ x ∈ t.o, x ∈ ts ∨ x ∈ I
 use : ∀ x, x ∈ fs ∨ x ∈ I → ∃ t ∈ T, x ∈ t.i
 sup : ∀ m, Rr T (cn fs) m → ∀ x, 0 < m x → x ∈ fs ∨ x ∈ ts ∨ x ∈ I
 saf : ∀ m, Rr T (cn fs) m → ∀ x, m x ≤ 1
 lst : ∀ m, Rr T (cn fs) m → (∀ x ∈ ts, 0 < m x) → m = cn ts
 comp : ∀ m, Rr T (cn fs) m → Rr T m (cn ts)
 live : ∀ t ∈ T, ∃ m, Rr T (cn fs) m ∧ en t m
theorem nil_reach {m0 m : Nat → Nat} (h : Rr [] m0 m) : m = m0 := by
 cases h with
 | refl => rfl
 | step t ht _ _ => cases ht
theorem PC.nil : PC [] [] [] [] := by
 refine ⟨by simp, by simp, by simp, by simp, by simp, by simp, by simp, by simp, by simp, by simp, ?_, ?_, ?_, ?_, by simp⟩
 · intro m hm x hx; rw [nil_reach hm] at hx; exact absurd hx (by simp [cn])
 · intro m hm x; rw [nil_reach hm]; simp [cn]
 · intro m hm _; exact nil_reach hm
 · intro m hm; rw [nil_reach hm]; exact .refl
theorem PC.cons {f t : Nat} {I1 : List Nat} {T1 : List Tn} {fs ts I : List Nat} {T : List Tn} (h1 : BC f t I1 T1) (h : PC fs ts I T)
 (hd : ∀ x, x = f ∨ x = t ∨ x ∈ I1 → x ∉ fs ∧ x ∉ ts ∧ x ∉ I) : PC (f :: fs) (t :: ts) (I1 ++ I) (T1 ++ T) := by
 have nd : ∀ u ∈ T1 ++ T, u.i.Nodup := fun u hu => by
  rcases List.mem_append.1 hu with e | e
  · exact h1.nd u e
  · exact h.nd u e
 have dec : ∀ m, Rr (T1 ++ T) (cn (f :: fs)) m → ∃ m1 m2, m = (fun x => m1 x + m2 x) ∧ Rr T1 (cn [f]) m1 ∧ Rr T (cn fs) m2 := by
  intro m hm
  induction hm with
  | refl => exact ⟨cn [f], cn fs, by funext x; exact cn_cons f fs x, .refl, .refl⟩
  | step u hu _ he ih =>
   obtain ⟨m1, m2, rfl, r1, r2⟩ := ih;rcases List.mem_append.1 hu with e | e
   · have he1 : en u m1 := fun x hx => by
      have h5 := he x hx;have h6 : m2 x = 0 := by
       rcases Nat.eq_zero_or_pos (m2 x) with h7 | h7
       · exact h7
       · have h8 := hd x (by rcases h1.ins u e x hx with e9 | e9; exact .inl e9; exact .inr (.inr e9));rcases h.sup m2 r2 x h7 with e9 | e9 | e9
         · exact absurd e9 h8.1
         · exact absurd e9 h8.2.1
         · exact absurd e9 h8.2.2
      simp only at h5; omega
     refine ⟨fi u m1, m2, ?_, .step u e r1 he1, r2⟩
     funext x
     have := en_cn (h1.nd u e) he1 x;show m1 x + m2 x - cn u.i x + cn u.o x = m1 x - cn u.i x + cn u.o x + m2 x;omega
   · have he1 : en u m2 := fun x hx => by
      have h5 := he x hx;have h6 : m1 x = 0 := by
       rcases Nat.eq_zero_or_pos (m1 x) with h7 | h7
       · exact h7
       · have h8 := hd x (h1.sup m1 r1 x h7);rcases h.ins u e x hx with e9 | e9
         · exact absurd e9 h8.1
         · exact absurd e9 h8.2.2
      simp only at h5; omega
     refine ⟨m1, fi u m2, ?_, r1, .step u e r2 he1⟩
     funext x
     have := en_cn (h.nd u e) he1 x;show m1 x + m2 x - cn u.i x + cn u.o x = m1 x + (m2 x - cn u.i x + cn u.o x);omega
 have s1 : ∀ u ∈ T1, u ∈ T1 ++ T := fun u hu => List.mem_append_left _ hu
 have s2 : ∀ u ∈ T, u ∈ T1 ++ T := fun u hu => List.mem_append_right _ hu
 have e0 : cn (f :: fs) = fun x => cn [f] x + cn fs x := by funext x; exact cn_cons f fs x
 have e1 : cn (t :: ts) = fun x => cn [t] x + cn ts x := by funext x; exact cn_cons t ts x
 refine ⟨?_, ?_, ?_, ?_, nd, ?_, ?_, ?_, ?_, ?_, ?_, ?_, ?_, ?_, ?_⟩
 · exact List.nodup_cons.2 ⟨(hd f (.inl rfl)).1, h.fn⟩
 · exact List.nodup_cons.2 ⟨(hd t (.inr (.inl rfl))).2.1, h.tn⟩
 · intro x hx;rcases List.mem_cons.1 hx with e | e
   · subst e;refine ⟨?_, ?_⟩
     · intro hx2;rcases List.mem_cons.1 hx2 with e2 | e2
       · exact h1.pq e2
       · exact (hd x (.inl rfl)).2.1 e2
     · intro hx2;rcases List.mem_append.1 hx2 with e2 | e2
       · exact h1.pI e2
       · exact (hd x (.inl rfl)).2.2 e2
   · refine ⟨?_, ?_⟩
     · intro hx2;rcases List.mem_cons.1 hx2 with e2 | e2
       · subst e2; exact (hd x (.inr (.inl rfl))).1 e
       · exact (h.ft x e).1 e2
     · intro hx2;rcases List.mem_append.1 hx2 with e2 | e2
       · exact (hd x (.inr (.inr e2))).1 e
       · exact (h.ft x e).2 e2
 · intro x hx hx2;rcases List.mem_cons.1 hx with e | e
   · subst e;rcases List.mem_append.1 hx2 with e2 | e2
     · exact h1.qI e2
     · exact (hd x (.inr (.inl rfl))).2.2 e2
   · rcases List.mem_append.1 hx2 with e2 | e2
     · exact (hd x (.inr (.inr e2))).2.1 e
     · exact h.tI x e e2
 · intro u hu;rcases List.mem_append.1 hu with e | e
   · exact h1.ne u e
   · exact h.ne u e
 · intro u hu;rcases List.mem_append.1 hu with e | e
   · exact h1.oe u e
   · exact h.oe u e
 · intro u hu x hx;rcases List.mem_append.1 hu with e | e
   · rcases h1.ins u e x hx with e2 | e2
     · exact .inl (by rw [e2]; exact List.mem_cons_self)
     · exact .inr (List.mem_append_left _ e2)
   · rcases h.ins u e x hx with e2 | e2
     · exact .inl (List.mem_cons_of_mem _ e2)
     · exact .inr (List.mem_append_right _ e2)
 · intro u hu x hx;rcases List.mem_append.1 hu with e | e
   · rcases h1.out u e x hx with e2 | e2
     · exact .inl (by rw [e2]; exact List.mem_cons_self)
     · exact .inr (List.mem_append_left _ e2)
   · rcases h.out u e x hx with e2 | e2
     · exact .inl (List.mem_cons_of_mem _ e2)
     · exact .inr (List.mem_append_right _ e2)
 · intro x hx;have key : (x = f ∨ x ∈ I1) ∨ (x ∈ fs ∨ x ∈ I) := by
    rcases hx with e | e
    · rcases List.mem_cons.1 e with e2 | e2
      · exact .inl (.inl e2)
      · exact .inr (.inl e2)
    · rcases List.mem_append.1 e with e2 | e2
      · exact .inl (.inr e2)
      · exact .inr (.inr e2)
   rcases key with e | e
   · obtain ⟨u, hu, h5⟩ := h1.use x e; exact ⟨u, s1 u hu, h5⟩
   · obtain ⟨u, hu, h5⟩ := h.use x e; exact ⟨u, s2 u hu, h5⟩
 · intro m hm x hx;obtain ⟨m1, m2, rfl, r1, r2⟩ := dec m hm;simp only at hx;rcases Nat.eq_zero_or_pos (m1 x) with h7 | h7
   · rcases h.sup m2 r2 x (by omega) with e | e | e
     · exact .inl (List.mem_cons_of_mem _ e)
     · exact .inr (.inl (List.mem_cons_of_mem _ e))
     · exact .inr (.inr (List.mem_append_right _ e))
   · rcases h1.sup m1 r1 x h7 with e | e | e
     · exact .inl (by rw [e]; exact List.mem_cons_self)
     · exact .inr (.inl (by rw [e]; exact List.mem_cons_self))
     · exact .inr (.inr (List.mem_append_left _ e))
 · intro m hm x;obtain ⟨m1, m2, rfl, r1, r2⟩ := dec m hm;have a1 := h1.saf m1 r1 x;have a2 := h.saf m2 r2 x;show m1 x + m2 x ≤ 1;rcases Nat.eq_zero_or_pos (m1 x) with h7 | h7
   · omega
   · rcases Nat.eq_zero_or_pos (m2 x) with h8 | h8
     · omega
     · exfalso;have h9 := hd x (h1.sup m1 r1 x h7);rcases h.sup m2 r2 x h8 with e | e | e
       · exact h9.1 e
       · exact h9.2.1 e
       · exact h9.2.2 e
 · intro m hm hall;obtain ⟨m1, m2, rfl, r1, r2⟩ := dec m hm;have a1 : m1 = cn [t] := h1.lst m1 r1 (by
    have h5 := hall t List.mem_cons_self;simp only at h5;rcases Nat.eq_zero_or_pos (m2 t) with h8 | h8
    · omega
    · exfalso;have h9 := hd t (.inr (.inl rfl));rcases h.sup m2 r2 t h8 with e | e | e
      · exact h9.1 e
      · exact h9.2.1 e
      · exact h9.2.2 e)
   have a2 : m2 = cn ts := h.lst m2 r2 (fun x hx => by
    have h5 := hall x (List.mem_cons_of_mem _ hx);simp only at h5;rcases Nat.eq_zero_or_pos (m1 x) with h8 | h8
    · omega
    · exact absurd hx (hd x (h1.sup m1 r1 x h8)).2.1)
   rw [a1, a2, e1]
 · intro m hm;obtain ⟨m1, m2, rfl, r1, r2⟩ := dec m hm;have k1 := ((h1.comp m1 r1).mono s1).lift nd m2;have k2 := ((h.comp m2 r2).mono s2).lift nd (cn [t]);rw [e1];refine k1.trans ?_;rw [show (fun x => cn [t] x + m2 x) = fun x => m2 x + cn [t] x by funext x; omega, show (fun x => cn [t] x + cn ts x) = fun x => cn ts x + cn [t] x by funext x; omega];exact k2
 · intro u hu;rcases List.mem_append.1 hu with e | e
   · obtain ⟨m, hm, he⟩ := h1.live u e;have k := (hm.mono s1).lift nd (cn fs);rw [← e0] at k;exact ⟨_, k, fun x hx => by have := he x hx; show 0 < m x + cn fs x; omega⟩
   · obtain ⟨m, hm, he⟩ := h.live u e;have k := (hm.mono s2).lift nd (cn [f]);rw [show (fun x => cn fs x + cn [f] x) = cn (f :: fs) by funext x; rw [cn_cons f fs]; omega] at k;exact ⟨_, k, fun x hx => by have := he x hx; show 0 < m x + cn [f] x; omega⟩
theorem PC.block {fs ts I : List Nat} {T : List Tn} (h : PC fs ts I T) {p q : Nat} (hpq : p ≠ q) (hf : fs ≠ []) (ht : ts ≠ []) (hp : p ∉ fs ∧ p ∉ ts ∧ p ∉ I) (hq : q ∉ fs ∧ q ∉ ts ∧ q ∉ I) :
 BC p q (fs ++ ts ++ I) (⟨[p], fs⟩ :: (T ++ [⟨ts, [q]⟩])) := by
 have s0 : (⟨[p], fs⟩ : Tn) ∈ (⟨[p], fs⟩ :: (T ++ [⟨ts, [q]⟩]) : List Tn) := List.mem_cons_self;have s1 : ∀ u ∈ T, u ∈ (⟨[p], fs⟩ :: (T ++ [⟨ts, [q]⟩]) : List Tn) := fun u hu => List.mem_cons_of_mem _ (List.mem_append_left _ hu)
 have s2 : (⟨ts, [q]⟩ : Tn) ∈ (⟨[p], fs⟩ :: (T ++ [⟨ts, [q]⟩]) : List Tn) := List.mem_cons_of_mem _ (List.mem_append_right _ (by simp));obtain ⟨f0, hf0⟩ := List.exists_mem_of_ne_nil fs hf;obtain ⟨t0, ht0⟩ := List.exists_mem_of_ne_nil ts ht;have cas : ∀ u, u ∈ (⟨[p], fs⟩ :: (T ++ [⟨ts, [q]⟩]) : List Tn) → u = ⟨[p], fs⟩ ∨ u ∈ T ∨ u = ⟨ts, [q]⟩ := fun u hu => by
  rcases List.mem_cons.1 hu with e | e
  · exact .inl e
  · rcases List.mem_append.1 e with e | e
    · exact .inr (.inl e)
    · exact .inr (.inr (List.mem_singleton.1 e))
 have w0 : Rr (⟨[p], fs⟩ :: (T ++ [⟨ts, [q]⟩])) (cn [p]) (cn fs) := by
  have := Rr.step (m := cn [p]) ⟨[p], fs⟩ s0 .refl (fun x hx => by have := List.mem_singleton.1 hx; subst this; rw [cn_self]; decide);rw [fi_all] at this; exact this
 have w1 : Rr (⟨[p], fs⟩ :: (T ++ [⟨ts, [q]⟩])) (cn ts) (cn [q]) := by
  have := Rr.step (m := cn ts) ⟨ts, [q]⟩ s2 .refl (fun x hx => cn_mem.2 hx);rw [fi_all] at this; exact this
 have reach : ∀ m, Rr (⟨[p], fs⟩ :: (T ++ [⟨ts, [q]⟩])) (cn [p]) m → m = cn [p] ∨ Rr T (cn fs) m ∨ m = cn [q] := by
  intro m hm
  induction hm with
  | refl => exact .inl rfl
  | step u hu _ he ih =>
   rcases cas u hu with e | e | e
   · subst e;have hpm := he p (by simp);rcases ih with e2 | e2 | e2
     · subst e2; rw [fi_all]; exact .inr (.inl .refl)
     · rcases h.sup _ e2 p hpm with e3 | e3 | e3
       · exact absurd e3 hp.1
       · exact absurd e3 hp.2.1
       · exact absurd e3 hp.2.2
     · subst e2; exact absurd (cn_one hpm) hpq
   · obtain ⟨x, hx⟩ := h.ne u e;have hxm := he x hx;have hxi := h.ins u e x hx;rcases ih with e2 | e2 | e2
     · subst e2;have := cn_one hxm; subst this;rcases hxi with e3 | e3
       · exact absurd e3 hp.1
       · exact absurd e3 hp.2.2
     · exact .inr (.inl (.step u e e2 he))
     · subst e2;have := cn_one hxm; subst this;rcases hxi with e3 | e3
       · exact absurd e3 hq.1
       · exact absurd e3 hq.2.2
   · subst e;have hxm := he t0 ht0;rcases ih with e2 | e2 | e2
     · subst e2;have := cn_one hxm; subst this;exact absurd ht0 hp.2.1
     · have := h.lst _ e2 (fun x hx => he x hx);rw [this, fi_all]; exact .inr (.inr rfl)
     · subst e2;have := cn_one hxm; subst this;exact absurd ht0 hq.2.1
 have m3 : ∀ {x : Nat}, x ∈ fs ++ ts ++ I ↔ x ∈ fs ∨ x ∈ ts ∨ x ∈ I := by intro x; simp [List.mem_append]
 refine ⟨hpq, fun hx => ?_, fun hx => ?_, ?_, ?_, ?_, ?_, ?_, ?_, ?_, ?_, ?_, ?_, ?_, ?_⟩
 · rcases m3.1 hx with e | e | e
   · exact hp.1 e
   · exact hp.2.1 e
   · exact hp.2.2 e
 · rcases m3.1 hx with e | e | e
   · exact hq.1 e
   · exact hq.2.1 e
   · exact hq.2.2 e
 · intro u hu;rcases cas u hu with e | e | e
   · subst e; simp
   · exact h.nd u e
   · subst e; exact h.tn
 · intro u hu;rcases cas u hu with e | e | e
   · subst e; exact ⟨p, by simp⟩
   · exact h.ne u e
   · subst e; exact ⟨t0, ht0⟩
 · intro u hu;rcases cas u hu with e | e | e
   · subst e; exact ⟨f0, hf0⟩
   · exact h.oe u e
   · subst e; exact ⟨q, by simp⟩
 · intro u hu x hx;rcases cas u hu with e | e | e
   · subst e; exact .inl (List.mem_singleton.1 hx)
   · rcases h.ins u e x hx with e2 | e2
     · exact .inr (m3.2 (.inl e2))
     · exact .inr (m3.2 (.inr (.inr e2)))
   · subst e; exact .inr (m3.2 (.inr (.inl hx)))
 · intro u hu x hx;rcases cas u hu with e | e | e
   · subst e; exact .inr (m3.2 (.inl hx))
   · rcases h.out u e x hx with e2 | e2
     · exact .inr (m3.2 (.inr (.inl e2)))
     · exact .inr (m3.2 (.inr (.inr e2)))
   · subst e; exact .inl (List.mem_singleton.1 hx)
 · intro x hx;rcases hx with e | e
   · exact ⟨_, s0, by rw [e]; simp⟩
   · rcases m3.1 e with e2 | e2 | e2
     · obtain ⟨u, hu, h5⟩ := h.use x (.inl e2); exact ⟨u, s1 u hu, h5⟩
     · exact ⟨_, s2, e2⟩
     · obtain ⟨u, hu, h5⟩ := h.use x (.inr e2); exact ⟨u, s1 u hu, h5⟩
 · intro m hm x hx;rcases reach m hm with e | e | e
   · subst e; exact .inl (cn_one hx)
   · exact .inr (.inr (m3.2 (h.sup m e x hx)))
   · subst e; exact .inr (.inl (cn_one hx))
 · intro m hm x;rcases reach m hm with e | e | e
   · subst e; exact cn_le (by simp) x
   · exact h.saf m e x
   · subst e; exact cn_le (by simp) x
 · intro m hm hx;rcases reach m hm with e | e | e
   · exact e
   · rcases h.sup m e p hx with e3 | e3 | e3
     · exact absurd e3 hp.1
     · exact absurd e3 hp.2.1
     · exact absurd e3 hp.2.2
   · subst e; exact absurd (cn_one hx) hpq
 · intro m hm hx;rcases reach m hm with e | e | e
   · subst e; exact absurd (cn_one hx).symm hpq
   · rcases h.sup m e q hx with e3 | e3 | e3
     · exact absurd e3 hq.1
     · exact absurd e3 hq.2.1
     · exact absurd e3 hq.2.2
   · exact e
 · intro m hm;rcases reach m hm with e | e | e
   · subst e; exact (w0.trans ((h.comp _ .refl).mono s1)).trans w1
   · exact ((h.comp m e).mono s1).trans w1
   · subst e; exact .refl
 · intro u hu;rcases cas u hu with e | e | e
   · subst e; exact ⟨_, .refl, fun x hx => by have := List.mem_singleton.1 hx; subst this; rw [cn_self]; decide⟩
   · obtain ⟨m, hm, he⟩ := h.live u e;exact ⟨m, w0.trans (hm.mono s1), he⟩
   · subst e; exact ⟨_, w0.trans ((h.comp _ .refl).mono s1), fun x hx => cn_mem.2 hx⟩
end Go.Proofs.YtpiihmbeedlpkaaGreatDoor
