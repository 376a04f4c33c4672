/- The net of a tree, plain: it is a block. -/
import Derived.Test.YtpiihmbeedlpkaaGreatDoorPUu
import Derived.Test.YtpiihmbeedlpkaaGreatDoorPUb
namespace Go.Proofs.YtpiihmbeedlpkaaGreatDoor

inductive Tre where
 | mk (op : Int) (act : ByteArray) (l : List Tre)
structure Tq where
 lb : ByteArray
 i : List Nat
 o : List Nat
def Tq.tn (t : Tq) : Tn := ⟨t.i, t.o⟩
def seqP (n p q : Nat) : Nat → List (Nat × Nat)
 | 0 => []
 | 1 => [(p, q)]
 | k + 2 => (p, n) :: seqP (n + 1) n q (k + 1)
def andP (n : Nat) : Nat → List (Nat × Nat)
 | 0 => []
 | k + 1 => (n, n + 1) :: andP (n + 2) k
mutual
def bT : Tre → Nat → Nat → Nat → Nat × List Tq
 | .mk op act l, n, p, q =>
  if op = 1 ∨ op = 2 then (n, [⟨act, [p], [q]⟩])
  else if op = 3 then bL l (n + (l.length - 1)) (seqP n p q l.length)
  else if op = 4 then bL l n (List.replicate l.length (p, q))
  else if op = 5 then ((bL l (n + 2 * l.length) (andP n l.length)).1, ⟨⟨#[]⟩, [p], (andP n l.length).map Prod.fst⟩ :: ((bL l (n + 2 * l.length) (andP n l.length)).2 ++ [⟨⟨#[]⟩, (andP n l.length).map Prod.snd, [q]⟩]))
  else ((bL l (n + 2) [(n, n + 1), (n + 1, n)]).1, ⟨⟨#[]⟩, [p], [n]⟩ :: ((bL l (n + 2) [(n, n + 1), (n + 1, n)]).2 ++ [⟨⟨#[]⟩, [n + 1], [q]⟩]))
def bL : List Tre → Nat → List (Nat × Nat) → Nat × List Tq
 | [], n, _ => (n, [])
 | _ :: _, n, [] => (n, [])
 | t :: l, n, pq :: ps => ((bL l (bT t n pq.1 pq.2).1 ps).1, (bT t n pq.1 pq.2).2 ++ (bL l (bT t n pq.1 pq.2).1 ps).2)
end
def rgt (op : Int) (k : Nat) : Prop := (op = 1 ∨ op = 2) ∧ k = 0 ∨ (op = 3 ∨ op = 4 ∨ op = 5) ∧ 1 ≤ k ∨ op = 6 ∧ k = 2
mutual
def okTr : Tre → Prop
 | .mk op _ l => rgt op l.length ∧ okTl l
def okTl : List Tre → Prop
 | [] => True
 | t :: l => okTr t ∧ okTl l
end
def rng (a b : Nat) : List Nat := List.range' a (b - a)
theorem mem_rng {a b x : Nat} (h : a ≤ b) : x ∈ rng a b ↔ a ≤ x ∧ x < b := by
 unfold rng; rw [List.mem_range'_1]; omega
structure Bs (n n' : Nat) (L : List Bk) (ps : List (Nat × Nat)) (T : List Tn) : Prop where
 le : n ≤ n'
 ps : L.map (fun b => (b.p, b.q)) = ps
 al : allT L = T
 bc : ∀ b ∈ L, BC b.p b.q b.I b.T
 inn : ∀ x, (∃ b ∈ L, x ∈ b.I) ↔ n ≤ x ∧ x < n'
 dis : L.Pairwise fun b c => ∀ x, x ∈ b.I → x ∉ c.I
theorem pair_eq {L : List Bk} (h : L.Pairwise fun b c => ∀ x, x ∈ b.I → x ∉ c.I) : ∀ b ∈ L, ∀ c ∈ L, ∀ x, x ∈ b.I → x ∈ c.I → b = c := by
 induction h with
 | nil => intro b hb; cases hb
 | @cons a l h1 h2 ih =>
  intro b hb c hc x hx hx2;rcases List.mem_cons.1 hb with e | e
  · rcases List.mem_cons.1 hc with e2 | e2
    · rw [e, e2]
    · subst e; exact absurd hx2 (h1 c e2 x hx)
  · rcases List.mem_cons.1 hc with e2 | e2
    · subst e2; exact absurd hx (h1 b e x hx2)
    · exact ih b e c e2 x hx hx2
theorem allT_cons (b : Bk) (L : List Bk) : allT (b :: L) = b.T ++ allT L := rfl
theorem Bs.ends {n n' : Nat} {L : List Bk} {ps : List (Nat × Nat)} {T : List Tn} (h : Bs n n' L ps T) : ∀ b ∈ L, (b.p, b.q) ∈ ps := fun b hb => by
 rw [← h.ps]; exact List.mem_map.2 ⟨b, hb, rfl⟩
theorem xor_bc {n n' p q k : Nat} {L : List Bk} {T : List Tn} (hk : 1 ≤ k) (h : Bs n n' L (List.replicate k (p, q)) T) (hp : p < n) (hq : q < n) (hpq : p ≠ q) : BC p q (rng n n') T := by
 have he : ∀ b ∈ L, b.p = p ∧ b.q = q := fun b hb => by
  have := List.eq_of_mem_replicate (h.ends b hb);exact ⟨congrArg Prod.fst this, congrArg Prod.snd this⟩
 have hne : ∃ b, b ∈ L := by
  have hl := congrArg List.length h.ps;rw [List.length_map, List.length_replicate] at hl;cases L with
  | nil => simp at hl; omega
  | cons b L => exact ⟨b, by simp⟩
 rw [← h.al];refine Gl.block (E := [p, q]) ⟨h.bc, fun b hb => by simp [he b hb], fun b hb x hx => ?_, pair_eq h.dis, by simp, by simp, hpq, fun b hb => by rw [(he b hb).2]; exact fun e => hpq e.symm, fun b hb => by rw [(he b hb).1]; exact hpq, fun b hb => by rw [(he b hb).1]; exact .refl, fun b hb => by rw [(he b hb).2]; exact .refl, fun e h1 h2 => ?_, fun x => ?_⟩
 · have := (h.inn x).1 ⟨b, hb, hx⟩;simp; omega
 · obtain ⟨b, hb⟩ := hne;refine ⟨b, hb, ?_⟩;rw [(he b hb).1];simp at h1;rcases h1 with e1 | e1
   · exact e1.symm
   · exact absurd e1 h2
 · rw [mem_rng h.le, ← h.inn x];constructor
   · intro h1; exact .inr h1
   · rintro (⟨h1, h2, h3⟩ | h1)
     · simp [h2, h3] at h1
     · exact h1
def Chn : Nat → Nat → List Bk → Prop
 | _, _, [] => False
 | p, q, [b] => b.p = p ∧ b.q = q
 | p, q, b :: c :: L => b.p = p ∧ b.q = c.p ∧ Chn c.p q (c :: L)
theorem seqP_chain : ∀ (k : Nat) (L : List Bk) (n p q : Nat), L.map (fun b => (b.p, b.q)) = seqP n p q (k + 1) → Chn p q L ∧ (∀ x, (∃ b ∈ L.tail, x = b.p) ↔ n ≤ x ∧ x < n + k)
 | 0, L, n, p, q, h => by
  cases L with
  | nil => simp [seqP] at h
  | cons b L =>
   rw [seqP, List.map_cons] at h;injection h with h1 h2;have h3 : L = [] := List.map_eq_nil_iff.1 h2;subst h3;injection h1 with h4 h5;exact ⟨⟨h4, h5⟩, fun x => by simp⟩
 | k + 1, L, n, p, q, h => by
  cases L with
  | nil => simp [seqP] at h
  | cons b L =>
   rw [seqP, List.map_cons] at h;injection h with h1 h2;obtain ⟨g1, g2⟩ := seqP_chain k L (n + 1) n q h2;injection h1 with h4 h5;cases L with
   | nil => exact absurd g1 (by simp [Chn])
   | cons c L =>
    have hc : c.p = n := by
     cases L with
     | nil => exact g1.1
     | cons d L => exact g1.1
    refine ⟨⟨h4, by rw [h5, hc], by rw [hc]; exact g1⟩, fun x => ?_⟩;have g3 := g2 x;simp only [List.tail_cons] at g3 ⊢;constructor
    · rintro ⟨d, hd, rfl⟩;rcases List.mem_cons.1 hd with e | e
      · subst e; omega
      · have := g3.1 ⟨d, e, rfl⟩; omega
    · intro hx;by_cases e : x = n
      · exact ⟨c, by simp, by rw [e, hc]⟩
      · obtain ⟨d, hd, e2⟩ := g3.2 (by omega);exact ⟨d, List.mem_cons_of_mem _ hd, e2⟩
theorem seq_bc : ∀ (L : List Bk) (p q : Nat) (I : List Nat), Chn p q L → (∀ b ∈ L, BC b.p b.q b.I b.T) → (L.Pairwise fun b c => ∀ x, x ∈ b.I → x ∉ c.I) →
 (p :: (L.tail.map Bk.p ++ [q])).Nodup → (∀ b ∈ L, ∀ x ∈ b.I, x ∉ p :: (L.tail.map Bk.p ++ [q])) → (∀ x, x ∈ I ↔ (∃ b ∈ L.tail, x = b.p) ∨ ∃ b ∈ L, x ∈ b.I) → BC p q I (allT L)
 | [], p, q, I, h, _, _, _, _, _ => absurd h (by simp [Chn])
 | [b], p, q, I, h, hb, _, hn, hI, hi => by
  obtain ⟨e1, e2⟩ := h;subst e1 e2;have h1 := hb b (by simp);have e : allT [b] = b.T := by simp [allT]
  rw [e];have hI2 : ∀ x, x ∈ I ↔ x ∈ b.I := fun x => by rw [hi x]; simp
  exact ⟨h1.pq, fun hx => h1.pI ((hI2 _).1 hx), fun hx => h1.qI ((hI2 _).1 hx), h1.nd, h1.ne, h1.oe, fun t ht x hx => by rw [hI2]; exact h1.ins t ht x hx, fun t ht x hx => by rw [hI2]; exact h1.out t ht x hx, fun x hx => by rw [hI2] at hx; exact h1.use x hx, fun m hm x hx => by rw [hI2]; exact h1.sup m hm x hx, h1.saf, h1.fst, h1.lst, h1.comp, h1.live⟩
 | b :: c :: L, p, q, I, h, hb, hd, hn, hI, hi => by
  obtain ⟨e1, e2, h2⟩ := h;have hd2 := List.pairwise_cons.1 hd;simp only [List.tail_cons, List.map_cons, List.cons_append] at hn hI;have hn2 := List.nodup_cons.1 hn;have hn3 := List.nodup_cons.1 hn2.2
  -- the rest is a block
  obtain ⟨I2, hI2⟩ : ∃ I2 : List Nat, ∀ x, x ∈ I2 ↔ (∃ d ∈ L, x = d.p) ∨ ∃ d ∈ c :: L, x ∈ d.I := ⟨L.map Bk.p ++ (c :: L).flatMap Bk.I, fun x => by
   rw [List.mem_append, List.mem_map, List.mem_flatMap];constructor
   · rintro (⟨d, h5, h6⟩ | h5)
     · exact .inl ⟨d, h5, h6.symm⟩
     · exact .inr h5
   · rintro (⟨d, h5, h6⟩ | h5)
     · exact .inl ⟨d, h5, h6.symm⟩
     · exact .inr h5⟩
  have hr := seq_bc (c :: L) c.p q I2 h2 (fun d hd => hb d (List.mem_cons_of_mem _ hd)) hd2.2 hn2.2 (fun d hd x hx => fun h5 => hI d (List.mem_cons_of_mem _ hd) x hx (List.mem_cons_of_mem _ h5)) hI2;have hb1 := hb b (by simp);have hpq : p ≠ q := fun e => hn2.1 (by rw [e]; simp)
  have hpc : p ≠ c.p := fun e => hn2.1 (by rw [e]; simp)
  have hcq : c.p ≠ q := fun e => hn3.1 (by rw [e]; simp)
  have eT : allT (b :: c :: L) = allT [b, ⟨c.p, q, I2, allT (c :: L)⟩] := by simp [allT]
  rw [eT];have m1 : b ∈ [b, (⟨c.p, q, I2, allT (c :: L)⟩ : Bk)] := by simp
  have m2 : (⟨c.p, q, I2, allT (c :: L)⟩ : Bk) ∈ [b, (⟨c.p, q, I2, allT (c :: L)⟩ : Bk)] := by simp
  have cas : ∀ d, d ∈ [b, (⟨c.p, q, I2, allT (c :: L)⟩ : Bk)] → d = b ∨ d = ⟨c.p, q, I2, allT (c :: L)⟩ := fun d hd => by simpa using hd
  have w1 : Rr (allT [b, (⟨c.p, q, I2, allT (c :: L)⟩ : Bk)]) (cn [p]) (cn [c.p]) := by
   have := hb1.way.mono (Gl.sub m1); rw [e1, e2] at this; exact this
  have w2 : Rr (allT [b, (⟨c.p, q, I2, allT (c :: L)⟩ : Bk)]) (cn [c.p]) (cn [q]) := hr.way.mono (Gl.sub m2)
  -- a place of the rest is no place of the first
  have hbI : ∀ x ∈ b.I, x ∉ I2 := fun x hx h5 => by
   rcases (hI2 x).1 h5 with ⟨d, h6, h7⟩ | ⟨d, h6, h7⟩
   · exact hI b (by simp) x hx (by rw [h7]; exact List.mem_cons_of_mem _ (List.mem_cons_of_mem _ (List.mem_append_left _ (List.mem_map.2 ⟨d, h6, rfl⟩))))
   · exact hd2.1 d h6 x hx h7
  have hE : ∀ x ∈ I2, x ≠ p ∧ x ≠ c.p ∧ x ≠ q := fun x hx => by
   refine ⟨fun e => ?_, fun e => hr.pI (by rw [← e]; exact hx), fun e => hr.qI (by rw [← e]; exact hx)⟩;rcases (hI2 x).1 hx with ⟨d, h6, h7⟩ | ⟨d, h6, h7⟩
   · exact hn2.1 (by rw [← e, h7]; exact List.mem_cons_of_mem _ (List.mem_append_left _ (List.mem_map.2 ⟨d, h6, rfl⟩)))
   · exact hI d (List.mem_cons_of_mem _ h6) x h7 (by rw [e]; simp)
  refine Gl.block (E := [p, c.p, q]) ⟨fun d hd => ?_, fun d hd => ?_, fun d hd x hx => ?_, fun d hd d' hd' x hx hx' => ?_, by simp, by simp, hpq, fun d hd => ?_, fun d hd => ?_, fun d hd => ?_, fun d hd => ?_, fun e he1 he2 => ?_, fun x => ?_⟩
  · rcases cas d hd with e | e <;> subst e
    · exact hb1
    · exact hr
  · rcases cas d hd with e | e <;> subst e
    · rw [e1, e2]; simp
    · simp
  · rcases cas d hd with e | e <;> subst e
    · have h5 := hI d (by simp) x hx;simp at h5 ⊢;exact ⟨h5.1, h5.2.1, h5.2.2.2⟩
    · have h5 := hE x hx;simp; exact h5
  · rcases cas d hd with e | e <;> rcases cas d' hd' with e' | e' <;> subst e <;> subst e'
    · rfl
    · exact absurd hx' (hbI x hx)
    · exact absurd hx (hbI x hx')
    · rfl
  · rcases cas d hd with e | e <;> subst e
    · rw [e2]; exact fun e => hpc e.symm
    · exact fun e => hpq e.symm
  · rcases cas d hd with e | e <;> subst e
    · rw [e1]; exact hpq
    · exact hcq
  · rcases cas d hd with e | e <;> subst e
    · rw [e1]; exact .refl
    · exact w1
  · rcases cas d hd with e | e <;> subst e
    · rw [e2]; exact w2
    · exact .refl
  · simp at he1;rcases he1 with e | e | e
    · exact ⟨b, m1, by rw [e, e1]⟩
    · exact ⟨_, m2, by rw [e]⟩
    · exact absurd e he2
  · rw [hi x];simp only [List.tail_cons];constructor
    · rintro (⟨d, h5, h6⟩ | ⟨d, h5, h6⟩)
      · rcases List.mem_cons.1 h5 with e | e
        · subst e; subst h6; exact .inl ⟨by simp, fun e => hpc e.symm, hcq⟩
        · exact .inr ⟨_, m2, (hI2 x).2 (.inl ⟨d, e, h6⟩)⟩
      · rcases List.mem_cons.1 h5 with e | e
        · subst e; exact .inr ⟨_, m1, h6⟩
        · exact .inr ⟨_, m2, (hI2 x).2 (.inr ⟨d, e, h6⟩)⟩
    · rintro (⟨h5, h6, h7⟩ | ⟨d, h5, h6⟩)
      · simp at h5;rcases h5 with e | e | e
        · exact absurd e h6
        · exact .inl ⟨c, by simp, e⟩
        · exact absurd e h7
      · rcases cas d h5 with e | e <;> subst e
        · exact .inr ⟨d, by simp, h6⟩
        · rcases (hI2 x).1 h6 with ⟨f, h8, h9⟩ | ⟨f, h8, h9⟩
          · exact .inl ⟨f, List.mem_cons_of_mem _ h8, h9⟩
          · exact .inr ⟨f, List.mem_cons_of_mem _ h8, h9⟩
theorem BC.congr {p q : Nat} {I J : List Nat} {T : List Tn} (h : BC p q I T) (hi : ∀ x, x ∈ J ↔ x ∈ I) : BC p q J T :=
 ⟨h.pq, fun hx => h.pI ((hi _).1 hx), fun hx => h.qI ((hi _).1 hx), h.nd, h.ne, h.oe, fun t ht x hx => by rw [hi]; exact h.ins t ht x hx, fun t ht x hx => by rw [hi]; exact h.out t ht x hx, fun x hx => by rw [hi] at hx; exact h.use x hx, fun m hm x hx => by rw [hi]; exact h.sup m hm x hx, h.saf, h.fst, h.lst, h.comp, h.live⟩
def endsL (L : List Bk) : List Nat := L.flatMap fun b => [b.p, b.q]
theorem mem_ends {L : List Bk} {x : Nat} : x ∈ endsL L ↔ ∃ b ∈ L, x = b.p ∨ x = b.q := by
 unfold endsL; rw [List.mem_flatMap];constructor
 · rintro ⟨b, hb, h⟩; exact ⟨b, hb, by simpa using h⟩
 · rintro ⟨b, hb, h⟩; exact ⟨b, hb, by simpa using h⟩
theorem par_pc : ∀ (L : List Bk), (∀ b ∈ L, BC b.p b.q b.I b.T) → (L.Pairwise fun b c => ∀ x, x ∈ b.I → x ∉ c.I) → (endsL L).Nodup → (∀ b ∈ L, ∀ x ∈ b.I, x ∉ endsL L) →
 PC (L.map Bk.p) (L.map Bk.q) (L.flatMap Bk.I) (allT L)
 | [], _, _, _, _ => PC.nil
 | b :: L, hb, hd, hn, hI => by
  have hd2 := List.pairwise_cons.1 hd;have hn2 : b.p ∉ b.q :: endsL L ∧ (b.q :: endsL L).Nodup := List.nodup_cons.1 hn;have hn3 := List.nodup_cons.1 hn2.2;have hE : ∀ x, x ∈ endsL L → x ∈ endsL (b :: L) := fun x hx => List.mem_cons_of_mem _ (List.mem_cons_of_mem _ hx)
  have ih := par_pc L (fun c hc => hb c (List.mem_cons_of_mem _ hc)) hd2.2 hn3.2 (fun c hc x hx h5 => hI c (List.mem_cons_of_mem _ hc) x hx (hE x h5));have key : ∀ x, x = b.p ∨ x = b.q ∨ x ∈ b.I → x ∉ endsL L ∧ x ∉ L.flatMap Bk.I := by
   intro x hx;refine ⟨fun h5 => ?_, fun h5 => ?_⟩
   · rcases hx with e | e | e
     · exact hn2.1 (by rw [← e]; exact List.mem_cons_of_mem _ h5)
     · exact hn3.1 (by rw [← e]; exact h5)
     · exact hI b (by simp) x e (hE x h5)
   · obtain ⟨c, hc, h6⟩ := List.mem_flatMap.1 h5;rcases hx with e | e | e
     · exact hI c (List.mem_cons_of_mem _ hc) x h6 (mem_ends.2 ⟨b, by simp, .inl e⟩)
     · exact hI c (List.mem_cons_of_mem _ hc) x h6 (mem_ends.2 ⟨b, by simp, .inr e⟩)
     · exact hd2.1 c hc x e h6
  refine PC.cons (hb b (by simp)) ih (fun x hx => ⟨fun h5 => ?_, fun h5 => ?_, (key x hx).2⟩)
  · obtain ⟨c, hc, e⟩ := List.mem_map.1 h5;exact (key x hx).1 (mem_ends.2 ⟨c, hc, .inl e.symm⟩)
  · obtain ⟨c, hc, e⟩ := List.mem_map.1 h5;exact (key x hx).1 (mem_ends.2 ⟨c, hc, .inr e.symm⟩)
theorem andP_ends : ∀ (k : Nat) (L : List Bk) (n : Nat), L.map (fun b => (b.p, b.q)) = andP n k → endsL L = List.range' n (2 * k)
 | 0, L, n, h => by
  have := List.map_eq_nil_iff.1 h;subst this; rfl
 | k + 1, L, n, h => by
  cases L with
  | nil => simp [andP] at h
  | cons b L =>
   rw [andP, List.map_cons] at h;injection h with h1 h2;injection h1 with h3 h4;have ih := andP_ends k L (n + 2) h2;show b.p :: b.q :: endsL L = _;rw [ih, h3, h4, show 2 * (k + 1) = 2 * k + 1 + 1 by omega, List.range'_succ, List.range'_succ]
theorem andP_fst {L : List Bk} {ps : List (Nat × Nat)} (h : L.map (fun b => (b.p, b.q)) = ps) : ps.map Prod.fst = L.map Bk.p ∧ ps.map Prod.snd = L.map Bk.q := by
 subst h; simp [Function.comp_def]
theorem and_bc {n n' p q k : Nat} {L : List Bk} {T : List Tn} (hk : 1 ≤ k) (h : Bs (n + 2 * k) n' L (andP n k) T) (hp : p < n) (hq : q < n) (hpq : p ≠ q) :
 BC p q (rng n n') (⟨[p], (andP n k).map Prod.fst⟩ :: (T ++ [⟨(andP n k).map Prod.snd, [q]⟩])) := by
 have he := andP_ends k L n h.ps;have hm : ∀ x, x ∈ endsL L ↔ n ≤ x ∧ x < n + 2 * k := fun x => by rw [he, List.mem_range'_1]
 have hpc := par_pc L h.bc h.dis (by rw [he]; exact List.nodup_range') (fun b hb x hx h5 => by
  have h6 := (h.inn x).1 ⟨b, hb, hx⟩;have h7 := (hm x).1 h5;omega)
 rw [(andP_fst h.ps).1, (andP_fst h.ps).2, ← h.al];have hl := congrArg List.length he;have hne : L ≠ [] := by
  intro e; subst e;simp [endsL] at hl; omega
 have hI : ∀ x, x ∈ L.flatMap Bk.I ↔ n + 2 * k ≤ x ∧ x < n' := fun x => by rw [← h.inn x, List.mem_flatMap]
 have hE : ∀ x, (x ∈ L.map Bk.p ∨ x ∈ L.map Bk.q) ↔ n ≤ x ∧ x < n + 2 * k := fun x => by
  rw [← hm x, mem_ends, List.mem_map, List.mem_map];constructor
  · rintro (⟨b, hb, e⟩ | ⟨b, hb, e⟩)
    · exact ⟨b, hb, .inl e.symm⟩
    · exact ⟨b, hb, .inr e.symm⟩
  · rintro ⟨b, hb, e | e⟩
    · exact .inl ⟨b, hb, e.symm⟩
    · exact .inr ⟨b, hb, e.symm⟩
 have out : ∀ x, x < n → x ∉ L.map Bk.p ∧ x ∉ L.map Bk.q ∧ x ∉ L.flatMap Bk.I := fun x hx =>
  ⟨fun h5 => by have := (hE x).1 (.inl h5); omega, fun h5 => by have := (hE x).1 (.inr h5); omega, fun h5 => by have := (hI x).1 h5; omega⟩
 have hnn := h.le;refine (hpc.block hpq (by simpa using hne) (by simpa using hne) (out p hp) (out q hq)).congr (fun x => ?_);rw [mem_rng (by omega), List.mem_append, List.mem_append, hE x, hI x];omega
theorem loop_bc {n n' p q : Nat} {L : List Bk} {T : List Tn} (h : Bs (n + 2) n' L [(n, n + 1), (n + 1, n)] T) (hp : p < n) (hq : q < n) (hpq : p ≠ q) :
 BC p q (rng n n') (⟨[p], [n]⟩ :: (T ++ [⟨[n + 1], [q]⟩])) := by
 obtain ⟨b1, b2, rfl⟩ : ∃ b1 b2, L = [b1, b2] := by
  have hl := congrArg List.length h.ps;rw [List.length_map] at hl
  match L, hl with
  | [b1, b2], _ => exact ⟨b1, b2, rfl⟩
 have hps := h.ps;simp at hps;obtain ⟨⟨p1, q1⟩, p2, q2⟩ := hps;have hb1 := h.bc b1 (by simp);have hb2 := h.bc b2 (by simp);have eT : (⟨[p], [n]⟩ :: (T ++ [⟨[n + 1], [q]⟩]) : List Tn) = allT [⟨p, n, [], [⟨[p], [n]⟩]⟩, b1, b2, ⟨n + 1, q, [], [⟨[n + 1], [q]⟩]⟩] := by
  rw [← h.al]; simp [allT]
 rw [eT];obtain ⟨e0, he0⟩ : ∃ b : Bk, b = ⟨p, n, [], [⟨[p], [n]⟩]⟩ := ⟨_, rfl⟩;obtain ⟨e3, he3⟩ : ∃ b : Bk, b = ⟨n + 1, q, [], [⟨[n + 1], [q]⟩]⟩ := ⟨_, rfl⟩;rw [← he0, ← he3];have hb0 : BC e0.p e0.q e0.I e0.T := by rw [he0]; exact BC.act (show p ≠ n by omega)
 have hb3 : BC e3.p e3.q e3.I e3.T := by rw [he3]; exact BC.act (show n + 1 ≠ q by omega)
 have p0 : e0.p = p := by rw [he0]
 have q0 : e0.q = n := by rw [he0]
 have i0 : e0.I = [] := by rw [he0]
 have p3 : e3.p = n + 1 := by rw [he3]
 have q3 : e3.q = q := by rw [he3]
 have i3 : e3.I = [] := by rw [he3]
 clear he0 he3 eT;have cas : ∀ d, d ∈ [e0, b1, b2, e3] → d = e0 ∨ d = b1 ∨ d = b2 ∨ d = e3 := fun d hd => by simpa using hd
 have w0 := hb0.way.mono (Gl.sub (L := [e0, b1, b2, e3]) (b := e0) (by simp));have w1 := hb1.way.mono (Gl.sub (L := [e0, b1, b2, e3]) (b := b1) (by simp));have w2 := hb2.way.mono (Gl.sub (L := [e0, b1, b2, e3]) (b := b2) (by simp));have w3 := hb3.way.mono (Gl.sub (L := [e0, b1, b2, e3]) (b := e3) (by simp));rw [p0, q0] at w0;rw [p1, q1] at w1;rw [p2, q2] at w2;rw [p3, q3] at w3;have hin : ∀ x, (x ∈ b1.I ∨ x ∈ b2.I) ↔ n + 2 ≤ x ∧ x < n' := fun x => by
  rw [← h.inn x];constructor
  · rintro (e | e)
    · exact ⟨b1, by simp, e⟩
    · exact ⟨b2, by simp, e⟩
  · rintro ⟨b, hb, e⟩;simp at hb;rcases hb with rfl | rfl
    · exact .inl e
    · exact .inr e
 have hd := h.dis;simp at hd;have hnn := h.le;refine Gl.block (E := [p, n, n + 1, q]) ⟨fun d hd => ?_, fun d hd => ?_, fun d hd x hx => ?_, fun d hd' d' hd2 x hx hx' => ?_, by simp, by simp, hpq, fun d hd => ?_, fun d hd => ?_, fun d hd => ?_, fun d hd => ?_, fun e he1 he2 => ?_, fun x => ?_⟩
 · rcases cas d hd with e | e | e | e <;> subst e <;> assumption
 · rcases cas d hd with e | e | e | e <;> subst e <;> simp [*]
 · have hx2 : x ∈ b1.I ∨ x ∈ b2.I := by
    rcases cas d hd with e | e | e | e <;> subst e
    · rw [i0] at hx; cases hx
    · exact .inl hx
    · exact .inr hx
    · rw [i3] at hx; cases hx
   have := (hin x).1 hx2;simp; omega
 · rcases cas d hd' with e | e | e | e <;> rcases cas d' hd2 with e' | e' | e' | e' <;> subst e <;> subst e' <;>
    first
     | rfl
     | (rw [i0] at hx; cases hx)
     | (rw [i0] at hx'; cases hx')
     | (rw [i3] at hx; cases hx)
     | (rw [i3] at hx'; cases hx')
     | exact absurd hx' (hd x hx)
     | exact absurd hx (hd x hx')
 · rcases cas d hd with e | e | e | e <;> subst e <;> omega
 · rcases cas d hd with e | e | e | e <;> subst e <;> omega
 · rcases cas d hd with e | e | e | e <;> subst e
   · rw [p0]; exact .refl
   · rw [p1]; exact w0
   · rw [p2]; exact w0.trans w1
   · rw [p3]; exact w0.trans w1
 · rcases cas d hd with e | e | e | e <;> subst e
   · rw [q0]; exact w1.trans w3
   · rw [q1]; exact w3
   · rw [q2]; exact w1.trans w3
   · rw [q3]; exact .refl
 · simp at he1;rcases he1 with e' | e' | e' | e'
   · exact ⟨e0, by simp, by rw [p0, e']⟩
   · exact ⟨b1, by simp, by rw [p1, e']⟩
   · exact ⟨b2, by simp, by rw [p2, e']⟩
   · exact absurd e' he2
 · rw [mem_rng (by omega)];constructor
   · intro hx;by_cases h5 : x < n + 2
     · refine .inl ⟨?_, by omega, by omega⟩;have : x = n ∨ x = n + 1 := by omega
       simp; omega
     · rcases (hin x).2 ⟨by omega, hx.2⟩ with e | e
       · exact .inr ⟨b1, by simp, e⟩
       · exact .inr ⟨b2, by simp, e⟩
   · rintro (⟨h5, h6, h7⟩ | ⟨d, h5, h6⟩)
     · simp at h5;omega
     · have hx2 : x ∈ b1.I ∨ x ∈ b2.I := by
        rcases cas d h5 with e | e | e | e <;> subst e
        · rw [i0] at h6; cases h6
        · exact .inl h6
        · exact .inr h6
        · rw [i3] at h6; cases h6
       have := (hin x).1 hx2;omega
theorem seqB_bc {n n' p q k : Nat} {L : List Bk} {T : List Tn} (h : Bs (n + k) n' L (seqP n p q (k + 1)) T) (hp : p < n) (hq : q < n) (hpq : p ≠ q) : BC p q (rng n n') T := by
 obtain ⟨hc, ht⟩ := seqP_chain k L n p q h.ps;rw [← h.al];have hlen := congrArg List.length h.ps;have hmid : ∀ x, x ∈ L.tail.map Bk.p ↔ n ≤ x ∧ x < n + k := fun x => by
  rw [← ht x, List.mem_map];constructor
  · rintro ⟨b, hb, e⟩; exact ⟨b, hb, e.symm⟩
  · rintro ⟨b, hb, e⟩; exact ⟨b, hb, e.symm⟩
 have hnd : ∀ (k : Nat) (L : List Bk) (n p q : Nat), L.map (fun b => (b.p, b.q)) = seqP n p q (k + 1) → L.tail.map Bk.p = List.range' n k := by
  intro k
  induction k with
  | zero =>
   intro L n p q h;cases L with
   | nil => rfl
   | cons b L =>
    rw [seqP, List.map_cons] at h;injection h with h1 h2;have := List.map_eq_nil_iff.1 h2;subst this; rfl
  | succ k ih =>
   intro L n p q h;cases L with
   | nil => simp [seqP] at h
   | cons b L =>
    rw [seqP, List.map_cons] at h;injection h with h1 h2;have h3 := ih L (n + 1) n q h2;cases L with
    | nil =>
     exfalso;cases k <;> simp [seqP] at h2
    | cons c L =>
     have hc : c.p = n := by
      cases k with
      | zero => simp [seqP] at h2; exact h2.1.1
      | succ k => simp [seqP] at h2; exact h2.1.1
     simp only [List.tail_cons, List.map_cons] at h3 ⊢;rw [h3, hc, List.range'_succ]
 have hnn := h.le;refine seq_bc L p q _ hc h.bc h.dis ?_ ?_ ?_
 · rw [List.nodup_cons, List.nodup_append];refine ⟨?_, ?_, by simp, ?_⟩
   · intro h5;rcases List.mem_append.1 h5 with e | e
     · have := (hmid p).1 e; omega
     · exact hpq (List.mem_singleton.1 e)
   · rw [hnd k L n p q h.ps]; exact List.nodup_range'
   · intro a ha b hb e;have h5 := (hmid a).1 ha;have h6 := List.mem_singleton.1 hb;omega
 · intro b hb x hx h5;have h6 := (h.inn x).1 ⟨b, hb, hx⟩;rcases List.mem_cons.1 h5 with e | e
   · omega
   · rcases List.mem_append.1 e with e | e
     · have := (hmid x).1 e; omega
     · have := List.mem_singleton.1 e; omega
 · intro x;rw [mem_rng (by omega), ht x, h.inn x];omega
theorem seqP_len : ∀ (k n p q : Nat), (seqP n p q k).length = k
 | 0, _, _, _ => rfl
 | 1, _, _, _ => rfl
 | k + 2, n, p, q => by rw [seqP, List.length_cons, seqP_len (k + 1) (n + 1) n q]
theorem seqP_lt : ∀ (k n p q m : Nat), p < n → q < n → p ≠ q → n + (k - 1) ≤ m → ∀ x ∈ seqP n p q k, x.1 < m ∧ x.2 < m ∧ x.1 ≠ x.2
 | 0, _, _, _, _, _, _, _, _, x, hx => by simp [seqP] at hx
 | 1, n, p, q, m, h1, h2, h3, h4, x, hx => by
  have := List.mem_singleton.1 hx;subst this;exact ⟨by simp only; omega, by simp only; omega, h3⟩
 | k + 2, n, p, q, m, h1, h2, h3, h4, x, hx => by
  rw [seqP] at hx;rcases List.mem_cons.1 hx with e | e
  · subst e; exact ⟨by simp only; omega, by simp only; omega, by simp only; omega⟩
  · exact seqP_lt (k + 1) (n + 1) n q m (by omega) (by omega) (by omega) (by omega) x e
theorem andP_len : ∀ (k n : Nat), (andP n k).length = k
 | 0, _ => rfl
 | k + 1, n => by rw [andP, List.length_cons, andP_len k (n + 2)]
theorem andP_lt : ∀ (k n m : Nat), n + 2 * k ≤ m → ∀ x ∈ andP n k, x.1 < m ∧ x.2 < m ∧ x.1 ≠ x.2
 | 0, _, _, _, x, hx => by simp [andP] at hx
 | k + 1, n, m, h, x, hx => by
  rw [andP] at hx;rcases List.mem_cons.1 hx with e | e
  · subst e; exact ⟨by simp only; omega, by simp only; omega, by simp only; omega⟩
  · exact andP_lt k (n + 2) m (by omega) x e
theorem Bs.nil (n : Nat) : Bs n n [] [] [] := ⟨Nat.le_refl _, rfl, rfl, by simp, fun x => by simp, List.Pairwise.nil⟩
theorem Bs.cons {n n1 n2 p q : Nat} {T1 : List Tn} {L : List Bk} {ps : List (Nat × Nat)} {T : List Tn} (h1 : n ≤ n1) (hb : BC p q (rng n n1) T1) (h : Bs n1 n2 L ps T) : Bs n n2 (⟨p, q, rng n n1, T1⟩ :: L) ((p, q) :: ps) (T1 ++ T) := by
 have hnn := h.le;refine ⟨by omega, by simp [h.ps], by rw [allT_cons, h.al], fun b hb2 => ?_, fun x => ?_, ?_⟩
 · rcases List.mem_cons.1 hb2 with e | e
   · subst e; exact hb
   · exact h.bc b e
 · constructor
   · rintro ⟨b, hb2, hx⟩;rcases List.mem_cons.1 hb2 with e | e
     · subst e; have := (mem_rng h1).1 hx; omega
     · have := (h.inn x).1 ⟨b, e, hx⟩; omega
   · intro hx;by_cases h5 : x < n1
     · exact ⟨_, List.mem_cons_self, (mem_rng h1).2 ⟨hx.1, h5⟩⟩
     · obtain ⟨b, hb2, e⟩ := (h.inn x).2 ⟨by omega, hx.2⟩;exact ⟨b, List.mem_cons_of_mem _ hb2, e⟩
 · refine List.pairwise_cons.2 ⟨fun c hc x hx h5 => ?_, h.dis⟩;have h6 := (mem_rng h1).1 hx;have h7 := (h.inn x).1 ⟨c, hc, h5⟩;omega
mutual
theorem bT_bc : ∀ (t : Tre) (n p q : Nat), okTr t → p < n → q < n → p ≠ q → n ≤ (bT t n p q).1 ∧ BC p q (rng n (bT t n p q).1) ((bT t n p q).2.map Tq.tn)
 | .mk op act l, n, p, q, h, hp, hq, hpq => by
  rw [okTr] at h;obtain ⟨hr, hl⟩ := h;rw [bT];by_cases h1 : op = 1 ∨ op = 2
  · rw [if_pos h1];refine ⟨Nat.le_refl _, ?_⟩;have e : rng n n = [] := by unfold rng; simp
    rw [e];exact BC.act hpq
  · rw [if_neg h1];by_cases h3 : op = 3
    · rw [if_pos h3];have hk : 1 ≤ l.length := by unfold rgt at hr; omega
      obtain ⟨L, hL⟩ := bL_bs l (n + (l.length - 1)) (seqP n p q l.length) hl (seqP_len _ _ _ _).symm (seqP_lt l.length n p q _ hp hq hpq (Nat.le_refl _));obtain ⟨k, hk2⟩ : ∃ k, l.length = k + 1 := ⟨l.length - 1, by omega⟩;rw [hk2] at hL ⊢;have hle := hL.le;exact ⟨by omega, seqB_bc hL hp hq hpq⟩
    · rw [if_neg h3];by_cases h4 : op = 4
      · rw [if_pos h4];have hk : 1 ≤ l.length := by unfold rgt at hr; omega
        obtain ⟨L, hL⟩ := bL_bs l n (List.replicate l.length (p, q)) hl (by simp) (fun x hx => by rw [List.eq_of_mem_replicate hx]; exact ⟨hp, hq, hpq⟩);exact ⟨hL.le, xor_bc hk hL hp hq hpq⟩
      · rw [if_neg h4];by_cases h5 : op = 5
        · rw [if_pos h5];have hk : 1 ≤ l.length := by unfold rgt at hr; omega
          obtain ⟨L, hL⟩ := bL_bs l (n + 2 * l.length) (andP n l.length) hl (andP_len _ _).symm (andP_lt l.length n _ (Nat.le_refl _));have hle := hL.le;have := and_bc hk hL hp hq hpq;exact ⟨by simp only; omega, by simpa [Tq.tn] using this⟩
        · rw [if_neg h5];have hk : l.length = 2 := by unfold rgt at hr; omega
          obtain ⟨L, hL⟩ := bL_bs l (n + 2) [(n, n + 1), (n + 1, n)] hl (by rw [hk]; rfl) (fun x hx => by
           simp at hx;rcases hx with e | e <;> subst e <;> exact ⟨by simp only; omega, by simp only; omega, by simp only; omega⟩)
          have hle := hL.le;have := loop_bc hL hp hq hpq;exact ⟨by simp only; omega, by simpa [Tq.tn] using this⟩
theorem bL_bs : ∀ (l : List Tre) (n : Nat) (ps : List (Nat × Nat)), okTl l → l.length = ps.length → (∀ x ∈ ps, x.1 < n ∧ x.2 < n ∧ x.1 ≠ x.2) → ∃ L, Bs n (bL l n ps).1 L ps ((bL l n ps).2.map Tq.tn)
 | [], n, ps, _, hl, _ => by
  cases ps with
  | nil => rw [bL]; exact ⟨[], Bs.nil n⟩
  | cons x ps => simp at hl
 | t :: l, n, [], _, hl, _ => by simp at hl
 | t :: l, n, pq :: ps, h, hl, hps => by
  rw [okTl] at h;obtain ⟨a, b⟩ := hps pq (by simp);obtain ⟨h1, h2⟩ := bT_bc t n pq.1 pq.2 h.1 a b.1 b.2;obtain ⟨L, hL⟩ := bL_bs l (bT t n pq.1 pq.2).1 ps h.2 (by simpa using hl) (fun x hx => by have := hps x (List.mem_cons_of_mem _ hx); omega);rw [bL];exact ⟨_, by rw [List.map_append]; exact Bs.cons h1 h2 hL⟩
end
end Go.Proofs.YtpiihmbeedlpkaaGreatDoor
