/- The builder of a net in memory. The builder's way: bounds and steps. place and add of the builder: what a call does. -/
import Derived.Test.YtpiihmbeedlpkaaGreatDoorPUu
import Derived.Test.YtpiihmbeedlpkaaGreatDoorPUh
import Derived.Test.YtpiihmbeedlpkaaGreatDoorPCg
import Derived.Test.YtpiihmbeedlpkaaGreatDoorPYm
namespace Go.Proofs.YtpiihmbeedlpkaaGreatDoor
set_option maxRecDepth 100000
set_option maxHeartbeats 6400000
open Go.Lib (hid)
section
open Go.RowKit

section
variable {w0 w w1 w2 w' : World} {b : Nat}
theorem gb_trans (h : w1.grownBy w (some b)) (h2 : w.grownBy w' (some b)) : w1.grownBy w' (some b) :=
 ⟨h2.os.trans h.os, h2.tape.trans h.tape, h2.output.trans h.output, Nat.le_trans h.size h2.size, fun k hk hne => (h2.block k (Nat.lt_of_lt_of_le hk h.size) hne).trans (h.block k hk hne)⟩
theorem gb_below (h : Below w1.heap.size w1 w) : w1.grownBy w (some b) := ⟨h.os, h.tape, h.output, h.size, fun k hk _ => h.block k hk⟩
theorem gb_row (h : w1.grownBy w (some b)) {o : Obj} {x : Value} (hx : ∀ k, x.ownBlock = some k → w1.heap.size ≤ k) (hg : (w.alloc o).grownBy w' x.ownBlock) : w1.grownBy w' (some b) :=
 ⟨hg.os.trans h.os, hg.tape.trans h.tape, hg.output.trans h.output, Nat.le_trans h.size (by have := hg.size; simp at this; omega), fun k hk hne => by
  have h1 := h.size;rw [hg.block k (by simp; omega) (fun e => by have := hx k e.symm; omega), (below_alloc w o).block k (by omega)];exact h.block k hk hne⟩
def KO (b : Nat) (w w' : World) : Prop := ∀ (g : Nat) (cs : Array Value) (T : TypeId) (fz : Nat × Nat), g ≠ b → T ≠ 42 → w.heap[g]? = some (.cells cs T fz) → w'.heap[g]? = some (.cells cs T fz)
theorem KO.refl (b : Nat) (w : World) : KO b w w := fun _ _ _ _ _ _ h => h
theorem KO.gb (h : w.grownBy w' (some b)) : KO b w w' := fun g _ _ _ hg _ hh => (h.block g (Array.getElem?_eq_some_iff.1 hh).1 (fun e => hg (Option.some.inj e))).trans hh
theorem KO.below (h : Below w.heap.size w w') : KO b w w' := KO.gb (gb_below h)
theorem KO.trans (h : KO b w1 w) (h2 : KO b w w') : KO b w1 w' := fun g cs T fz hg hT hh => h2 g cs T fz hg hT (h g cs T fz hg hT hh)
theorem KO.app {o : Obj} {B k n : Nat} {x : Value} {xs : List Value} (hr : w.ownsRow B 42 k x n xs) (hg : (w.alloc o).grownBy w' x.ownBlock) : KO b w w' := fun g ds T fz _ hT hh => by
 have hlt := (Array.getElem?_eq_some_iff.1 hh).1;have h2 : (w.alloc o).heap[g]? = some (.cells ds T fz) := ((below_alloc w o).block g hlt).trans hh;refine (hg.block g (by simp; omega) (fun e2 => ?_)).trans h2;obtain ⟨cur, hc⟩ := own_kind (hr.alloc o) e2.symm;rw [h2] at hc;cases hc;exact hT rfl
theorem NS.ko {v : Value} {L : List Int} {cs : Array Value} {T : TypeId} {fr : Nat × Nat} (h : NS w0 w v L) (hk : KO b w w') (hb : w.heap[b]? = some (.cells cs T fr)) (hT : 3 ≠ T) (hbl : Below w0.heap.size w0 w') : NS w0 w' v L := by
 refine ⟨⟨h.1.1, ?_⟩, hbl⟩;rcases h.1.2 with h2 | ⟨g, cap, cur, hv, hg, hh, r⟩
 · exact .inl h2
 · refine .inr ⟨g, cap, cur, hv, hg, hk g _ _ _ (fun e => ?_) (by decide) hh, r⟩;subst e;rw [hb] at hh;cases hh;exact hT rfl
def BBk (w : World) (b : Nat) (n : Nat) (v : Value) : Prop := w.heap[b]? = some (.cells #[.int .i64 (n : Int), v, .int .i64 0, .int .i64 1] 47 (0, 0))
theorem BBk.lt {n : Nat} {v : Value} (h : BBk w b n v) : b < w.heap.size := (Array.getElem?_eq_some_iff.1 h).1
theorem BBk.below {n : Nat} {v : Value} (h : BBk w b n v) (hb : Below w.heap.size w w') : BBk w' b n v := (hb.block b h.lt).trans h
theorem BBk.cells {n : Nat} {v : Value} (h : BBk w b n v) : w.cell? ⟨b, 0, none⟩ = some (.int .i64 (n : Int)) ∧ w.cell? ⟨b, 1, none⟩ = some v ∧ w.cell? ⟨b, 2, none⟩ = some (.int .i64 0) ∧ w.cell? ⟨b, 3, none⟩ = some (.int .i64 1) := by
 unfold BBk at h;simp [World.cell?, h]
theorem BBk.soft {n : Nat} {v : Value} (h : BBk w b n v) (o : Nat) : w.frozen? ⟨b, o, none⟩ = false := by
 unfold BBk at h;simp [World.frozen?, h]
theorem BBk.setN {n : Nat} {v : Value} (h : BBk w b n v) (m : Nat) : BBk (w.setCell ⟨b, 0, none⟩ (.int .i64 (m : Int))) b m v := by
 unfold BBk; rw [heap_set2 h]; rfl
theorem BBk.setV {n : Nat} {v : Value} (h : BBk w b n v) (u : Value) : BBk (w.setCell ⟨b, 1, none⟩ u) b n u := by
 unfold BBk; rw [heap_set2 h]; rfl
theorem BBk.app {n : Nat} {v : Value} (h : BBk w b n v) {o : Obj} {B k m : Nat} {e : TypeId} {x : Value} {xs : List Value} (hr : w.ownsRow B e k x m xs) (he : e ≠ 47) (hg : (w.alloc o).grownBy w' x.ownBlock) : BBk w' b n v := by
 have hlt := h.lt;have h1 : (w.alloc o).heap[b]? = some (.cells #[.int .i64 (n : Int), v, .int .i64 0, .int .i64 1] 47 (0, 0)) := ((below_alloc w o).block b hlt).trans h;refine (hg.block b (by simp; omega) (fun e2 => ?_)).trans h1;rcases own_other (hr.alloc o) h1 he with e3 | e3
 · rw [← e2] at e3; cases e3
 · exact e3 e2.symm
def lbB (T : List Tq) : Prop := ∀ x ∈ T, x.lb.size ≤ 9223372036854775807
theorem lbB.push {T : List Tq} {t : Tq} (h : lbB T) (ht : t.lb.size ≤ 9223372036854775807) : lbB (T ++ [t]) := fun x hx => by
 rcases List.mem_append.1 hx with h1 | h1
 · exact h x h1
 · have := List.mem_singleton.1 h1;subst this; exact ht
def BdL (w0 w : World) (b n : Nat) (T : List Tq) : Prop := ∃ v, BBk w b n v ∧ w0.heap.size ≤ b ∧ OTq w0 w v T ∧ lbB T
theorem BdL.below {n : Nat} {T : List Tq} (h : BdL w0 w b n T) (hb : Below w.heap.size w w') : BdL w0 w' b n T := by
 obtain ⟨v, h1, h2, h3, h4⟩ := h;exact ⟨v, h1.below hb, h2, h3.below hb, h4⟩
theorem BdL.bel {n : Nat} {T : List Tq} (h : BdL w0 w b n T) : Below w0.heap.size w0 w := by obtain ⟨_, _, _, h3, _⟩ := h; exact h3.bel
theorem OTq.gb {v : Value} {T : List Tq} (h : OTq w0 w v T) {n : Nat} {u : Value} (hb : BBk w b n u) (h3 : w0.heap.size ≤ b) (hg : w.grownBy w' (some b)) : OTq w0 w' v T := by
 obtain ⟨XL, g1, g2, g3, g4⟩ := h;have h5 : ∀ k, some b = some k → w0.heap.size ≤ k := fun k hk => by cases hk; exact h3
 exact ⟨XL, g1, g2.kept hg (own_other g2 hb (by decide)), fun x hx => ⟨(g3 x hx).1.kept hg (own_other (g3 x hx).1.1 hb (by decide)) h5, (g3 x hx).2.kept hg (own_other (g3 x hx).2.1 hb (by decide)) h5⟩, g4.grown hg g4.size h5⟩
theorem BdL.gb {n m : Nat} {v : Value} {T : List Tq} (h : BBk w b n v) (h2 : w0.heap.size ≤ b) (h3 : OTq w0 w v T) (h4 : lbB T) (hg : w.grownBy w' (some b)) (hb : BBk w' b m v) : BdL w0 w' b m T := ⟨v, hb, h2, h3.gb h h2 hg, h4⟩
theorem NS.gb {v : Value} {L : List Int} {n : Nat} {u : Value} (h : NS w0 w v L) (hb : BBk w b n u) (h3 : w0.heap.size ≤ b) (hg : w.grownBy w' (some b)) : NS w0 w' v L :=
 h.kept hg (own_other h.1 hb (by decide)) (fun k hk => by cases hk; exact h3)
def FR (w1 : World) (v : Value) : Prop := ∀ k, v.ownBlock = some k → w1.heap.size ≤ k
theorem FR.nil (w1 : World) : FR w1 (.slice none 0 0) := fun k h => by cases h
theorem FR.app {v v' : Value} {n : Nat} (h : FR w1 v) (hn : w1.heap.size ≤ n) (ha : v'.ownBlock = v.ownBlock ∨ v'.ownBlock = some n) : FR w1 v' := fun k hk => by
 rcases ha with h1 | h1
 · exact h k (h1.symm.trans hk)
 · rw [h1] at hk; cases hk; exact hn
def TBx (w : World) (g : Nat) (a b c : Value) : Prop := w.heap[g]? = some (.cells #[a, b, c] 24 (0, 0))
theorem TBx.new (w : World) (a b c : Value) : TBx (w.alloc (.cells #[a, b, c] 24)) w.heap.size a b c := heap_alloc_new w _
theorem TBx.cells {g : Nat} {x y z : Value} (h : TBx w g x y z) : w.cell? ⟨g, 0, none⟩ = some x ∧ w.cell? ⟨g, 1, none⟩ = some y ∧ w.cell? ⟨g, 2, none⟩ = some z := by
 unfold TBx at h;simp [World.cell?, h]
theorem TBx.lt {g : Nat} {x y z : Value} (h : TBx w g x y z) : g < w.heap.size := (Array.getElem?_eq_some_iff.1 h).1
theorem TBx.below {g : Nat} {x y z : Value} (h : TBx w g x y z) (hb : Below w.heap.size w w') : TBx w' g x y z := (hb.block g h.lt).trans h
theorem TBx.gb {g : Nat} {x y z : Value} (h : TBx w g x y z) (hne : g ≠ b) (hg : w.grownBy w' (some b)) : TBx w' g x y z := (hg.block g h.lt (fun e => hne (Option.some.inj e))).trans h
theorem TBx.ko {g : Nat} {x y z : Value} (h : TBx w g x y z) (hne : g ≠ b) (hk : KO b w w') : TBx w' g x y z := hk g _ _ _ hne (by decide) h
theorem apart_ns {x v' v : Value} {n : Nat} {L : List Int} (hx : Apart x v) (hl : NS w0 w v L) (hn : n = w.heap.size + 1) (h : v'.ownBlock = x.ownBlock ∨ v'.ownBlock = some n) : Apart v' v := by
 intro g h1 h2;rcases h with h | h
 · exact hx g (h.symm.trans h1) h2
 · have := (hl.1.lt g h2).2;rw [h] at h1; cases h1; omega
theorem NS.app_ne {v x : Value} {L : List Int} (h : NS w0 w v L) {o : Obj} {n : Nat} {xs : List Value} (hr : w.ownsRow w0.heap.size 3 1 x n xs) (hne : Apart v x) (hg : (w.alloc o).grownBy w' x.ownBlock) : NS w0 w' v L :=
 (h.below (below_alloc w o)).kept hg hne.or (fun k hk => (hr.lt k hk).1)
theorem TlM.at0 {w : World} {l : List Tre} {A : Option Addr} (h : TlM w l A 0) (k : Nat) (hk : k < l.length) : ∃ (ad : Addr) (op : Int) (act : ByteArray) (A' : Option Addr) (n' c' : Nat), A = some ad ∧ (ad.add (k * 3)).block < w.heap.size ∧ w.cell? (ad.add (k * 3)) = some (.int .i64 op) ∧ w.cell? ⟨(ad.add (k * 3)).block, (ad.add (k * 3)).off + 1, none⟩ = some (.string act) ∧ w.cell? ⟨(ad.add (k * 3)).block, (ad.add (k * 3)).off + 1 + 1, none⟩ = some (.slice A' n' c') ∧ TrM w l[k] (.int .i64 op) (.string act) (.slice A' n' c') := by
 obtain ⟨ad, c0, c1, c2, rfl, hp, g0, g1, g2, ht⟩ := TlM.at_ l A 0 h k hk;rw [Nat.zero_add] at hp g0 g1 g2;generalize l[k] = t at *;obtain ⟨op, act, l'⟩ := t;have h2 := ht;rw [TrM] at h2;obtain ⟨rfl, rfl, _, _, A', n', c', rfl, _⟩ := h2;exact ⟨ad, op, act, A', n', c', rfl, hp, g0, g1, g2, ht⟩
theorem TrM.out {w : World} {op : Int} {act : ByteArray} {l : List Tre} {c0 c1 c2 : Value} (h : TrM w (.mk op act l) c0 c1 c2) : ∃ (A : Option Addr) (n c : Nat), c0 = .int .i64 op ∧ c1 = .string act ∧ c2 = .slice A n c ∧ (-9223372036854775808 ≤ op ∧ op ≤ 9223372036854775807) ∧ act.size ≤ 9223372036854775807 ∧ l.length = n ∧ n ≤ c ∧ c ≤ 9223372036854775807 ∧ TlM w l A 0 := by
 rw [TrM] at h;obtain ⟨h0, h1, h2, h3, A, n, c, h4, h5, h6, h7, h8⟩ := h;exact ⟨A, n, c, h0, h1, h4, h2, h3, h5, h6, h7, h8⟩
end
end
section
open Go.RowKit

theorem szL_len : ∀ l : List Tre, l.length ≤ szL l
 | [] => by simp [szL]
 | t :: l => by have := szL_len l; have := szT_pos t; rw [szL, List.length_cons]; omega
mutual
theorem gT_bd : ∀ (t : Tre) (n : Nat) (L : List Tq) (p q : Nat), okTr t → (gT t n L p q).1 + 2 ≤ n + 2 * szT t ∧ (gT t n L p q).2.length ≤ L.length + 2 * szT t
 | .mk op act l, n, L, p, q, ho => by
  rw [okTr] at ho;obtain ⟨hr, hl⟩ := ho;have hs := szL_len l;unfold rgt at hr;rw [gT, szT];by_cases h0 : 60 < L.length ∨ 40 < n
  · rw [if_pos h0]; exact ⟨by simp only; omega, by simp only; omega⟩
  rw [if_neg h0];by_cases h1 : op = 1 ∨ op = 2
  · rw [if_pos h1]; exact ⟨by simp only; omega, by simp only [List.length_append, List.length_singleton]; omega⟩
  rw [if_neg h1];by_cases h3 : op = 3
  · rw [if_pos h3];have := gL_bd l (n + (l.length - 1)) L (seqP n p q l.length) hl;omega
  rw [if_neg h3];by_cases h4 : op = 4
  · rw [if_pos h4];have := gL_bd l n L (List.replicate l.length (p, q)) hl;omega
  rw [if_neg h4];by_cases h5 : op = 5
  · rw [if_pos h5];have := gL_bd l (n + 2 * l.length) (L ++ [⟨⟨#[]⟩, [p], (andP n l.length).map Prod.fst⟩]) (andP n l.length) hl;simp only [List.length_append, List.length_singleton] at this ⊢;omega
  rw [if_neg h5];have := gL_bd l (n + 2) (L ++ [⟨⟨#[]⟩, [p], [n]⟩]) [(n, n + 1), (n + 1, n)] hl;simp only [List.length_append, List.length_singleton] at this ⊢;omega
theorem gL_bd : ∀ (l : List Tre) (n : Nat) (L : List Tq) (ps : List (Nat × Nat)), okTl l → (gL l n L ps).1 + 2 * l.length ≤ n + 2 * szL l ∧ (gL l n L ps).2.length ≤ L.length + 2 * szL l
 | [], n, L, ps, _ => by rw [gL]; simp [szL]
 | t :: l, n, L, [], _ => by
  have := szL_len (t :: l);rw [gL]; simp only; omega
 | t :: l, n, L, pq :: ps, ho => by
  rw [okTl] at ho;have h1 := gT_bd t n L pq.1 pq.2 ho.1;have h2 := gL_bd l (gT t n L pq.1 pq.2).1 (gT t n L pq.1 pq.2).2 ps ho.2;rw [gL, szL, List.length_cons];omega
end
theorem andP_succ : ∀ (k n : Nat), andP n (k + 1) = andP n k ++ [(n + 2 * k, n + 2 * k + 1)]
 | 0, n => rfl
 | k + 1, n => by
  rw [andP, andP_succ k (n + 2), andP];simp only [List.cons_append];rw [show n + 2 + 2 * k = n + 2 * (k + 1) by omega]
theorem andP_get : ∀ (m n k : Nat), k < m → (andP n m)[k]? = some (n + 2 * k, n + 2 * k + 1)
 | 0, n, k, h => by omega
 | m + 1, n, 0, _ => rfl
 | m + 1, n, k + 1, h => by
  rw [andP, List.getElem?_cons_succ, andP_get m (n + 2) k (by omega)];rw [show n + 2 + 2 * k = n + 2 * (k + 1) by omega]
def PLs (n p q m : Nat) : List Nat := p :: (List.range' n (m - 1) ++ [q])
theorem PLs_len (n p q m : Nat) (h : 1 ≤ m) : (PLs n p q m).length = m + 1 := by unfold PLs; simp; omega
theorem seqP_get : ∀ (m n p q k : Nat), k < m → ∃ a b, (seqP n p q m)[k]? = some (a, b) ∧ (PLs n p q m)[k]? = some a ∧ (PLs n p q m)[k + 1]? = some b
 | 0, n, p, q, k, h => by omega
 | 1, n, p, q, k, h => by
  obtain rfl : k = 0 := by omega
  exact ⟨p, q, rfl, rfl, rfl⟩
 | m + 2, n, p, q, 0, h => ⟨p, n, rfl, rfl, rfl⟩
 | m + 2, n, p, q, k + 1, h => by
  obtain ⟨a, b, h1, h2, h3⟩ := seqP_get (m + 1) (n + 1) n q k (by omega);have e : PLs n p q (m + 2) = p :: PLs (n + 1) n q (m + 1) := by
   unfold PLs;rw [show m + 2 - 1 = m + 1 by omega, show m + 1 - 1 = m by omega, List.range'_succ, List.cons_append]
  exact ⟨a, b, by rw [seqP, List.getElem?_cons_succ]; exact h1, by rw [e, List.getElem?_cons_succ]; exact h2, by rw [e, List.getElem?_cons_succ]; exact h3⟩
theorem rng_succ (n k p : Nat) : nI (p :: List.range' n (k + 1)) = nI (p :: List.range' n k) ++ [((n + k : Nat) : Int)] := by
 unfold nI; rw [List.range'_concat]; simp
def ChI (w0 : World) (b : Nat) (l : List Tre) (ps : List (Nat × Nat)) (R : Nat × List Tq) (k : Nat) (wr : World) : Prop := ∃ (n : Nat) (T : List Tq), BdL w0 wr b n T ∧ gL (l.drop k) n T (ps.drop k) = R ∧ n + 2 * szL (l.drop k) + 2 ≤ 30000 + 2 * (l.length - k) ∧ T.length + 2 * szL (l.drop k) + 1 ≤ 30000
theorem ChI.start {w0 wr : World} {b : Nat} {l : List Tre} {ps : List (Nat × Nat)} {n : Nat} {T : List Tq} (h : BdL w0 wr b n T) (h1 : n + 2 * szL l + 2 ≤ 30000 + 2 * l.length) (h2 : T.length + 2 * szL l + 1 ≤ 30000) : ChI w0 b l ps (gL l n T ps) 0 wr :=
 ⟨n, T, h, by rw [List.drop_zero, List.drop_zero], by rw [List.drop_zero]; exact h1, by rw [List.drop_zero]; exact h2⟩
theorem ChI.bel {w0 wr : World} {b : Nat} {l : List Tre} {ps : List (Nat × Nat)} {R : Nat × List Tq} {k : Nat} (h : ChI w0 b l ps R k wr) : Below w0.heap.size w0 wr := by obtain ⟨_, _, h1, _⟩ := h; exact h1.bel
theorem ChI.step {w0 wr : World} {b : Nat} {l : List Tre} {ps : List (Nat × Nat)} {R : Nat × List Tq} {k : Nat} (h : ChI w0 b l ps R k wr) (hk : k < l.length) {x y : Nat} (hp : ps[k]? = some (x, y)) (ho : okTr l[k]) :
 ∃ (n : Nat) (T : List Tq), BdL w0 wr b n T ∧ n + 2 * szT l[k] ≤ 30000 ∧ T.length + 2 * szT l[k] ≤ 30000 ∧ ∀ w', BdL w0 w' b (gT l[k] n T x y).1 (gT l[k] n T x y).2 → ChI w0 b l ps R (k + 1) w' := by
 obtain ⟨n, T, h1, h2, h3, h4⟩ := h;have hd : l.drop k = l[k] :: l.drop (k + 1) := List.drop_eq_getElem_cons hk;obtain ⟨hk2, hp2⟩ := List.getElem?_eq_some_iff.1 hp;have hd2 : ps.drop k = (x, y) :: ps.drop (k + 1) := by rw [List.drop_eq_getElem_cons hk2, hp2]
 have hs := szL_len (l.drop (k + 1));have hb := gT_bd l[k] n T x y ho;rw [List.length_drop] at hs;rw [hd, szL] at h3 h4;rw [hd, hd2, gL] at h2;refine ⟨n, T, h1, by omega, by omega, fun w' hw => ⟨_, _, hw, h2, by omega, by omega⟩⟩
theorem ChI.done {w0 wr : World} {b : Nat} {l : List Tre} {ps : List (Nat × Nat)} {R : Nat × List Tq} {k : Nat} (h : ChI w0 b l ps R k wr) (hk : l.length ≤ k) : BdL w0 wr b R.1 R.2 := by
 obtain ⟨n, T, h1, h2, _⟩ := h;rw [List.drop_eq_nil_of_le hk, gL] at h2;subst h2;exact h1
def TePo (w0 : World) (b : Nat) (R : Nat × List Tq) (w : World) (e : Ending) (w' : World) : Prop := e = .returned (.tuple #[]) ∧ BdL w0 w' b R.1 R.2 ∧ KO b w w'
end
section
open Go.RowKit

theorem trInfo : (Tryz.prog.info? 42).map (fun i => (i.zero, i.size, i.bytes)) = some (some (.agg #[.string ⟨#[]⟩, .slice none 0 0, .slice none 0 0]), 3, 64) := by kernel_rfl
theorem bplace_any (w : World) (b n : Nat) (v : Value) (h : BBk w b n v) (hn : n ≤ 1000000) : Calls Tryz.prog 33 #[.pointer (some ⟨b, 0, none⟩)] w fun e w' => e = .returned (.int .i64 (n : Int)) ∧ w.grownBy w' (some b) ∧ BBk w' b (n + 1) v := by
 have f0 := h.soft 0;have HG := hid (Lib.grownBy_setB (grown_refl w (some b)) 0 (.int .i64 ((n + 1 : Nat) : Int)));have HK := hid (h.setN (n + 1));have e1 : ((n + 1 : Nat) : Int) = (n : Int) + 1 := by omega
 rw [e1] at HG HK;obtain ⟨c0, c1, c2, c3⟩ := h.cells;clear h e1;go_enter Tryz.func33, Tryz.ntmps33;go_wp2_with fail;go_ret;exact ⟨ret_int (by omega), HG.out, HK.out⟩
def AdPo (w0 : World) (b n : Nat) (T : List Tq) (w : World) (e : Ending) (w' : World) : Prop := e = .returned (.tuple #[]) ∧ BdL w0 w' b n T ∧ KO b w w'
theorem badd_any (w0 w : World) (b n : Nat) (T : List Tq) (t : Tq) (vi vo : Value) (h : BdL w0 w b n T) (hi : NS w0 w vi (nI t.i)) (ho : NS w0 w vo (nI t.o)) (hT : T.length ≤ 100000) (hlb : t.lb.size ≤ 9223372036854775807) :
 Calls Tryz.prog 32 #[.pointer (some ⟨b, 0, none⟩), .string t.lb, vi, vo] w (AdPo w0 b n (T ++ [t]) w) := by
 obtain ⟨v, hb, hb0, ⟨XL, x1, x2, x3, x4⟩, x5⟩ := h;obtain ⟨Ai, ci, rfl⟩ := hi.slice;obtain ⟨Ao, co, rfl⟩ := ho.slice;obtain ⟨Av, cv, rfl, _⟩ := row_slice x2;obtain ⟨c0, c1, c2, c3⟩ := hb.cells;obtain ⟨i0, hj, hz0, hz1, hz2⟩ := info_parts trInfo;have HI := hid (And.intro hj (And.intro hz0 (And.intro hz1 hz2)));clear hj hz0 hz1 hz2;have HB := hid hb;have HB0 := hid hb0;have HO := hid x2;have HX := hid (And.intro x1 (And.intro x3 (And.intro x4 (lbB.push x5 hlb))));have HNi := hid hi;have HNo := hid ho;generalize hli : (nI t.i).length = li at *;generalize hlo : (nI t.o).length = lo at *;clear hb hb0 x1 x2 x3 x4 x5 hi ho hlb hli hlo;go_enter Tryz.func32, Tryz.ntmps32;go_wp2_with (at_builtin; refine wpList_append_own _ rfl _ _ 28 rfl w0.heap.size 42 i0 (.agg #[.string ⟨#[]⟩, .slice none 0 0, .slice none 0 0]) 3 64 Tryz.underlying28 HI.out.1 HI.out.2.1 HI.out.2.2.1 HI.out.2.2.2 rfl (by decide) (.slice Av T.length cv) _ _ rfl (HO.out.alloc _) ⟨w.heap.size, 0, none⟩ 1 1 [.string t.lb, .slice Ai li ci, .slice Ao lo co] rfl rfl ?c1 ?c2 ?c3 ?c4 ?c5 ?_);case c1 => exact news_blk (heap_alloc_new w (.cells #[.string t.lb, .slice Ai li ci, .slice Ao lo co] 42))
 case c2 => intro u hu; simp at hu; rcases hu with rfl | rfl | rfl <;> rfl
 case c3 => unfold maxLen; omega
 case c4 => omega
 case c5 => have := HX.out.2.2.1.size; simp; omega
 intro v5 w5 hown hgrow _;obtain ⟨A5, c5, rfl, _⟩ := row_slice hown;have hbk := HB.out.app HO.out (by decide) hgrow;have HF := hid (OTq.push HX.out.1 HO.out HX.out.2.1 HX.out.2.2.1 (t := t) HNi.out HNo.out hown hgrow);have HKo := hid ((KO.app (b := b) HO.out hgrow).trans (KO.gb (Lib.grownBy_setB (grown_refl w5 (some b)) 1 (.slice A5 (T.length + 1) c5))));have HBk := hid hbk;obtain ⟨d0, d1, d2, d3⟩ := hbk.cells;have f1 := hbk.soft 1;clear hown hgrow hbk c0 c1 c2 c3;go_wp2_with fail
 go_end0
 exact ⟨rfl, ⟨_, HBk.out.setV _, HB0.out, HF.out.box HBk.out (by decide) (by decide) HB0.out _, HX.out.2.2.2⟩, HKo.out⟩
end
end Go.Proofs.YtpiihmbeedlpkaaGreatDoor
