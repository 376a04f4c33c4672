/- The net of a tree is a workflow net: plain. The net of a tree as the program builds it, which stops where it grows too great; a tree in memory: plain. Transitions of one's own, as the builder adds them: in memory. What Sound and Relaxed answer at the net of a tree: plain. -/
import Derived.Test.YtpiihmbeedlpkaaGreatDoorPUu
import Derived.Test.YtpiihmbeedlpkaaGreatDoorPUd
import Derived.Test.YtpiihmbeedlpkaaGreatDoorPHc
import Derived.Test.YtpiihmbeedlpkaaGreatDoorPAf
import Derived.Test.YtpiihmbeedlpkaaGreatDoorPTz
namespace Go.Proofs.YtpiihmbeedlpkaaGreatDoor
section
open Go.RowKit

theorem hasB_no {l : List Nat} {p : Nat} (h : p ∉ l) : hasB (nI l) ((p : Nat) : Int) = false := by
 unfold hasB;rw [List.any_eq_false];intro y hy e;have e2 : y = (p : Int) := of_decide_eq_true e;rw [e2] at hy;exact h (mem_nI.1 hy)
section
variable {N : Nt} {T : List Tq} {n' : Nat}
theorem BNet.tmem (B : BNet N T n') {u : Tn} (h : u ∈ T.map Tq.tn) : ∃ t : Tq, u = t.tn ∧ t.tr ∈ N.tr := by
 obtain ⟨t, ht, rfl⟩ := List.mem_map.1 h;exact ⟨t, rfl, by rw [B.tr]; exact List.mem_map.2 ⟨t, ht, rfl⟩⟩
theorem BNet.fwd (B : BNet N T n') {m : Nat → Nat} (h : Rr (T.map Tq.tn) (cn [0]) m) : ∀ x, 0 < m x → Rch N false 0 x := by
 induction h with
 | refl => intro x hx; rw [cn_one hx]; exact .start
 | @step m1 u hu _ he ih =>
  intro x hx;obtain ⟨y, hy⟩ := B.bc.ne u hu;obtain ⟨t, rfl, ht⟩ := B.tmem hu;by_cases hxo : x ∈ t.tn.o
  · exact .step t.tr y x ht (mem_nI.2 hy) (ih y (he y hy)) (mem_nI.2 hxo)
  · refine ih x ?_;have h1 : fi t.tn m1 x = m1 x - cn t.tn.i x + cn t.tn.o x := rfl;have h2 : cn t.tn.o x = 0 := List.count_eq_zero.2 hxo;rw [h1] at hx;omega
theorem BNet.bwd (B : BNet N T n') {m m' : Nat → Nat} (h : Rr (T.map Tq.tn) m m') : (∀ x, 0 < m' x → Rch N true 1 x) → ∀ x, 0 < m x → Rch N true 1 x := by
 induction h with
 | refl => exact id
 | @step m1 u hu _ he ih =>
  intro hp;refine ih (fun x hx => ?_);obtain ⟨y, hy⟩ := B.bc.oe u hu;obtain ⟨t, rfl, ht⟩ := B.tmem hu;have h1 : ∀ z, fi t.tn m1 z = m1 z - cn t.tn.i z + cn t.tn.o z := fun z => rfl
  by_cases hxi : x ∈ t.tn.i
  · have h2 := cn_mem.2 hy;exact .step t.tr y x ht (mem_nI.2 hy) (hp y (by rw [h1]; omega)) (mem_nI.2 hxi)
  · have h2 : cn t.tn.i x = 0 := List.count_eq_zero.2 hxi;exact hp x (by rw [h1]; omega)
theorem BNet.end_ (B : BNet N T n') {m : Nat → Nat} (h : Rr (T.map Tq.tn) (cn [0]) m) : ∀ x, 0 < m x → Rch N true 1 x :=
 B.bwd (B.bc.comp m h) (fun x hx => by rw [cn_one hx]; exact .start)
theorem BNet.some_ (B : BNet N T n') {x : Nat} (hx : x < n') : ∃ m, Rr (T.map Tq.tn) (cn [0]) m ∧ 0 < m x := by
 by_cases h1 : x = 1
 · subst h1; exact ⟨_, B.bc.way, by rw [cn_self]; decide⟩
 · obtain ⟨t, ht, hxt⟩ := B.bc.use x (by
    by_cases h0 : x = 0
    · exact .inl h0
    · exact .inr ((mem_rng B.hn).2 ⟨by omega, hx⟩))
   obtain ⟨m, hm, he⟩ := B.bc.live t ht;exact ⟨m, hm, he x hxt⟩
theorem BNet.wf (B : BNet N T n') : wfP N := by
 refine ⟨by rw [B.src, B.snk]; decide, ?_, ⟨?_, ?_⟩, ?_, ?_⟩
 · rw [List.all_eq_true];intro t ht;rw [B.tr] at ht;obtain ⟨u, hu, rfl⟩ := List.mem_map.1 ht;have hu2 : u.tn ∈ T.map Tq.tn := List.mem_map.2 ⟨u, hu, rfl⟩;have h0 : hasB u.tr.o 0 = false := hasB_no (l := u.o) (p := 0) (fun h => by
    rcases B.bc.out u.tn hu2 0 h with e | e
    · exact absurd e (by decide)
    · exact B.bc.pI e)
   have h1 : hasB u.tr.i 1 = false := hasB_no (l := u.i) (p := 1) (fun h => by
    rcases B.bc.ins u.tn hu2 1 h with e | e
    · exact absurd e (by decide)
    · exact B.bc.qI e)
   unfold edgB;rw [B.src, B.snk, h0, h1]; rfl
 · intro x hx;rw [B.src];obtain ⟨m, hm, h1⟩ := B.some_ (x := x) (by rw [B.pl] at hx; omega);exact B.fwd hm x h1
 · intro t ht;rw [B.src];rw [B.tr] at ht;obtain ⟨u, hu, rfl⟩ := List.mem_map.1 ht;have hu2 : u.tn ∈ T.map Tq.tn := List.mem_map.2 ⟨u, hu, rfl⟩;obtain ⟨x, hx⟩ := B.bc.ne u.tn hu2;obtain ⟨m, hm, he⟩ := B.bc.live u.tn hu2;exact ⟨x, mem_nI.2 hx, B.fwd hm x (he x hx)⟩
 · intro x hx;rw [B.snk];obtain ⟨m, hm, h1⟩ := B.some_ (x := x) (by rw [B.pl] at hx; omega);exact B.end_ hm x h1
 · intro t ht;rw [B.snk];rw [B.tr] at ht;obtain ⟨u, hu, rfl⟩ := List.mem_map.1 ht;have hu2 : u.tn ∈ T.map Tq.tn := List.mem_map.2 ⟨u, hu, rfl⟩;obtain ⟨x, hx⟩ := B.bc.oe u.tn hu2;obtain ⟨m, hm, he⟩ := B.bc.live u.tn hu2;have h2 := cn_mem.2 hx;have h3 : fi u.tn m x = m x - cn u.tn.i x + cn u.tn.o x := rfl;exact ⟨x, mem_nI.2 hx, B.end_ (.step _ hu2 hm he) x (by rw [h3]; omega)⟩
end
def trN (t : Tre) : Nt := ⟨((bT t 2 0 1).1 : Int), (bT t 2 0 1).2.map Tq.tr, 0, 1⟩
theorem trN_net {t : Tre} (h : okTr t) (hv : ntB (trN t) = true) : BNet (trN t) (bT t 2 0 1).2 (bT t 2 0 1).1 := by
 obtain ⟨h1, h2⟩ := bT_bc t 2 0 1 h (by decide) (by decide) (by decide);exact ⟨rfl, rfl, rfl, rfl, hv, h2, h1⟩
end
section
open Go.RowKit

mutual
def gT : Tre → Nat → List Tq → Nat → Nat → Nat × List Tq
 | .mk op act l, n, L, p, q =>
  if 60 < L.length ∨ 40 < n then (n, L)
  else if op = 1 ∨ op = 2 then (n, L ++ [⟨act, [p], [q]⟩])
  else if op = 3 then gL l (n + (l.length - 1)) L (seqP n p q l.length)
  else if op = 4 then gL l n L (List.replicate l.length (p, q))
  else if op = 5 then ((gL l (n + 2 * l.length) (L ++ [⟨⟨#[]⟩, [p], (andP n l.length).map Prod.fst⟩]) (andP n l.length)).1, (gL l (n + 2 * l.length) (L ++ [⟨⟨#[]⟩, [p], (andP n l.length).map Prod.fst⟩]) (andP n l.length)).2 ++ [⟨⟨#[]⟩, (andP n l.length).map Prod.snd, [q]⟩])
  else ((gL l (n + 2) (L ++ [⟨⟨#[]⟩, [p], [n]⟩]) [(n, n + 1), (n + 1, n)]).1, (gL l (n + 2) (L ++ [⟨⟨#[]⟩, [p], [n]⟩]) [(n, n + 1), (n + 1, n)]).2 ++ [⟨⟨#[]⟩, [n + 1], [q]⟩])
def gL : List Tre → Nat → List Tq → List (Nat × Nat) → Nat × List Tq
 | [], n, L, _ => (n, L)
 | _ :: _, n, L, [] => (n, L)
 | t :: l, n, L, pq :: ps => gL l (gT t n L pq.1 pq.2).1 (gT t n L pq.1 pq.2).2 ps
end
mutual
theorem gT_mono : ∀ (t : Tre) (n : Nat) (L : List Tq) (p q : Nat), n ≤ (gT t n L p q).1 ∧ L.length ≤ (gT t n L p q).2.length
 | .mk op act l, n, L, p, q => by
  rw [gT];by_cases h0 : 60 < L.length ∨ 40 < n
  · rw [if_pos h0]; exact ⟨Nat.le_refl _, Nat.le_refl _⟩
  rw [if_neg h0];by_cases h1 : op = 1 ∨ op = 2
  · rw [if_pos h1]; exact ⟨Nat.le_refl _, by simp⟩
  rw [if_neg h1];by_cases h3 : op = 3
  · rw [if_pos h3];have := gL_mono l (n + (l.length - 1)) L (seqP n p q l.length);exact ⟨by omega, this.2⟩
  rw [if_neg h3];by_cases h4 : op = 4
  · rw [if_pos h4]; exact gL_mono l n L (List.replicate l.length (p, q))
  rw [if_neg h4];by_cases h5 : op = 5
  · rw [if_pos h5];have := gL_mono l (n + 2 * l.length) (L ++ [⟨⟨#[]⟩, [p], (andP n l.length).map Prod.fst⟩]) (andP n l.length);rw [List.length_append, List.length_singleton] at this;refine ⟨by simp only; omega, ?_⟩;simp only [List.length_append, List.length_singleton]; omega
  rw [if_neg h5];have := gL_mono l (n + 2) (L ++ [⟨⟨#[]⟩, [p], [n]⟩]) [(n, n + 1), (n + 1, n)];rw [List.length_append, List.length_singleton] at this;refine ⟨by simp only; omega, ?_⟩;simp only [List.length_append, List.length_singleton]; omega
theorem gL_mono : ∀ (l : List Tre) (n : Nat) (L : List Tq) (ps : List (Nat × Nat)), n ≤ (gL l n L ps).1 ∧ L.length ≤ (gL l n L ps).2.length
 | [], n, L, ps => by rw [gL]; exact ⟨Nat.le_refl _, Nat.le_refl _⟩
 | t :: l, n, L, [] => by rw [gL]; exact ⟨Nat.le_refl _, Nat.le_refl _⟩
 | t :: l, n, L, pq :: ps => by
  rw [gL];have h1 := gT_mono t n L pq.1 pq.2;have h2 := gL_mono l (gT t n L pq.1 pq.2).1 (gT t n L pq.1 pq.2).2 ps;omega
end
mutual
theorem gT_eq : ∀ (t : Tre) (n : Nat) (L : List Tq) (p q : Nat), okTr t → (gT t n L p q).1 ≤ 40 → (gT t n L p q).2.length ≤ 60 → gT t n L p q = ((bT t n p q).1, L ++ (bT t n p q).2)
 | .mk op act l, n, L, p, q, ho, h40, h60 => by
  have hm := gT_mono (.mk op act l) n L p q;have h0 : ¬ (60 < L.length ∨ 40 < n) := by omega
  rw [okTr] at ho;obtain ⟨hr, hl⟩ := ho;rw [gT, if_neg h0] at h40 h60 ⊢;rw [bT];by_cases h1 : op = 1 ∨ op = 2
  · rw [if_pos h1, if_pos h1]
  rw [if_neg h1] at h40 h60 ⊢;rw [if_neg h1];by_cases h3 : op = 3
  · rw [if_pos h3] at h40 h60 ⊢;rw [if_pos h3];exact gL_eq l _ L _ hl (seqP_len _ _ _ _).symm h40 h60
  rw [if_neg h3] at h40 h60 ⊢;rw [if_neg h3];by_cases h4 : op = 4
  · rw [if_pos h4] at h40 h60 ⊢;rw [if_pos h4];exact gL_eq l _ L _ hl (by simp) h40 h60
  rw [if_neg h4] at h40 h60 ⊢;rw [if_neg h4];by_cases h5 : op = 5
  · rw [if_pos h5] at h40 h60 ⊢;rw [if_pos h5];simp only [List.length_append, List.length_singleton] at h40 h60;have := gL_eq l (n + 2 * l.length) (L ++ [⟨⟨#[]⟩, [p], (andP n l.length).map Prod.fst⟩]) (andP n l.length) hl (andP_len _ _).symm h40 (by omega);rw [this];simp
  rw [if_neg h5] at h40 h60 ⊢;rw [if_neg h5];have hk : l.length = 2 := by unfold rgt at hr; omega
  simp only [List.length_append, List.length_singleton] at h40 h60;have := gL_eq l (n + 2) (L ++ [⟨⟨#[]⟩, [p], [n]⟩]) [(n, n + 1), (n + 1, n)] hl hk h40 (by omega);rw [this];simp
theorem gL_eq : ∀ (l : List Tre) (n : Nat) (L : List Tq) (ps : List (Nat × Nat)), okTl l → l.length = ps.length → (gL l n L ps).1 ≤ 40 → (gL l n L ps).2.length ≤ 60 → gL l n L ps = ((bL l n ps).1, L ++ (bL l n ps).2)
 | [], n, L, ps, _, _, _, _ => by rw [gL, bL]; simp
 | t :: l, n, L, [], _, hl, _, _ => by simp at hl
 | t :: l, n, L, pq :: ps, ho, hl, h40, h60 => by
  rw [okTl] at ho;rw [gL] at h40 h60 ⊢;have hm := gL_mono l (gT t n L pq.1 pq.2).1 (gT t n L pq.1 pq.2).2 ps;have h1 := gT_eq t n L pq.1 pq.2 ho.1 (by omega) (by omega);have h2 := gL_eq l (gT t n L pq.1 pq.2).1 (gT t n L pq.1 pq.2).2 ps ho.2 (by simpa using hl) h40 h60;rw [h2, h1, bL];simp
end
mutual
def TrM (w : World) : Tre → Value → Value → Value → Prop
 | .mk op act l, c0, c1, c2 => c0 = .int .i64 op ∧ c1 = .string act ∧ (-9223372036854775808 ≤ op ∧ op ≤ 9223372036854775807) ∧ act.size ≤ 9223372036854775807 ∧ ∃ A n c, c2 = .slice A n c ∧ l.length = n ∧ n ≤ c ∧ c ≤ 9223372036854775807 ∧ TlM w l A 0
def TlM (w : World) : List Tre → Option Addr → Nat → Prop
 | [], _, _ => True
 | t :: l, A, i => (∃ ad c0 c1 c2, A = some ad ∧ (ad.add (i * 3)).block < w.heap.size ∧ w.cell? (ad.add (i * 3)) = some c0 ∧ w.cell? ⟨(ad.add (i * 3)).block, (ad.add (i * 3)).off + 1, none⟩ = some c1 ∧ w.cell? ⟨(ad.add (i * 3)).block, (ad.add (i * 3)).off + 1 + 1, none⟩ = some c2 ∧ TrM w t c0 c1 c2) ∧ TlM w l A (i + 1)
end
mutual
theorem TrM.below {w w' : World} (hb : Below w.heap.size w w') : ∀ (t : Tre) (c0 c1 c2 : Value), TrM w t c0 c1 c2 → TrM w' t c0 c1 c2
 | .mk op act l, c0, c1, c2, h => by
  rw [TrM] at h ⊢;obtain ⟨h0, h1, h2, h3, A, n, c, h4, h5, h6, h7, h8⟩ := h;exact ⟨h0, h1, h2, h3, A, n, c, h4, h5, h6, h7, TlM.below hb l A 0 h8⟩
theorem TlM.below {w w' : World} (hb : Below w.heap.size w w') : ∀ (l : List Tre) (A : Option Addr) (i : Nat), TlM w l A i → TlM w' l A i
 | [], _, _, _ => by rw [TlM]; trivial
 | t :: l, A, i, h => by
  rw [TlM] at h ⊢;obtain ⟨⟨ad, c0, c1, c2, e, hp, g0, g1, g2, ht⟩, hl⟩ := h;exact ⟨⟨ad, c0, c1, c2, e, Nat.lt_of_lt_of_le hp hb.size, cell_stays hb g0, cell_stays hb g1, cell_stays hb g2, TrM.below hb t c0 c1 c2 ht⟩, TlM.below hb l A (i + 1) hl⟩
end
theorem TlM.at_ {w : World} : ∀ (l : List Tre) (A : Option Addr) (i : Nat), TlM w l A i → ∀ k (hk : k < l.length), ∃ ad c0 c1 c2, A = some ad ∧ (ad.add ((i + k) * 3)).block < w.heap.size ∧ w.cell? (ad.add ((i + k) * 3)) = some c0 ∧ w.cell? ⟨(ad.add ((i + k) * 3)).block, (ad.add ((i + k) * 3)).off + 1, none⟩ = some c1 ∧ w.cell? ⟨(ad.add ((i + k) * 3)).block, (ad.add ((i + k) * 3)).off + 1 + 1, none⟩ = some c2 ∧ TrM w l[k] c0 c1 c2
 | [], _, _, _, k, hk => by simp at hk
 | t :: l, A, i, h, 0, _ => by rw [TlM] at h; exact h.1
 | t :: l, A, i, h, k + 1, hk => by
  rw [TlM] at h;have := TlM.at_ l A (i + 1) h.2 k (by simpa using hk);rw [show i + (k + 1) = i + 1 + k by omega];simpa using this
theorem TlM.of {w : World} {A : Option Addr} : ∀ (l : List Tre) (i : Nat), (∀ k (hk : k < l.length), ∃ ad c0 c1 c2, A = some ad ∧ (ad.add ((i + k) * 3)).block < w.heap.size ∧ w.cell? (ad.add ((i + k) * 3)) = some c0 ∧ w.cell? ⟨(ad.add ((i + k) * 3)).block, (ad.add ((i + k) * 3)).off + 1, none⟩ = some c1 ∧ w.cell? ⟨(ad.add ((i + k) * 3)).block, (ad.add ((i + k) * 3)).off + 1 + 1, none⟩ = some c2 ∧ TrM w l[k] c0 c1 c2) → TlM w l A i
 | [], _, _ => by rw [TlM]; trivial
 | t :: l, i, h => by
  rw [TlM];refine ⟨h 0 (by simp), TlM.of l (i + 1) (fun k hk => ?_)⟩;have := h (k + 1) (by simpa using hk);rw [show i + (k + 1) = i + 1 + k by omega] at this;simpa using this
mutual
def szT : Tre → Nat
 | .mk _ _ l => 1 + szL l
def szL : List Tre → Nat
 | [] => 0
 | t :: l => szT t + szL l
end
theorem szT_pos (t : Tre) : 1 ≤ szT t := by cases t; rw [szT]; omega
theorem sz_at : ∀ (l : List Tre) (k : Nat) (hk : k < l.length), szT l[k] ≤ szL l
 | [], k, hk => by simp at hk
 | t :: l, 0, _ => by rw [szL]; exact Nat.le_add_right _ _
 | t :: l, k + 1, hk => by rw [szL]; have := sz_at l k (by simpa using hk); simp only [List.getElem_cons_succ]; omega
theorem okTl_iff : ∀ l : List Tre, okTl l ↔ ∀ t ∈ l, okTr t
 | [] => by rw [okTl]; simp
 | t :: l => by rw [okTl, okTl_iff l]; simp
end
section
open Go.RowKit

def tvC (x : Tq × Value × Value) : List Value := [.string x.1.lb, x.2.1, x.2.2]
theorem tvC_len (x : Tq × Value × Value) : (tvC x).length = 3 := rfl
def OTq (w0 w : World) (v : Value) (T : List Tq) : Prop :=
 ∃ XL : List (Tq × Value × Value), XL.map Prod.fst = T ∧ w.ownsRow w0.heap.size 42 3 v T.length (XL.flatMap tvC) ∧ (∀ x ∈ XL, NS w0 w x.2.1 (nI x.1.i) ∧ NS w0 w x.2.2 (nI x.1.o)) ∧ Below w0.heap.size w0 w
theorem OTq.start {w0 w : World} (hb : Below w0.heap.size w0 w) : OTq w0 w (.slice none 0 0) [] := ⟨[], rfl, World.ownsRow_nil _ _ _ _, fun x hx => by simp at hx, hb⟩
theorem OTq.bel {w0 w : World} {v : Value} {T : List Tq} (h : OTq w0 w v T) : Below w0.heap.size w0 w := by obtain ⟨_, _, _, _, h4⟩ := h; exact h4
theorem OTq.below {w0 w w' : World} {v : Value} {T : List Tq} (h : OTq w0 w v T) (hb : Below w.heap.size w w') : OTq w0 w' v T := by
 obtain ⟨XL, h1, h2, h3, h4⟩ := h;exact ⟨XL, h1, own_stays h2 hb, fun x hx => ⟨(h3 x hx).1.below hb, (h3 x hx).2.below hb⟩, below_then h4 hb⟩
theorem OTq.slice {w0 w : World} {v : Value} {T : List Tq} (h : OTq w0 w v T) : ∃ A c, v = .slice A T.length c := by
 obtain ⟨XL, h1, h2, h3, h4⟩ := h;obtain ⟨A, c, e, _⟩ := row_slice h2;exact ⟨A, c, e⟩
theorem OTq.push {w0 w w' : World} {v v' : Value} {T : List Tq} {XL : List (Tq × Value × Value)} (h1 : XL.map Prod.fst = T) (h2 : w.ownsRow w0.heap.size 42 3 v T.length (XL.flatMap tvC)) (h3 : ∀ x ∈ XL, NS w0 w x.2.1 (nI x.1.i) ∧ NS w0 w x.2.2 (nI x.1.o)) (h4 : Below w0.heap.size w0 w)
 {o : Obj} {t : Tq} {vi vo : Value} (hi : NS w0 w vi (nI t.i)) (ho : NS w0 w vo (nI t.o)) (hr : w'.ownsRow w0.heap.size 42 3 v' (T.length + 1) (XL.flatMap tvC ++ [.string t.lb, vi, vo])) (hg : (w.alloc o).grownBy w' v.ownBlock) : OTq w0 w' v' (T ++ [t]) := by
 have hb5 : ∀ k, v.ownBlock = some k → w0.heap.size ≤ k := fun k hk => (h2.lt k hk).1
 have hkeep : ∀ (x : Value) (L : List Int), NS w0 w x L → NS w0 w' x L := fun x L hn =>
  (hn.below (below_alloc w o)).kept hg (own_apart (hn.below (below_alloc w o)).1 (h2.alloc o) (by decide)) hb5
 refine ⟨XL ++ [(t, vi, vo)], by rw [List.map_append, h1]; rfl, ?_, fun x hx => ?_, (h4.alloc h4.size o).grown hg (by have := h4.size; simp; omega) hb5⟩
 · rw [List.length_append, List.flatMap_append];simpa [tvC] using hr
 · rcases List.mem_append.1 hx with e | e
   · exact ⟨hkeep _ _ (h3 x e).1, hkeep _ _ (h3 x e).2⟩
   · have := List.mem_singleton.1 e;subst this;exact ⟨hkeep _ _ hi, hkeep _ _ ho⟩
theorem OTq.box {w0 w : World} {v : Value} {T : List Tq} (h : OTq w0 w v T) {b o : Nat} {cs : Array Value} {U : TypeId} (hb : w.heap[b]? = some (.cells cs U (0, 0))) (h1 : 42 ≠ U) (h2 : 3 ≠ U) (h3 : w0.heap.size ≤ b) (u : Value) : OTq w0 (w.setCell ⟨b, o, none⟩ u) v T := by
 obtain ⟨XL, g1, g2, g3, g4⟩ := h;have hg : w.grownBy (w.setCell ⟨b, o, none⟩ u) (some b) := Lib.grownBy_setB (grown_refl w (some b)) o u;exact ⟨XL, g1, g2.kept hg (own_other g2 hb h1), fun x hx => ⟨ns_box (g3 x hx).1 hb h2 h3 u, ns_box (g3 x hx).2 hb h2 h3 u⟩, g4.grown hg g4.size (fun k hk => by cases hk; exact h3)⟩
theorem OTq.up {w w0 w1 : World} {v : Value} {T : List Tq} (hb : Below w.heap.size w w0) (h : OTq w0 w1 v T) : OTq w w1 v T := by
 obtain ⟨XL, g1, g2, g3, g4⟩ := h;exact ⟨XL, g1, own_up hb g2, fun x hx => ⟨NS.up hb (g3 x hx).1, NS.up hb (g3 x hx).2⟩, below_then hb g4⟩
theorem OTq.tin {w0 w : World} {v : Value} {T : List Tq} (h : OTq w0 w v T) : ∃ A c, v = .slice A T.length c ∧ TIn w A (T.map Tq.tr) ∧ T.length ≤ c ∧ c ≤ 9223372036854775807 := by
 obtain ⟨XL, g1, g2, g3, g4⟩ := h;have hlx : XL.length = T.length := by rw [← g1, List.length_map]
 rw [← hlx] at g2;obtain ⟨A, c, e, _, hc1, hc2, hr, _⟩ := own_rd tvC_len (by decide) g2;rw [hlx] at e hc1;refine ⟨A, c, e, fun i hi => ?_, hc1, hc2⟩;have hix : i < XL.length := by rw [List.length_map] at hi; omega
 have hiT : i < T.length := by rw [List.length_map] at hi; exact hi
 obtain ⟨ad, ea, hp, hu⟩ := hr i hix;have hx1 : XL[i].1 = T[i] := by
  have : (XL.map Prod.fst)[i]? = T[i]? := by rw [g1]
  rw [List.getElem?_map, List.getElem?_eq_getElem hix, List.getElem?_eq_getElem hiT] at this;exact Option.some.inj this
 have h0 := hu 0 _ (by omega) rfl;have h1 := hu 1 _ (by omega) rfl;have h2 := hu 2 _ (by omega) rfl;rw [add_at _ _ _ (by omega)] at h1 h2;obtain ⟨n1, n2⟩ := g3 _ (List.getElem_mem hix);rw [hx1] at n1 n2;refine ⟨ad, ea, hp, ?_⟩;rw [List.getElem_map];exact ⟨by rw [show (T[i].tr).lb = XL[i].1.lb by rw [hx1]; rfl]; exact h0, ⟨_, h1, n1.sl⟩, _, h2, n2.sl⟩
end
section
open Go.RowKit

def CtCl (v : Value) (k : Int) : Prop := ∃ (cn : Int) (Ar : Option Addr) (nr cr : Nat) (Ap : Option Addr) (np cp : Nat) (Ak : Option Addr) (nk ck : Nat) (Av : Option Addr) (nv cv : Nat) (As : Option Addr) (ns cs : Nat) (Aw : Option Addr) (nw cw : Nat), v = .agg #[.int .i64 k, .int .i64 cn, .slice Ar nr cr, .slice Ap np cp, .slice Ak nk ck, .slice Av nv cv, .slice As ns cs, .slice Aw nw cw]
theorem CtOf.cl {w : World} {v : Value} {Q : Int → Int → List Int → List Int → List (List Int) → List Mv → List (List Int) → List (List Int) → Prop} {k : Int} (h : CtOf w v Q) (hk : ∀ cl cn R P K V S X, Q cl cn R P K V S X → cl = k) : CtCl v k := by
 obtain ⟨cl, cn, Ar, nr, cr, R, Ap, np, cp, P, Ak, nk, ck, K, Av, nv, cv, V, As, ns, cs, S, Aw, nw, cw, X, rfl, _, hq⟩ := h;have := hk _ _ _ _ _ _ _ _ hq;subst this;exact ⟨_, _, _, _, _, _, _, _, _, _, _, _, _, _, _, _, _, _, _, rfl⟩
theorem tree_flt {t : Tre} (ho : okTr t) (hv : ntB (trN t) = true) : FltK (trN t) true 400 0 :=
 .inr (.inr (.inr ⟨hv, fun _ => (trN_net ho hv).wf, by decide, rfl⟩))
def StPo (w : World) (e : Ending) (w' : World) : Prop := ((∃ v, e = .returned (.tuple #[.bool true, v, .int .i64 0]) ∧ CtCl v 1) ∨ e = .returned (.tuple #[.bool false, zCt, .int .i64 13])) ∧ Below w.heap.size w w'
theorem tree_sound {t : Tre} (ho : okTr t) (hv : ntB (trN t) = true) {w w' : World} {e : Ending} (h : SoPo (trN t) 400 w e w') : StPo w e w' := by
 have hF := tree_flt ho hv;have B := trN_net ho hv;obtain ⟨hb, h⟩ := h;refine ⟨?_, hb⟩;rcases h with ⟨k, rfl, hk, hc⟩ | ⟨T, r, v, rfl, hT, hr, hc⟩
 · rcases hc with h1 | ⟨_, _, h1⟩
   · exact absurd (h1.uniq hF) hk
   · subst h1; exact .inr rfl
 · have hg := hT.grf;have hno := B.noO hg.gr;have hn := noO_of hg.gr hno;have h0 := B.sound hno (hg.gr.mvf hn) (hg.gr.mvc hn) (hg.gr.st hn) hg.gr.i.one hg.ld hr;subst h0;exact .inl ⟨v, rfl, hc.cl (fun _ _ _ _ _ _ _ _ h => by rw [h.1]; rfl)⟩
def RtPo (w : World) (e : Ending) (w' : World) : Prop := ((∃ v, e = .returned (.tuple #[.bool true, v, .int .i64 0]) ∧ CtCl v 3) ∨ e = .returned (.tuple #[.bool false, zCt, .int .i64 13])) ∧ Below w.heap.size w w'
theorem tree_relax {t : Tre} (ho : okTr t) (hv : ntB (trN t) = true) {w w' : World} {e : Ending} (h : RlxPo (trN t) 400 w e w') : RtPo w e w' := by
 have hF := tree_flt ho hv;have B := trN_net ho hv;obtain ⟨hb, h⟩ := h;refine ⟨?_, hb⟩;rcases h with ⟨k, rfl, h1, hk⟩ | ⟨_, rfl, _⟩ | ⟨_, E, q, v, hE, hfl, rfl, hq, hc⟩
 · exact absurd (h1.uniq hF) hk
 · exact .inr rfl
 · have hS := exT_spc (one_mk hv _) (by decide) hE;have hq1 : q = true := hq.2 (B.relax (hS.full hfl) hS.mks hS.one);subst hq1;exact .inl ⟨v, rfl, hc.cl (fun _ _ _ _ _ _ _ _ h => by rw [h.1]; rfl)⟩
end
end Go.Proofs.YtpiihmbeedlpkaaGreatDoor
