/- The coverability tree: what holds of it all the time. -/
import Derived.Test.YtpiihmbeedlpkaaGreatDoorPUu
import Derived.Test.YtpiihmbeedlpkaaGreatDoorPCd
namespace Go.Proofs.YtpiihmbeedlpkaaGreatDoor

theorem up_pre (N L : List Nd) : ∀ (f a : Nat) (u : Up), a < N.length → (∀ (j : Nat) (d : Nd), N[j]? = some d → d.ab < (j : Int)) → upAll (N ++ L) f (a : Int) u = upAll N f (a : Int) u := by
 intro f
 induction f with
 | zero => intros; rfl
 | succ f ih =>
  intro a u ha hN;unfold upAll;rw [if_neg (by omega), if_neg (by omega)];have e : (N ++ L)[((a : Int)).toNat]? = N[((a : Int)).toNat]? := by rw [List.getElem?_append_left (by simpa using ha)]
  rw [e];simp only [Int.toNat_natCast, List.getElem?_eq_getElem ha];have hlt := hN a _ (List.getElem?_eq_getElem ha);rcases Int.lt_or_le (N[a]).ab 0 with h0 | h0
  · cases f with
    | zero => rfl
    | succ f => unfold upAll; rw [if_pos h0, if_pos h0]
  · obtain ⟨b, hb⟩ := Int.eq_ofNat_of_zero_le h0;rw [hb] at hlt ⊢;exact ih b _ (by omega) hN
structure TInv (N : Nt) (m : List Int) (T : TS) : Prop where
 root : T.nodes[0]? = some ⟨m, m, -1, -1, 0, -1, true, false⟩
 one : T.states[0]? = some m
 st : ∀ (j : Nat) (d : Nd), T.nodes[j]? = some d → T.states[d.st]? = some d.ms
 par : ∀ (j : Nat) (d : Nd), T.nodes[j]? = some d → 0 < j → ∃ (i k : Nat) (e : Nd) (t : Tr), i < j ∧ d.ab = ((i : Nat) : Int) ∧ d.tr = ((k : Nat) : Int) ∧ T.nodes[i]? = some e ∧ e.nw = true ∧ N.tr[k]? = some t ∧ canT t e.ms = true ∧ d.pn = fireT t e.ms ∧ bigM d.pn = false ∧ upAll T.nodes (i + 1) i ⟨d.pn, -1, false⟩ = ⟨d.ms, d.gr, d.om⟩
 own : ∀ s, s < T.states.length → ∃ (j : Nat) (d : Nd), T.nodes[j]? = some d ∧ d.nw = true ∧ d.st = s
 asc : ∀ (i j : Nat) (d e : Nd), i < j → T.nodes[i]? = some d → T.nodes[j]? = some e → d.nw = true → e.nw = true → d.st < e.st
 nod : ∀ (i j : Nat) (s : List Int), T.states[i]? = some s → T.states[j]? = some s → i = j
 len : T.nodes.length ≤ 20001
 cnt : T.states.length ≤ T.nodes.length
theorem TInv.ab {N : Nt} {m : List Int} {T : TS} (h : TInv N m T) : ∀ (j : Nat) (d : Nd), T.nodes[j]? = some d → d.ab < (j : Int) := by
 intro j d hd;rcases Nat.eq_zero_or_pos j with h0 | h0
 · subst h0;rw [h.root] at hd; cases hd; show (-1 : Int) < 0; omega
 · obtain ⟨i, k, e, t, hij, ha, _⟩ := h.par j d hd h0;omega
def TPre (T T' : TS) : Prop := (∃ L, T'.nodes = T.nodes ++ L) ∧ ∃ L, T'.states = T.states ++ L
theorem TPre.refl (T : TS) : TPre T T := ⟨⟨[], by simp⟩, ⟨[], by simp⟩⟩
theorem TPre.trans {A B C : TS} (h : TPre A B) (k : TPre B C) : TPre A C := by
 obtain ⟨⟨L, h1⟩, M, h2⟩ := h;obtain ⟨⟨L', k1⟩, M', k2⟩ := k;exact ⟨⟨L ++ L', by rw [k1, h1, List.append_assoc]⟩, M ++ M', by rw [k2, h2, List.append_assoc]⟩
theorem TPre.node {A B : TS} (h : TPre A B) {j : Nat} {d : Nd} (hd : A.nodes[j]? = some d) : B.nodes[j]? = some d := by
 obtain ⟨⟨L, h1⟩, _⟩ := h;rw [h1, List.getElem?_append_left (List.getElem?_eq_some_iff.1 hd).1]; exact hd
theorem findIdx_lt_spec (l : List (List Int)) (m : List Int) (h : (l.findIdx fun s => decide (s = m)) ≠ l.length) : l[l.findIdx fun s => decide (s = m)]? = some m := by
 have hlt : (l.findIdx fun s => decide (s = m)) < l.length := by
  have := List.findIdx_le_length (xs := l) (p := fun s => decide (s = m)); omega
 rw [List.getElem?_eq_getElem hlt];have := List.findIdx_getElem (w := hlt);simp only [decide_eq_true_eq] at this;exact congrArg some this
theorem findIdx_eq_len (l : List (List Int)) (m : List Int) (h : (l.findIdx fun s => decide (s = m)) = l.length) : ∀ j : Nat, l[j]? ≠ some m := by
 intro j hj;have hm : m ∈ l := List.mem_of_getElem? hj;have := List.findIdx_lt_length_of_exists (xs := l) (p := fun s => decide (s = m)) ⟨m, hm, by simp⟩;omega
structure Put (most : Nat) (T : TS) (x : Nd) (T' : TS) : Prop where
 pre : TPre T T'
 node : ∃ d, T'.nodes = T.nodes ++ [d] ∧ d.pn = x.pn ∧ d.ms = x.ms ∧ d.ab = x.ab ∧ d.tr = x.tr ∧ d.gr = x.gr ∧ d.om = x.om ∧ ((d.nw = true ∧ d.st = T.states.length ∧ T'.states = T.states ++ [x.ms] ∧ (∀ j : Nat, T.states[j]? ≠ some x.ms) ∧ T.states.length ≠ most) ∨ (d.nw = false ∧ T.states[d.st]? = some x.ms ∧ T'.states = T.states))
 room : T.nodes.length ≤ 20000
theorem addN_put {most : Nat} {T T' : TS} {x : Nd} (h : addN most T x = some T') : Put most T x T' := by
 unfold addN at h;by_cases h1 : stIdx T x.ms = T.states.length
 · rw [if_pos h1] at h;by_cases h2 : T.states.length = most
   · rw [if_pos h2] at h; cases h
   rw [if_neg h2] at h;by_cases h3 : 20000 < T.nodes.length
   · rw [if_pos h3] at h; cases h
   rw [if_neg h3] at h;cases h;exact ⟨⟨⟨_, rfl⟩, ⟨_, rfl⟩⟩, ⟨_, rfl, rfl, rfl, rfl, rfl, rfl, rfl, .inl ⟨rfl, rfl, rfl, findIdx_eq_len _ _ h1, h2⟩⟩, by omega⟩
 · rw [if_neg h1] at h;by_cases h3 : 20000 < T.nodes.length
   · rw [if_pos h3] at h; cases h
   rw [if_neg h3] at h;cases h;exact ⟨⟨⟨_, rfl⟩, ⟨[], by simp⟩⟩, ⟨_, rfl, rfl, rfl, rfl, rfl, rfl, rfl, .inr ⟨rfl, findIdx_lt_spec _ _ h1, rfl⟩⟩, by omega⟩
theorem node_cases {L : List Nd} {d e : Nd} {j : Nat} (h : (L ++ [d])[j]? = some e) : (j < L.length ∧ L[j]? = some e) ∨ (j = L.length ∧ e = d) := by
 rcases Nat.lt_or_ge j L.length with hj | hj
 · exact .inl ⟨hj, by rwa [List.getElem?_append_left hj] at h⟩
 · rw [List.getElem?_append_right hj] at h;rcases Nat.eq_zero_or_pos (j - L.length) with h0 | h0
   · rw [h0] at h; simp at h; exact .inr ⟨by omega, h.symm⟩
   · rw [List.getElem?_eq_none (by simp; omega)] at h; cases h
theorem state_app {L M : List (List Int)} {j : Nat} {s : List Int} (h : L[j]? = some s) : (L ++ M)[j]? = some s := by
 rw [List.getElem?_append_left (List.getElem?_eq_some_iff.1 h).1]; exact h
theorem state_cases {L : List (List Int)} {d e : List Int} {j : Nat} (h : (L ++ [d])[j]? = some e) : L[j]? = some e ∨ (j = L.length ∧ e = d) := by
 rcases Nat.lt_or_ge j L.length with hj | hj
 · exact .inl (by rwa [List.getElem?_append_left hj] at h)
 · rw [List.getElem?_append_right hj] at h;rcases Nat.eq_zero_or_pos (j - L.length) with h0 | h0
   · rw [h0] at h; simp at h; exact .inr ⟨by omega, h.symm⟩
   · rw [List.getElem?_eq_none (by simp; omega)] at h; cases h
theorem TInv.start {N : Nt} {m : List Int} {most : Nat} {T : TS} (h : addN most ⟨[], []⟩ ⟨m, m, -1, -1, 0, -1, false, false⟩ = some T) : TInv N m T ∧ T.nodes.length = 1 := by
 have h1 : addN most ⟨[], []⟩ ⟨m, m, -1, -1, 0, -1, false, false⟩ = if (0 : Nat) = most then none else some ⟨[⟨m, m, -1, -1, 0, -1, true, false⟩], [m]⟩ := rfl
 rw [h1] at h;by_cases h2 : (0 : Nat) = most
 · rw [if_pos h2] at h; cases h
 · rw [if_neg h2] at h;cases h;refine ⟨⟨rfl, rfl, ?_, ?_, ?_, ?_, ?_, show 1 ≤ 20001 by omega, Nat.le_refl _⟩, rfl⟩
   · intro j d hd
     match j, hd with
     | 0, hd => cases hd; rfl
     | j + 1, hd => simp at hd
   · intro j d hd h0;rw [List.getElem?_eq_none (by simp; omega)] at hd; cases hd
   · intro s hs;simp at hs;subst hs;exact ⟨0, _, rfl, rfl, rfl⟩
   · intro i j d e hij _ he;rw [List.getElem?_eq_none (by simp; omega)] at he; cases he
   · intro i j s hi hj;have a := (List.getElem?_eq_some_iff.1 hi).1;have b := (List.getElem?_eq_some_iff.1 hj).1;simp at a b; omega
theorem TInv.put {N : Nt} {m : List Int} {most : Nat} {T T' : TS} {x : Nd} (h : TInv N m T) (hp : Put most T x T') {i k : Nat} {e : Nd} {t : Tr} (hi : T.nodes[i]? = some e) (hnw : e.nw = true) (hk : N.tr[k]? = some t) (hc : canT t e.ms = true) (h1 : x.pn = fireT t e.ms) (hb : bigM x.pn = false) (hu : upAll T.nodes (i + 1) i ⟨x.pn, -1, false⟩ = ⟨x.ms, x.gr, x.om⟩) (h2 : x.ab = i) (h3 : x.tr = k) : TInv N m T' := by
 obtain ⟨hpre, ⟨d, hd, e1, e2, e3, e4, e5, e6, hs⟩, hroom⟩ := hp;have hil := (List.getElem?_eq_some_iff.1 hi).1;have hup : ∀ (f a : Nat) (u : Up), a < T.nodes.length → upAll T'.nodes f (a : Int) u = upAll T.nodes f (a : Int) u := fun f a u ha => by rw [hd]; exact up_pre _ _ f a u ha h.ab
 have hst : T'.states[d.st]? = some d.ms := by
  rcases hs with ⟨_, h6, h7, _⟩ | ⟨_, h6, h7⟩
  · rw [h6, h7, e2]; simp
  · rw [h7, e2]; exact h6
 refine ⟨hpre.node h.root, ?_, ?_, ?_, ?_, ?_, ?_, ?_, ?_⟩
 · obtain ⟨_, M, hM⟩ := hpre; rw [hM]; exact state_app h.one
 · intro j d' hd';rw [hd] at hd';rcases node_cases hd' with ⟨hj, hd''⟩ | ⟨hj, rfl⟩
   · obtain ⟨_, M, hM⟩ := hpre; rw [hM]; exact state_app (h.st j d' hd'')
   · exact hst
 · intro j d' hd' h0;rw [hd] at hd';rcases node_cases hd' with ⟨hj, hd''⟩ | ⟨hj, rfl⟩
   · obtain ⟨i', k', e', t', a1, a2, a3, a4, a5, a6, a7, a8, a9, a10⟩ := h.par j d' hd'' h0;exact ⟨i', k', e', t', a1, a2, a3, hpre.node a4, a5, a6, a7, a8, a9, by rw [hup _ _ _ (by omega)]; exact a10⟩
   · refine ⟨i, k, e, t, by omega, by rw [e3, h2], by rw [e4, h3], hpre.node hi, hnw, hk, hc, by rw [e1, h1], by rw [e1]; exact hb, ?_⟩;rw [hup _ _ _ hil, e1, hu, e2, e5, e6]
 · intro s hs';rcases hs with ⟨h5, h6, h7, _⟩ | ⟨_, _, h7⟩
   · rw [h7, List.length_append] at hs';simp at hs';rcases Nat.lt_or_ge s T.states.length with hl | hl
     · obtain ⟨j, d', q1, q2, q3⟩ := h.own s hl;exact ⟨j, d', hpre.node q1, q2, q3⟩
     · exact ⟨T.nodes.length, d, by rw [hd]; simp, h5, by omega⟩
   · rw [h7] at hs';obtain ⟨j, d', q1, q2, q3⟩ := h.own s hs';exact ⟨j, d', hpre.node q1, q2, q3⟩
 · intro a b da db hab ha hb' na nb;rw [hd] at ha hb';rcases node_cases hb' with ⟨hj, hb''⟩ | ⟨hj, rfl⟩
   · rcases node_cases ha with ⟨_, ha'⟩ | ⟨hj', _⟩
     · exact h.asc a b da db hab ha' hb'' na nb
     · omega
   · rcases node_cases ha with ⟨_, ha'⟩ | ⟨hj', _⟩
     · have := (List.getElem?_eq_some_iff.1 (h.st a da ha')).1;rcases hs with ⟨_, h6, _⟩ | ⟨h5, _⟩
       · omega
       · rw [h5] at nb; cases nb
     · omega
 · intro a b s ha hb';rcases hs with ⟨_, _, h7, h8, _⟩ | ⟨_, _, h7⟩
   · rw [h7] at ha hb';rcases state_cases ha with ha' | ⟨ha', rfl⟩
     · rcases state_cases hb' with hb'' | ⟨hb'', rfl⟩
       · exact h.nod a b s ha' hb''
       · exact absurd ha' (h8 a)
     · rcases state_cases hb' with hb'' | ⟨hb'', _⟩
       · exact absurd hb'' (h8 b)
       · omega
   · rw [h7] at ha hb';exact h.nod a b s ha hb'
 · rw [hd]; simp; omega
 · have := h.cnt;rcases hs with ⟨_, _, h7, _⟩ | ⟨_, _, h7⟩
   · rw [hd, h7, List.length_append, List.length_append]; simp; exact this
   · rw [hd, h7, List.length_append]; omega
def DoneK (N : Nt) (T : TS) (i k : Nat) : Prop := ∀ d : Nd, T.nodes[i]? = some d → d.nw = true → ∀ (j : Nat) (t : Tr), j < k → N.tr[j]? = some t → canT t d.ms = true → ∃ (c : Nat) (e : Nd), T.nodes[c]? = some e ∧ e.ab = (i : Int) ∧ e.tr = (j : Int)
theorem DoneK.pre {N : Nt} {T T' : TS} {i k : Nat} (h : DoneK N T i k) (hi : i < T.nodes.length) (hp : TPre T T') : DoneK N T' i k := by
 intro d hd hn j t hj ht hc;obtain ⟨d', hd'⟩ : ∃ d', T.nodes[i]? = some d' := ⟨_, List.getElem?_eq_getElem hi⟩;have := hp.node hd';rw [hd] at this;cases this;obtain ⟨c, e, h1, h2⟩ := h d hd' hn j t hj ht hc;exact ⟨c, e, hp.node h1, h2⟩
theorem stepK_inv {N : Nt} {m : List Int} {most i k : Nat} {T T' : TS} (h : TInv N m T) (hi : i < T.nodes.length) (hn : (T.nodes[i]).nw = true) (hk : k < N.tr.length) (hD : DoneK N T i k) (hs : stepK N most i T k = some T') : TInv N m T' ∧ TPre T T' ∧ DoneK N T' i (k + 1) := by
 unfold stepK at hs;rw [List.getElem?_eq_getElem hi, List.getElem?_eq_getElem hk] at hs;simp only at hs;have hgi := List.getElem?_eq_getElem hi;have hgk := List.getElem?_eq_getElem hk;generalize T.nodes[i] = d at *;generalize N.tr[k] = t at *;cases hc : canT t d.ms with
 | false =>
  rw [hc] at hs;simp at hs;subst hs;refine ⟨h, TPre.refl _, fun d' hd' hn' j t' hj ht' hc' => ?_⟩;rw [hgi] at hd'; cases hd';rcases Nat.lt_or_ge j k with hjk | hjk
  · exact hD d hgi hn' j t' hjk ht' hc'
  · obtain rfl : j = k := by omega
    rw [hgk] at ht'; cases ht';rw [hc] at hc'; cases hc'
 | true =>
  rw [hc] at hs;simp only [if_true] at hs;cases hb : bigM (fireT t d.ms) with
  | true => rw [hb] at hs; simp at hs
  | false =>
   rw [hb] at hs;simp only [Bool.false_eq_true, if_false] at hs;have hp := addN_put hs;refine ⟨h.put hp hgi hn hgk hc rfl hb (by cases upAll T.nodes (i + 1) (i : Int) ⟨fireT t d.ms, -1, false⟩; rfl) rfl rfl, hp.pre, fun d' hd' hn' j t' hj ht' hc' => ?_⟩;rcases Nat.lt_or_ge j k with hjk | hjk
   · exact (DoneK.pre hD hi hp.pre) d' hd' hn' j t' hjk ht' hc'
   · obtain rfl : j = k := by omega
     obtain ⟨e, he, _, _, e3, e4, _⟩ := hp.node;exact ⟨T.nodes.length, e, by rw [he]; simp, e3, e4⟩
theorem stepI_inv {N : Nt} {m : List Int} {most i : Nat} : ∀ (f k : Nat) (T T' : TS), TInv N m T → (hi : i < T.nodes.length) → (T.nodes[i]).nw = true → DoneK N T i k → N.tr.length < f + k → stepI N most i f k T = some T' → TInv N m T' ∧ TPre T T' ∧ DoneK N T' i N.tr.length := by
 intro f
 induction f with
 | zero =>
  intro k T T' h hi hn hD hf hs;unfold stepI at hs; cases hs;refine ⟨h, TPre.refl _, fun d hd hn j t hj ht hc => hD d hd hn j t (by omega) ht hc⟩
 | succ f ih =>
  intro k T T' h hi hn hD hf hs;unfold stepI at hs;by_cases hk : k < N.tr.length
  · rw [if_pos hk] at hs;cases hq : stepK N most i T k with
    | none => rw [hq] at hs; cases hs
    | some T1 =>
     rw [hq] at hs;simp only at hs;obtain ⟨h1, h2, h3⟩ := stepK_inv h hi hn hk hD hq;have hi1 : i < T1.nodes.length := by obtain ⟨⟨L, hL⟩, _⟩ := h2; rw [hL]; simp; omega
     have hn1 : (T1.nodes[i]).nw = true := by
      have := h2.node (List.getElem?_eq_getElem hi);rw [List.getElem?_eq_getElem hi1] at this;rw [Option.some.inj this]; exact hn
     obtain ⟨g1, g2, g3⟩ := ih (k + 1) T1 T' h1 hi1 hn1 h3 (by omega) hs;exact ⟨g1, h2.trans g2, g3⟩
  · rw [if_neg hk] at hs;cases hs;exact ⟨h, TPre.refl _, fun d hd hn j t hj ht hc => hD d hd hn j t (by omega) ht hc⟩
theorem growF_inv {N : Nt} {m : List Int} {most : Nat} : ∀ (f i : Nat) (T T' : TS), TInv N m T → (∀ j, j < i → DoneK N T j N.tr.length) → i ≤ T.nodes.length → 20002 ≤ f + i → growF N most f i T = some T' → TInv N m T' ∧ ∀ j, j < T'.nodes.length → DoneK N T' j N.tr.length := by
 intro f
 induction f with
 | zero => intro i T T' h hD hi hf hs; have := h.len; omega
 | succ f ih =>
  intro i T T' h hD hi hf hs;unfold growF at hs;by_cases hlt : i < T.nodes.length
  · rw [List.getElem?_eq_getElem hlt] at hs;simp only at hs;cases hn : (T.nodes[i]).nw with
    | true =>
     rw [hn] at hs;simp only [if_true] at hs;cases hq : stepI N most i (N.tr.length + 1) 0 T with
     | none => rw [hq] at hs; cases hs
     | some T1 =>
      rw [hq] at hs;simp only at hs;obtain ⟨h1, h2, h3⟩ := stepI_inv _ 0 T T1 h hlt hn (fun d _ _ j t hj => absurd hj (by omega)) (by omega) hq;have hl : T.nodes.length ≤ T1.nodes.length := by obtain ⟨⟨L, hL⟩, _⟩ := h2; rw [hL]; simp
      refine ih (i + 1) T1 T' h1 (fun j hj => ?_) (by omega) (by omega) hs;rcases Nat.lt_or_ge j i with hj2 | hj2
      · exact (hD j hj2).pre (by omega) h2
      · obtain rfl : j = i := by omega
        exact h3
    | false =>
     rw [hn] at hs;simp only [Bool.false_eq_true, if_false] at hs;refine ih (i + 1) T T' h (fun j hj => ?_) (by omega) (by omega) hs;rcases Nat.lt_or_ge j i with hj2 | hj2
     · exact hD j hj2
     · obtain rfl : j = i := by omega
       intro d hd hnw;rw [List.getElem?_eq_getElem hlt] at hd;cases hd;rw [hn] at hnw; cases hnw
  · rw [List.getElem?_eq_none (by omega)] at hs;cases hs;exact ⟨h, fun j hj => hD j (by omega)⟩
theorem growT_inv {N : Nt} {m : List Int} {most : Nat} {T : TS} (h : growT N m most = some T) : TInv N m T ∧ ∀ j, j < T.nodes.length → DoneK N T j N.tr.length := by
 unfold growT at h;cases hq : addN most ⟨[], []⟩ ⟨m, m, -1, -1, 0, -1, false, false⟩ with
 | none => rw [hq] at h; cases h
 | some T0 =>
  rw [hq] at h;simp only at h;obtain ⟨h1, h2⟩ := TInv.start (N := N) hq;exact growF_inv 20002 0 T0 T h1 (fun j hj => absurd hj (by omega)) (by omega) (by omega) h
end Go.Proofs.YtpiihmbeedlpkaaGreatDoor
