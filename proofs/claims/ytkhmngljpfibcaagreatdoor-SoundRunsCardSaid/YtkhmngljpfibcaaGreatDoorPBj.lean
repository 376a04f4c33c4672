/- What a state leads to, plain: the search from a state (after), the marks of the reference (completing). A space that lies in a closed list of markings is whole, plain. What Sound claims is proved, plain. -/
import Derived.Test.YtkhmngljpfibcaaGreatDoorPUu
import Derived.Test.YtkhmngljpfibcaaGreatDoorPBf
import Derived.Test.YtkhmngljpfibcaaGreatDoorPYi
namespace Go.Proofs.YtkhmngljpfibcaaGreatDoor
section
structure AfI (MV : List Mv) (n start : Nat) (B : List Bool) (Q : List Int) (i : Nat) (part : List Mv) : Prop where
 len : B.length = n
 mem : ∀ k : Nat, k < n → (B.getD k false = true ↔ (k : Int) ∈ Q)
 rng : ∀ q ∈ Q, 0 ≤ q ∧ q < (n : Int)
 nod : Q.Nodup
 q0 : (start : Int) ∈ Q
 lead : ∀ q : Nat, (q : Int) ∈ Q → Lead MV q start
 done : ∀ (j : Nat) (q : Int), j < i → Q[j]? = some q → ∀ x ∈ MV, x.f = q → x.t ∈ Q
 prt : ∀ q : Int, Q[i]? = some q → ∀ x ∈ part, x.t ∈ Q
theorem getB_set (B : List Bool) (k j : Nat) (h : k < B.length) : (B.set k true).getD j false = if k = j then true else B.getD j false := by
 rw [List.getD_eq_getElem?_getD, List.getD_eq_getElem?_getD, List.getElem?_set];by_cases e : k = j
 · subst e; rw [if_pos rfl, if_pos h, if_pos rfl]; rfl
 · rw [if_neg e, if_neg e]
theorem AfI.start (MV : List Mv) (n s : Nat) (h : s < n) : AfI MV n s ((List.replicate n false).set s true) [(s : Int)] 0 [] := by
 refine ⟨by simp, fun k hk => ?_, fun q hq => ?_, by simp, by simp, fun q hq => ?_, fun j q hj => by omega, fun q _ x hx => by cases hx⟩
 · rw [getB_set _ _ _ (by simpa using h)];by_cases e : s = k
   · subst e; simp
   · rw [if_neg e];constructor
     · intro hh;rw [List.getD_eq_getElem?_getD, List.getElem?_replicate] at hh; split at hh <;> simp at hh
     · intro hh;simp at hh; omega
 · simp at hq; subst hq; omega
 · simp at hq;have : q = s := by omega
   subst this; exact .stop
theorem AfI.one {MV : List Mv} {n s : Nat} {B : List Bool} {Q : List Int} {i : Nat} {part : List Mv} (h : AfI MV n s B Q i part) {q : Int} (hq : Q[i]? = some q) {x : Mv} (hx : x ∈ MV) (hf : x.f = q) (hn : mvOk MV n) :
 AfI MV n s (if B.getD x.t.toNat false then B else B.set x.t.toNat true) (if B.getD x.t.toNat false then Q else Q ++ [x.t]) i (part ++ [x]) := by
 obtain ⟨_, _, r3, r4⟩ := hn x hx;obtain ⟨t, ht⟩ := Int.eq_ofNat_of_zero_le r3;have ht' : x.t.toNat = t := by omega
 have htn : t < n := by omega
 have hil := (List.getElem?_eq_some_iff.1 hq).1;rw [ht'];cases hb : B.getD t false with
 | true =>
  have hm := (h.mem t htn).1 hb;simp only [if_true];exact ⟨h.len, h.mem, h.rng, h.nod, h.q0, h.lead, h.done, fun q' hq' y hy => by
   rcases List.mem_append.1 hy with e | e
   · exact h.prt q' hq' y e
   · simp at e; subst e; rw [ht]; exact hm⟩
 | false =>
  have hnm : (t : Int) ∉ Q := fun hm => by rw [(h.mem t htn).2 hm] at hb; cases hb
  rw [if_neg (by decide), if_neg (by decide), ht];have old : ∀ {y : Int}, y ∈ Q → y ∈ Q ++ [(t : Int)] := fun hy => List.mem_append.2 (.inl hy)
  have idx : ∀ {j : Nat}, j < Q.length → (Q ++ [(t : Int)])[j]? = Q[j]? := fun hj => List.getElem?_append_left hj
  have hqn : ∃ qn : Nat, q = (qn : Int) := Int.eq_ofNat_of_zero_le (h.rng q (List.mem_of_getElem? hq)).1;obtain ⟨qn, rfl⟩ := hqn;refine ⟨by rw [List.length_set]; exact h.len, fun k hk => ?_, fun y hy => ?_, ?_, old h.q0, fun y hy => ?_, fun j y hj hy z hz hzf => ?_, fun y hy z hz => ?_⟩
  · rw [getB_set _ _ _ (by rw [h.len]; exact htn)];by_cases e : t = k
    · subst e; simp
    · rw [if_neg e, h.mem k hk];constructor
      · exact old
      · intro hy;rcases List.mem_append.1 hy with e2 | e2
        · exact e2
        · simp at e2; omega
  · rcases List.mem_append.1 hy with e | e
    · exact h.rng y e
    · simp at e; subst e; omega
  · rw [List.nodup_append];exact ⟨h.nod, by simp, fun a ha b hb' => by simp at hb'; subst hb'; exact fun e => hnm (e ▸ ha)⟩
  · rcases List.mem_append.1 hy with e | e
    · exact h.lead y e
    · simp at e;have : y = t := by omega
      subst this;refine (h.lead qn (List.mem_of_getElem? hq)).snoc (k := x.s) ?_;rw [← hf, ← ht]; exact hx
  · rw [idx (by omega)] at hy;exact old (h.done j y hj hy z hz hzf)
  · rw [idx hil] at hy;rcases List.mem_append.1 hz with e | e
    · exact old (h.prt y hy z e)
    · simp at e; subst e; rw [ht]; exact List.mem_append.2 (.inr (by simp))
theorem AfI.next {MV : List Mv} {n s : Nat} {B : List Bool} {Q : List Int} {i : Nat} {part : List Mv} (h : AfI MV n s B Q i part) {q : Int} (hq : Q[i]? = some q) (hp : ∀ x ∈ MV, x.f = q → x ∈ part) : AfI MV n s B Q (i + 1) [] :=
 ⟨h.len, h.mem, h.rng, h.nod, h.q0, h.lead, fun j y hj hy x hx hf => by
  by_cases e : j = i
  · subst e; rw [hq] at hy; cases hy;exact h.prt q hq x (hp x hx hf)
  · exact h.done j y (by omega) hy x hx hf, fun y _ x hx => by cases hx⟩
theorem AfI.room {MV : List Mv} {n s : Nat} {B : List Bool} {Q : List Int} {i : Nat} {part : List Mv} (h : AfI MV n s B Q i part) : Q.length ≤ n := by
 have h1 : (Q.map Int.toNat).Nodup := by
  have := h.nod;rw [List.Nodup, List.pairwise_map];refine List.Pairwise.imp_of_mem ?_ this;intro a b ha hb hne e;have := (h.rng a ha).1; have := (h.rng b hb).1;exact hne (by omega)
 have h2 : ∀ k ∈ Q.map Int.toNat, k < n := by
  intro k hk;obtain ⟨q, hq, rfl⟩ := List.mem_map.1 hk;have := h.rng q hq; omega
 have := nodup_len n _ h1 h2;simpa using this
theorem AfI.end_ {MV : List Mv} {n s : Nat} {B : List Bool} {Q : List Int} {i : Nat} (h : AfI MV n s B Q i []) (hi : Q.length ≤ i) : ∀ q ∈ Q, ∀ x ∈ MV, x.f = q → x.t ∈ Q := fun q hq x hx hf => by
 obtain ⟨j, hj, rfl⟩ := List.getElem_of_mem hq;exact h.done j _ (by omega) (List.getElem?_eq_getElem hj) x hx hf
end
section
def ClK (N : Nt) (K : List (List Int)) : Prop := ∀ s ∈ K, ∀ t ∈ N.tr, canT t s = true → bigM (fireT t s) = false ∧ fireT t s ∈ K
theorem nodup_sub : ∀ (L K : List (List Int)), L.Nodup → (∀ s ∈ L, s ∈ K) → L.length ≤ K.length
 | [], K, _, _ => by simp
 | s :: L, K, hn, hs => by
  rw [List.nodup_cons] at hn;have h1 : s ∈ K := hs s (List.mem_cons_self ..);have ih := nodup_sub L (K.erase s) hn.2 (fun x hx => by
   have hx2 := hs x (List.mem_cons_of_mem _ hx);exact (List.mem_erase_of_ne (fun e : x = s => hn.1 (e ▸ hx))).2 hx2)
  rw [List.length_erase_of_mem h1] at ih;have := List.length_pos_of_mem h1;rw [List.length_cons]; omega
theorem nodup_at {L : List (List Int)} (h : ∀ (a b : Nat) (s : List Int), L[a]? = some s → L[b]? = some s → a = b) : L.Nodup := by
 rw [List.Nodup, List.pairwise_iff_getElem];intro i j hi hj hij e;have := h i j L[i] (List.getElem?_eq_getElem hi) (by rw [List.getElem?_eq_getElem hj, e]);omega
section
variable {N : Nt} {K : List (List Int)} {M : List Int} {most i k : Nat} {E E' : ExS}
theorem ex_one (hK : ClK N K) (hl : K.length ≤ most) (h : EInv N M most i k E) (hs : ∀ s ∈ E.SL, s ∈ K) (hfl : E.fl = true) {m : List Int} (hm : E.SL[i]? = some m) (hk : k < N.tr.length) (hc : E.MV.length < 20000) :
 ∃ E', exOne N most i m k E = some E' ∧ (∀ s ∈ E'.SL, s ∈ K) ∧ E'.fl = true ∧ E'.MV.length ≤ E.MV.length + 1 := by
 have hmK := hs m (List.mem_of_getElem? hm);unfold exOne;rw [List.getElem?_eq_getElem hk];simp only;by_cases hcan : canT N.tr[k] m = true
 · obtain ⟨hb, hy⟩ := hK m hmK _ (List.getElem_mem hk) hcan;rw [if_pos hcan, hb, if_neg (by decide)];by_cases hx : exIdx E.SL (fireT N.tr[k] m) < E.SL.length
   · rw [if_pos hx, if_neg (by omega)];exact ⟨_, rfl, hs, hfl, by simp⟩
   · have hno := exIdx_no hx;have hlt : E.SL.length < most := by
      have := nodup_sub (fireT N.tr[k] m :: E.SL) K (by
       rw [List.nodup_cons];refine ⟨fun hmem => ?_, nodup_at h.nod⟩;obtain ⟨j, hj, e⟩ := List.getElem_of_mem hmem;exact hno j (by rw [List.getElem?_eq_getElem hj, e])) (fun s hs' => by
        rcases List.mem_cons.1 hs' with e | e
        · subst e; exact hy
        · exact hs s e)
      rw [List.length_cons] at this; omega
     rw [if_neg hx, if_pos hlt, if_neg (by omega)];refine ⟨_, rfl, fun s hs' => ?_, hfl, by simp⟩;rcases List.mem_append.1 hs' with e | e
     · exact hs s e
     · simp at e; subst e; exact hy
 · rw [if_neg hcan];exact ⟨_, rfl, hs, hfl, by omega⟩
theorem ex_to (hK : ClK N K) (hl : K.length ≤ most) (h : EInv N M most i 0 E) (hs : ∀ s ∈ E.SL, s ∈ K) (hfl : E.fl = true) {m : List Int} (hm : E.SL[i]? = some m) (hc : E.MV.length + N.tr.length ≤ 20000) : ∀ k, k ≤ N.tr.length →
 ∃ E', exTo N most i m k E = some E' ∧ (∀ s ∈ E'.SL, s ∈ K) ∧ E'.fl = true ∧ E'.MV.length ≤ E.MV.length + k := by
 intro k
 induction k with
 | zero => intro _; exact ⟨E, rfl, hs, hfl, by omega⟩
 | succ k ih =>
  intro hk;obtain ⟨F, h1, h2, h3, h4⟩ := ih (by omega);obtain ⟨g1, L, g2⟩ := EInv.to h hm k (by omega) h1;have hm2 : F.SL[i]? = some m := by rw [g2, List.getElem?_append_left (List.getElem?_eq_some_iff.1 hm).1]; exact hm
  obtain ⟨G, f1, f2, f3, f4⟩ := ex_one hK hl g1 h2 h3 hm2 (by omega) (by omega);refine ⟨G, ?_, f2, f3, by omega⟩;rw [exTo, h1]; exact f1
theorem ex_from (hK : ClK N K) (hl : K.length ≤ most) (hb : most * N.tr.length ≤ 20000) (f : Nat) : ∀ {i : Nat} {E : ExS}, EInv N M most i 0 E → (∀ s ∈ E.SL, s ∈ K) → E.fl = true → E.MV.length ≤ i * N.tr.length → most + 1 ≤ f + i → i ≤ most →
 ∃ E', exFrom N most f i E = some E' ∧ (∀ s ∈ E'.SL, s ∈ K) ∧ E'.fl = true := by
 induction f with
 | zero =>
  intro i E h hs hfl hc hf hi;omega
 | succ f ih =>
  intro i E h hs hfl hc hf hi;rw [exFrom];cases hm : E.SL[i]? with
  | none => exact ⟨E, rfl, hs, hfl⟩
  | some m =>
   simp only;have hil := (List.getElem?_eq_some_iff.1 hm).1;have hle := h.le;have h5 : (i + 1) * N.tr.length ≤ most * N.tr.length := Nat.mul_le_mul_right _ (by omega);rw [Nat.add_mul, Nat.one_mul] at h5;obtain ⟨F, h1, h2, h3, h4⟩ := ex_to hK hl h hs hfl hm (by omega) N.tr.length (Nat.le_refl _);rw [h1];exact ih (h.to hm _ (Nat.le_refl _) h1).1.row h2 h3 (by rw [Nat.add_mul, Nat.one_mul]; omega) (by omega) (by omega)
theorem ex_whole (hK : ClK N K) (hl : K.length ≤ most) (hb : most * N.tr.length ≤ 20000) (hv : mkB N M = true) (hM : M ∈ K) (h1 : 1 ≤ most) : ∃ E, exT N M most = some E ∧ (∀ s ∈ E.SL, s ∈ K) ∧ E.fl = true := by
 refine ex_from hK hl hb (most + 1) (EInv.start hv h1) (fun s hs => ?_) rfl (by simp) (by omega) (by omega);simp at hs; subst hs; exact hM
end
end
section
section
variable {N : Nt} {T : TS}
theorem Gr.of {most : Nat} (hv : ntB N = true) (hg : growT N (iniM N) most = some T) : Gr N T := by
 obtain ⟨hI, hD, _, _⟩ := grow_good (one_mk hv _) hg;exact ⟨hv, hI, hD⟩
theorem Gr.noO (h : Gr N T) (ho : ¬ RsO T.states) : NoO T := fun j d hd => by
 cases hh : d.om with
 | false => rfl
 | true => exact absurd ((omega_iff h.i h.ok h.ism).2 ⟨j, d, hd, hh⟩) ho
theorem Gr.mvf (h : Gr N T) (hno : NoO T) : MvF N T.states (movesOf T) := fun _ hx => mv_fire h.i h.ok h.ism hno hx
def RsAt (N : Nt) (LL : List (List Int)) (MV : List Mv) (r a : Int) : Prop :=
 RsN N LL MV r ∧ (r = 2 → ∃ (k : Nat) (s : List Int), a = (k : Int) ∧ LL[k]? = some s ∧ 0 < s.getD N.snk.toNat 0 ∧ s ≠ finM N) ∧ (r = 3 → ∃ k : Nat, a = (k : Int) ∧ k < LL.length ∧ ¬ Leads N LL MV k) ∧ (r = 4 → ∃ (k : Nat) (t : Tr), a = (k : Int) ∧ N.tr[k]? = some t ∧ ∀ s ∈ LL, canT t s = false)
theorem RsN.is (LL : List (List Int)) (MV : List Mv) {r : Int} (h : RsN N LL MV r) : (r = 1 ∧ RsO LL) ∨ (¬ RsO LL ∧ (r = 2 ∨ r = 3 ∨ r = 4 ∨ (r = 0 ∧ ¬ RsB N LL ∧ ¬ RsL N LL MV ∧ ¬ RsD N LL))) := by
 rcases h with ⟨h1, h2⟩ | ⟨h1, h2, h3⟩ | ⟨h1, h2, h3, h4⟩ | ⟨h1, h2, h3, h4, h5⟩ | ⟨h1, h2, h3, h4, h5⟩
 · exact .inl ⟨h1, h2⟩
 · exact .inr ⟨h1, .inl h2⟩
 · exact .inr ⟨h1, .inr (.inl h3)⟩
 · exact .inr ⟨h1, .inr (.inr (.inl h4))⟩
 · exact .inr ⟨h1, .inr (.inr (.inr ⟨h5, h2, h3, h4⟩))⟩
theorem clm_snd (h : Gr N T) (hw : wfP N) (hno : NoO T) (hb : ¬ RsB N T.states) (hl : ¬ RsL N T.states (movesOf T)) (hd : ¬ RsD N T.states) {g : Nat} (hg : T.states[g]? = some (finM N)) {F : List Int} (hF : IsD (movesOf T) g T.states.length F)
 {V : List Mv} (hV : V.length + 1 = T.states.length) (hVm : ∀ (i : Nat) (x : Mv), V[i]? = some x → x ∈ movesOf T ∧ x.t = (i : Int) + 1 ∧ x.f < (i : Int) + 1) : ClmP N 1 0 [] [] T.states V [] [F] := by
 have hmo := (h.mvf hno).ok;refine ⟨fun _ => hw, .inl ⟨rfl, snd_cert h hno hg hF (fun k hk => ?_) (fun s hs h0 => ?_) (fun t ht => ?_) hV hVm⟩⟩
 · have h1 : Leads N T.states (movesOf T) k := Classical.byContradiction fun hn => hl ⟨k, hk, hn⟩
   obtain ⟨g', hg', hlead⟩ := h1;have : g' = g := h.i.nod g' g (finM N) hg' hg;subst this;exact (lead_far hmo hF hk).1 hlead
 · exact Classical.byContradiction fun hn => hb ⟨s, hs, h0, hn⟩
 · refine Classical.byContradiction fun hn => hd ⟨t, ht, fun s hs => ?_⟩
   cases hc : canT t s with
   | false => rfl
   | true => exact absurd ⟨s, hs, hc⟩ hn
theorem clm_sink (h : Gr N T) (hw : wfP N) (hno : NoO T) {k : Nat} {s : List Int} (hk : T.states[k]? = some s) (h0 : 0 < s.getD N.snk.toNat 0) (hf : s ≠ finM N) {l : List Int} (hl : WayL (movesOf T) k 0 l) (hll : l.length ≤ 1000) : ClmP N 2 0 l [] [] [] [] [] :=
 ⟨fun _ => hw, .inr (.inl ⟨rfl, uns_sink h hno hl hll hk h0 hf⟩)⟩
theorem clm_lost (h : Gr N T) (hw : wfP N) (hno : NoO T) {k : Nat} (hk : k < T.states.length) (hn : ¬ Leads N T.states (movesOf T) k) {l : List Int} (hl : WayL (movesOf T) k 0 l) (hll : l.length ≤ 1000) {Q : List Int} {K : List (List Int)}
 (hq0 : (k : Int) ∈ Q) (hqr : ∀ q ∈ Q, 0 ≤ q ∧ q < (T.states.length : Int)) (hql : ∀ q : Nat, (q : Int) ∈ Q → Lead (movesOf T) q k) (hqc : ∀ q ∈ Q, ∀ x ∈ movesOf T, x.f = q → x.t ∈ Q) (hK : K = Q.map fun q => T.states.getD q.toNat []) : ClmP N 2 0 l [] K [] [] [] := by
 have hmem : ∀ s, s ∈ K ↔ ∃ q : Nat, (q : Int) ∈ Q ∧ T.states[q]? = some s := by
  intro s;subst hK;constructor
  · intro hs;obtain ⟨q, hq, rfl⟩ := List.mem_map.1 hs;obtain ⟨n, rfl⟩ := Int.eq_ofNat_of_zero_le (hqr q hq).1;have hlt : n < T.states.length := by have := (hqr _ hq).2; omega
    refine ⟨n, hq, ?_⟩;rw [Int.toNat_natCast, List.getElem?_eq_getElem hlt, getD_at (List.getElem?_eq_getElem hlt)]
  · rintro ⟨q, hq, hs⟩;refine List.mem_map.2 ⟨(q : Int), hq, ?_⟩;rw [Int.toNat_natCast, getD_at hs]
 refine ⟨fun _ => hw, .inr (.inl ⟨rfl, uns_lost h hno hl hll (List.getElem?_eq_getElem hk) (fun s hs => ?_) ((hmem _).2 ⟨k, hq0, List.getElem?_eq_getElem hk⟩) (fun s hs t ht hc => ?_) (fun hf => ?_)⟩)⟩
 · obtain ⟨q, _, hq⟩ := (hmem s).1 hs;exact List.mem_of_getElem? hq
 · obtain ⟨q, hq, hqs⟩ := (hmem s).1 hs;obtain ⟨j, hj, rfl⟩ := List.getElem_of_mem ht;obtain ⟨x, hx, hxf, hxs⟩ := mv_of h.i h.d hqs (List.getElem?_eq_getElem hj) hc;obtain ⟨f, u, v, tr, a, b, ex, hfa, hub, hvt, hca, hfi, _⟩ := h.mvf hno x hx;subst ex;simp only at hxf hxs;have e1 : f = q := by omega
   have e2 : v = j := by omega
   subst e1 e2;rw [hqs] at hfa; cases hfa;rw [List.getElem?_eq_getElem hj] at hvt; cases hvt;rw [hfi];exact (hmem b).2 ⟨u, hqc _ hq _ hx rfl, hub⟩
 · obtain ⟨q, hq, hqs⟩ := (hmem _).1 hf;exact hn ⟨q, hqs, hql q hq⟩
theorem clm_dead (h : Gr N T) (hw : wfP N) {k : Nat} {t : Tr} (hk : N.tr[k]? = some t) (hno : ∀ s ∈ T.states, canT t s = false) : ClmP N 2 (k : Int) [] [] T.states [] [] [] := by
 obtain ⟨hl, e⟩ := List.getElem?_eq_some_iff.1 hk;exact ⟨fun _ => hw, .inr (.inl ⟨rfl, uns_dead h hl (fun s hs => by rw [e]; exact hno s hs)⟩)⟩
theorem clm_pump (hv : ntB N = true) (hw : wfP N) {most : Nat} (hg : growT N (iniM N) most = some T) (hm : most ≤ 1000) {i : Nat} {d : Nd} {g : Nat} {z : Nd} {W1 W2 : List Nat} {p : Nat} (hf : FOm N T i d g z W1 W2 p) :
 ClmP N 2 0 (W1.map Int.ofNat) (W2.map Int.ofNat) [] [] [] [] := by
 obtain ⟨e1, e2, _, hle, hlt, hp, hl⟩ := om_pump (one_mk hv _) hg hm hf;have hne : (W2.map Int.ofNat).isEmpty = false := by
  cases hh : W2 with
  | nil => exact absurd hh hf.ne
  | cons a l => rfl
 refine ⟨fun _ => hw, .inr (.inl ⟨rfl, ?_⟩)⟩;unfold unsB;rw [hne];simp only [Bool.false_eq_true, if_false];unfold vpumB;have e3 : runI N (W1.map Int.ofNat) = (z.ms, W1.length, 0) := e1;have e4 : atMost z.ms d.pn = true := (atMost_iff _ _).2 hf.le;have e5 : z.ms ≠ d.pn := fun e => by rw [e] at hlt; omega
 rw [e3];simp only;rw [e2, hne];simp [e4, e5]
end
end
end Go.Proofs.YtkhmngljpfibcaaGreatDoor
