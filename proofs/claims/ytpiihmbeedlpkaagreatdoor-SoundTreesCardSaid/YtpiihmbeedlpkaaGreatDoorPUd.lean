/- What a state leads to, plain: the search from a state (after), the marks of the reference (completing). What Sound claims is proved, plain. The net of a tree is sound, and relaxed sound: plain. -/
import Derived.Test.YtpiihmbeedlpkaaGreatDoorPUu
import Derived.Test.YtpiihmbeedlpkaaGreatDoorPBe
import Derived.Test.YtpiihmbeedlpkaaGreatDoorPYm
import Derived.Test.YtpiihmbeedlpkaaGreatDoorPUc
import Derived.Test.YtpiihmbeedlpkaaGreatDoorPQp
namespace Go.Proofs.YtpiihmbeedlpkaaGreatDoor
section
structure AfI (MV : List Mv) (n start : Nat) (B : List Bool) (Q : List Int) (i : Nat) (part : List Mv) : Prop where
 len : B.length = n
 mem : ∀ k : Nat, k < n → (B.getD k false = true ↔ (k : Int) ∈ Q)
 rng : ∀ q ∈ Q, 0 ≤ q ∧ q < (n : Int)
 nod : Q.Nodup
 q0 : (start : Int) ∈ Q
 lead : ∀ q : Nat, (q : Int) ∈ Q → Lead MV q start
 done : ∀ (j : Nat) (q : Int), j < i → Q[j]? = some q → ∀ x ∈ MV, x.f = q → x.t ∈ Q
 prt : ∀ q : Int, Q[i]? = some q → ∀ x ∈ part, x.t ∈ Q
theorem getB_set (B : List Bool) (k j : Nat) (h : k < B.length) : (B.set k true).getD j false = if k = j then true else B.getD j false := by
 rw [List.getD_eq_getElem?_getD, List.getD_eq_getElem?_getD, List.getElem?_set];by_cases e : k = j
 · subst e; rw [if_pos rfl, if_pos h, if_pos rfl]; rfl
 · rw [if_neg e, if_neg e]
theorem AfI.start (MV : List Mv) (n s : Nat) (h : s < n) : AfI MV n s ((List.replicate n false).set s true) [(s : Int)] 0 [] := by
 refine ⟨by simp, fun k hk => ?_, fun q hq => ?_, by simp, by simp, fun q hq => ?_, fun j q hj => by omega, fun q _ x hx => by cases hx⟩
 · rw [getB_set _ _ _ (by simpa using h)];by_cases e : s = k
   · subst e; simp
   · rw [if_neg e];constructor
     · intro hh;rw [List.getD_eq_getElem?_getD, List.getElem?_replicate] at hh; split at hh <;> simp at hh
     · intro hh;simp at hh; omega
 · simp at hq; subst hq; omega
 · simp at hq;have : q = s := by omega
   subst this; exact .stop
theorem AfI.one {MV : List Mv} {n s : Nat} {B : List Bool} {Q : List Int} {i : Nat} {part : List Mv} (h : AfI MV n s B Q i part) {q : Int} (hq : Q[i]? = some q) {x : Mv} (hx : x ∈ MV) (hf : x.f = q) (hn : mvOk MV n) :
 AfI MV n s (if B.getD x.t.toNat false then B else B.set x.t.toNat true) (if B.getD x.t.toNat false then Q else Q ++ [x.t]) i (part ++ [x]) := by
 obtain ⟨_, _, r3, r4⟩ := hn x hx;obtain ⟨t, ht⟩ := Int.eq_ofNat_of_zero_le r3;have ht' : x.t.toNat = t := by omega
 have htn : t < n := by omega
 have hil := (List.getElem?_eq_some_iff.1 hq).1;rw [ht'];cases hb : B.getD t false with
 | true =>
  have hm := (h.mem t htn).1 hb;simp only [if_true];exact ⟨h.len, h.mem, h.rng, h.nod, h.q0, h.lead, h.done, fun q' hq' y hy => by
   rcases List.mem_append.1 hy with e | e
   · exact h.prt q' hq' y e
   · simp at e; subst e; rw [ht]; exact hm⟩
 | false =>
  have hnm : (t : Int) ∉ Q := fun hm => by rw [(h.mem t htn).2 hm] at hb; cases hb
  rw [if_neg (by decide), if_neg (by decide), ht];have old : ∀ {y : Int}, y ∈ Q → y ∈ Q ++ [(t : Int)] := fun hy => List.mem_append.2 (.inl hy)
  have idx : ∀ {j : Nat}, j < Q.length → (Q ++ [(t : Int)])[j]? = Q[j]? := fun hj => List.getElem?_append_left hj
  have hqn : ∃ qn : Nat, q = (qn : Int) := Int.eq_ofNat_of_zero_le (h.rng q (List.mem_of_getElem? hq)).1;obtain ⟨qn, rfl⟩ := hqn;refine ⟨by rw [List.length_set]; exact h.len, fun k hk => ?_, fun y hy => ?_, ?_, old h.q0, fun y hy => ?_, fun j y hj hy z hz hzf => ?_, fun y hy z hz => ?_⟩
  · rw [getB_set _ _ _ (by rw [h.len]; exact htn)];by_cases e : t = k
    · subst e; simp
    · rw [if_neg e, h.mem k hk];constructor
      · exact old
      · intro hy;rcases List.mem_append.1 hy with e2 | e2
        · exact e2
        · simp at e2; omega
  · rcases List.mem_append.1 hy with e | e
    · exact h.rng y e
    · simp at e; subst e; omega
  · rw [List.nodup_append];exact ⟨h.nod, by simp, fun a ha b hb' => by simp at hb'; subst hb'; exact fun e => hnm (e ▸ ha)⟩
  · rcases List.mem_append.1 hy with e | e
    · exact h.lead y e
    · simp at e;have : y = t := by omega
      subst this;refine (h.lead qn (List.mem_of_getElem? hq)).snoc (k := x.s) ?_;rw [← hf, ← ht]; exact hx
  · rw [idx (by omega)] at hy;exact old (h.done j y hj hy z hz hzf)
  · rw [idx hil] at hy;rcases List.mem_append.1 hz with e | e
    · exact old (h.prt y hy z e)
    · simp at e; subst e; rw [ht]; exact List.mem_append.2 (.inr (by simp))
theorem AfI.next {MV : List Mv} {n s : Nat} {B : List Bool} {Q : List Int} {i : Nat} {part : List Mv} (h : AfI MV n s B Q i part) {q : Int} (hq : Q[i]? = some q) (hp : ∀ x ∈ MV, x.f = q → x ∈ part) : AfI MV n s B Q (i + 1) [] :=
 ⟨h.len, h.mem, h.rng, h.nod, h.q0, h.lead, fun j y hj hy x hx hf => by
  by_cases e : j = i
  · subst e; rw [hq] at hy; cases hy;exact h.prt q hq x (hp x hx hf)
  · exact h.done j y (by omega) hy x hx hf, fun y _ x hx => by cases hx⟩
theorem AfI.room {MV : List Mv} {n s : Nat} {B : List Bool} {Q : List Int} {i : Nat} {part : List Mv} (h : AfI MV n s B Q i part) : Q.length ≤ n := by
 have h1 : (Q.map Int.toNat).Nodup := by
  have := h.nod;rw [List.Nodup, List.pairwise_map];refine List.Pairwise.imp_of_mem ?_ this;intro a b ha hb hne e;have := (h.rng a ha).1; have := (h.rng b hb).1;exact hne (by omega)
 have h2 : ∀ k ∈ Q.map Int.toNat, k < n := by
  intro k hk;obtain ⟨q, hq, rfl⟩ := List.mem_map.1 hk;have := h.rng q hq; omega
 have := nodup_len n _ h1 h2;simpa using this
theorem AfI.end_ {MV : List Mv} {n s : Nat} {B : List Bool} {Q : List Int} {i : Nat} (h : AfI MV n s B Q i []) (hi : Q.length ≤ i) : ∀ q ∈ Q, ∀ x ∈ MV, x.f = q → x.t ∈ Q := fun q hq x hx hf => by
 obtain ⟨j, hj, rfl⟩ := List.getElem_of_mem hq;exact h.done j _ (by omega) (List.getElem?_eq_getElem hj) x hx hf
end
section
section
variable {N : Nt} {T : TS}
theorem Gr.of {most : Nat} (hv : ntB N = true) (hg : growT N (iniM N) most = some T) : Gr N T := by
 obtain ⟨hI, hD, _, _⟩ := grow_good (one_mk hv _) hg;exact ⟨hv, hI, hD⟩
theorem Gr.noO (h : Gr N T) (ho : ¬ RsO T.states) : NoO T := fun j d hd => by
 cases hh : d.om with
 | false => rfl
 | true => exact absurd ((omega_iff h.i h.ok h.ism).2 ⟨j, d, hd, hh⟩) ho
theorem Gr.mvf (h : Gr N T) (hno : NoO T) : MvF N T.states (movesOf T) := fun _ hx => mv_fire h.i h.ok h.ism hno hx
def RsAt (N : Nt) (LL : List (List Int)) (MV : List Mv) (r a : Int) : Prop :=
 RsN N LL MV r ∧ (r = 2 → ∃ (k : Nat) (s : List Int), a = (k : Int) ∧ LL[k]? = some s ∧ 0 < s.getD N.snk.toNat 0 ∧ s ≠ finM N) ∧ (r = 3 → ∃ k : Nat, a = (k : Int) ∧ k < LL.length ∧ ¬ Leads N LL MV k) ∧ (r = 4 → ∃ (k : Nat) (t : Tr), a = (k : Int) ∧ N.tr[k]? = some t ∧ ∀ s ∈ LL, canT t s = false)
theorem RsN.is (LL : List (List Int)) (MV : List Mv) {r : Int} (h : RsN N LL MV r) : (r = 1 ∧ RsO LL) ∨ (¬ RsO LL ∧ (r = 2 ∨ r = 3 ∨ r = 4 ∨ (r = 0 ∧ ¬ RsB N LL ∧ ¬ RsL N LL MV ∧ ¬ RsD N LL))) := by
 rcases h with ⟨h1, h2⟩ | ⟨h1, h2, h3⟩ | ⟨h1, h2, h3, h4⟩ | ⟨h1, h2, h3, h4, h5⟩ | ⟨h1, h2, h3, h4, h5⟩
 · exact .inl ⟨h1, h2⟩
 · exact .inr ⟨h1, .inl h2⟩
 · exact .inr ⟨h1, .inr (.inl h3)⟩
 · exact .inr ⟨h1, .inr (.inr (.inl h4))⟩
 · exact .inr ⟨h1, .inr (.inr (.inr ⟨h5, h2, h3, h4⟩))⟩
theorem clm_snd (h : Gr N T) (hw : wfP N) (hno : NoO T) (hb : ¬ RsB N T.states) (hl : ¬ RsL N T.states (movesOf T)) (hd : ¬ RsD N T.states) {g : Nat} (hg : T.states[g]? = some (finM N)) {F : List Int} (hF : IsD (movesOf T) g T.states.length F)
 {V : List Mv} (hV : V.length + 1 = T.states.length) (hVm : ∀ (i : Nat) (x : Mv), V[i]? = some x → x ∈ movesOf T ∧ x.t = (i : Int) + 1 ∧ x.f < (i : Int) + 1) : ClmP N 1 0 [] [] T.states V [] [F] := by
 have hmo := (h.mvf hno).ok;refine ⟨fun _ => hw, .inl ⟨rfl, snd_cert h hno hg hF (fun k hk => ?_) (fun s hs h0 => ?_) (fun t ht => ?_) hV hVm⟩⟩
 · have h1 : Leads N T.states (movesOf T) k := Classical.byContradiction fun hn => hl ⟨k, hk, hn⟩
   obtain ⟨g', hg', hlead⟩ := h1;have : g' = g := h.i.nod g' g (finM N) hg' hg;subst this;exact (lead_far hmo hF hk).1 hlead
 · exact Classical.byContradiction fun hn => hb ⟨s, hs, h0, hn⟩
 · refine Classical.byContradiction fun hn => hd ⟨t, ht, fun s hs => ?_⟩
   cases hc : canT t s with
   | false => rfl
   | true => exact absurd ⟨s, hs, hc⟩ hn
theorem clm_sink (h : Gr N T) (hw : wfP N) (hno : NoO T) {k : Nat} {s : List Int} (hk : T.states[k]? = some s) (h0 : 0 < s.getD N.snk.toNat 0) (hf : s ≠ finM N) {l : List Int} (hl : WayL (movesOf T) k 0 l) (hll : l.length ≤ 1000) : ClmP N 2 0 l [] [] [] [] [] :=
 ⟨fun _ => hw, .inr (.inl ⟨rfl, uns_sink h hno hl hll hk h0 hf⟩)⟩
theorem clm_lost (h : Gr N T) (hw : wfP N) (hno : NoO T) {k : Nat} (hk : k < T.states.length) (hn : ¬ Leads N T.states (movesOf T) k) {l : List Int} (hl : WayL (movesOf T) k 0 l) (hll : l.length ≤ 1000) {Q : List Int} {K : List (List Int)}
 (hq0 : (k : Int) ∈ Q) (hqr : ∀ q ∈ Q, 0 ≤ q ∧ q < (T.states.length : Int)) (hql : ∀ q : Nat, (q : Int) ∈ Q → Lead (movesOf T) q k) (hqc : ∀ q ∈ Q, ∀ x ∈ movesOf T, x.f = q → x.t ∈ Q) (hK : K = Q.map fun q => T.states.getD q.toNat []) : ClmP N 2 0 l [] K [] [] [] := by
 have hmem : ∀ s, s ∈ K ↔ ∃ q : Nat, (q : Int) ∈ Q ∧ T.states[q]? = some s := by
  intro s;subst hK;constructor
  · intro hs;obtain ⟨q, hq, rfl⟩ := List.mem_map.1 hs;obtain ⟨n, rfl⟩ := Int.eq_ofNat_of_zero_le (hqr q hq).1;have hlt : n < T.states.length := by have := (hqr _ hq).2; omega
    refine ⟨n, hq, ?_⟩;rw [Int.toNat_natCast, List.getElem?_eq_getElem hlt, getD_at (List.getElem?_eq_getElem hlt)]
  · rintro ⟨q, hq, hs⟩;refine List.mem_map.2 ⟨(q : Int), hq, ?_⟩;rw [Int.toNat_natCast, getD_at hs]
 refine ⟨fun _ => hw, .inr (.inl ⟨rfl, uns_lost h hno hl hll (List.getElem?_eq_getElem hk) (fun s hs => ?_) ((hmem _).2 ⟨k, hq0, List.getElem?_eq_getElem hk⟩) (fun s hs t ht hc => ?_) (fun hf => ?_)⟩)⟩
 · obtain ⟨q, _, hq⟩ := (hmem s).1 hs;exact List.mem_of_getElem? hq
 · obtain ⟨q, hq, hqs⟩ := (hmem s).1 hs;obtain ⟨j, hj, rfl⟩ := List.getElem_of_mem ht;obtain ⟨x, hx, hxf, hxs⟩ := mv_of h.i h.d hqs (List.getElem?_eq_getElem hj) hc;obtain ⟨f, u, v, tr, a, b, ex, hfa, hub, hvt, hca, hfi, _⟩ := h.mvf hno x hx;subst ex;simp only at hxf hxs;have e1 : f = q := by omega
   have e2 : v = j := by omega
   subst e1 e2;rw [hqs] at hfa; cases hfa;rw [List.getElem?_eq_getElem hj] at hvt; cases hvt;rw [hfi];exact (hmem b).2 ⟨u, hqc _ hq _ hx rfl, hub⟩
 · obtain ⟨q, hq, hqs⟩ := (hmem _).1 hf;exact hn ⟨q, hqs, hql q hq⟩
theorem clm_dead (h : Gr N T) (hw : wfP N) {k : Nat} {t : Tr} (hk : N.tr[k]? = some t) (hno : ∀ s ∈ T.states, canT t s = false) : ClmP N 2 (k : Int) [] [] T.states [] [] [] := by
 obtain ⟨hl, e⟩ := List.getElem?_eq_some_iff.1 hk;exact ⟨fun _ => hw, .inr (.inl ⟨rfl, uns_dead h hl (fun s hs => by rw [e]; exact hno s hs)⟩)⟩
theorem clm_pump (hv : ntB N = true) (hw : wfP N) {most : Nat} (hg : growT N (iniM N) most = some T) (hm : most ≤ 1000) {i : Nat} {d : Nd} {g : Nat} {z : Nd} {W1 W2 : List Nat} {p : Nat} (hf : FOm N T i d g z W1 W2 p) :
 ClmP N 2 0 (W1.map Int.ofNat) (W2.map Int.ofNat) [] [] [] [] := by
 obtain ⟨e1, e2, _, hle, hlt, hp, hl⟩ := om_pump (one_mk hv _) hg hm hf;have hne : (W2.map Int.ofNat).isEmpty = false := by
  cases hh : W2 with
  | nil => exact absurd hh hf.ne
  | cons a l => rfl
 refine ⟨fun _ => hw, .inr (.inl ⟨rfl, ?_⟩)⟩;unfold unsB;rw [hne];simp only [Bool.false_eq_true, if_false];unfold vpumB;have e3 : runI N (W1.map Int.ofNat) = (z.ms, W1.length, 0) := e1;have e4 : atMost z.ms d.pn = true := (atMost_iff _ _).2 hf.le;have e5 : z.ms ≠ d.pn := fun e => by rw [e] at hlt; omega
 rw [e3];simp only;rw [e2, hne];simp [e4, e5]
end
end
section
open Go.RowKit

def nI (l : List Nat) : List Int := l.map fun x => ((x : Nat) : Int)
def Tq.tr (t : Tq) : Tr := ⟨t.lb, nI t.i, nI t.o⟩
theorem mem_nI {l : List Nat} {p : Nat} : (p : Int) ∈ nI l ↔ p ∈ l := by
 unfold nI; rw [List.mem_map];constructor
 · rintro ⟨x, hx, e⟩;have : x = p := by omega
   rw [← this]; exact hx
 · intro h; exact ⟨p, h, rfl⟩
theorem nd_nI {l : List Nat} (h : (nI l).Nodup) : l.Nodup := by
 unfold nI at h;exact List.Pairwise.of_map (fun x : Nat => ((x : Nat) : Int)) (fun a b hab e => hab (by rw [e])) h
theorem cn_if {l : List Nat} (h : l.Nodup) (p : Nat) : cn l p = if p ∈ l then 1 else 0 := by
 by_cases hp : p ∈ l
 · rw [if_pos hp];have h1 := cn_le h p;have h2 := cn_mem.2 hp;omega
 · rw [if_neg hp]; exact List.count_eq_zero.2 hp
def mf (x : List Int) (p : Nat) : Nat := (x.getD p 0).toNat
theorem mf_pos {x : List Int} (h : nonneg x) {p : Nat} : 0 < mf x p ↔ x.getD p 0 ≠ 0 := by
 have := h p;unfold mf; omega
theorem en_can {t : Tq} {x : List Int} (h : nonneg x) : canT t.tr x = true ↔ en t.tn (mf x) := by
 constructor
 · intro hc p hp;exact (mf_pos h).2 (canT_get hc p (mem_nI.2 hp))
 · intro he;refine canT_of (fun p hp => ?_) (fun p hp => (mf_pos h).1 (he p (mem_nI.1 hp)));obtain ⟨y, _, rfl⟩ := List.mem_map.1 hp;omega
theorem mf_fire {t : Tq} {x : List Int} (ht : trOk t.tr x.length) (h : nonneg x) (hc : canT t.tr x = true) : mf (fireT t.tr x) = fi t.tn (mf x) := by
 have h1 : t.i.Nodup := nd_nI ht.1.2;have h2 : t.o.Nodup := nd_nI ht.2.2
 funext p
 obtain ⟨e, h3⟩ := fire_real ht h hc p;have h4 : fi t.tn (mf x) p = mf x p - cn t.i p + cn t.o p := rfl;rw [h4, cn_if h1, cn_if h2];have h5 : dl t.tr p = (if p ∈ t.o then 1 else 0) - (if p ∈ t.i then 1 else 0) := by
  unfold dl;simp only [Tq.tr, mem_nI]
 rw [h5] at e h3;unfold mf;rw [e];have h6 := h p;by_cases hi : p ∈ t.i
 · have h7 := canT_get hc p (mem_nI.2 hi);rw [if_pos hi] at e h3 ⊢;rw [if_pos hi];split <;> omega
 · rw [if_neg hi];rw [if_neg hi];split <;> omega
theorem mf_one (pl p : Nat) (h : p < pl) : mf (oneM pl p) = cn [p] := by
 funext q
 unfold mf oneM;rw [set_get _ _ _ _ (by simpa using h)];rw [cn_if (by simp)];by_cases e : p = q
 · subst e; simp
 · rw [if_neg e, if_neg (by simpa using fun h => e h.symm)];rw [List.getD_eq_getElem?_getD, List.getElem?_replicate];split <;> rfl
theorem mf_ext {x y : List Int} (hl : x.length = y.length) (hx : nonneg x) (hy : nonneg y) (h : mf x = mf y) : x = y := by
 refine ext_get hl (fun p _ => ?_);have h1 := congrFun h p;have h2 := hx p;have h3 := hy p;unfold mf at h1;omega
theorem mk_nn {N : Nt} {s : List Int} (h : mkB N s = true) : nonneg s := fun p => (mk_isM h p).1
structure BNet (N : Nt) (T : List Tq) (n' : Nat) : Prop where
 pl : N.pl = (n' : Int)
 tr : N.tr = T.map Tq.tr
 src : N.src = 0
 snk : N.snk = 1
 v : ntB N = true
 bc : BC 0 1 (rng 2 n') (T.map Tq.tn)
 hn : 2 ≤ n'
section
variable {N : Nt} {T : List Tq} {n' : Nat}
theorem BNet.ini (B : BNet N T n') : iniM N = oneM n' 0 := by unfold iniM; rw [B.pl, B.src]; rfl
theorem BNet.fin (B : BNet N T n') : finM N = oneM n' 1 := by unfold finM; rw [B.pl, B.snk]; rfl
theorem BNet.mini (B : BNet N T n') : mf (iniM N) = cn [0] := by rw [B.ini]; exact mf_one _ _ (by have := B.hn; omega)
theorem BNet.mfin (B : BNet N T n') : mf (finM N) = cn [1] := by rw [B.fin]; exact mf_one _ _ (by have := B.hn; omega)
theorem BNet.get (B : BNet N T n') {k : Nat} {tr : Tr} (h : N.tr[k]? = some tr) : ∃ t, T[k]? = some t ∧ tr = t.tr := by
 rw [B.tr, List.getElem?_map] at h;cases ht : T[k]? with
 | none => rw [ht] at h; cases h
 | some t => rw [ht] at h; cases h; exact ⟨t, rfl, rfl⟩
theorem BNet.at_ (B : BNet N T n') {k : Nat} {t : Tq} (h : T[k]? = some t) : N.tr[k]? = some t.tr := by rw [B.tr, List.getElem?_map, h]; rfl
theorem tn_mem {k : Nat} {t : Tq} (h : T[k]? = some t) : t.tn ∈ T.map Tq.tn := List.mem_map.2 ⟨t, List.mem_of_getElem? h, rfl⟩
theorem BNet.ok (B : BNet N T n') {s : List Int} (hs : mkB N s = true) : netOk N s.length := netOk_of B.v (mk_len hs)
theorem BNet.reach (B : BNet N T n') {x : List Int} (h : Reach N (iniM N) x) : Rr (T.map Tq.tn) (cn [0]) (mf x) := by
 have h0 : mkB N (iniM N) = true := one_mk B.v _
 induction h with
 | base => rw [B.mini]; exact .refl
 | @step x k tr hr hk hc ih =>
  obtain ⟨t, ht, rfl⟩ := B.get hk;have hg := hr.good (B.ok h0) (mk_nn h0);rw [mf_fire (by rw [hg.2]; exact B.ok h0 k _ hk) hg.1 hc];exact .step _ (tn_mem ht) ih ((en_can hg.1).1 hc)
variable {LL : List (List Int)} {MV : List Mv}
theorem BNet.lead (B : BNet N T n') (hf : MvF N LL MV) (hm : ∀ s ∈ LL, mkB N s = true) {g : Nat} : ∀ {k : Nat}, Lead MV g k → ∀ {s s' : List Int}, LL[k]? = some s → LL[g]? = some s' → Rr (T.map Tq.tn) (mf s) (mf s') := by
 intro k h
 induction h with
 | stop => intro s s' h1 h2; rw [h1] at h2; cases h2; exact .refl
 | @step a b c hx _ ih =>
  intro s s' h1 h2;obtain ⟨f, u, k, tr, z, z', e, hz, hz', hk, hc, hfi, _⟩ := hf _ hx;injection e with e1 e2 e3;have e1 : a = f := by omega
  have e2 : b = u := by omega
  subst e1 e2;rw [h1] at hz; cases hz;obtain ⟨t, ht, rfl⟩ := B.get hk;have hmk := hm s (List.mem_of_getElem? h1);have h3 := ih hz' h2;rw [← hfi, mf_fire (B.ok hmk k _ hk) (mk_nn hmk) hc] at h3;exact (Rr.step _ (tn_mem ht) .refl ((en_can (mk_nn hmk)).1 hc)).trans h3
theorem BNet.run (B : BNet N T n') (hc : MvC N LL MV) (hm : ∀ s ∈ LL, mkB N s = true) {k : Nat} {s : List Int} (hk : LL[k]? = some s) {m' : Nat → Nat} (h : Rr (T.map Tq.tn) (mf s) m') : ∃ g s', LL[g]? = some s' ∧ mf s' = m' ∧ Lead MV g k := by
 induction h with
 | refl => exact ⟨k, s, hk, rfl, .stop⟩
 | @step m1 u hu _ he ih =>
  obtain ⟨g, s', hg, rfl, hl⟩ := ih;obtain ⟨t, ht, rfl⟩ := List.mem_map.1 hu;obtain ⟨j, hj⟩ := List.getElem?_of_mem ht;have hmk := hm s' (List.mem_of_getElem? hg);have hcan := (en_can (mk_nn hmk)).2 he;obtain ⟨_, f, hx, hf⟩ := hc g j s' t.tr hg (B.at_ hj) hcan;exact ⟨f, _, hf, mf_fire (B.ok hmk j _ (B.at_ hj)) (mk_nn hmk) hcan, hl.snoc hx⟩
theorem BNet.is_fin (B : BNet N T n') {s : List Int} (hs : mkB N s = true) (h : mf s = cn [1]) : s = finM N := by
 have h1 : mkB N (finM N) = true := one_mk B.v _;refine mf_ext ?_ (mk_nn hs) (mk_nn h1) (h.trans B.mfin.symm);have := mk_len hs;have := mk_len h1;omega
theorem BNet.st (B : BNet N T n') (hf : MvF N LL MV) (hm : ∀ s ∈ LL, mkB N s = true) (h0 : LL[0]? = some (iniM N)) (hl : ∀ k, k < LL.length → Lead MV k 0) {k : Nat} {s : List Int} (hk : LL[k]? = some s) : Rr (T.map Tq.tn) (cn [0]) (mf s) := by
 have h1 := B.lead hf hm (hl k (List.getElem?_eq_some_iff.1 hk).1) h0 hk;rw [B.mini] at h1;exact h1
theorem BNet.leads (B : BNet N T n') (hc : MvC N LL MV) (hm : ∀ s ∈ LL, mkB N s = true) {k : Nat} {s : List Int} (hk : LL[k]? = some s) (hr : Rr (T.map Tq.tn) (cn [0]) (mf s)) : Leads N LL MV k := by
 obtain ⟨g, s', hg, he, hl⟩ := B.run hc hm hk (B.bc.comp _ hr);exact ⟨g, by rw [hg, B.is_fin (hm s' (List.mem_of_getElem? hg)) he], hl⟩
theorem BNet.sound (B : BNet N T n') (hno : ¬ RsO LL) (hf : MvF N LL MV) (hc : MvC N LL MV) (hm : ∀ s ∈ LL, mkB N s = true) (h0 : LL[0]? = some (iniM N)) (hl : ∀ k, k < LL.length → Lead MV k 0) {r : Int} (h : RsN N LL MV r) : r = 0 := by
 have hB : ¬ RsB N LL := by
  rintro ⟨s, hs, h1, h2⟩;obtain ⟨k, hk⟩ := List.getElem?_of_mem hs;have hr := B.st hf hm h0 hl hk;refine h2 (B.is_fin (hm s hs) (B.bc.lst _ hr ?_));unfold mf;rw [B.snk] at h1;have h3 : s.getD (Int.toNat 1) 0 = s.getD 1 0 := rfl;omega
 have hL : ¬ RsL N LL MV := by
  rintro ⟨k, hk, h1⟩;exact h1 (B.leads hc hm (List.getElem?_eq_getElem hk) (B.st hf hm h0 hl (List.getElem?_eq_getElem hk)))
 have hD : ¬ RsD N LL := by
  rintro ⟨t, ht, h1⟩;rw [B.tr] at ht;obtain ⟨u, hu, rfl⟩ := List.mem_map.1 ht;obtain ⟨m, h2, h3⟩ := B.bc.live u.tn (List.mem_map.2 ⟨u, hu, rfl⟩);rw [← B.mini] at h2;obtain ⟨g, s', hg, rfl, _⟩ := B.run hc hm h0 h2;have hs' := List.mem_of_getElem? hg;have h9 := h1 s' hs';rw [(en_can (mk_nn (hm s' hs'))).2 h3] at h9;cases h9
 unfold RsN at h;rcases h with ⟨_, h2⟩ | ⟨_, _, h3⟩ | ⟨_, _, _, h4⟩ | ⟨_, _, _, _, h5⟩ | ⟨_, _, _, _, h5⟩
 · exact absurd h2 hno
 · exact absurd h3 hB
 · exact absurd h4 hL
 · exact absurd h5 hD
 · exact h5
theorem BNet.relax (B : BNet N T n') (hc : MvC N LL MV) (hm : ∀ s ∈ LL, mkB N s = true) (h0 : LL[0]? = some (iniM N)) : ∀ t : Nat, t < N.tr.length → ∃ x ∈ MV, x.s = (t : Int) ∧ Leads N LL MV x.t.toNat := by
 intro t ht;obtain ⟨u, hu, e⟩ := B.get (List.getElem?_eq_getElem ht);obtain ⟨m, h2, h3⟩ := B.bc.live u.tn (tn_mem hu);have h2' := h2;rw [← B.mini] at h2';obtain ⟨g, s', hg, rfl, _⟩ := B.run hc hm h0 h2';have hmk := hm s' (List.mem_of_getElem? hg);have hcan := (en_can (mk_nn hmk)).2 h3;obtain ⟨_, f, hx, hf⟩ := hc g t s' u.tr hg (B.at_ hu) hcan;refine ⟨_, hx, rfl, ?_⟩;have h5 : Rr (T.map Tq.tn) (cn [0]) (mf (fireT u.tr s')) := by
  rw [mf_fire (B.ok hmk t _ (B.at_ hu)) (mk_nn hmk) hcan];exact .step _ (tn_mem hu) h2 h3
 exact B.leads hc hm hf h5
end
theorem Gr.mvc {N : Nt} {T : TS} (h : Gr N T) (hno : NoO T) : MvC N T.states (movesOf T) := fun f k s tr hf hk hc => by
 have hs := List.mem_of_getElem? hf;have h1 := h.clo hno s hs tr (List.mem_of_getElem? hk) hc;obtain ⟨x, hx, hxf, hxs⟩ := mv_of h.i h.d hf hk hc;obtain ⟨f', t', k', tr', z, z', e, hz, hz', hk', _, hfi, _⟩ := h.mvf hno x hx;subst e;simp only at hxf hxs;have e1 : f' = f := by omega
 have e2 : k' = k := by omega
 subst e1 e2;rw [hf] at hz; cases hz;rw [hk] at hk'; cases hk';exact ⟨h1.1, t', hx, by rw [hfi]; exact hz'⟩
theorem BNet.noO {N : Nt} {T : List Tq} {n' : Nat} (B : BNet N T n') {G : TS} (h : Gr N G) : ¬ RsO G.states := by
 rintro ⟨s, hs, ho⟩;obtain ⟨p, hp, h1⟩ := (hasO_iff s).1 ho;obtain ⟨q, hq⟩ := List.getElem?_of_mem hs;obtain ⟨j, d, hd, _, hst⟩ := h.i.own q (List.getElem?_eq_some_iff.1 hq).1;have h2 := h.i.st j d hd;rw [hst, hq] at h2;have e := Option.some.inj h2;obtain ⟨x, hx, hat⟩ := Go.Proofs.YtpiihmbeedlpkaaGreatDoor.sound h.i h.ok h.ism j d hd 2;rw [← e] at hat;have h3 := (hat p hp).2 h1;have h4 := B.bc.saf _ (B.reach hx) p;unfold mf at h4;omega
theorem noO_of {N : Nt} {G : TS} (h : Gr N G) (hno : ¬ RsO G.states) : NoO G := fun j d hd => by
 cases hh : d.om with
 | false => rfl
 | true => exact absurd ((omega_iff h.i h.ok h.ism).2 ⟨j, d, hd, hh⟩) hno
end
end Go.Proofs.YtpiihmbeedlpkaaGreatDoor
