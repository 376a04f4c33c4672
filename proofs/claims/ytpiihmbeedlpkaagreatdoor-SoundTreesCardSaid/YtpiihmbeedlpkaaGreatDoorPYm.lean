/- The moves of a bounded graph, plain: each is a firing, each firing is there, each state is reached by an earlier one. verdict: sound: what a call returns, plain; the facts that its walk uses. verdict.Check: what a call returns. The certificates of Bounded prove their claims: plain. A pump goes on from more tokens: plain. Opposite claims of a net are not both proved: plain. Certificates out of coverability graphs, plain: soundness. A certificate that grows, in memory. great, Great, awake of the statements: what a call returns. -/
import Derived.Test.YtpiihmbeedlpkaaGreatDoorPUu
import Derived.Test.YtpiihmbeedlpkaaGreatDoorPJc
import Derived.Test.YtpiihmbeedlpkaaGreatDoorPDe
import Derived.Test.YtpiihmbeedlpkaaGreatDoorPQj
import Derived.Test.YtpiihmbeedlpkaaGreatDoorPQp
import Derived.Test.YtpiihmbeedlpkaaGreatDoorPHf
import Derived.Test.YtpiihmbeedlpkaaGreatDoorPDg
import Derived.Lib.UnsafeStr
import Derived.Lib.AtoiAll
import Derived.Lib.SplitLaws
import Derived.Maps.AppendAt
namespace Go.Proofs.YtpiihmbeedlpkaaGreatDoor
section
section
variable {N : Nt} {m : List Int} {T : TS}
def NoO (T : TS) : Prop := ∀ (j : Nat) (d : Nd), T.nodes[j]? = some d → d.om = false
theorem move_get {x : Mv} (hx : x ∈ movesOf T) : ∃ (j : Nat) (d : Nd), 0 < j ∧ T.nodes[j]? = some d ∧ x = mvOf T d := by
 unfold movesOf at hx;obtain ⟨d, hd, rfl⟩ := List.mem_map.1 hx;obtain ⟨j, hj, rfl⟩ := List.getElem_of_mem hd;rw [List.length_drop] at hj;refine ⟨j + 1, _, by omega, ?_, rfl⟩;rw [List.getElem_drop, List.getElem?_eq_getElem (by omega)];simp only [Nat.add_comm]
theorem mvOf_val (h : TInv N m T) {j : Nat} {d : Nd} (hd : T.nodes[j]? = some d) (hj : 0 < j) : ∃ (i k : Nat) (e : Nd) (t : Tr), i < j ∧ T.nodes[i]? = some e ∧ e.nw = true ∧ N.tr[k]? = some t ∧ canT t e.ms = true ∧ d.pn = fireT t e.ms ∧ bigM d.pn = false ∧ d.ab = (i : Int) ∧ d.tr = (k : Int) ∧ mvOf T d = ⟨(e.st : Int), (d.st : Int), (k : Int)⟩ := by
 obtain ⟨i, k, e, t, hij, ha, ht, hi, hnw, hk, hc, hp, hb, _⟩ := h.par j d hd hj;refine ⟨i, k, e, t, hij, hi, hnw, hk, hc, hp, hb, ha, ht, ?_⟩;unfold mvOf;rw [ha, ht, Int.toNat_natCast, hi]
theorem mv_fire (h : TInv N m T) (hN : netOk N m.length) (hm : isM m) (hno : NoO T) {x : Mv} (hx : x ∈ movesOf T) :
 ∃ (f t k : Nat) (tr : Tr) (s s' : List Int), x = ⟨(f : Int), (t : Int), (k : Int)⟩ ∧ T.states[f]? = some s ∧ T.states[t]? = some s' ∧ N.tr[k]? = some tr ∧ canT tr s = true ∧ fireT tr s = s' ∧ bigM s' = false := by
 obtain ⟨j, d, hj, hd, rfl⟩ := move_get hx;obtain ⟨i, k, e, t, hij, hi, hnw, hk, hc, hp, hb, _, _, hv⟩ := mvOf_val h hd hj;have hpm : d.ms = d.pn := by
  rcases node_om h hN hm hd with ⟨_, h2, _⟩ | ⟨h2, _⟩
  · exact h2
  · rw [hno j d hd] at h2; cases h2
 exact ⟨e.st, d.st, k, t, e.ms, d.ms, hv, h.st i e hi, h.st j d hd, hk, hc, by rw [hpm, hp], by rw [hpm]; exact hb⟩
theorem mv_of (h : TInv N m T) (hD : Done N T) {f k : Nat} {s : List Int} {tr : Tr} (hf : T.states[f]? = some s) (hk : N.tr[k]? = some tr) (hc : canT tr s = true) : ∃ x ∈ movesOf T, x.f = (f : Int) ∧ x.s = (k : Int) := by
 obtain ⟨j, d, hd, hnw, hst⟩ := h.own f (List.getElem?_eq_some_iff.1 hf).1;have hs := h.st j d hd;rw [hst, hf] at hs;have hs : s = d.ms := Option.some.inj hs;have hj : j < T.nodes.length := (List.getElem?_eq_some_iff.1 hd).1;obtain ⟨c, e, hce, hab, htr⟩ := hD j hj d hd hnw k tr (List.getElem?_eq_some_iff.1 hk).1 hk (by rw [← hs]; exact hc);have hc0 : 0 < c := by
  rcases Nat.eq_zero_or_pos c with h0 | h0
  · subst h0; rw [h.root] at hce; cases hce; simp at hab
  · exact h0
 obtain ⟨i, k', e', t', _, hi, _, _, _, _, _, ha, ht, hv⟩ := mvOf_val h hce hc0;have e1 : i = j := by omega
 subst e1;rw [hd] at hi;have e2 := Option.some.inj hi;subst e2;refine ⟨mvOf T e, ?_, by rw [hv, ← hst], by rw [hv]; exact ht.symm.trans htr⟩;unfold movesOf;refine List.mem_map.2 ⟨e, List.mem_of_getElem? (i := c - 1) ?_, rfl⟩;rw [List.getElem?_drop, show 1 + (c - 1) = c by omega]; exact hce
theorem mv_tree (h : TInv N m T) {k : Nat} (hk : k < T.states.length) (h0 : 0 < k) : ∃ x ∈ movesOf T, x.t = (k : Int) ∧ x.f < (k : Int) := by
 obtain ⟨j, d, hd, hnw, hst⟩ := h.own k hk;have hj : 0 < j := by
  rcases Nat.eq_zero_or_pos j with h1 | h1
  · subst h1; rw [h.root] at hd; cases hd; simp at hst; omega
  · exact h1
 obtain ⟨i, k', e, t', hij, hi, henw, _, _, _, _, _, _, hv⟩ := mvOf_val h hd hj;have hlt := h.asc i j e d hij hi hd henw hnw;refine ⟨mvOf T d, ?_, by rw [hv, ← hst], by rw [hv, ← hst]; show ((e.st : Nat) : Int) < _; omega⟩;unfold movesOf;refine List.mem_map.2 ⟨d, List.mem_of_getElem? (i := j - 1) ?_, rfl⟩;rw [List.getElem?_drop, show 1 + (j - 1) = j by omega]; exact hd
def MvF (N : Nt) (LL : List (List Int)) (MV : List Mv) : Prop := ∀ x ∈ MV, ∃ (f t k : Nat) (tr : Tr) (s s' : List Int), x = ⟨(f : Int), (t : Int), (k : Int)⟩ ∧ LL[f]? = some s ∧ LL[t]? = some s' ∧ N.tr[k]? = some tr ∧ canT tr s = true ∧ fireT tr s = s' ∧ bigM s' = false
theorem MvF.ok {LL : List (List Int)} {MV : List Mv} (h : MvF N LL MV) : mvOk MV LL.length := fun x hx => by
 obtain ⟨f, t, k, tr, s, s', ex, hf, ht, _⟩ := h x hx;have h1 := (List.getElem?_eq_some_iff.1 hf).1;have h2 := (List.getElem?_eq_some_iff.1 ht).1;subst ex;simp only;omega
end
end
section
open Go.RowKit

def mvT (N : Nt) (K : List (List Int)) (i : Nat) (f t s : Int) : Bool := decide (t = (i : Int) + 1) && (decide (0 ≤ f) && (decide (f ≤ (i : Int)) && (decide ((fireV N (K.getD f.toNat []) s).2 = 0) && decide ((fireV N (K.getD f.toNat []) s).1 = K.getD (i + 1) []))))
def mvOkAt (N : Nt) (K : List (List Int)) (V : List Mv) (i : Nat) : Bool := match V[i]? with
 | some x => mvT N K i x.f x.t x.s
 | none => true
theorem mvOk_get {N : Nt} {K : List (List Int)} {V : List Mv} {i : Nat} (h : i < V.length) : mvOkAt N K V i = mvT N K i V[i].f V[i].t V[i].s := by
 unfold mvOkAt; rw [List.getElem?_eq_getElem h]
def rowV (Z : List Int) (i : Nat) : Int := Z.getD i 0
def nearT (K : List (List Int)) (Z : List Int) (i : Nat) (t : Tr) : Bool := canT t (K.getD i []) && decide (rowV Z (lidx (isL (fireT t (K.getD i []))) K).toNat < rowV Z i)
def mrkOk (N : Nt) (K : List (List Int)) (Z : List Int) (i : Nat) : Bool := decide (lidx (isL (K.getD i [])) K = (i : Int)) && ((decide (K.getD i [] = finM N) == decide (rowV Z i = 0)) && (decide (K.getD i [] = finM N) || (N.tr.any (nearT K Z i) && !(decide (0 < (K.getD i []).getD N.snk.toNat 0)))))
def firedB (K : List (List Int)) (t : Tr) : Bool := K.any (canT t)
def sndB (N : Nt) (K : List (List Int)) (V : List Mv) (X : List (List Int)) : Bool :=
 !(K.isEmpty) && (mksX N.pl false K && (decide (K.getD 0 [] = iniM N) && (decide (V.length + 1 = K.length) && (decide (X.length = 1) && (decide ((X.headD []).length = K.length) && ((List.range V.length).all (mvOkAt N K V) && (closX N K && ((List.range K.length).all (mrkOk N K (X.headD [])) && N.tr.all (firedB K)))))))))
end
section
open Go.RowKit

def ndB (N : Nt) (cn : Int) (R : List Int) : Bool := decide ((runI N R).2.2 = 0) && (decide (0 < R.length) && decide (R.getD (R.length - 1) 0 = cn))
def ClmP (N : Nt) (cl cn : Int) (R P : List Int) (K : List (List Int)) (V : List Mv) (S X : List (List Int)) : Prop :=
 (1 ≤ cl ∧ cl ≤ 4 → wfP N) ∧ ((cl = 1 ∧ sndB N K V X = true) ∨ (cl = 2 ∧ unsB N cn R P K = true) ∨ (cl = 3 ∧ relB N S = true) ∨ (cl = 4 ∧ nrlB N cn K S = true) ∨ ((cl = 5 ∨ cl = 6) ∧ chkB N (iniM N) ⟨cl, cn, R, P, K⟩ = true) ∨ (cl = 7 ∧ deadB N cn K = true) ∨ (cl = 8 ∧ ndB N cn R = true))
theorem clm_at {N : Nt} {cn : Int} {R P : List Int} {K : List (List Int)} {V : List Mv} {S X : List (List Int)} (hw : wfP N) :
 (ClmP N 1 cn R P K V S X ↔ sndB N K V X = true) ∧ (ClmP N 2 cn R P K V S X ↔ unsB N cn R P K = true) ∧ (ClmP N 3 cn R P K V S X ↔ relB N S = true) ∧ (ClmP N 4 cn R P K V S X ↔ nrlB N cn K S = true) := by
 refine ⟨?_, ?_, ?_, ?_⟩ <;> (unfold ClmP; simp [hw])
end
section
theorem addN_le {most : Nat} {T T' : TS} {x : Nd} (h : addN most T x = some T') (hl : T.states.length ≤ most) : T'.states.length ≤ most := by
 unfold addN at h;split at h
 · split at h
   · cases h
   · split at h
     · cases h
     · cases h; simp; omega
 · split at h
   · cases h
   · cases h; exact hl
theorem stepK_le {N : Nt} {most i k : Nat} {T T' : TS} (h : stepK N most i T k = some T') (hl : T.states.length ≤ most) : T'.states.length ≤ most := by
 unfold stepK at h;split at h
 · split at h
   · split at h
     · cases h
     · exact addN_le h hl
   · cases h; exact hl
 · cases h; exact hl
theorem stepI_le {N : Nt} {most i : Nat} : ∀ (f k : Nat) (T T' : TS), stepI N most i f k T = some T' → T.states.length ≤ most → T'.states.length ≤ most := by
 intro f
 induction f with
 | zero => intro k T T' h hl; unfold stepI at h; cases h; exact hl
 | succ f ih =>
  intro k T T' h hl;unfold stepI at h;split at h
  · cases hs : stepK N most i T k with
    | none => rw [hs] at h; cases h
    | some T1 =>
     rw [hs] at h;exact ih _ _ _ h (stepK_le hs hl)
  · cases h; exact hl
theorem growF_le {N : Nt} {most : Nat} : ∀ (f i : Nat) (T T' : TS), growF N most f i T = some T' → T.states.length ≤ most → T'.states.length ≤ most := by
 intro f
 induction f with
 | zero => intro i T T' h hl; unfold growF at h; cases h; exact hl
 | succ f ih =>
  intro i T T' h hl;unfold growF at h;split at h
  · split at h
    · cases hs : stepI N most i (N.tr.length + 1) 0 T with
      | none => rw [hs] at h; cases h
      | some T1 =>
       rw [hs] at h;exact ih _ _ _ h (stepI_le _ _ _ _ hs hl)
    · exact ih _ _ _ h hl
  · cases h; exact hl
theorem growT_le {N : Nt} {m : List Int} {most : Nat} {T : TS} (h : growT N m most = some T) : T.states.length ≤ most := by
 unfold growT at h;cases hs : addN most ⟨[], []⟩ ⟨m, m, -1, -1, 0, -1, false, false⟩ with
 | none => rw [hs] at h; cases h
 | some T1 =>
  rw [hs] at h;exact growF_le _ _ _ _ h (addN_le hs (Nat.zero_le _))
theorem mk_of {N : Nt} {M s : List Int} (h : mkB N M = true) (hl : s.length = M.length) (hs : isM s) : mkB N s = true := by
 unfold mkB;have hn : s.any badK = false := by
  rw [List.any_eq_false];intro x hx;obtain ⟨p, hp, rfl⟩ := List.getElem_of_mem hx;have h1 := hs p;have e : s.getD p 0 = s[p] := by simp [hp]
  rw [e] at h1;unfold badK; simp; omega
 rw [mk_nt h, hl, mk_len h, hn]; simp
theorem om_cert {N : Nt} {M : List Int} {most : Nat} {T : TS} {i : Nat} {d : Nd} {g : Nat} {z : Nd} {W1 W2 : List Nat} {p : Nat} (hv : mkB N M = true) (hg : growT N M most = some T) (hm : most ≤ 1000) (hf : FOm N T i d g z W1 W2 p) :
 chkB N M ⟨6, p, W1.map Int.ofNat, W2.map Int.ofNat, []⟩ = true ∧ fitB ⟨6, p, W1.map Int.ofNat, W2.map Int.ofNat, []⟩ = true ∧ omB T.states = true ∧ (run21 N M (W1.map Int.ofNat)) = (z.ms, W1.length, 0) ∧ run21 N z.ms (W2.map Int.ofNat) = (d.pn, W2.length, 0) ∧ z.ms.length = M.length ∧ d.pn.length = M.length ∧ isM z.ms ∧ nonneg d.pn := by
 obtain ⟨hI, hD, hN, hM⟩ := grow_good hv hg;have hle := growT_le hg;have hF := hI.fine hN hM;have hgi : g < i := (hf.w2.le hI).2 hf.ne;have hno := no_omega hI hN hM i hf.fst;have hz1 := hno g z (by omega) hf.anc;have hzM := (hz1.2 hgi).1;have hzp := (hz1.2 hgi).2;have hdp := (hno i d (Nat.le_refl _) hf.at_).1;have hfd := hF i d hf.at_;have hfz := hF g z hf.anc;have hl1 : W1.length ≤ 1000 := by have := (path_len hI hf.w1 hf.anc).2; omega
 have hl2 : W2.length ≤ 1000 := by have := (path_len hI hf.w2 hf.at_).2; omega
 have hsame : ∀ (b : Nat), b ≤ i → ∀ (j : Nat) (e : Nd), j < b → T.nodes[j]? = some e → e.ms = e.pn := fun b hb j e hj he => ((hno j e (by omega) he).2 (by omega)).2
 have r1 := path_run hI hf.w1 hI.root hf.anc (hsame g (by omega));have r2 := path_run hI hf.w2 hf.anc hf.at_ (hsame i (Nat.le_refl _));simp only at r1;rw [if_neg hf.ne] at r2;have r1' : runV N M 0 (W1.map Int.ofNat) = (z.ms, W1.length, 0) := by
  rw [r1];by_cases h0 : W1 = []
  · rw [if_pos h0]
  · rw [if_neg h0, hzp]
 have hzk : mkB N z.ms = true := mk_of hv hfz.lm hzM;have e1 : run21 N M (W1.map Int.ofNat) = (z.ms, W1.length, 0) := by
  unfold run21; rw [hv, if_pos rfl, if_neg (by rw [List.length_map]; omega)]; exact r1'
 have e2 : run21 N z.ms (W2.map Int.ofNat) = (d.pn, W2.length, 0) := by
  unfold run21; rw [hzk, if_pos rfl, if_neg (by rw [List.length_map]; omega)]; exact r2
 have hpM : p < M.length := by have := hf.pl; rw [hfd.lp] at this; exact this
 have hnn : nonneg d.pn := fun q => by
  have h1 := hfd.ep q;have h2 := hasO_no hdp q;omega
 refine ⟨?_, ?_, ?_, e1, e2, hfz.lm, hfd.lp, hzM, hnn⟩
 · unfold chkB;rw [hv, if_neg (by simp), Bool.true_and];have hb : badC N ⟨6, p, W1.map Int.ofNat, W2.map Int.ofNat, []⟩ = false := by
    have h4 := mk_len hv;have h5 : W2.length ≠ 0 := fun h => hf.ne (List.eq_nil_of_length_eq_zero h)
    unfold badC;simp [hf.ne];omega
   rw [hb];unfold pumpB;simp only [e1, e2];have hlt : z.ms.getD p 0 < d.pn.getD p 0 := by
    have h1 := (lessE_iff _ _).1 (hf.le p (by rw [hfz.lm]; exact hpM));have h2 := hf.df;have h3 := hnn p;rcases h1 with h1 | h1
    · omega
    · have := h1.2; omega
   unfold endB;rw [(atMost_iff _ _).2 hf.le];simp only [Int.toNat_natCast];rw [decide_eq_true hlt]; simp
 · unfold fitB; simp; omega
 · unfold omB;rw [List.any_eq_true];exact (omega_iff hI hN hM).2 ⟨i, d, hf.at_, hf.om⟩
end
section
theorem om_pump {N : Nt} {M : List Int} {most : Nat} {T : TS} {i : Nat} {d : Nd} {g : Nat} {z : Nd} {W1 W2 : List Nat} {p : Nat} (hv : mkB N M = true) (hg : growT N M most = some T) (hm : most ≤ 1000) (hf : FOm N T i d g z W1 W2 p) :
 run21 N M (W1.map Int.ofNat) = (z.ms, W1.length, 0) ∧ run21 N z.ms (W2.map Int.ofNat) = (d.pn, W2.length, 0) ∧ mkB N z.ms = true ∧ (∀ q : Nat, z.ms.getD q 0 ≤ d.pn.getD q 0) ∧ z.ms.getD p 0 < d.pn.getD p 0 ∧ p < M.length ∧ z.ms.length = M.length := by
 obtain ⟨_, _, _, e1, e2, l1, l2, hzM, hnn⟩ := om_cert hv hg hm hf;have hz : mkB N z.ms = true := by have := run21_mk (N := N) (M := M) (l := W1.map Int.ofNat) (by rw [e1]); rwa [e1] at this
 have hle : ∀ q : Nat, z.ms.getD q 0 ≤ d.pn.getD q 0 := fun q => by
  rcases Nat.lt_or_ge q z.ms.length with hq | hq
  · have h1 := (lessE_iff _ _).1 (hf.le q hq);have h2 := hnn q;rcases h1 with h1 | h1
    · omega
    · exact h1.2
  · rw [getD_out hq, getD_out (by omega)]; omega
 have hpl := hf.pl;refine ⟨e1, e2, hz, hle, ?_, by omega, l1⟩;have h1 := hle p;have h2 := hf.df;omega
end
section
theorem memB_iff {K : List (List Int)} {m : List Int} : memB K m = true ↔ m ∈ K := by
 unfold memB isL; rw [List.any_eq_true];exact ⟨fun ⟨x, hx, h⟩ => by have := of_decide_eq_true h; rw [← this]; exact hx, fun h => ⟨m, h, by simp⟩⟩
end
section
theorem isM_mk {N : Nt} {s : List Int} (hv : ntB N = true) (hl : (s.length : Int) = N.pl) (hm : isM s) : mkB N s = true := by
 have h1 : s.any badK = false := List.any_eq_false.2 (fun x hx => by
  obtain ⟨p, hp, rfl⟩ := List.getElem_of_mem hx;have h2 := hm p;have e : s.getD p 0 = s[p] := by simp [hp]
  rw [e] at h2;unfold badK; simp; omega)
 unfold mkB;rw [hv, decide_eq_true hl, h1]; rfl
theorem mk_isM {N : Nt} {s : List Int} (h : mkB N s = true) : isM s := by
 intro p;rcases Nat.lt_or_ge p s.length with hp | hp
 · have e : s.getD p 0 = s[p] := by simp [hp]
   rw [e]; exact mk_nums h _ (List.getElem_mem hp)
 · rw [getD_out hp]; omega
structure Gr (N : Nt) (T : TS) : Prop where
 v : ntB N = true
 i : TInv N (iniM N) T
 d : Done N T
section
variable {N : Nt} {T : TS}
theorem Gr.mk0 (h : Gr N T) : mkB N (iniM N) = true := one_mk h.v _
theorem Gr.len (h : Gr N T) : ((iniM N).length : Int) = N.pl := mk_len h.mk0
theorem Gr.ok (h : Gr N T) : netOk N (iniM N).length := netOk_of h.v h.len
theorem Gr.ism (h : Gr N T) : isM (iniM N) := mk_isM h.mk0
theorem Gr.st (h : Gr N T) (hno : NoO T) : ∀ s ∈ T.states, mkB N s = true := fun s hs => by
 obtain ⟨h1, h2, _⟩ := (bounded_closed h.i h.d h.ok h.ism hno).2 s hs;exact isM_mk h.v (by rw [h1]; exact h.len) h2
theorem Gr.mks (h : Gr N T) (hno : NoO T) : mksX N.pl false T.states = true := List.all_eq_true.2 fun s hs => by
 rw [mkX_mk h.v]; exact h.st hno s hs
theorem Gr.clo (h : Gr N T) (hno : NoO T) : ∀ s ∈ T.states, ∀ t ∈ N.tr, canT t s = true → bigM (fireT t s) = false ∧ fireT t s ∈ T.states := fun s hs t ht hc => by
 obtain ⟨k, hk, rfl⟩ := List.getElem_of_mem ht;exact ((bounded_closed h.i h.d h.ok h.ism hno).2 s hs).2.2 k _ (List.getElem?_eq_getElem hk) hc
theorem clos_of {N : Nt} {K : List (List Int)} (h : ∀ s ∈ K, ∀ t ∈ N.tr, canT t s = true → bigM (fireT t s) = false ∧ fireT t s ∈ K) : closX N K = true := by
 unfold closX dblB;refine List.all_eq_true.2 fun s hs => List.all_eq_true.2 fun t ht => ?_
 unfold okX;cases hc : canT t s with
 | false => rfl
 | true =>
  obtain ⟨h1, h2⟩ := h s hs t ht hc;rw [h1]; unfold inB; rw [decide_eq_true h2]; rfl
theorem Gr.idx (h : Gr N T) {k : Nat} (hk : k < T.states.length) : lidx (isL T.states[k]) T.states = (k : Int) := by
 refine lidx_at hk (by unfold isL; simp) fun s hs => ?_
 obtain ⟨j, hj, rfl⟩ := List.getElem_of_mem hs;rw [List.length_take] at hj;rw [List.getElem_take];unfold isL;refine decide_eq_false fun e => ?_
 have := h.i.nod j k T.states[k] (by rw [List.getElem?_eq_getElem (by omega), e]) (List.getElem?_eq_getElem hk);omega
theorem getD_at {K : List (List Int)} {k : Nat} {s : List Int} (h : K[k]? = some s) : K.getD k [] = s := by
 rw [List.getD_eq_getElem?_getD, h]; rfl
theorem fire_at {f k : Nat} {tr : Tr} {s : List Int} (hk : N.tr[k]? = some tr) (hc : canT tr s = true) (hb : bigM (fireT tr s) = false) : fireV N s (k : Int) = (fireT tr s, 0) := by
 have _ := f;unfold fireV;rw [if_neg (by omega), Int.toNat_natCast, hk];simp only [hc, if_true, hb];rfl
theorem snd_cert (h : Gr N T) (hno : NoO T) {g : Nat} (hg : T.states[g]? = some (finM N)) {F : List Int} (hF : IsD (movesOf T) g T.states.length F) (hall : ∀ k, k < T.states.length → 0 ≤ fd F k)
 (hsnk : ∀ s ∈ T.states, 0 < s.getD N.snk.toNat 0 → s = finM N) (htr : ∀ t ∈ N.tr, ∃ s ∈ T.states, canT t s = true)
 {V : List Mv} (hV : V.length + 1 = T.states.length) (hVm : ∀ (i : Nat) (x : Mv), V[i]? = some x → x ∈ movesOf T ∧ x.t = (i : Int) + 1 ∧ x.f < (i : Int) + 1) : sndB N T.states V [F] = true := by
 have hst := List.getElem?_eq_some_iff.1 h.i.one;have e1 : T.states.isEmpty = false := by
  cases hh : T.states with
  | nil => rw [hh] at hV; simp at hV
  | cons a l => rfl
 have e2 := h.mks hno;have e3 : T.states.getD 0 [] = iniM N := getD_at h.i.one;have e4 : ([F].headD []).length = T.states.length := hF.len;have e5 : (List.range V.length).all (mvOkAt N T.states V) = true := by
  refine List.all_eq_true.2 fun i hi => ?_
  have hi' : i < V.length := List.mem_range.1 hi;rw [mvOk_get hi'];obtain ⟨h1, h2, h3⟩ := hVm i V[i] (List.getElem?_eq_getElem hi');obtain ⟨f, t, k, tr, s, s', hx, hf, ht, hk, hc, hfi, hb⟩ := mv_fire h.i h.ok h.ism hno h1;rw [hx] at h2 h3 ⊢;simp only at h2 h3 ⊢;have et : t = i + 1 := by omega
  unfold mvT;have e6 : fireV N (T.states.getD ((f : Int)).toNat []) (k : Int) = (s', 0) := by
   rw [Int.toNat_natCast, getD_at hf, fire_at (f := f) hk hc (by rw [hfi]; exact hb), hfi]
  have e7 : T.states.getD (i + 1) [] = s' := getD_at (by rw [← et]; exact ht);rw [e6, e7];simp;omega
 have e8 := clos_of (h.clo hno);have e9 : (List.range T.states.length).all (mrkOk N T.states ([F].headD [])) = true := by
  refine List.all_eq_true.2 fun i hi => ?_
  have hi' : i < T.states.length := List.mem_range.1 hi;have hgl : g < T.states.length := (List.getElem?_eq_some_iff.1 hg).1;have hsi : T.states[i]? = some T.states[i] := List.getElem?_eq_getElem hi';have hgd := getD_at hsi;have hri : rowV ([F].headD []) i = fd F (i : Int) := by unfold rowV fd; rw [Int.toNat_natCast]; rfl
  unfold mrkOk;rw [hgd, h.idx hi', hri];have hfz : T.states[i] = finM N ↔ fd F (i : Int) = 0 := by
   constructor
   · intro e;have := h.i.nod i g (finM N) (by rw [hsi, e]) hg;rw [this]; exact hF.zero
   · intro e;have := hF.one i hi' e;subst this;rw [hsi] at hg; exact Option.some.inj hg
  by_cases hfin : T.states[i] = finM N
  · rw [decide_eq_true hfin, decide_eq_true (hfz.1 hfin)]; simp
  · have h0 := hall i hi';have hnz : ¬ fd F (i : Int) = 0 := fun e => hfin (hfz.2 e)
    rw [decide_eq_false hfin, decide_eq_false hnz];have hs2 : ¬ 0 < T.states[i].getD N.snk.toNat 0 := fun hh => hfin (hsnk _ (List.getElem_mem hi') hh)
    rw [decide_eq_false hs2];obtain ⟨x, hx, hxf, hx0, hx1⟩ := hF.step i hi' (by omega);obtain ⟨f, t, k, tr, s, s', ex, hf, ht, hk, hc, hfi, hb⟩ := mv_fire h.i h.ok h.ism hno hx;rw [ex] at hxf hx0 hx1;simp only at hxf hx0 hx1;have ef : f = i := by omega
    subst ef;rw [hsi] at hf;have es := Option.some.inj hf;have hn : N.tr.any (nearT T.states ([F].headD []) f) = true := by
     refine List.any_eq_true.2 ⟨tr, List.mem_of_getElem? hk, ?_⟩;have htl : t < T.states.length := (List.getElem?_eq_some_iff.1 ht).1;have et : T.states[t] = s' := by rw [List.getElem?_eq_getElem htl] at ht; exact Option.some.inj ht
     unfold nearT;rw [hgd, es, hc, hfi, ← et, h.idx htl, Int.toNat_natCast, hri];have hrt : rowV ([F].headD []) t = fd F (t : Int) := by unfold rowV fd; rw [Int.toNat_natCast]; rfl
     rw [hrt];simp; omega
    rw [hn]; simp
 have e10 : N.tr.all (firedB T.states) = true := List.all_eq_true.2 fun t ht => by
  obtain ⟨s, hs, hc⟩ := htr t ht;unfold firedB;exact List.any_eq_true.2 ⟨s, hs, hc⟩
 unfold sndB;rw [e1, e2, e3, decide_eq_true hV, e4, e5, e8, e9, e10];simp
inductive WayL (MV : List Mv) (g : Nat) : Nat → List Int → Prop
 | stop : WayL MV g g []
 | step {s t : Nat} {k : Int} {l : List Int} : (⟨(s : Int), (t : Int), k⟩ : Mv) ∈ MV → WayL MV g t l → WayL MV g s (k :: l)
theorem way_run {LL : List (List Int)} {MV : List Mv} (hmv : MvF N LL MV) {g s : Nat} {l : List Int} (hw : WayL MV g s l) : ∀ {m m' : List Int} (c : Nat), LL[s]? = some m → LL[g]? = some m' → runV N m c l = (m', c + l.length, 0) := by
 induction hw with
 | stop => intro m m' c h1 h2; rw [h1] at h2; cases h2; rfl
 | @step s t k l hx _ ih =>
  intro m m' c h1 h2;obtain ⟨f, t', k', tr, u, u', ex, hf, ht, hk, hc, hfi, hb⟩ := hmv _ hx;have e1 : s = f := by have := congrArg Mv.f ex; simp only at this; omega
  have e2 : t = t' := by have := congrArg Mv.t ex; simp only at this; omega
  have e3 : k = (k' : Int) := congrArg Mv.s ex;subst e1 e2 e3;rw [h1] at hf;have eu := Option.some.inj hf;subst eu;rw [runV, fire_at (f := s) hk hc (by rw [hfi]; exact hb), if_pos rfl, hfi];rw [ih (c + 1) ht h2];rw [List.length_cons, show c + 1 + l.length = c + (l.length + 1) by omega]
theorem way_is {MV : List Mv} {F : List Int} {g n : Nat} (hn : mvOk MV n) (hF : IsD MV g n F) : ∀ (d s : Nat), s < n → fd F s = (d : Int) → ∃ l, WayL MV g s l ∧ l.length = d := by
 intro d
 induction d with
 | zero => intro s hs e; have := hF.one s hs e; subst this; exact ⟨[], .stop, rfl⟩
 | succ d ih =>
  intro s hs e;obtain ⟨x, hx, hf, h0, h1⟩ := hF.step s hs (by omega);obtain ⟨_, _, a3, a4⟩ := hn x hx;obtain ⟨t, ht⟩ := Int.eq_ofNat_of_zero_le a3;obtain ⟨l, hl, hll⟩ := ih t (by omega) (by rw [← ht]; omega);refine ⟨x.s :: l, .step (t := t) ?_ hl, by simp [hll]⟩;rw [← hf, ← ht]; exact hx
end
end
section
open Go.RowKit

def Apart (a b : Value) : Prop := ∀ g, a.ownBlock = some g → b.ownBlock ≠ some g
theorem Apart.symm {a b : Value} (h : Apart a b) : Apart b a := fun g h1 h2 => h g h2 h1
theorem apart_nil (v : Value) : Apart (.slice none 0 0) v := fun g h => by cases h
theorem Apart.or {a b : Value} (h : Apart a b) : a.ownBlock = none ∨ a.ownBlock ≠ b.ownBlock := by
 cases e : a.ownBlock with
 | none => exact .inl rfl
 | some g => exact .inr (fun e2 => h g e e2.symm)
end
section
open Go.RowKit

structure CfL (w : World) (Ar : Option Addr) (nr : Nat) (R : List Int) (Ap : Option Addr) (np : Nat) (P : List Int) (Ak : Option Addr) (nk : Nat) (K : List (List Int)) (Av : Option Addr) (nv : Nat) (V : List Mv) (As : Option Addr) (ns : Nat) (S : List (List Int)) (Aw : Option Addr) (nw : Nat) (X : List (List Int)) : Prop where
 r : ZIn w Ar R
 rl : R.length = nr
 p : ZIn w Ap P
 pl : P.length = np
 k : LIn w Ak K
 kl : K.length = nk
 v : Rd mvC 3 w Av V
 vl : V.length = nv
 s : LIn w As S
 sl : S.length = ns
 x : LIn w Aw X
 xl : X.length = nw
end
end Go.Proofs.YtpiihmbeedlpkaaGreatDoor
