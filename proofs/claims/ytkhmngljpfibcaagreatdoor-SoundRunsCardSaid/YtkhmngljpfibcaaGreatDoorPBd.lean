/- The moves of a bounded graph, plain: each is a firing, each firing is there, each state is reached by an earlier one. Certificates out of coverability graphs, plain: soundness. Certificates out of coverability graphs, plain: dead transitions, nets that are not sound. Certificates out of spaces, plain: relaxed soundness; why a net is not sound. -/
import Derived.Test.YtkhmngljpfibcaaGreatDoorPUu
import Derived.Test.YtkhmngljpfibcaaGreatDoorPJc
import Derived.Test.YtkhmngljpfibcaaGreatDoorPDe
import Derived.Test.YtkhmngljpfibcaaGreatDoorPYi
namespace Go.Proofs.YtkhmngljpfibcaaGreatDoor
section
section
variable {N : Nt} {m : List Int} {T : TS}
def NoO (T : TS) : Prop := ∀ (j : Nat) (d : Nd), T.nodes[j]? = some d → d.om = false
theorem move_get {x : Mv} (hx : x ∈ movesOf T) : ∃ (j : Nat) (d : Nd), 0 < j ∧ T.nodes[j]? = some d ∧ x = mvOf T d := by
 unfold movesOf at hx;obtain ⟨d, hd, rfl⟩ := List.mem_map.1 hx;obtain ⟨j, hj, rfl⟩ := List.getElem_of_mem hd;rw [List.length_drop] at hj;refine ⟨j + 1, _, by omega, ?_, rfl⟩;rw [List.getElem_drop, List.getElem?_eq_getElem (by omega)];simp only [Nat.add_comm]
theorem mvOf_val (h : TInv N m T) {j : Nat} {d : Nd} (hd : T.nodes[j]? = some d) (hj : 0 < j) : ∃ (i k : Nat) (e : Nd) (t : Tr), i < j ∧ T.nodes[i]? = some e ∧ e.nw = true ∧ N.tr[k]? = some t ∧ canT t e.ms = true ∧ d.pn = fireT t e.ms ∧ bigM d.pn = false ∧ d.ab = (i : Int) ∧ d.tr = (k : Int) ∧ mvOf T d = ⟨(e.st : Int), (d.st : Int), (k : Int)⟩ := by
 obtain ⟨i, k, e, t, hij, ha, ht, hi, hnw, hk, hc, hp, hb, _⟩ := h.par j d hd hj;refine ⟨i, k, e, t, hij, hi, hnw, hk, hc, hp, hb, ha, ht, ?_⟩;unfold mvOf;rw [ha, ht, Int.toNat_natCast, hi]
theorem mv_fire (h : TInv N m T) (hN : netOk N m.length) (hm : isM m) (hno : NoO T) {x : Mv} (hx : x ∈ movesOf T) :
 ∃ (f t k : Nat) (tr : Tr) (s s' : List Int), x = ⟨(f : Int), (t : Int), (k : Int)⟩ ∧ T.states[f]? = some s ∧ T.states[t]? = some s' ∧ N.tr[k]? = some tr ∧ canT tr s = true ∧ fireT tr s = s' ∧ bigM s' = false := by
 obtain ⟨j, d, hj, hd, rfl⟩ := move_get hx;obtain ⟨i, k, e, t, hij, hi, hnw, hk, hc, hp, hb, _, _, hv⟩ := mvOf_val h hd hj;have hpm : d.ms = d.pn := by
  rcases node_om h hN hm hd with ⟨_, h2, _⟩ | ⟨h2, _⟩
  · exact h2
  · rw [hno j d hd] at h2; cases h2
 exact ⟨e.st, d.st, k, t, e.ms, d.ms, hv, h.st i e hi, h.st j d hd, hk, hc, by rw [hpm, hp], by rw [hpm]; exact hb⟩
theorem mv_of (h : TInv N m T) (hD : Done N T) {f k : Nat} {s : List Int} {tr : Tr} (hf : T.states[f]? = some s) (hk : N.tr[k]? = some tr) (hc : canT tr s = true) : ∃ x ∈ movesOf T, x.f = (f : Int) ∧ x.s = (k : Int) := by
 obtain ⟨j, d, hd, hnw, hst⟩ := h.own f (List.getElem?_eq_some_iff.1 hf).1;have hs := h.st j d hd;rw [hst, hf] at hs;have hs : s = d.ms := Option.some.inj hs;have hj : j < T.nodes.length := (List.getElem?_eq_some_iff.1 hd).1;obtain ⟨c, e, hce, hab, htr⟩ := hD j hj d hd hnw k tr (List.getElem?_eq_some_iff.1 hk).1 hk (by rw [← hs]; exact hc);have hc0 : 0 < c := by
  rcases Nat.eq_zero_or_pos c with h0 | h0
  · subst h0; rw [h.root] at hce; cases hce; simp at hab
  · exact h0
 obtain ⟨i, k', e', t', _, hi, _, _, _, _, _, ha, ht, hv⟩ := mvOf_val h hce hc0;have e1 : i = j := by omega
 subst e1;rw [hd] at hi;have e2 := Option.some.inj hi;subst e2;refine ⟨mvOf T e, ?_, by rw [hv, ← hst], by rw [hv]; exact ht.symm.trans htr⟩;unfold movesOf;refine List.mem_map.2 ⟨e, List.mem_of_getElem? (i := c - 1) ?_, rfl⟩;rw [List.getElem?_drop, show 1 + (c - 1) = c by omega]; exact hce
theorem mv_tree (h : TInv N m T) {k : Nat} (hk : k < T.states.length) (h0 : 0 < k) : ∃ x ∈ movesOf T, x.t = (k : Int) ∧ x.f < (k : Int) := by
 obtain ⟨j, d, hd, hnw, hst⟩ := h.own k hk;have hj : 0 < j := by
  rcases Nat.eq_zero_or_pos j with h1 | h1
  · subst h1; rw [h.root] at hd; cases hd; simp at hst; omega
  · exact h1
 obtain ⟨i, k', e, t', hij, hi, henw, _, _, _, _, _, _, hv⟩ := mvOf_val h hd hj;have hlt := h.asc i j e d hij hi hd henw hnw;refine ⟨mvOf T d, ?_, by rw [hv, ← hst], by rw [hv, ← hst]; show ((e.st : Nat) : Int) < _; omega⟩;unfold movesOf;refine List.mem_map.2 ⟨d, List.mem_of_getElem? (i := j - 1) ?_, rfl⟩;rw [List.getElem?_drop, show 1 + (j - 1) = j by omega]; exact hd
def MvF (N : Nt) (LL : List (List Int)) (MV : List Mv) : Prop := ∀ x ∈ MV, ∃ (f t k : Nat) (tr : Tr) (s s' : List Int), x = ⟨(f : Int), (t : Int), (k : Int)⟩ ∧ LL[f]? = some s ∧ LL[t]? = some s' ∧ N.tr[k]? = some tr ∧ canT tr s = true ∧ fireT tr s = s' ∧ bigM s' = false
theorem MvF.ok {LL : List (List Int)} {MV : List Mv} (h : MvF N LL MV) : mvOk MV LL.length := fun x hx => by
 obtain ⟨f, t, k, tr, s, s', ex, hf, ht, _⟩ := h x hx;have h1 := (List.getElem?_eq_some_iff.1 hf).1;have h2 := (List.getElem?_eq_some_iff.1 ht).1;subst ex;simp only;omega
end
end
section
theorem isM_mk {N : Nt} {s : List Int} (hv : ntB N = true) (hl : (s.length : Int) = N.pl) (hm : isM s) : mkB N s = true := by
 have h1 : s.any badK = false := List.any_eq_false.2 (fun x hx => by
  obtain ⟨p, hp, rfl⟩ := List.getElem_of_mem hx;have h2 := hm p;have e : s.getD p 0 = s[p] := by simp [hp]
  rw [e] at h2;unfold badK; simp; omega)
 unfold mkB;rw [hv, decide_eq_true hl, h1]; rfl
theorem mk_isM {N : Nt} {s : List Int} (h : mkB N s = true) : isM s := by
 intro p;rcases Nat.lt_or_ge p s.length with hp | hp
 · have e : s.getD p 0 = s[p] := by simp [hp]
   rw [e]; exact mk_nums h _ (List.getElem_mem hp)
 · rw [getD_out hp]; omega
structure Gr (N : Nt) (T : TS) : Prop where
 v : ntB N = true
 i : TInv N (iniM N) T
 d : Done N T
section
variable {N : Nt} {T : TS}
theorem Gr.mk0 (h : Gr N T) : mkB N (iniM N) = true := one_mk h.v _
theorem Gr.len (h : Gr N T) : ((iniM N).length : Int) = N.pl := mk_len h.mk0
theorem Gr.ok (h : Gr N T) : netOk N (iniM N).length := netOk_of h.v h.len
theorem Gr.ism (h : Gr N T) : isM (iniM N) := mk_isM h.mk0
theorem Gr.st (h : Gr N T) (hno : NoO T) : ∀ s ∈ T.states, mkB N s = true := fun s hs => by
 obtain ⟨h1, h2, _⟩ := (bounded_closed h.i h.d h.ok h.ism hno).2 s hs;exact isM_mk h.v (by rw [h1]; exact h.len) h2
theorem Gr.mks (h : Gr N T) (hno : NoO T) : mksX N.pl false T.states = true := List.all_eq_true.2 fun s hs => by
 rw [mkX_mk h.v]; exact h.st hno s hs
theorem Gr.clo (h : Gr N T) (hno : NoO T) : ∀ s ∈ T.states, ∀ t ∈ N.tr, canT t s = true → bigM (fireT t s) = false ∧ fireT t s ∈ T.states := fun s hs t ht hc => by
 obtain ⟨k, hk, rfl⟩ := List.getElem_of_mem ht;exact ((bounded_closed h.i h.d h.ok h.ism hno).2 s hs).2.2 k _ (List.getElem?_eq_getElem hk) hc
theorem clos_of {N : Nt} {K : List (List Int)} (h : ∀ s ∈ K, ∀ t ∈ N.tr, canT t s = true → bigM (fireT t s) = false ∧ fireT t s ∈ K) : closX N K = true := by
 unfold closX dblB;refine List.all_eq_true.2 fun s hs => List.all_eq_true.2 fun t ht => ?_
 unfold okX;cases hc : canT t s with
 | false => rfl
 | true =>
  obtain ⟨h1, h2⟩ := h s hs t ht hc;rw [h1]; unfold inB; rw [decide_eq_true h2]; rfl
theorem Gr.idx (h : Gr N T) {k : Nat} (hk : k < T.states.length) : lidx (isL T.states[k]) T.states = (k : Int) := by
 refine lidx_at hk (by unfold isL; simp) fun s hs => ?_
 obtain ⟨j, hj, rfl⟩ := List.getElem_of_mem hs;rw [List.length_take] at hj;rw [List.getElem_take];unfold isL;refine decide_eq_false fun e => ?_
 have := h.i.nod j k T.states[k] (by rw [List.getElem?_eq_getElem (by omega), e]) (List.getElem?_eq_getElem hk);omega
theorem getD_at {K : List (List Int)} {k : Nat} {s : List Int} (h : K[k]? = some s) : K.getD k [] = s := by
 rw [List.getD_eq_getElem?_getD, h]; rfl
theorem fire_at {f k : Nat} {tr : Tr} {s : List Int} (hk : N.tr[k]? = some tr) (hc : canT tr s = true) (hb : bigM (fireT tr s) = false) : fireV N s (k : Int) = (fireT tr s, 0) := by
 have _ := f;unfold fireV;rw [if_neg (by omega), Int.toNat_natCast, hk];simp only [hc, if_true, hb];rfl
theorem snd_cert (h : Gr N T) (hno : NoO T) {g : Nat} (hg : T.states[g]? = some (finM N)) {F : List Int} (hF : IsD (movesOf T) g T.states.length F) (hall : ∀ k, k < T.states.length → 0 ≤ fd F k)
 (hsnk : ∀ s ∈ T.states, 0 < s.getD N.snk.toNat 0 → s = finM N) (htr : ∀ t ∈ N.tr, ∃ s ∈ T.states, canT t s = true)
 {V : List Mv} (hV : V.length + 1 = T.states.length) (hVm : ∀ (i : Nat) (x : Mv), V[i]? = some x → x ∈ movesOf T ∧ x.t = (i : Int) + 1 ∧ x.f < (i : Int) + 1) : sndB N T.states V [F] = true := by
 have hst := List.getElem?_eq_some_iff.1 h.i.one;have e1 : T.states.isEmpty = false := by
  cases hh : T.states with
  | nil => rw [hh] at hV; simp at hV
  | cons a l => rfl
 have e2 := h.mks hno;have e3 : T.states.getD 0 [] = iniM N := getD_at h.i.one;have e4 : ([F].headD []).length = T.states.length := hF.len;have e5 : (List.range V.length).all (mvOkAt N T.states V) = true := by
  refine List.all_eq_true.2 fun i hi => ?_
  have hi' : i < V.length := List.mem_range.1 hi;rw [mvOk_get hi'];obtain ⟨h1, h2, h3⟩ := hVm i V[i] (List.getElem?_eq_getElem hi');obtain ⟨f, t, k, tr, s, s', hx, hf, ht, hk, hc, hfi, hb⟩ := mv_fire h.i h.ok h.ism hno h1;rw [hx] at h2 h3 ⊢;simp only at h2 h3 ⊢;have et : t = i + 1 := by omega
  unfold mvT;have e6 : fireV N (T.states.getD ((f : Int)).toNat []) (k : Int) = (s', 0) := by
   rw [Int.toNat_natCast, getD_at hf, fire_at (f := f) hk hc (by rw [hfi]; exact hb), hfi]
  have e7 : T.states.getD (i + 1) [] = s' := getD_at (by rw [← et]; exact ht);rw [e6, e7];simp;omega
 have e8 := clos_of (h.clo hno);have e9 : (List.range T.states.length).all (mrkOk N T.states ([F].headD [])) = true := by
  refine List.all_eq_true.2 fun i hi => ?_
  have hi' : i < T.states.length := List.mem_range.1 hi;have hgl : g < T.states.length := (List.getElem?_eq_some_iff.1 hg).1;have hsi : T.states[i]? = some T.states[i] := List.getElem?_eq_getElem hi';have hgd := getD_at hsi;have hri : rowV ([F].headD []) i = fd F (i : Int) := by unfold rowV fd; rw [Int.toNat_natCast]; rfl
  unfold mrkOk;rw [hgd, h.idx hi', hri];have hfz : T.states[i] = finM N ↔ fd F (i : Int) = 0 := by
   constructor
   · intro e;have := h.i.nod i g (finM N) (by rw [hsi, e]) hg;rw [this]; exact hF.zero
   · intro e;have := hF.one i hi' e;subst this;rw [hsi] at hg; exact Option.some.inj hg
  by_cases hfin : T.states[i] = finM N
  · rw [decide_eq_true hfin, decide_eq_true (hfz.1 hfin)]; simp
  · have h0 := hall i hi';have hnz : ¬ fd F (i : Int) = 0 := fun e => hfin (hfz.2 e)
    rw [decide_eq_false hfin, decide_eq_false hnz];have hs2 : ¬ 0 < T.states[i].getD N.snk.toNat 0 := fun hh => hfin (hsnk _ (List.getElem_mem hi') hh)
    rw [decide_eq_false hs2];obtain ⟨x, hx, hxf, hx0, hx1⟩ := hF.step i hi' (by omega);obtain ⟨f, t, k, tr, s, s', ex, hf, ht, hk, hc, hfi, hb⟩ := mv_fire h.i h.ok h.ism hno hx;rw [ex] at hxf hx0 hx1;simp only at hxf hx0 hx1;have ef : f = i := by omega
    subst ef;rw [hsi] at hf;have es := Option.some.inj hf;have hn : N.tr.any (nearT T.states ([F].headD []) f) = true := by
     refine List.any_eq_true.2 ⟨tr, List.mem_of_getElem? hk, ?_⟩;have htl : t < T.states.length := (List.getElem?_eq_some_iff.1 ht).1;have et : T.states[t] = s' := by rw [List.getElem?_eq_getElem htl] at ht; exact Option.some.inj ht
     unfold nearT;rw [hgd, es, hc, hfi, ← et, h.idx htl, Int.toNat_natCast, hri];have hrt : rowV ([F].headD []) t = fd F (t : Int) := by unfold rowV fd; rw [Int.toNat_natCast]; rfl
     rw [hrt];simp; omega
    rw [hn]; simp
 have e10 : N.tr.all (firedB T.states) = true := List.all_eq_true.2 fun t ht => by
  obtain ⟨s, hs, hc⟩ := htr t ht;unfold firedB;exact List.any_eq_true.2 ⟨s, hs, hc⟩
 unfold sndB;rw [e1, e2, e3, decide_eq_true hV, e4, e5, e8, e9, e10];simp
inductive WayL (MV : List Mv) (g : Nat) : Nat → List Int → Prop
 | stop : WayL MV g g []
 | step {s t : Nat} {k : Int} {l : List Int} : (⟨(s : Int), (t : Int), k⟩ : Mv) ∈ MV → WayL MV g t l → WayL MV g s (k :: l)
theorem way_run {LL : List (List Int)} {MV : List Mv} (hmv : MvF N LL MV) {g s : Nat} {l : List Int} (hw : WayL MV g s l) : ∀ {m m' : List Int} (c : Nat), LL[s]? = some m → LL[g]? = some m' → runV N m c l = (m', c + l.length, 0) := by
 induction hw with
 | stop => intro m m' c h1 h2; rw [h1] at h2; cases h2; rfl
 | @step s t k l hx _ ih =>
  intro m m' c h1 h2;obtain ⟨f, t', k', tr, u, u', ex, hf, ht, hk, hc, hfi, hb⟩ := hmv _ hx;have e1 : s = f := by have := congrArg Mv.f ex; simp only at this; omega
  have e2 : t = t' := by have := congrArg Mv.t ex; simp only at this; omega
  have e3 : k = (k' : Int) := congrArg Mv.s ex;subst e1 e2 e3;rw [h1] at hf;have eu := Option.some.inj hf;subst eu;rw [runV, fire_at (f := s) hk hc (by rw [hfi]; exact hb), if_pos rfl, hfi];rw [ih (c + 1) ht h2];rw [List.length_cons, show c + 1 + l.length = c + (l.length + 1) by omega]
theorem way_is {MV : List Mv} {F : List Int} {g n : Nat} (hn : mvOk MV n) (hF : IsD MV g n F) : ∀ (d s : Nat), s < n → fd F s = (d : Int) → ∃ l, WayL MV g s l ∧ l.length = d := by
 intro d
 induction d with
 | zero => intro s hs e; have := hF.one s hs e; subst this; exact ⟨[], .stop, rfl⟩
 | succ d ih =>
  intro s hs e;obtain ⟨x, hx, hf, h0, h1⟩ := hF.step s hs (by omega);obtain ⟨_, _, a3, a4⟩ := hn x hx;obtain ⟨t, ht⟩ := Int.eq_ofNat_of_zero_le a3;obtain ⟨l, hl, hll⟩ := ih t (by omega) (by rw [← ht]; omega);refine ⟨x.s :: l, .step (t := t) ?_ hl, by simp [hll]⟩;rw [← hf, ← ht]; exact hx
end
end
section
section
variable {N : Nt} {T : TS}
theorem leE_refl (x : List Int) : leE x x := fun p _ => by rw [lessE_iff]; by_cases h : x.getD p 0 = -1; exact .inl h; exact .inr ⟨h, Int.le_refl _⟩
theorem Gr.fine (h : Gr N T) : ∀ (j : Nat) (d : Nd), T.nodes[j]? = some d → Fine (iniM N).length d := h.i.fine h.ok h.ism
theorem Gr.node (h : Gr N T) {s : List Int} (hs : s ∈ T.states) : ∃ (j : Nat) (d : Nd), T.nodes[j]? = some d ∧ d.nw = true ∧ d.ms = s := by
 obtain ⟨f, hf, rfl⟩ := List.getElem_of_mem hs;obtain ⟨j, d, hd, hnw, hst⟩ := h.i.own f hf;have h2 := h.i.st j d hd;rw [hst, List.getElem?_eq_getElem hf] at h2;exact ⟨j, d, hd, hnw, (Option.some.inj h2).symm⟩
theorem Gr.slen (h : Gr N T) {s : List Int} (hs : s ∈ T.states) : (s.length : Int) = N.pl := by
 obtain ⟨j, d, hd, _, rfl⟩ := h.node hs;rw [(h.fine j d hd).lm]; exact h.len
theorem Gr.mksT (h : Gr N T) : mksX N.pl true T.states = true := List.all_eq_true.2 fun s hs => by
 obtain ⟨j, d, hd, _, e⟩ := h.node hs;have hf := h.fine j d hd;unfold mkX;rw [decide_eq_true (h.slen hs)];have h1 : s.any (badX true) = false := List.any_eq_false.2 (fun x hx => by
  obtain ⟨p, hp, rfl⟩ := List.getElem_of_mem hx;have e2 : s.getD p 0 = s[p] := by simp [hp]
  have h3 := hf.em p;have h4 := hf.sp p;have hpl : p < (iniM N).length := by rw [← hf.lm, e]; exact hp
  have h5 := hf.up p hpl;rw [e, e2] at h3 h5;unfold badX; simp; omega)
 rw [h1]; rfl
theorem bel_of {LL : List (List Int)} {x s : List Int} (hs : s ∈ LL) (h : leE x s) : belowB LL x = true := List.any_eq_true.2 ⟨s, hs, (atMost_iff x s).2 h⟩
theorem Gr.cov (h : Gr N T) : covX N T.states = true := by
 unfold covX;have h1 : belowB T.states (oneM N.pl.toNat N.src.toNat) = true := bel_of (List.mem_of_getElem? h.i.one) (leE_refl _);rw [h1, Bool.true_and];unfold dblB;refine List.all_eq_true.2 fun s hs => List.all_eq_true.2 fun t ht => ?_
 unfold okX;cases hc : canT t s with
 | false => rfl
 | true =>
  obtain ⟨j, d, hd, hnw, e⟩ := h.node hs;obtain ⟨k, hk, rfl⟩ := List.getElem_of_mem ht;have hj : j < T.nodes.length := (List.getElem?_eq_some_iff.1 hd).1;obtain ⟨c, x, hcx, hab, htr⟩ := h.d j hj d hd hnw k _ hk (List.getElem?_eq_getElem hk) (by rw [e]; exact hc);have hc0 : 0 < c := by
   rcases Nat.eq_zero_or_pos c with h0 | h0
   · subst h0; rw [h.i.root] at hcx; cases hcx; simp at hab
   · exact h0
  obtain ⟨i, k', y, t', _, hi, _, hk', _, hp, hb, ha, ht', _⟩ := mvOf_val h.i hcx hc0;have e1 : i = j := by omega
  have e2 : k' = k := by omega
  subst e1 e2;rw [hd] at hi;have e3 := Option.some.inj hi;subst e3;rw [List.getElem?_eq_getElem hk] at hk';have e4 := Option.some.inj hk';rw [← e4, e] at hp;rw [← hp, hb];have hf := h.fine c x hcx;have h2 := bel_of (LL := T.states) (List.mem_of_getElem? (h.i.st c x hcx)) (leE_up hf hf.lp (leE_refl x.pn));rw [h2]; rfl
theorem dead_cert (h : Gr N T) {k : Nat} (hk : k < N.tr.length) (hno : ∀ s ∈ T.states, canT N.tr[k] s = false) : deadB N (k : Int) T.states = true := by
 have h1 : trnB N (k : Int) = true := by unfold trnB; simp; omega
 have h2 : T.states.any (enAt N (k : Int)) = false := List.any_eq_false.2 (fun s hs => by
  unfold enAt;rw [Int.toNat_natCast, List.getElem?_eq_getElem hk];simp [hno s hs])
 unfold deadB;rw [h1, h.mksT, h.cov, h2]; rfl
theorem uns_dead (h : Gr N T) {k : Nat} (hk : k < N.tr.length) (hno : ∀ s ∈ T.states, canT N.tr[k] s = false) : unsB N (k : Int) [] [] T.states = true := by
 unfold unsB;rw [dead_cert h hk hno]; rfl
theorem dead_nil (N : Nt) (k : Int) : deadB N k [] = false := by
 unfold deadB covX belowB;simp
theorem Gr.runI (h : Gr N T) (hno : NoO T) {g : Nat} {l : List Int} {m : List Int} (hw : WayL (movesOf T) g 0 l) (hl : l.length ≤ 1000) (hg : T.states[g]? = some m) : runI N l = (m, l.length, 0) := by
 unfold Go.Proofs.YtkhmngljpfibcaaGreatDoor.runI run21;rw [if_pos h.mk0, if_neg (by omega), way_run (fun _ hx => mv_fire h.i h.ok h.ism hno hx) hw 0 h.i.one hg, Nat.zero_add]
theorem uns_sink (h : Gr N T) (hno : NoO T) {g : Nat} {l : List Int} {m : List Int} (hw : WayL (movesOf T) g 0 l) (hl : l.length ≤ 1000) (hg : T.states[g]? = some m) (h0 : 0 < m.getD N.snk.toNat 0) (hf : m ≠ finM N) : unsB N 0 l [] [] = true := by
 unfold unsB;rw [h.runI hno hw hl hg, dead_nil];simp;exact ⟨by simpa using h0, hf⟩
theorem uns_lost (h : Gr N T) (hno : NoO T) {g : Nat} {l : List Int} {m : List Int} (hw : WayL (movesOf T) g 0 l) (hl : l.length ≤ 1000) (hg : T.states[g]? = some m) {K : List (List Int)} (hK : ∀ s ∈ K, s ∈ T.states) (hm : m ∈ K)
 (hc : ∀ s ∈ K, ∀ t ∈ N.tr, canT t s = true → fireT t s ∈ K) (hf : finM N ∉ K) : unsB N 0 l [] K = true := by
 unfold unsB;rw [h.runI hno hw hl hg];have h1 : K.isEmpty = false := by
  cases hh : K with
  | nil => rw [hh] at hm; cases hm
  | cons a b => rfl
 have h2 : mksX N.pl false K = true := List.all_eq_true.2 fun s hs => by rw [mkX_mk h.v]; exact h.st hno s (hK s hs)
 have h3 : memB K m = true := memB_iff.2 hm;have h4 : memB K (finM N) = false := by cases hh : memB K (finM N) with | false => rfl | true => exact absurd (memB_iff.1 hh) hf
 have h5 : closX N K = true := clos_of fun s hs t ht hcn => ⟨(h.clo hno s (hK s hs) t ht hcn).1, hc s hs t ht hcn⟩
 simp only [h1, h2, h3, h4, h5];simp
end
end
section
inductive Lead (MV : List Mv) (g : Nat) : Nat → Prop
 | stop : Lead MV g g
 | step {s t : Nat} {k : Int} : (⟨(s : Int), (t : Int), k⟩ : Mv) ∈ MV → Lead MV g t → Lead MV g s
theorem way_lead {MV : List Mv} {g s : Nat} {l : List Int} (h : WayL MV g s l) : Lead MV g s := by
 induction h with
 | stop => exact .stop
 | step hx _ ih => exact .step hx ih
theorem WayL.app {MV : List Mv} {g f s : Nat} {l r : List Int} (h : WayL MV f s l) (k : WayL MV g f r) : WayL MV g s (l ++ r) := by
 induction h with
 | stop => exact k
 | step hx _ ih => exact .step hx ih
theorem lead_far {MV : List Mv} {F : List Int} {g n : Nat} (hn : mvOk MV n) (hF : IsD MV g n F) {s : Nat} (hs : s < n) : Lead MV g s ↔ 0 ≤ fd F s := by
 constructor
 · intro h
   induction h with
   | stop => rw [hF.zero]; exact Int.le_refl _
   | @step s t k hx _ ih =>
    have h1 := hn _ hx;exact (hF.le _ hx (ih (by have := h1.2.2.2; simp only at this; omega))).1
 · intro h;obtain ⟨l, hl, _⟩ := way_is hn hF (fd F s).toNat s hs (by omega);exact way_lead hl
def Leads (N : Nt) (LL : List (List Int)) (MV : List Mv) (k : Nat) : Prop := ∃ g, LL[g]? = some (finM N) ∧ Lead MV g k
def MvC (N : Nt) (LL : List (List Int)) (MV : List Mv) : Prop := ∀ (f k : Nat) (s : List Int) (tr : Tr), LL[f]? = some s → N.tr[k]? = some tr → canT tr s = true → bigM (fireT tr s) = false ∧ ∃ t : Nat, (⟨(f : Int), (t : Int), (k : Int)⟩ : Mv) ∈ MV ∧ LL[t]? = some (fireT tr s)
theorem runI_way {N : Nt} {LL : List (List Int)} {MV : List Mv} (hv : ntB N = true) (h1 : LL[0]? = some (iniM N)) (hmv : MvF N LL MV) {g : Nat} {l : List Int} {m : List Int} (hw : WayL MV g 0 l) (hl : l.length ≤ 1000) (hg : LL[g]? = some m) : runI N l = (m, l.length, 0) := by
 unfold runI run21;rw [if_pos (show mkB N (iniM N) = true from one_mk hv _), if_neg (by omega), way_run hmv hw 0 h1 hg, Nat.zero_add]
theorem nrl_cert {N : Nt} {LL : List (List Int)} {MV : List Mv} (hv : ntB N = true) (h1 : iniM N ∈ LL) (hmk : ∀ s ∈ LL, mkB N s = true) (hc : MvC N LL MV) (hnod : ∀ (i j : Nat) (s : List Int), LL[i]? = some s → LL[j]? = some s → i = j) {t : Nat} (ht : t < N.tr.length) {I : List Int}
 (hI : ∀ i ∈ I, ∃ k : Nat, i = (k : Int) ∧ k < LL.length ∧ ¬ Leads N LL MV k) (hI2 : ∀ k, k < LL.length → ¬ Leads N LL MV k → (k : Int) ∈ I) (hno : ∀ x ∈ MV, x.s = (t : Int) → ¬ Leads N LL MV x.t.toNat) : nrlB N (t : Int) LL [I] = true := by
 have e1 : trnB N (t : Int) = true := by unfold trnB; simp; omega
 have e2 : mksX N.pl false LL = true := List.all_eq_true.2 fun s hs => by rw [mkX_mk hv]; exact hmk s hs
 have e3 : memB LL (iniM N) = true := memB_iff.2 h1;have e4 : closX N LL = true := clos_of fun s hs tr htr hcn => by
  obtain ⟨f, hf, rfl⟩ := List.getElem_of_mem hs;obtain ⟨k, hk, rfl⟩ := List.getElem_of_mem htr;obtain ⟨g1, u, _, g2⟩ := hc f k _ _ (List.getElem?_eq_getElem hf) (List.getElem?_eq_getElem hk) hcn;exact ⟨g1, List.mem_of_getElem? g2⟩
 have e5 : I.all (okIx LL) = true := List.all_eq_true.2 fun i hi => by
  obtain ⟨k, rfl, hk, _⟩ := hI i hi;unfold okIx; simp; omega
 have hlost : ∀ s, s ∈ lostL LL I ↔ ∃ k : Nat, LL[k]? = some s ∧ ¬ Leads N LL MV k := by
  intro s;unfold lostL;constructor
  · intro hs;obtain ⟨i, hi, rfl⟩ := List.mem_map.1 hs;obtain ⟨k, rfl, hk, hl⟩ := hI i hi;refine ⟨k, ?_, hl⟩;rw [Int.toNat_natCast, List.getElem?_eq_getElem hk, getD_at (List.getElem?_eq_getElem hk)]
  · rintro ⟨k, hk, hl⟩;have hkl := (List.getElem?_eq_some_iff.1 hk).1;refine List.mem_map.2 ⟨(k : Int), hI2 k hkl hl, ?_⟩;rw [Int.toNat_natCast, getD_at hk]
 have e6 : closX N (lostL LL I) = true := clos_of fun s hs tr htr hcn => by
  obtain ⟨f, hf, hl⟩ := (hlost s).1 hs;obtain ⟨k, hk, rfl⟩ := List.getElem_of_mem htr;obtain ⟨g1, u, g2, g3⟩ := hc f k _ _ hf (List.getElem?_eq_getElem hk) hcn;refine ⟨g1, (hlost _).2 ⟨u, g3, fun hh => hl ?_⟩⟩;obtain ⟨g, h3, h4⟩ := hh;exact ⟨g, h3, .step g2 h4⟩
 have e7 : memB (lostL LL I) (finM N) = false := by
  cases hh : memB (lostL LL I) (finM N) with
  | false => rfl
  | true =>
   obtain ⟨k, hk, hl⟩ := (hlost _).1 (memB_iff.1 hh);exact absurd ⟨k, hk, .stop⟩ hl
 have e8 : LL.any (nrbB (lostL LL I) (trAtN N (t : Int))) = false := List.any_eq_false.2 (fun s hs => by
  obtain ⟨f, hf, rfl⟩ := List.getElem_of_mem hs;have et : trAtN N (t : Int) = N.tr[t] := by unfold trAtN; rw [Int.toNat_natCast]; simp [ht]
  unfold nrbB;rw [et];cases hcn : canT N.tr[t] LL[f] with
  | false => simp
  | true =>
   obtain ⟨_, u, g2, g3⟩ := hc f t _ _ (List.getElem?_eq_getElem hf) (List.getElem?_eq_getElem ht) hcn;have h2 := hno _ g2 rfl;simp only [Int.toNat_natCast] at h2;have h3 : memB (lostL LL I) (fireT N.tr[t] LL[f]) = true := memB_iff.2 ((hlost _).2 ⟨u, g3, h2⟩);rw [h3]; simp)
 have _ := hnod;unfold nrlB;simp only [List.headD_cons];rw [e1, e2, e3, e4, e5, e6, e7, e8];simp
def RsO (LL : List (List Int)) : Prop := ∃ s ∈ LL, hasO s = true
def RsB (N : Nt) (LL : List (List Int)) : Prop := ∃ s ∈ LL, 0 < s.getD N.snk.toNat 0 ∧ s ≠ finM N
def RsL (N : Nt) (LL : List (List Int)) (MV : List Mv) : Prop := ∃ k, k < LL.length ∧ ¬ Leads N LL MV k
def RsD (N : Nt) (LL : List (List Int)) : Prop := ∃ t ∈ N.tr, ∀ s ∈ LL, canT t s = false
def RsN (N : Nt) (LL : List (List Int)) (MV : List Mv) (r : Int) : Prop :=
 (r = 1 ∧ RsO LL) ∨ (¬ RsO LL ∧ r = 2 ∧ RsB N LL) ∨ (¬ RsO LL ∧ ¬ RsB N LL ∧ r = 3 ∧ RsL N LL MV) ∨ (¬ RsO LL ∧ ¬ RsB N LL ∧ ¬ RsL N LL MV ∧ r = 4 ∧ RsD N LL) ∨ (¬ RsO LL ∧ ¬ RsB N LL ∧ ¬ RsL N LL MV ∧ ¬ RsD N LL ∧ r = 0)
theorem RsN.uniq {N : Nt} {LL : List (List Int)} {MV : List Mv} {r q : Int} (h : RsN N LL MV r) (k : RsN N LL MV q) : r = q := by
 unfold RsN at h k;generalize RsO LL = a at h k;generalize RsB N LL = b at h k;generalize RsL N LL MV = c at h k;generalize RsD N LL = d at h k;rcases h with ⟨h1, h2⟩ | ⟨h1, h2, h3⟩ | ⟨h1, h2, h3, h4⟩ | ⟨h1, h2, h3, h4, h5⟩ | ⟨h1, h2, h3, h4, h5⟩ <;> rcases k with ⟨k1, k2⟩ | ⟨k1, k2, k3⟩ | ⟨k1, k2, k3, k4⟩ | ⟨k1, k2, k3, k4, k5⟩ | ⟨k1, k2, k3, k4, k5⟩ <;> first | (subst h1; exact k1.symm) | contradiction | omega
end
end Go.Proofs.YtkhmngljpfibcaaGreatDoor
