/- Certificates out of coverability graphs, plain: dead transitions, nets that are not sound. Certificates out of spaces, plain: relaxed soundness; why a net is not sound. The space of a net, plain: states, moves, whether it is whole. -/
import Derived.Test.YtpiihmbeedlpkaaGreatDoorPUu
import Derived.Test.YtpiihmbeedlpkaaGreatDoorPYm
namespace Go.Proofs.YtpiihmbeedlpkaaGreatDoor
section
section
variable {N : Nt} {T : TS}
theorem leE_refl (x : List Int) : leE x x := fun p _ => by rw [lessE_iff]; by_cases h : x.getD p 0 = -1; exact .inl h; exact .inr ⟨h, Int.le_refl _⟩
theorem Gr.fine (h : Gr N T) : ∀ (j : Nat) (d : Nd), T.nodes[j]? = some d → Fine (iniM N).length d := h.i.fine h.ok h.ism
theorem Gr.node (h : Gr N T) {s : List Int} (hs : s ∈ T.states) : ∃ (j : Nat) (d : Nd), T.nodes[j]? = some d ∧ d.nw = true ∧ d.ms = s := by
 obtain ⟨f, hf, rfl⟩ := List.getElem_of_mem hs;obtain ⟨j, d, hd, hnw, hst⟩ := h.i.own f hf;have h2 := h.i.st j d hd;rw [hst, List.getElem?_eq_getElem hf] at h2;exact ⟨j, d, hd, hnw, (Option.some.inj h2).symm⟩
theorem Gr.slen (h : Gr N T) {s : List Int} (hs : s ∈ T.states) : (s.length : Int) = N.pl := by
 obtain ⟨j, d, hd, _, rfl⟩ := h.node hs;rw [(h.fine j d hd).lm]; exact h.len
theorem Gr.mksT (h : Gr N T) : mksX N.pl true T.states = true := List.all_eq_true.2 fun s hs => by
 obtain ⟨j, d, hd, _, e⟩ := h.node hs;have hf := h.fine j d hd;unfold mkX;rw [decide_eq_true (h.slen hs)];have h1 : s.any (badX true) = false := List.any_eq_false.2 (fun x hx => by
  obtain ⟨p, hp, rfl⟩ := List.getElem_of_mem hx;have e2 : s.getD p 0 = s[p] := by simp [hp]
  have h3 := hf.em p;have h4 := hf.sp p;have hpl : p < (iniM N).length := by rw [← hf.lm, e]; exact hp
  have h5 := hf.up p hpl;rw [e, e2] at h3 h5;unfold badX; simp; omega)
 rw [h1]; rfl
theorem bel_of {LL : List (List Int)} {x s : List Int} (hs : s ∈ LL) (h : leE x s) : belowB LL x = true := List.any_eq_true.2 ⟨s, hs, (atMost_iff x s).2 h⟩
theorem Gr.cov (h : Gr N T) : covX N T.states = true := by
 unfold covX;have h1 : belowB T.states (oneM N.pl.toNat N.src.toNat) = true := bel_of (List.mem_of_getElem? h.i.one) (leE_refl _);rw [h1, Bool.true_and];unfold dblB;refine List.all_eq_true.2 fun s hs => List.all_eq_true.2 fun t ht => ?_
 unfold okX;cases hc : canT t s with
 | false => rfl
 | true =>
  obtain ⟨j, d, hd, hnw, e⟩ := h.node hs;obtain ⟨k, hk, rfl⟩ := List.getElem_of_mem ht;have hj : j < T.nodes.length := (List.getElem?_eq_some_iff.1 hd).1;obtain ⟨c, x, hcx, hab, htr⟩ := h.d j hj d hd hnw k _ hk (List.getElem?_eq_getElem hk) (by rw [e]; exact hc);have hc0 : 0 < c := by
   rcases Nat.eq_zero_or_pos c with h0 | h0
   · subst h0; rw [h.i.root] at hcx; cases hcx; simp at hab
   · exact h0
  obtain ⟨i, k', y, t', _, hi, _, hk', _, hp, hb, ha, ht', _⟩ := mvOf_val h.i hcx hc0;have e1 : i = j := by omega
  have e2 : k' = k := by omega
  subst e1 e2;rw [hd] at hi;have e3 := Option.some.inj hi;subst e3;rw [List.getElem?_eq_getElem hk] at hk';have e4 := Option.some.inj hk';rw [← e4, e] at hp;rw [← hp, hb];have hf := h.fine c x hcx;have h2 := bel_of (LL := T.states) (List.mem_of_getElem? (h.i.st c x hcx)) (leE_up hf hf.lp (leE_refl x.pn));rw [h2]; rfl
theorem dead_cert (h : Gr N T) {k : Nat} (hk : k < N.tr.length) (hno : ∀ s ∈ T.states, canT N.tr[k] s = false) : deadB N (k : Int) T.states = true := by
 have h1 : trnB N (k : Int) = true := by unfold trnB; simp; omega
 have h2 : T.states.any (enAt N (k : Int)) = false := List.any_eq_false.2 (fun s hs => by
  unfold enAt;rw [Int.toNat_natCast, List.getElem?_eq_getElem hk];simp [hno s hs])
 unfold deadB;rw [h1, h.mksT, h.cov, h2]; rfl
theorem uns_dead (h : Gr N T) {k : Nat} (hk : k < N.tr.length) (hno : ∀ s ∈ T.states, canT N.tr[k] s = false) : unsB N (k : Int) [] [] T.states = true := by
 unfold unsB;rw [dead_cert h hk hno]; rfl
theorem dead_nil (N : Nt) (k : Int) : deadB N k [] = false := by
 unfold deadB covX belowB;simp
theorem Gr.runI (h : Gr N T) (hno : NoO T) {g : Nat} {l : List Int} {m : List Int} (hw : WayL (movesOf T) g 0 l) (hl : l.length ≤ 1000) (hg : T.states[g]? = some m) : runI N l = (m, l.length, 0) := by
 unfold Go.Proofs.YtpiihmbeedlpkaaGreatDoor.runI run21;rw [if_pos h.mk0, if_neg (by omega), way_run (fun _ hx => mv_fire h.i h.ok h.ism hno hx) hw 0 h.i.one hg, Nat.zero_add]
theorem uns_sink (h : Gr N T) (hno : NoO T) {g : Nat} {l : List Int} {m : List Int} (hw : WayL (movesOf T) g 0 l) (hl : l.length ≤ 1000) (hg : T.states[g]? = some m) (h0 : 0 < m.getD N.snk.toNat 0) (hf : m ≠ finM N) : unsB N 0 l [] [] = true := by
 unfold unsB;rw [h.runI hno hw hl hg, dead_nil];simp;exact ⟨by simpa using h0, hf⟩
theorem uns_lost (h : Gr N T) (hno : NoO T) {g : Nat} {l : List Int} {m : List Int} (hw : WayL (movesOf T) g 0 l) (hl : l.length ≤ 1000) (hg : T.states[g]? = some m) {K : List (List Int)} (hK : ∀ s ∈ K, s ∈ T.states) (hm : m ∈ K)
 (hc : ∀ s ∈ K, ∀ t ∈ N.tr, canT t s = true → fireT t s ∈ K) (hf : finM N ∉ K) : unsB N 0 l [] K = true := by
 unfold unsB;rw [h.runI hno hw hl hg];have h1 : K.isEmpty = false := by
  cases hh : K with
  | nil => rw [hh] at hm; cases hm
  | cons a b => rfl
 have h2 : mksX N.pl false K = true := List.all_eq_true.2 fun s hs => by rw [mkX_mk h.v]; exact h.st hno s (hK s hs)
 have h3 : memB K m = true := memB_iff.2 hm;have h4 : memB K (finM N) = false := by cases hh : memB K (finM N) with | false => rfl | true => exact absurd (memB_iff.1 hh) hf
 have h5 : closX N K = true := clos_of fun s hs t ht hcn => ⟨(h.clo hno s (hK s hs) t ht hcn).1, hc s hs t ht hcn⟩
 simp only [h1, h2, h3, h4, h5];simp
end
end
section
inductive Lead (MV : List Mv) (g : Nat) : Nat → Prop
 | stop : Lead MV g g
 | step {s t : Nat} {k : Int} : (⟨(s : Int), (t : Int), k⟩ : Mv) ∈ MV → Lead MV g t → Lead MV g s
theorem way_lead {MV : List Mv} {g s : Nat} {l : List Int} (h : WayL MV g s l) : Lead MV g s := by
 induction h with
 | stop => exact .stop
 | step hx _ ih => exact .step hx ih
theorem WayL.app {MV : List Mv} {g f s : Nat} {l r : List Int} (h : WayL MV f s l) (k : WayL MV g f r) : WayL MV g s (l ++ r) := by
 induction h with
 | stop => exact k
 | step hx _ ih => exact .step hx ih
theorem lead_far {MV : List Mv} {F : List Int} {g n : Nat} (hn : mvOk MV n) (hF : IsD MV g n F) {s : Nat} (hs : s < n) : Lead MV g s ↔ 0 ≤ fd F s := by
 constructor
 · intro h
   induction h with
   | stop => rw [hF.zero]; exact Int.le_refl _
   | @step s t k hx _ ih =>
    have h1 := hn _ hx;exact (hF.le _ hx (ih (by have := h1.2.2.2; simp only at this; omega))).1
 · intro h;obtain ⟨l, hl, _⟩ := way_is hn hF (fd F s).toNat s hs (by omega);exact way_lead hl
def Leads (N : Nt) (LL : List (List Int)) (MV : List Mv) (k : Nat) : Prop := ∃ g, LL[g]? = some (finM N) ∧ Lead MV g k
def MvC (N : Nt) (LL : List (List Int)) (MV : List Mv) : Prop := ∀ (f k : Nat) (s : List Int) (tr : Tr), LL[f]? = some s → N.tr[k]? = some tr → canT tr s = true → bigM (fireT tr s) = false ∧ ∃ t : Nat, (⟨(f : Int), (t : Int), (k : Int)⟩ : Mv) ∈ MV ∧ LL[t]? = some (fireT tr s)
theorem runI_way {N : Nt} {LL : List (List Int)} {MV : List Mv} (hv : ntB N = true) (h1 : LL[0]? = some (iniM N)) (hmv : MvF N LL MV) {g : Nat} {l : List Int} {m : List Int} (hw : WayL MV g 0 l) (hl : l.length ≤ 1000) (hg : LL[g]? = some m) : runI N l = (m, l.length, 0) := by
 unfold runI run21;rw [if_pos (show mkB N (iniM N) = true from one_mk hv _), if_neg (by omega), way_run hmv hw 0 h1 hg, Nat.zero_add]
theorem nrl_cert {N : Nt} {LL : List (List Int)} {MV : List Mv} (hv : ntB N = true) (h1 : iniM N ∈ LL) (hmk : ∀ s ∈ LL, mkB N s = true) (hc : MvC N LL MV) (hnod : ∀ (i j : Nat) (s : List Int), LL[i]? = some s → LL[j]? = some s → i = j) {t : Nat} (ht : t < N.tr.length) {I : List Int}
 (hI : ∀ i ∈ I, ∃ k : Nat, i = (k : Int) ∧ k < LL.length ∧ ¬ Leads N LL MV k) (hI2 : ∀ k, k < LL.length → ¬ Leads N LL MV k → (k : Int) ∈ I) (hno : ∀ x ∈ MV, x.s = (t : Int) → ¬ Leads N LL MV x.t.toNat) : nrlB N (t : Int) LL [I] = true := by
 have e1 : trnB N (t : Int) = true := by unfold trnB; simp; omega
 have e2 : mksX N.pl false LL = true := List.all_eq_true.2 fun s hs => by rw [mkX_mk hv]; exact hmk s hs
 have e3 : memB LL (iniM N) = true := memB_iff.2 h1;have e4 : closX N LL = true := clos_of fun s hs tr htr hcn => by
  obtain ⟨f, hf, rfl⟩ := List.getElem_of_mem hs;obtain ⟨k, hk, rfl⟩ := List.getElem_of_mem htr;obtain ⟨g1, u, _, g2⟩ := hc f k _ _ (List.getElem?_eq_getElem hf) (List.getElem?_eq_getElem hk) hcn;exact ⟨g1, List.mem_of_getElem? g2⟩
 have e5 : I.all (okIx LL) = true := List.all_eq_true.2 fun i hi => by
  obtain ⟨k, rfl, hk, _⟩ := hI i hi;unfold okIx; simp; omega
 have hlost : ∀ s, s ∈ lostL LL I ↔ ∃ k : Nat, LL[k]? = some s ∧ ¬ Leads N LL MV k := by
  intro s;unfold lostL;constructor
  · intro hs;obtain ⟨i, hi, rfl⟩ := List.mem_map.1 hs;obtain ⟨k, rfl, hk, hl⟩ := hI i hi;refine ⟨k, ?_, hl⟩;rw [Int.toNat_natCast, List.getElem?_eq_getElem hk, getD_at (List.getElem?_eq_getElem hk)]
  · rintro ⟨k, hk, hl⟩;have hkl := (List.getElem?_eq_some_iff.1 hk).1;refine List.mem_map.2 ⟨(k : Int), hI2 k hkl hl, ?_⟩;rw [Int.toNat_natCast, getD_at hk]
 have e6 : closX N (lostL LL I) = true := clos_of fun s hs tr htr hcn => by
  obtain ⟨f, hf, hl⟩ := (hlost s).1 hs;obtain ⟨k, hk, rfl⟩ := List.getElem_of_mem htr;obtain ⟨g1, u, g2, g3⟩ := hc f k _ _ hf (List.getElem?_eq_getElem hk) hcn;refine ⟨g1, (hlost _).2 ⟨u, g3, fun hh => hl ?_⟩⟩;obtain ⟨g, h3, h4⟩ := hh;exact ⟨g, h3, .step g2 h4⟩
 have e7 : memB (lostL LL I) (finM N) = false := by
  cases hh : memB (lostL LL I) (finM N) with
  | false => rfl
  | true =>
   obtain ⟨k, hk, hl⟩ := (hlost _).1 (memB_iff.1 hh);exact absurd ⟨k, hk, .stop⟩ hl
 have e8 : LL.any (nrbB (lostL LL I) (trAtN N (t : Int))) = false := List.any_eq_false.2 (fun s hs => by
  obtain ⟨f, hf, rfl⟩ := List.getElem_of_mem hs;have et : trAtN N (t : Int) = N.tr[t] := by unfold trAtN; rw [Int.toNat_natCast]; simp [ht]
  unfold nrbB;rw [et];cases hcn : canT N.tr[t] LL[f] with
  | false => simp
  | true =>
   obtain ⟨_, u, g2, g3⟩ := hc f t _ _ (List.getElem?_eq_getElem hf) (List.getElem?_eq_getElem ht) hcn;have h2 := hno _ g2 rfl;simp only [Int.toNat_natCast] at h2;have h3 : memB (lostL LL I) (fireT N.tr[t] LL[f]) = true := memB_iff.2 ((hlost _).2 ⟨u, g3, h2⟩);rw [h3]; simp)
 have _ := hnod;unfold nrlB;simp only [List.headD_cons];rw [e1, e2, e3, e4, e5, e6, e7, e8];simp
def RsO (LL : List (List Int)) : Prop := ∃ s ∈ LL, hasO s = true
def RsB (N : Nt) (LL : List (List Int)) : Prop := ∃ s ∈ LL, 0 < s.getD N.snk.toNat 0 ∧ s ≠ finM N
def RsL (N : Nt) (LL : List (List Int)) (MV : List Mv) : Prop := ∃ k, k < LL.length ∧ ¬ Leads N LL MV k
def RsD (N : Nt) (LL : List (List Int)) : Prop := ∃ t ∈ N.tr, ∀ s ∈ LL, canT t s = false
def RsN (N : Nt) (LL : List (List Int)) (MV : List Mv) (r : Int) : Prop :=
 (r = 1 ∧ RsO LL) ∨ (¬ RsO LL ∧ r = 2 ∧ RsB N LL) ∨ (¬ RsO LL ∧ ¬ RsB N LL ∧ r = 3 ∧ RsL N LL MV) ∨ (¬ RsO LL ∧ ¬ RsB N LL ∧ ¬ RsL N LL MV ∧ r = 4 ∧ RsD N LL) ∨ (¬ RsO LL ∧ ¬ RsB N LL ∧ ¬ RsL N LL MV ∧ ¬ RsD N LL ∧ r = 0)
theorem RsN.uniq {N : Nt} {LL : List (List Int)} {MV : List Mv} {r q : Int} (h : RsN N LL MV r) (k : RsN N LL MV q) : r = q := by
 unfold RsN at h k;generalize RsO LL = a at h k;generalize RsB N LL = b at h k;generalize RsL N LL MV = c at h k;generalize RsD N LL = d at h k;rcases h with ⟨h1, h2⟩ | ⟨h1, h2, h3⟩ | ⟨h1, h2, h3, h4⟩ | ⟨h1, h2, h3, h4, h5⟩ | ⟨h1, h2, h3, h4, h5⟩ <;> rcases k with ⟨k1, k2⟩ | ⟨k1, k2, k3⟩ | ⟨k1, k2, k3, k4⟩ | ⟨k1, k2, k3, k4, k5⟩ | ⟨k1, k2, k3, k4, k5⟩ <;> first | (subst h1; exact k1.symm) | contradiction | omega
end
section
structure ExS where
 SL : List (List Int)
 MV : List Mv
 fl : Bool
def exIdx (SL : List (List Int)) (y : List Int) : Nat := SL.findIdx fun s => decide (s = y)
def exOne (N : Nt) (most i : Nat) (m : List Int) (k : Nat) (E : ExS) : Option ExS :=
  match N.tr[k]? with
  | none => some E
  | some tr =>
    if canT tr m then
      (if bigM (fireT tr m) then some ⟨E.SL, E.MV, false⟩
       else if exIdx E.SL (fireT tr m) < E.SL.length then (if 20000 ≤ E.MV.length then none else some ⟨E.SL, E.MV ++ [⟨(i : Int), ((exIdx E.SL (fireT tr m) : Nat) : Int), (k : Int)⟩], E.fl⟩)
       else if E.SL.length < most then (if 20000 ≤ E.MV.length then none else some ⟨E.SL ++ [fireT tr m], E.MV ++ [⟨(i : Int), ((E.SL.length : Nat) : Int), (k : Int)⟩], E.fl⟩)
       else some ⟨E.SL, E.MV, false⟩)
    else some E
def exTo (N : Nt) (most i : Nat) (m : List Int) : Nat → ExS → Option ExS
 | 0, E => some E
 | k + 1, E => (exTo N most i m k E).bind (exOne N most i m k)
def exFrom (N : Nt) (most : Nat) : Nat → Nat → ExS → Option ExS
 | 0, _, _ => none
 | f + 1, i, E => match E.SL[i]? with
  | none => some E
  | some m => (exTo N most i m N.tr.length E).bind (exFrom N most f (i + 1))
def exT (N : Nt) (m : List Int) (most : Nat) : Option ExS := exFrom N most (most + 1) 0 ⟨[m], [], true⟩
structure EInv (N : Nt) (M : List Int) (most i k : Nat) (E : ExS) : Prop where
 one : E.SL[0]? = some M
 nod : ∀ (a b : Nat) (s : List Int), E.SL[a]? = some s → E.SL[b]? = some s → a = b
 mks : ∀ s ∈ E.SL, mkB N s = true
 mvf : MvF N E.SL E.MV
 le : E.SL.length ≤ most
 tree : ∀ j, 0 < j → j < E.SL.length → ∃ x ∈ E.MV, x.t = (j : Int) ∧ x.f < (j : Int)
 done : E.fl = true → ∀ (a b : Nat) (s : List Int) (tr : Tr), (a < i ∨ a = i ∧ b < k) → E.SL[a]? = some s → N.tr[b]? = some tr → canT tr s = true → bigM (fireT tr s) = false ∧ ∃ t : Nat, (⟨(a : Int), (t : Int), (b : Int)⟩ : Mv) ∈ E.MV ∧ E.SL[t]? = some (fireT tr s)
section
variable {N : Nt} {M : List Int} {most i k : Nat} {E E' : ExS}
theorem exIdx_at {SL : List (List Int)} {y : List Int} (h : exIdx SL y < SL.length) : SL[exIdx SL y]? = some y := by
 rw [List.getElem?_eq_getElem h];have := List.findIdx_getElem (w := h);simp only [decide_eq_true_eq] at this;exact congrArg some this
theorem exIdx_no {SL : List (List Int)} {y : List Int} (h : ¬ exIdx SL y < SL.length) : ∀ j : Nat, SL[j]? ≠ some y := by
 intro j hj;have hm : y ∈ SL := List.mem_of_getElem? hj;exact h (List.findIdx_lt_length_of_exists ⟨y, hm, by simp⟩)
theorem MvF.mono {SL L : List (List Int)} {MV : List Mv} (h : MvF N SL MV) : MvF N (SL ++ L) MV := fun x hx => by
 obtain ⟨f, t, k, tr, s, s', h1, h2, h3, h4⟩ := h x hx;exact ⟨f, t, k, tr, s, s', h1, by rw [List.getElem?_append_left (List.getElem?_eq_some_iff.1 h2).1]; exact h2, by rw [List.getElem?_append_left (List.getElem?_eq_some_iff.1 h3).1]; exact h3, h4⟩
theorem MvF.snoc {SL : List (List Int)} {MV : List Mv} (h : MvF N SL MV) {x : Mv} (hx : ∃ (f t k : Nat) (tr : Tr) (s s' : List Int), x = ⟨(f : Int), (t : Int), (k : Int)⟩ ∧ SL[f]? = some s ∧ SL[t]? = some s' ∧ N.tr[k]? = some tr ∧ canT tr s = true ∧ fireT tr s = s' ∧ bigM s' = false) : MvF N SL (MV ++ [x]) := fun y hy => by
 rcases List.mem_append.1 hy with e | e
 · exact h y e
 · simp at e; subst e; exact hx
theorem EInv.next (h : EInv N M most i k E) {m : List Int} (hm : E.SL[i]? = some m) (hk : k < N.tr.length) (he : exOne N most i m k E = some E') : EInv N M most i (k + 1) E' ∧ (∃ L, E'.SL = E.SL ++ L) := by
 have hil := (List.getElem?_eq_some_iff.1 hm).1;have hmk := h.mks m (List.mem_of_getElem? hm);have split_ab : ∀ {a b : Nat}, (a < i ∨ a = i ∧ b < k + 1) → (a < i ∨ a = i ∧ b < k) ∨ (a = i ∧ b = k) := fun hh => by omega
 unfold exOne at he;rw [List.getElem?_eq_getElem hk] at he;simp only at he;have hg : N.tr[k]? = some N.tr[k] := List.getElem?_eq_getElem hk;split at he
 · rename_i hc;split at he
   · rename_i hb;cases he;exact ⟨⟨h.one, h.nod, h.mks, h.mvf, h.le, h.tree, fun hf => by cases hf⟩, [], by simp⟩
   · rename_i hb;have hb : bigM (fireT N.tr[k] m) = false := by simpa using hb
     have hymk : mkB N (fireT N.tr[k] m) = true := by
      have hfv := fire_at (f := i) hg hc hb;have h3 := fire_mk (t := (k : Int)) hmk (by rw [hfv]);rw [hfv] at h3; exact h3
     split at he
     · rename_i hx;split at he
       · cases he
       · cases he;have hix := exIdx_at hx;refine ⟨⟨h.one, h.nod, h.mks, h.mvf.snoc ⟨i, _, k, _, m, _, rfl, hm, hix, hg, hc, rfl, hb⟩, h.le, fun j h0 hj => ?_, fun hf a b s tr hab ha hb' hcn => ?_⟩, [], by simp⟩
         · obtain ⟨x, h1, h2⟩ := h.tree j h0 hj;exact ⟨x, List.mem_append.2 (.inl h1), h2⟩
         · rcases split_ab hab with h1 | ⟨h1, h2⟩
           · obtain ⟨g1, t, g2, g3⟩ := h.done hf a b s tr h1 ha hb' hcn;exact ⟨g1, t, List.mem_append.2 (.inl g2), g3⟩
           · subst h1 h2;rw [hm] at ha; cases ha;rw [hg] at hb'; cases hb';exact ⟨hb, _, List.mem_append.2 (.inr (by simp)), hix⟩
     · rename_i hx;split at he
       · rename_i hlt;split at he
         · cases he
         · cases he;have hno := exIdx_no hx;have hnew : (E.SL ++ [fireT N.tr[k] m])[E.SL.length]? = some (fireT N.tr[k] m) := by simp
           have old : ∀ {a : Nat} {s : List Int}, E.SL[a]? = some s → (E.SL ++ [fireT N.tr[k] m])[a]? = some s := fun ha => by
            rw [List.getElem?_append_left (List.getElem?_eq_some_iff.1 ha).1]; exact ha
           have cases' : ∀ {a : Nat} {s : List Int}, (E.SL ++ [fireT N.tr[k] m])[a]? = some s → E.SL[a]? = some s ∨ (a = E.SL.length ∧ s = fireT N.tr[k] m) := fun {a s} ha => by
            rcases Nat.lt_or_ge a E.SL.length with hl | hl
            · rw [List.getElem?_append_left hl] at ha; exact .inl ha
            · rw [List.getElem?_append_right hl] at ha;rcases Nat.eq_zero_or_pos (a - E.SL.length) with h0 | h0
              · rw [h0] at ha; simp at ha; exact .inr ⟨by omega, ha.symm⟩
              · rw [List.getElem?_eq_none (by simp; omega)] at ha; cases ha
           refine ⟨⟨old h.one, fun a b s ha hb' => ?_, fun s hs => ?_, h.mvf.mono.snoc ⟨i, _, k, _, m, _, rfl, old hm, hnew, hg, hc, rfl, hb⟩, by simp; omega, fun j h0 hj => ?_, fun hf a b s tr hab ha hb' hcn => ?_⟩, [fireT N.tr[k] m], rfl⟩
           · rcases cases' ha with h1 | ⟨h1, h2⟩ <;> rcases cases' hb' with g1 | ⟨g1, g2⟩
             · exact h.nod a b s h1 g1
             · subst g2; exact absurd h1 (hno a)
             · subst h2; exact absurd g1 (hno b)
             · omega
           · rcases List.mem_append.1 hs with h1 | h1
             · exact h.mks s h1
             · simp at h1; subst h1; exact hymk
           · rcases Nat.lt_or_ge j E.SL.length with hl | hl
             · obtain ⟨x, h1, h2⟩ := h.tree j h0 hl;exact ⟨x, List.mem_append.2 (.inl h1), h2⟩
             · have hj' : j < E.SL.length + 1 := by simpa using hj
               have e : j = E.SL.length := by omega
               refine ⟨_, List.mem_append.2 (.inr (List.mem_singleton.2 rfl)), by rw [e], ?_⟩;show (i : Int) < _; omega
           · rcases split_ab hab with h1 | ⟨h1, h2⟩
             · rcases cases' ha with g0 | ⟨g0, _⟩
               · obtain ⟨g1, t, g2, g3⟩ := h.done hf a b s tr h1 g0 hb' hcn;exact ⟨g1, t, List.mem_append.2 (.inl g2), old g3⟩
               · omega
             · subst h1 h2;rw [old hm] at ha; cases ha;rw [hg] at hb'; cases hb';exact ⟨hb, _, List.mem_append.2 (.inr (by simp)), hnew⟩
       · cases he;exact ⟨⟨h.one, h.nod, h.mks, h.mvf, h.le, h.tree, fun hf => by cases hf⟩, [], by simp⟩
 · rename_i hc;cases he;refine ⟨⟨h.one, h.nod, h.mks, h.mvf, h.le, h.tree, fun hf a b s tr hab ha hb' hcn => ?_⟩, [], by simp⟩;rcases split_ab hab with h1 | ⟨h1, h2⟩
   · exact h.done hf a b s tr h1 ha hb' hcn
   · subst h1 h2;rw [hm] at ha; cases ha;rw [hg] at hb'; cases hb';exact absurd hcn hc
theorem EInv.to (h : EInv N M most i 0 E) {m : List Int} (hm : E.SL[i]? = some m) : ∀ (k : Nat) {E' : ExS}, k ≤ N.tr.length → exTo N most i m k E = some E' → EInv N M most i k E' ∧ (∃ L, E'.SL = E.SL ++ L)
 | 0, E', _, he => by cases he; exact ⟨h, [], by simp⟩
 | k + 1, E', hk, he => by
  rw [exTo] at he;cases h1 : exTo N most i m k E with
  | none => rw [h1] at he; cases he
  | some F =>
   rw [h1] at he;obtain ⟨g1, L, g2⟩ := EInv.to h hm k (by omega) h1;have hm2 : F.SL[i]? = some m := by rw [g2, List.getElem?_append_left (List.getElem?_eq_some_iff.1 hm).1]; exact hm
   obtain ⟨g3, L', g4⟩ := g1.next hm2 (by omega) he
   exact ⟨g3, L ++ L', by rw [g4, g2, List.append_assoc]⟩
theorem EInv.row (h : EInv N M most i N.tr.length E) : EInv N M most (i + 1) 0 E :=
 ⟨h.one, h.nod, h.mks, h.mvf, h.le, h.tree, fun hf a b s tr hab ha hb hc => h.done hf a b s tr (by
  have := (List.getElem?_eq_some_iff.1 hb).1;omega) ha hb hc⟩
theorem EInv.all (f : Nat) : ∀ {i : Nat} {E E' : ExS}, EInv N M most i 0 E → exFrom N most f i E = some E' → ∃ j, E'.SL.length ≤ j ∧ EInv N M most j 0 E' := by
 induction f with
 | zero => intro i E E' _ h; cases h
 | succ f ih =>
  intro i E E' hI h;rw [exFrom] at h;split at h
  · rename_i hn;cases h;exact ⟨i, List.getElem?_eq_none_iff.1 hn, hI⟩
  · rename_i m hm;cases h1 : exTo N most i m N.tr.length E with
    | none => rw [h1] at h; cases h
    | some F =>
     rw [h1] at h;exact ih (hI.to hm _ (Nat.le_refl _) h1).1.row h
theorem EInv.start (hv : mkB N M = true) (h1 : 1 ≤ most) : EInv N M most 0 0 ⟨[M], [], true⟩ := by
 have one : ∀ {a : Nat} {s : List Int}, ([M] : List (List Int))[a]? = some s → a = 0 ∧ s = M := fun {a s} ha => by
  cases a with
  | zero => simp at ha; exact ⟨rfl, ha.symm⟩
  | succ a => simp at ha
 refine ⟨rfl, fun a b s ha hb => ?_, fun s hs => ?_, fun x hx => by simp at hx, by simpa using h1, fun j h0 hj => ?_, fun _ a b s tr hab => by omega⟩
 · have := one ha; have := one hb; omega
 · simp at hs; subst hs; exact hv
 · simp at hj; omega
end
structure Spc (N : Nt) (M : List Int) (most : Nat) (E : ExS) : Prop where
 one : E.SL[0]? = some M
 nod : ∀ (a b : Nat) (s : List Int), E.SL[a]? = some s → E.SL[b]? = some s → a = b
 mks : ∀ s ∈ E.SL, mkB N s = true
 mvf : MvF N E.SL E.MV
 le : E.SL.length ≤ most
 tree : ∀ j, 0 < j → j < E.SL.length → ∃ x ∈ E.MV, x.t = (j : Int) ∧ x.f < (j : Int)
 full : E.fl = true → MvC N E.SL E.MV
theorem exT_spc {N : Nt} {M : List Int} {most : Nat} {E : ExS} (hv : mkB N M = true) (h1 : 1 ≤ most) (h : exT N M most = some E) : Spc N M most E := by
 obtain ⟨j, hj, hI⟩ := EInv.all (most + 1) (EInv.start hv h1) h;exact ⟨hI.one, hI.nod, hI.mks, hI.mvf, hI.le, hI.tree, fun hf a b s tr ha hb hc => hI.done hf a b s tr (.inl (by have := (List.getElem?_eq_some_iff.1 ha).1; omega)) ha hb hc⟩
theorem Lead.snoc {MV : List Mv} {f g s : Nat} {k : Int} (h : Lead MV f s) (hx : (⟨(f : Int), (g : Int), k⟩ : Mv) ∈ MV) : Lead MV g s := by
 induction h with
 | stop => exact .step hx .stop
 | step hy _ ih => exact .step hy ih
theorem root_lead {MV : List Mv} {n : Nat} (hn : mvOk MV n) (ht : ∀ j, 0 < j → j < n → ∃ x ∈ MV, x.t = (j : Int) ∧ x.f < (j : Int)) : ∀ j, j < n → Lead MV j 0 := by
 intro j
 induction j using Nat.strongRecOn with
 | ind j ih =>
  intro hj;rcases Nat.eq_zero_or_pos j with h0 | h0
  · subst h0; exact .stop
  · obtain ⟨x, hx, h1, h2⟩ := ht j h0 hj;obtain ⟨f, hf⟩ := Int.eq_ofNat_of_zero_le (hn x hx).1;have := ih f (by omega) (by omega);refine this.snoc (k := x.s) ?_;rw [← hf, ← h1]; exact hx
end
end Go.Proofs.YtpiihmbeedlpkaaGreatDoor
