/- SoundRuns, plain: each marking that a sound net reaches has a run to the end, the space from it is whole, each transition is in a complete run. -/
import Derived.Test.YtkhmngljpfibcaaGreatDoorPUu
import Derived.Test.YtkhmngljpfibcaaGreatDoorPTn
import Derived.Test.YtkhmngljpfibcaaGreatDoorPAd
import Derived.Test.YtkhmngljpfibcaaGreatDoorPTy
namespace Go.Proofs.YtkhmngljpfibcaaGreatDoor

def BfC (MV : List Mv) (S : BfS) (q : Nat) : Prop := ∀ x ∈ MV, x.f = (q : Int) → x.t = 0 ∨ bNone S.B x.t.toNat = false
theorem bNone_le {S S' : BfS} (h : BfLe S S') {j : Nat} (hj : bNone S.B j = false) : bNone S'.B j = false := by
 cases e : bNone S'.B j with
 | false => rfl
 | true =>
  have h1 := (bNone_iff _ _).1 e;have hl : j < S.B.length := by rw [h.1]; exact (List.getElem?_eq_some_iff.1 h1).1
  cases e2 : S.B[j] with
  | none =>
   have := (bNone_iff S.B j).2 (by rw [List.getElem?_eq_getElem hl, e2]);rw [this] at hj; cases hj
  | some m =>
   have := h.2.1 j m (by rw [List.getElem?_eq_getElem hl, e2]);rw [h1] at this; cases this
theorem bfOne_met {q : Nat} {S : BfS} {m : Mv} (hf : m.f = (q : Int)) : m.t = 0 ∨ bNone (bfOne q S m).B m.t.toNat = false := by
 by_cases h0 : m.t = 0
 · exact .inl h0
 · right;unfold bfOne;by_cases hb : bNone S.B m.t.toNat = true
   · rw [if_pos ⟨hf, h0, hb⟩];have hl := (List.getElem?_eq_some_iff.1 ((bNone_iff _ _).1 hb)).1;cases e : bNone (S.B.set m.t.toNat (some m)) m.t.toNat with
     | false => rfl
     | true =>
      have := (bNone_iff _ _).1 e;rw [List.getElem?_set_self hl] at this; cases this
   · rw [if_neg (fun h => hb h.2.2)];simpa using hb
theorem fold_le (q : Nat) : ∀ (L : List Mv) (S : BfS), BfLe S (L.foldl (bfOne q) S)
 | [], S => BfLe.refl S
 | m :: L, S => (bfOne_le q S m).trans (fold_le q L _)
theorem fold_met (q : Nat) : ∀ (L : List Mv) (S : BfS), ∀ x ∈ L, x.f = (q : Int) → x.t = 0 ∨ bNone (L.foldl (bfOne q) S).B x.t.toNat = false
 | [], _, x, hx, _ => by cases hx
 | m :: L, S, x, hx, hf => by
  rw [List.foldl_cons];rcases List.mem_cons.1 hx with rfl | hx
  · rcases bfOne_met (S := S) hf with h | h
    · exact .inl h
    · exact .inr (bNone_le (fold_le q L _) h)
  · exact fold_met q L _ x hx hf
theorem bfRow_met (MV : List Mv) (q : Nat) (S : BfS) : BfC MV (bfRow MV q S) q := fun x hx hf => fold_met q MV S x hx hf
theorem BfC.le {MV : List Mv} {S S' : BfS} {q : Nat} (h : BfC MV S q) (hl : BfLe S S') : BfC MV S' q := fun x hx hf => by
 rcases h x hx hf with h | h
 · exact .inl h
 · exact .inr (bNone_le hl h)
theorem bfAll_met {MV : List Mv} {n : Nat} (hn : mvOk MV n) (f : Nat) : ∀ (i : Nat) (S : BfS), BfI MV n S → (∀ (a q : Nat), a < i → S.Q[a]? = some q → BfC MV S q) → n + 1 ≤ f + i → ∀ (a q : Nat), (bfAll MV f i S).Q[a]? = some q → BfC MV (bfAll MV f i S) q := by
 induction f with
 | zero =>
  intro i S h hd hi a q ha;have hr := h.room;exact hd a q (by have := (List.getElem?_eq_some_iff.1 (show S.Q[a]? = some q from ha)).1; omega) ha
 | succ f ih =>
  intro i S h hd hi a q ha;rw [bfAll] at ha ⊢;split at ha
  · rename_i hq;exact hd a q (by have := (List.getElem?_eq_some_iff.1 ha).1; have := List.getElem?_eq_none_iff.1 hq; omega) ha
  · rename_i p hp;refine ih (i + 1) (bfRow MV p S) (h.row hp hn) (fun b r hb hr => ?_) (by omega) a q ha;obtain ⟨_, _, L, e⟩ := bfRow_le MV p S;rcases Nat.lt_or_ge b i with h1 | h1
    · have hr2 : S.Q[b]? = some r := by
       have hil := (List.getElem?_eq_some_iff.1 hp).1;rw [e, List.getElem?_append_left (by omega)] at hr; exact hr
      exact (hd b r h1 hr2).le (bfRow_le MV p S)
    · have hbi : b = i := by omega
      subst hbi;have hr2 : S.Q[b]? = some r := by
       have hil := (List.getElem?_eq_some_iff.1 hp).1;rw [e, List.getElem?_append_left hil] at hr; exact hr
      rw [hp] at hr2; cases hr2;exact bfRow_met MV p S
theorem bf_lead {MV : List Mv} {n : Nat} {S : BfS} (h : BfI MV n S) (hn : mvOk MV n) (hc : ∀ (a q : Nat), S.Q[a]? = some q → BfC MV S q) {g s : Nat} (hl : Lead MV g s) : (∃ a : Nat, S.Q[a]? = some s) → ∃ a : Nat, S.Q[a]? = some g := by
 induction hl with
 | stop => exact id
 | @step s t k hx _ ih =>
  rintro ⟨a, ha⟩;have htn : t < n := by have := (hn _ hx).2.2.2; simp only at this; omega
  obtain ⟨b, hb, _⟩ := h.has htn (by
   rcases hc a s ha _ hx rfl with h0 | h0
   · left; simp only at h0; omega
   · right; simpa using h0)
  exact ih ⟨b, hb⟩
theorem path_good {MV : List Mv} {n j : Nat} (hn : mvOk MV n) (h0 : 0 < n) (hl : Lead MV j 0) : ∃ l, pathV MV n j = (l, 0) ∧ WayL MV j 0 l ∧ l.length ≤ n := by
 have hI : BfI MV n (bfF MV n) := BfI.all hn (n + 1) 0 _ (BfI.start MV n h0);have hC := bfAll_met hn (n + 1) 0 _ (BfI.start MV n h0) (fun a q ha _ => by omega) (by omega);obtain ⟨a, ha⟩ := bf_lead hI hn hC hl ⟨0, hI.q0⟩;have han : a < n := by have := hI.room; have := (List.getElem?_eq_some_iff.1 ha).1; omega
 have hb : j = 0 ∨ bNone (bfF MV n).B j = false := by
  rcases Nat.eq_zero_or_pos j with h | h
  · exact .inl h
  · obtain ⟨m, b, f, h1, _⟩ := hI.by_ a j ha h;right;cases e : bNone (bfF MV n).B j with
    | false => rfl
    | true => have := (bNone_iff _ _).1 e; rw [h1] at this; cases this
 refine ⟨(bfBack (bfF MV n).B (n + 1) j).reverse, by unfold pathV; rw [if_pos hb], ?_, ?_⟩
 · have := back_way hI a j ha (n + 1) (by omega) (l := []) (g := j) .stop;simpa using this
 · rw [List.length_reverse];have := back_len hI a j ha (n + 1) (by omega);omega
section
variable {N : Nt} {T : TS} {mn : Nat}
theorem GrF.clk (h : GrF N T) (ho : ¬ RsO T.states) : ClK N T.states := fun s hs t ht hc => h.gr.clo (h.gr.noO ho) s hs t ht hc
theorem sr_space (h : GrF N T) (ho : ¬ RsO T.states) (hl : T.states.length ≤ mn) (h1 : 1 ≤ mn) (h60 : mn ≤ 60) {M : List Int} (hM : M ∈ T.states) : ∃ E, exT N M mn = some E ∧ E.fl = true ∧ Spc N M mn E ∧ MvC N E.SL E.MV := by
 have htr : N.tr.length ≤ 60 := by have := nt_small h.gr.v; omega
 have hb : mn * N.tr.length ≤ 20000 := Nat.le_trans (Nat.mul_le_mul h60 htr) (by decide);obtain ⟨E, h2, _, h4⟩ := ex_whole (h.clk ho) hl hb (h.gr.st (h.gr.noO ho) M hM) hM h1;have hS := exT_spc (h.gr.st (h.gr.noO ho) M hM) h1 h2;exact ⟨E, h2, h4, hS, hS.full h4⟩
theorem sr_compl (h : GrF N T) (ho : ¬ RsO T.states) (hL : ¬ RsL N T.states (movesOf T)) (hl : T.states.length ≤ mn) (h1 : 1 ≤ mn) (h60 : mn ≤ 60) {M : List Int} (hM : M ∈ T.states) : ∃ l, complV N M mn = (l, 0) ∧ l.length ≤ 1000 ∧ run21 N M l = (finM N, l.length, 0) := by
 obtain ⟨E, hE, _, hS, hC⟩ := sr_space h ho hl h1 h60 hM;obtain ⟨k, hk, hkM⟩ := List.getElem_of_mem hM;have hle : Leads N T.states (movesOf T) k := Classical.byContradiction fun hn => hL ⟨k, hk, hn⟩
 obtain ⟨g, hg, hlg⟩ := leads_in (h.gr.mvf (h.gr.noO ho)) hC hle (by rw [List.getElem?_eq_getElem hk, hkM]) hS.one;have hgl := (List.getElem?_eq_some_iff.1 hg).1;have hn0 : 0 < E.SL.length := by omega
 have hix : lidx (isL (finM N)) E.SL = (g : Int) := by
  rcases lidx_two (isL (finM N)) E.SL with ⟨_, h2⟩ | ⟨g2, s, h2, h3, h4⟩
  · have := h2 _ (List.mem_of_getElem? hg);unfold isL at this; simp at this
  · have e9 : s = finM N := by unfold isL at h4; simpa using h4
    subst e9;rw [h2, hS.nod g2 g _ h3 hg]
 obtain ⟨l, hp, hw, hll⟩ := path_good hS.mvf.ok hn0 hlg;have hle2 := hS.le;refine ⟨l, ?_, by omega, ?_⟩
 · unfold complV;rw [hE];simp only;rw [hix, if_pos (by omega), Int.toNat_natCast, hp]
 · have := way_run hS.mvf hw 0 hS.one hg;unfold run21;rw [if_pos (hS.mks M (List.mem_of_getElem? hS.one)), if_neg (by omega), this, Nat.zero_add]
theorem sr_relaxed (h : GrF N T) (ho : ¬ RsO T.states) (hL : ¬ RsL N T.states (movesOf T)) (hD : ¬ RsD N T.states) (h1 : 1 ≤ mn) {E : ExS} (hE : exT N (iniM N) mn = some E) (hfl : E.fl = true) : RlxP N E.SL E.MV := by
 have hS := exT_spc h.gr.mk0 h1 hE;have hC := hS.full hfl;intro t ht;obtain ⟨s, hs, hc⟩ : ∃ s ∈ T.states, canT N.tr[t] s = true := Classical.byContradiction fun hn => hD ⟨N.tr[t], List.getElem_mem ht, fun s hs => by
  cases hcn : canT N.tr[t] s with
  | false => rfl
  | true => exact absurd ⟨s, hs, hcn⟩ hn⟩
 have hmv := h.gr.mvf (h.gr.noO ho);obtain ⟨b, hb, _⟩ := all_in hmv hC h.ld h.gr.i.one hS.one hs;obtain ⟨_, u, hu1, hu2⟩ := hC b t s N.tr[t] hb (List.getElem?_eq_getElem ht) hc;obtain ⟨_, hf⟩ := h.clk ho s hs N.tr[t] (List.getElem_mem ht) hc;obtain ⟨k, hk, hke⟩ := List.getElem_of_mem hf;have hle : Leads N T.states (movesOf T) k := Classical.byContradiction fun hn => hL ⟨k, hk, hn⟩
 refine ⟨_, hu1, rfl, ?_⟩;rw [Int.toNat_natCast];exact leads_in hmv hC hle (by rw [List.getElem?_eq_getElem hk, hke]) hu2
theorem sr_fire (h : GrF N T) (ho : ¬ RsO T.states) {M : List Int} (hM : M ∈ T.states) {t : Int} (hf : (fire21 N M t).2 = 0) : (fire21 N M t).1 ∈ T.states := by
 have hmk := h.gr.st (h.gr.noO ho) M hM;unfold fire21 at hf ⊢;rw [if_pos hmk] at hf ⊢;unfold fireV at hf ⊢;by_cases h0 : t < 0
 · rw [if_pos h0] at hf; cases hf
 · rw [if_neg h0] at hf ⊢;cases hx : N.tr[t.toNat]? with
   | none => rw [hx] at hf; cases hf
   | some y =>
    rw [hx] at hf;simp only at hf ⊢;by_cases hc : canT y M = true
    · rw [if_pos hc] at hf ⊢;by_cases hb : bigM (fireT y M) = true
      · rw [if_pos hb] at hf; cases hf
      · rw [if_neg hb];exact (h.clk ho M hM y (List.mem_of_getElem? hx) hc).2
    · rw [if_neg hc] at hf; cases hf
end
end Go.Proofs.YtkhmngljpfibcaaGreatDoor
