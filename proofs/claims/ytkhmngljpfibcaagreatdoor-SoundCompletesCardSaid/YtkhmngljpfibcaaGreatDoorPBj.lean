/- A shortest path in a space, plain: the search that stops at the goal and the one that goes on give the same. What a state leads to, plain: the search from a state (after), the marks of the reference (completing). What Sound claims is proved, plain. -/
import Derived.Test.YtkhmngljpfibcaaGreatDoorPUu
import Derived.Test.YtkhmngljpfibcaaGreatDoorPBe
import Derived.Test.YtkhmngljpfibcaaGreatDoorPYm
namespace Go.Proofs.YtkhmngljpfibcaaGreatDoor
section
structure BfS where
 B : List (Option Mv)
 Q : List Nat
def bNone (B : List (Option Mv)) (j : Nat) : Bool := match B[j]? with | some none => true | _ => false
theorem bNone_iff (B : List (Option Mv)) (j : Nat) : bNone B j = true ↔ B[j]? = some none := by
 unfold bNone;split
 · rename_i h; simp [h]
 · rename_i h; simp; exact fun e => h e
def bfOne (q : Nat) (S : BfS) (m : Mv) : BfS := if m.f = (q : Int) ∧ m.t ≠ 0 ∧ bNone S.B m.t.toNat = true then ⟨S.B.set m.t.toNat (some m), S.Q ++ [m.t.toNat]⟩ else S
def bfRow (MV : List Mv) (q : Nat) (S : BfS) : BfS := MV.foldl (bfOne q) S
def bfAll (MV : List Mv) : Nat → Nat → BfS → BfS
 | 0, _, S => S
 | f + 1, i, S => match S.Q[i]? with
  | none => S
  | some q => bfAll MV f (i + 1) (bfRow MV q S)
def bfStart (n : Nat) : BfS := ⟨List.replicate n none, [0]⟩
def BfLe (S S' : BfS) : Prop := S.B.length = S'.B.length ∧ (∀ (j : Nat) (m : Mv), S.B[j]? = some (some m) → S'.B[j]? = some (some m)) ∧ ∃ L, S'.Q = S.Q ++ L
theorem BfLe.refl (S : BfS) : BfLe S S := ⟨rfl, fun _ _ h => h, [], by simp⟩
theorem BfLe.trans {A B C : BfS} (h : BfLe A B) (k : BfLe B C) : BfLe A C := by
 obtain ⟨h1, h2, L, h3⟩ := h;obtain ⟨k1, k2, M, k3⟩ := k;exact ⟨h1.trans k1, fun j m hj => k2 j m (h2 j m hj), L ++ M, by rw [k3, h3, List.append_assoc]⟩
theorem bfOne_le (q : Nat) (S : BfS) (m : Mv) : BfLe S (bfOne q S m) := by
 unfold bfOne;split
 · rename_i h;refine ⟨by simp, fun j x hj => ?_, [m.t.toNat], rfl⟩;simp only;rw [List.getElem?_set];split
   · rename_i e; subst e; rw [(bNone_iff _ _).1 h.2.2] at hj; cases hj
   · exact hj
 · exact BfLe.refl S
theorem bfRow_le (MV : List Mv) (q : Nat) : ∀ S : BfS, BfLe S (bfRow MV q S) := by
 unfold bfRow
 induction MV with
 | nil => intro S; exact BfLe.refl S
 | cons m MV ih => intro S; exact (bfOne_le q S m).trans (ih _)
theorem bfAll_le (MV : List Mv) (f : Nat) : ∀ (i : Nat) (S : BfS), BfLe S (bfAll MV f i S) := by
 induction f with
 | zero => intro i S; exact BfLe.refl S
 | succ f ih =>
  intro i S;rw [bfAll];split
  · exact BfLe.refl S
  · exact (bfRow_le MV _ S).trans (ih _ _)
structure BfI (MV : List Mv) (n : Nat) (S : BfS) : Prop where
 len : S.B.length = n
 q0 : S.Q[0]? = some 0
 rng : ∀ x ∈ S.Q, x < n
 nod : S.Q.Nodup
 met : ∀ (j : Nat) (m : Mv), S.B[j]? = some (some m) → j ∈ S.Q ∧ 0 < j
 by_ : ∀ (a j : Nat), S.Q[a]? = some j → 0 < j → ∃ (m : Mv) (b f : Nat), S.B[j]? = some (some m) ∧ m ∈ MV ∧ m.t = (j : Int) ∧ m.f = (f : Int) ∧ b < a ∧ S.Q[b]? = some f
theorem BfI.start (MV : List Mv) (n : Nat) (h : 0 < n) : BfI MV n (bfStart n) := by
 refine ⟨by simp [bfStart], rfl, fun x hx => ?_, by simp [bfStart], fun j m hj => ?_, fun a j ha h0 => ?_⟩
 · simp [bfStart] at hx; subst hx; exact h
 · unfold bfStart at hj;simp only at hj;rw [List.getElem?_replicate] at hj;split at hj <;> cases hj
 · unfold bfStart at ha;cases a with
   | zero => simp at ha; omega
   | succ a => simp at ha
theorem BfI.one {MV : List Mv} {n : Nat} {S : BfS} (h : BfI MV n S) {q a : Nat} (hq : S.Q[a]? = some q) {m : Mv} (hm : m ∈ MV) (hn : mvOk MV n) : BfI MV n (bfOne q S m) := by
 unfold bfOne;split
 · rename_i hc;obtain ⟨c1, c2, c3'⟩ := hc;have c3 := (bNone_iff _ _).1 c3';clear c3';obtain ⟨r1, r2, r3, r4⟩ := hn m hm;obtain ⟨t, ht⟩ := Int.eq_ofNat_of_zero_le r3;have ht' : m.t.toNat = t := by omega
   have htl : t < S.B.length := by rw [h.len]; omega
   rw [ht'] at c3 ⊢;have hnq : t ∉ S.Q := by
    intro hmem;obtain ⟨b, hb, e⟩ := List.getElem_of_mem hmem;obtain ⟨x, _, _, h1, _⟩ := h.by_ b t (by rw [List.getElem?_eq_getElem hb, e]) (by omega);rw [c3] at h1; cases h1
   have hal := (List.getElem?_eq_some_iff.1 hq).1;refine ⟨by rw [List.length_set]; exact h.len, ?_, fun x hx => ?_, ?_, fun j x hj => ?_, fun b j hb h0 => ?_⟩
   · rw [List.getElem?_append_left (by omega)]; exact h.q0
   · rcases List.mem_append.1 hx with e | e
     · exact h.rng x e
     · simp at e; subst e; omega
   · rw [List.nodup_append];exact ⟨h.nod, by simp, fun x hx y hy => by simp at hy; subst hy; exact fun e => hnq (e ▸ hx)⟩
   · simp only at hj;rw [List.getElem?_set] at hj;split at hj
     · rename_i e; subst e;exact ⟨List.mem_append.2 (.inr (by simp)), by omega⟩
     · obtain ⟨h1, h2⟩ := h.met j x hj;exact ⟨List.mem_append.2 (.inl h1), h2⟩
   · simp only at hb ⊢;rcases Nat.lt_or_ge b S.Q.length with hl | hl
     · rw [List.getElem?_append_left hl] at hb;obtain ⟨x, b', f, h1, h2, h3, h4, h5, h6⟩ := h.by_ b j hb h0;have hjt : t ≠ j := fun e => hnq (e ▸ List.mem_of_getElem? hb)
       refine ⟨x, b', f, ?_, h2, h3, h4, h5, ?_⟩
       · rw [List.getElem?_set_ne hjt]; exact h1
       · rw [List.getElem?_append_left (by omega)]; exact h6
     · rw [List.getElem?_append_right hl] at hb;rcases Nat.eq_zero_or_pos (b - S.Q.length) with h1 | h1
       · rw [h1] at hb;simp at hb;subst hb;refine ⟨m, a, q, ?_, hm, ht, c1, by omega, ?_⟩
         · rw [List.getElem?_set_self htl]
         · rw [List.getElem?_append_left hal]; exact hq
       · rw [List.getElem?_eq_none (by simp; omega)] at hb; cases hb
 · exact h
def bfBack (B : List (Option Mv)) : Nat → Nat → List Int
 | 0, _ => []
 | f + 1, j => if j = 0 then [] else match B[j]? with
  | some (some m) => m.s :: bfBack B f m.f.toNat
  | _ => []
theorem back_le {MV : List Mv} {n : Nat} {S S' : BfS} (h : BfI MV n S) (hle : BfLe S S') : ∀ (f a j : Nat), S.Q[a]? = some j → bfBack S'.B f j = bfBack S.B f j := by
 intro f
 induction f with
 | zero => intro a j _; rfl
 | succ f ih =>
  intro a j ha;rw [bfBack, bfBack];by_cases h0 : j = 0
  · rw [if_pos h0, if_pos h0]
  · rw [if_neg h0, if_neg h0];obtain ⟨m, b, x, h1, _, _, h4, _, h6⟩ := h.by_ a j ha (by omega);rw [h1, hle.2.1 j m h1];simp only;rw [show m.f.toNat = x by omega, ih b x h6]
theorem back_fuel {MV : List Mv} {n : Nat} {S : BfS} (h : BfI MV n S) : ∀ (a j : Nat), S.Q[a]? = some j → ∀ f g : Nat, a < f → a < g → bfBack S.B f j = bfBack S.B g j := by
 intro a
 induction a using Nat.strongRecOn with
 | ind a ih =>
  intro j ha f g hf hg;obtain ⟨f', rfl⟩ : ∃ f', f = f' + 1 := ⟨f - 1, by omega⟩;obtain ⟨g', rfl⟩ : ∃ g', g = g' + 1 := ⟨g - 1, by omega⟩;rw [bfBack, bfBack];by_cases h0 : j = 0
  · rw [if_pos h0, if_pos h0]
  · rw [if_neg h0, if_neg h0];obtain ⟨m, b, x, h1, _, _, h4, h5, h6⟩ := h.by_ a j ha (by omega);rw [h1];simp only;rw [show m.f.toNat = x by omega, ih b h5 x h6 f' g' (by omega) (by omega)]
end
section
structure AfI (MV : List Mv) (n start : Nat) (B : List Bool) (Q : List Int) (i : Nat) (part : List Mv) : Prop where
 len : B.length = n
 mem : ∀ k : Nat, k < n → (B.getD k false = true ↔ (k : Int) ∈ Q)
 rng : ∀ q ∈ Q, 0 ≤ q ∧ q < (n : Int)
 nod : Q.Nodup
 q0 : (start : Int) ∈ Q
 lead : ∀ q : Nat, (q : Int) ∈ Q → Lead MV q start
 done : ∀ (j : Nat) (q : Int), j < i → Q[j]? = some q → ∀ x ∈ MV, x.f = q → x.t ∈ Q
 prt : ∀ q : Int, Q[i]? = some q → ∀ x ∈ part, x.t ∈ Q
theorem getB_set (B : List Bool) (k j : Nat) (h : k < B.length) : (B.set k true).getD j false = if k = j then true else B.getD j false := by
 rw [List.getD_eq_getElem?_getD, List.getD_eq_getElem?_getD, List.getElem?_set];by_cases e : k = j
 · subst e; rw [if_pos rfl, if_pos h, if_pos rfl]; rfl
 · rw [if_neg e, if_neg e]
theorem AfI.start (MV : List Mv) (n s : Nat) (h : s < n) : AfI MV n s ((List.replicate n false).set s true) [(s : Int)] 0 [] := by
 refine ⟨by simp, fun k hk => ?_, fun q hq => ?_, by simp, by simp, fun q hq => ?_, fun j q hj => by omega, fun q _ x hx => by cases hx⟩
 · rw [getB_set _ _ _ (by simpa using h)];by_cases e : s = k
   · subst e; simp
   · rw [if_neg e];constructor
     · intro hh;rw [List.getD_eq_getElem?_getD, List.getElem?_replicate] at hh; split at hh <;> simp at hh
     · intro hh;simp at hh; omega
 · simp at hq; subst hq; omega
 · simp at hq;have : q = s := by omega
   subst this; exact .stop
theorem AfI.one {MV : List Mv} {n s : Nat} {B : List Bool} {Q : List Int} {i : Nat} {part : List Mv} (h : AfI MV n s B Q i part) {q : Int} (hq : Q[i]? = some q) {x : Mv} (hx : x ∈ MV) (hf : x.f = q) (hn : mvOk MV n) :
 AfI MV n s (if B.getD x.t.toNat false then B else B.set x.t.toNat true) (if B.getD x.t.toNat false then Q else Q ++ [x.t]) i (part ++ [x]) := by
 obtain ⟨_, _, r3, r4⟩ := hn x hx;obtain ⟨t, ht⟩ := Int.eq_ofNat_of_zero_le r3;have ht' : x.t.toNat = t := by omega
 have htn : t < n := by omega
 have hil := (List.getElem?_eq_some_iff.1 hq).1;rw [ht'];cases hb : B.getD t false with
 | true =>
  have hm := (h.mem t htn).1 hb;simp only [if_true];exact ⟨h.len, h.mem, h.rng, h.nod, h.q0, h.lead, h.done, fun q' hq' y hy => by
   rcases List.mem_append.1 hy with e | e
   · exact h.prt q' hq' y e
   · simp at e; subst e; rw [ht]; exact hm⟩
 | false =>
  have hnm : (t : Int) ∉ Q := fun hm => by rw [(h.mem t htn).2 hm] at hb; cases hb
  rw [if_neg (by decide), if_neg (by decide), ht];have old : ∀ {y : Int}, y ∈ Q → y ∈ Q ++ [(t : Int)] := fun hy => List.mem_append.2 (.inl hy)
  have idx : ∀ {j : Nat}, j < Q.length → (Q ++ [(t : Int)])[j]? = Q[j]? := fun hj => List.getElem?_append_left hj
  have hqn : ∃ qn : Nat, q = (qn : Int) := Int.eq_ofNat_of_zero_le (h.rng q (List.mem_of_getElem? hq)).1;obtain ⟨qn, rfl⟩ := hqn;refine ⟨by rw [List.length_set]; exact h.len, fun k hk => ?_, fun y hy => ?_, ?_, old h.q0, fun y hy => ?_, fun j y hj hy z hz hzf => ?_, fun y hy z hz => ?_⟩
  · rw [getB_set _ _ _ (by rw [h.len]; exact htn)];by_cases e : t = k
    · subst e; simp
    · rw [if_neg e, h.mem k hk];constructor
      · exact old
      · intro hy;rcases List.mem_append.1 hy with e2 | e2
        · exact e2
        · simp at e2; omega
  · rcases List.mem_append.1 hy with e | e
    · exact h.rng y e
    · simp at e; subst e; omega
  · rw [List.nodup_append];exact ⟨h.nod, by simp, fun a ha b hb' => by simp at hb'; subst hb'; exact fun e => hnm (e ▸ ha)⟩
  · rcases List.mem_append.1 hy with e | e
    · exact h.lead y e
    · simp at e;have : y = t := by omega
      subst this;refine (h.lead qn (List.mem_of_getElem? hq)).snoc (k := x.s) ?_;rw [← hf, ← ht]; exact hx
  · rw [idx (by omega)] at hy;exact old (h.done j y hj hy z hz hzf)
  · rw [idx hil] at hy;rcases List.mem_append.1 hz with e | e
    · exact old (h.prt y hy z e)
    · simp at e; subst e; rw [ht]; exact List.mem_append.2 (.inr (by simp))
theorem AfI.next {MV : List Mv} {n s : Nat} {B : List Bool} {Q : List Int} {i : Nat} {part : List Mv} (h : AfI MV n s B Q i part) {q : Int} (hq : Q[i]? = some q) (hp : ∀ x ∈ MV, x.f = q → x ∈ part) : AfI MV n s B Q (i + 1) [] :=
 ⟨h.len, h.mem, h.rng, h.nod, h.q0, h.lead, fun j y hj hy x hx hf => by
  by_cases e : j = i
  · subst e; rw [hq] at hy; cases hy;exact h.prt q hq x (hp x hx hf)
  · exact h.done j y (by omega) hy x hx hf, fun y _ x hx => by cases hx⟩
theorem AfI.room {MV : List Mv} {n s : Nat} {B : List Bool} {Q : List Int} {i : Nat} {part : List Mv} (h : AfI MV n s B Q i part) : Q.length ≤ n := by
 have h1 : (Q.map Int.toNat).Nodup := by
  have := h.nod;rw [List.Nodup, List.pairwise_map];refine List.Pairwise.imp_of_mem ?_ this;intro a b ha hb hne e;have := (h.rng a ha).1; have := (h.rng b hb).1;exact hne (by omega)
 have h2 : ∀ k ∈ Q.map Int.toNat, k < n := by
  intro k hk;obtain ⟨q, hq, rfl⟩ := List.mem_map.1 hk;have := h.rng q hq; omega
 have := nodup_len n _ h1 h2;simpa using this
theorem AfI.end_ {MV : List Mv} {n s : Nat} {B : List Bool} {Q : List Int} {i : Nat} (h : AfI MV n s B Q i []) (hi : Q.length ≤ i) : ∀ q ∈ Q, ∀ x ∈ MV, x.f = q → x.t ∈ Q := fun q hq x hx hf => by
 obtain ⟨j, hj, rfl⟩ := List.getElem_of_mem hq;exact h.done j _ (by omega) (List.getElem?_eq_getElem hj) x hx hf
end
section
section
variable {N : Nt} {T : TS}
theorem Gr.of {most : Nat} (hv : ntB N = true) (hg : growT N (iniM N) most = some T) : Gr N T := by
 obtain ⟨hI, hD, _, _⟩ := grow_good (one_mk hv _) hg;exact ⟨hv, hI, hD⟩
theorem Gr.noO (h : Gr N T) (ho : ¬ RsO T.states) : NoO T := fun j d hd => by
 cases hh : d.om with
 | false => rfl
 | true => exact absurd ((omega_iff h.i h.ok h.ism).2 ⟨j, d, hd, hh⟩) ho
theorem Gr.mvf (h : Gr N T) (hno : NoO T) : MvF N T.states (movesOf T) := fun _ hx => mv_fire h.i h.ok h.ism hno hx
def RsAt (N : Nt) (LL : List (List Int)) (MV : List Mv) (r a : Int) : Prop :=
 RsN N LL MV r ∧ (r = 2 → ∃ (k : Nat) (s : List Int), a = (k : Int) ∧ LL[k]? = some s ∧ 0 < s.getD N.snk.toNat 0 ∧ s ≠ finM N) ∧ (r = 3 → ∃ k : Nat, a = (k : Int) ∧ k < LL.length ∧ ¬ Leads N LL MV k) ∧ (r = 4 → ∃ (k : Nat) (t : Tr), a = (k : Int) ∧ N.tr[k]? = some t ∧ ∀ s ∈ LL, canT t s = false)
theorem RsN.is (LL : List (List Int)) (MV : List Mv) {r : Int} (h : RsN N LL MV r) : (r = 1 ∧ RsO LL) ∨ (¬ RsO LL ∧ (r = 2 ∨ r = 3 ∨ r = 4 ∨ (r = 0 ∧ ¬ RsB N LL ∧ ¬ RsL N LL MV ∧ ¬ RsD N LL))) := by
 rcases h with ⟨h1, h2⟩ | ⟨h1, h2, h3⟩ | ⟨h1, h2, h3, h4⟩ | ⟨h1, h2, h3, h4, h5⟩ | ⟨h1, h2, h3, h4, h5⟩
 · exact .inl ⟨h1, h2⟩
 · exact .inr ⟨h1, .inl h2⟩
 · exact .inr ⟨h1, .inr (.inl h3)⟩
 · exact .inr ⟨h1, .inr (.inr (.inl h4))⟩
 · exact .inr ⟨h1, .inr (.inr (.inr ⟨h5, h2, h3, h4⟩))⟩
theorem clm_snd (h : Gr N T) (hw : wfP N) (hno : NoO T) (hb : ¬ RsB N T.states) (hl : ¬ RsL N T.states (movesOf T)) (hd : ¬ RsD N T.states) {g : Nat} (hg : T.states[g]? = some (finM N)) {F : List Int} (hF : IsD (movesOf T) g T.states.length F)
 {V : List Mv} (hV : V.length + 1 = T.states.length) (hVm : ∀ (i : Nat) (x : Mv), V[i]? = some x → x ∈ movesOf T ∧ x.t = (i : Int) + 1 ∧ x.f < (i : Int) + 1) : ClmP N 1 0 [] [] T.states V [] [F] := by
 have hmo := (h.mvf hno).ok;refine ⟨fun _ => hw, .inl ⟨rfl, snd_cert h hno hg hF (fun k hk => ?_) (fun s hs h0 => ?_) (fun t ht => ?_) hV hVm⟩⟩
 · have h1 : Leads N T.states (movesOf T) k := Classical.byContradiction fun hn => hl ⟨k, hk, hn⟩
   obtain ⟨g', hg', hlead⟩ := h1;have : g' = g := h.i.nod g' g (finM N) hg' hg;subst this;exact (lead_far hmo hF hk).1 hlead
 · exact Classical.byContradiction fun hn => hb ⟨s, hs, h0, hn⟩
 · refine Classical.byContradiction fun hn => hd ⟨t, ht, fun s hs => ?_⟩
   cases hc : canT t s with
   | false => rfl
   | true => exact absurd ⟨s, hs, hc⟩ hn
theorem clm_sink (h : Gr N T) (hw : wfP N) (hno : NoO T) {k : Nat} {s : List Int} (hk : T.states[k]? = some s) (h0 : 0 < s.getD N.snk.toNat 0) (hf : s ≠ finM N) {l : List Int} (hl : WayL (movesOf T) k 0 l) (hll : l.length ≤ 1000) : ClmP N 2 0 l [] [] [] [] [] :=
 ⟨fun _ => hw, .inr (.inl ⟨rfl, uns_sink h hno hl hll hk h0 hf⟩)⟩
theorem clm_lost (h : Gr N T) (hw : wfP N) (hno : NoO T) {k : Nat} (hk : k < T.states.length) (hn : ¬ Leads N T.states (movesOf T) k) {l : List Int} (hl : WayL (movesOf T) k 0 l) (hll : l.length ≤ 1000) {Q : List Int} {K : List (List Int)}
 (hq0 : (k : Int) ∈ Q) (hqr : ∀ q ∈ Q, 0 ≤ q ∧ q < (T.states.length : Int)) (hql : ∀ q : Nat, (q : Int) ∈ Q → Lead (movesOf T) q k) (hqc : ∀ q ∈ Q, ∀ x ∈ movesOf T, x.f = q → x.t ∈ Q) (hK : K = Q.map fun q => T.states.getD q.toNat []) : ClmP N 2 0 l [] K [] [] [] := by
 have hmem : ∀ s, s ∈ K ↔ ∃ q : Nat, (q : Int) ∈ Q ∧ T.states[q]? = some s := by
  intro s;subst hK;constructor
  · intro hs;obtain ⟨q, hq, rfl⟩ := List.mem_map.1 hs;obtain ⟨n, rfl⟩ := Int.eq_ofNat_of_zero_le (hqr q hq).1;have hlt : n < T.states.length := by have := (hqr _ hq).2; omega
    refine ⟨n, hq, ?_⟩;rw [Int.toNat_natCast, List.getElem?_eq_getElem hlt, getD_at (List.getElem?_eq_getElem hlt)]
  · rintro ⟨q, hq, hs⟩;refine List.mem_map.2 ⟨(q : Int), hq, ?_⟩;rw [Int.toNat_natCast, getD_at hs]
 refine ⟨fun _ => hw, .inr (.inl ⟨rfl, uns_lost h hno hl hll (List.getElem?_eq_getElem hk) (fun s hs => ?_) ((hmem _).2 ⟨k, hq0, List.getElem?_eq_getElem hk⟩) (fun s hs t ht hc => ?_) (fun hf => ?_)⟩)⟩
 · obtain ⟨q, _, hq⟩ := (hmem s).1 hs;exact List.mem_of_getElem? hq
 · obtain ⟨q, hq, hqs⟩ := (hmem s).1 hs;obtain ⟨j, hj, rfl⟩ := List.getElem_of_mem ht;obtain ⟨x, hx, hxf, hxs⟩ := mv_of h.i h.d hqs (List.getElem?_eq_getElem hj) hc;obtain ⟨f, u, v, tr, a, b, ex, hfa, hub, hvt, hca, hfi, _⟩ := h.mvf hno x hx;subst ex;simp only at hxf hxs;have e1 : f = q := by omega
   have e2 : v = j := by omega
   subst e1 e2;rw [hqs] at hfa; cases hfa;rw [List.getElem?_eq_getElem hj] at hvt; cases hvt;rw [hfi];exact (hmem b).2 ⟨u, hqc _ hq _ hx rfl, hub⟩
 · obtain ⟨q, hq, hqs⟩ := (hmem _).1 hf;exact hn ⟨q, hqs, hql q hq⟩
theorem clm_dead (h : Gr N T) (hw : wfP N) {k : Nat} {t : Tr} (hk : N.tr[k]? = some t) (hno : ∀ s ∈ T.states, canT t s = false) : ClmP N 2 (k : Int) [] [] T.states [] [] [] := by
 obtain ⟨hl, e⟩ := List.getElem?_eq_some_iff.1 hk;exact ⟨fun _ => hw, .inr (.inl ⟨rfl, uns_dead h hl (fun s hs => by rw [e]; exact hno s hs)⟩)⟩
theorem clm_pump (hv : ntB N = true) (hw : wfP N) {most : Nat} (hg : growT N (iniM N) most = some T) (hm : most ≤ 1000) {i : Nat} {d : Nd} {g : Nat} {z : Nd} {W1 W2 : List Nat} {p : Nat} (hf : FOm N T i d g z W1 W2 p) :
 ClmP N 2 0 (W1.map Int.ofNat) (W2.map Int.ofNat) [] [] [] [] := by
 obtain ⟨e1, e2, _, hle, hlt, hp, hl⟩ := om_pump (one_mk hv _) hg hm hf;have hne : (W2.map Int.ofNat).isEmpty = false := by
  cases hh : W2 with
  | nil => exact absurd hh hf.ne
  | cons a l => rfl
 refine ⟨fun _ => hw, .inr (.inl ⟨rfl, ?_⟩)⟩;unfold unsB;rw [hne];simp only [Bool.false_eq_true, if_false];unfold vpumB;have e3 : runI N (W1.map Int.ofNat) = (z.ms, W1.length, 0) := e1;have e4 : atMost z.ms d.pn = true := (atMost_iff _ _).2 hf.le;have e5 : z.ms ≠ d.pn := fun e => by rw [e] at hlt; omega
 rw [e3];simp only;rw [e2, hne];simp [e4, e5]
end
end
end Go.Proofs.YtkhmngljpfibcaaGreatDoor
