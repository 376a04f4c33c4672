/- The space of a net, plain: states, moves, whether it is whole. A shortest path in a space, plain: the search that stops at the goal and the one that goes on give the same. -/
import Derived.Test.YtkhmngljpfibcaaGreatDoorPUu
import Derived.Test.YtkhmngljpfibcaaGreatDoorPBd
namespace Go.Proofs.YtkhmngljpfibcaaGreatDoor
section
structure ExS where
 SL : List (List Int)
 MV : List Mv
 fl : Bool
def exIdx (SL : List (List Int)) (y : List Int) : Nat := SL.findIdx fun s => decide (s = y)
def exOne (N : Nt) (most i : Nat) (m : List Int) (k : Nat) (E : ExS) : Option ExS :=
  match N.tr[k]? with
  | none => some E
  | some tr =>
    if canT tr m then
      (if bigM (fireT tr m) then some ⟨E.SL, E.MV, false⟩
       else if exIdx E.SL (fireT tr m) < E.SL.length then (if 20000 ≤ E.MV.length then none else some ⟨E.SL, E.MV ++ [⟨(i : Int), ((exIdx E.SL (fireT tr m) : Nat) : Int), (k : Int)⟩], E.fl⟩)
       else if E.SL.length < most then (if 20000 ≤ E.MV.length then none else some ⟨E.SL ++ [fireT tr m], E.MV ++ [⟨(i : Int), ((E.SL.length : Nat) : Int), (k : Int)⟩], E.fl⟩)
       else some ⟨E.SL, E.MV, false⟩)
    else some E
def exTo (N : Nt) (most i : Nat) (m : List Int) : Nat → ExS → Option ExS
 | 0, E => some E
 | k + 1, E => (exTo N most i m k E).bind (exOne N most i m k)
def exFrom (N : Nt) (most : Nat) : Nat → Nat → ExS → Option ExS
 | 0, _, _ => none
 | f + 1, i, E => match E.SL[i]? with
  | none => some E
  | some m => (exTo N most i m N.tr.length E).bind (exFrom N most f (i + 1))
def exT (N : Nt) (m : List Int) (most : Nat) : Option ExS := exFrom N most (most + 1) 0 ⟨[m], [], true⟩
structure EInv (N : Nt) (M : List Int) (most i k : Nat) (E : ExS) : Prop where
 one : E.SL[0]? = some M
 nod : ∀ (a b : Nat) (s : List Int), E.SL[a]? = some s → E.SL[b]? = some s → a = b
 mks : ∀ s ∈ E.SL, mkB N s = true
 mvf : MvF N E.SL E.MV
 le : E.SL.length ≤ most
 tree : ∀ j, 0 < j → j < E.SL.length → ∃ x ∈ E.MV, x.t = (j : Int) ∧ x.f < (j : Int)
 done : E.fl = true → ∀ (a b : Nat) (s : List Int) (tr : Tr), (a < i ∨ a = i ∧ b < k) → E.SL[a]? = some s → N.tr[b]? = some tr → canT tr s = true → bigM (fireT tr s) = false ∧ ∃ t : Nat, (⟨(a : Int), (t : Int), (b : Int)⟩ : Mv) ∈ E.MV ∧ E.SL[t]? = some (fireT tr s)
section
variable {N : Nt} {M : List Int} {most i k : Nat} {E E' : ExS}
theorem exIdx_at {SL : List (List Int)} {y : List Int} (h : exIdx SL y < SL.length) : SL[exIdx SL y]? = some y := by
 rw [List.getElem?_eq_getElem h];have := List.findIdx_getElem (w := h);simp only [decide_eq_true_eq] at this;exact congrArg some this
theorem exIdx_no {SL : List (List Int)} {y : List Int} (h : ¬ exIdx SL y < SL.length) : ∀ j : Nat, SL[j]? ≠ some y := by
 intro j hj;have hm : y ∈ SL := List.mem_of_getElem? hj;exact h (List.findIdx_lt_length_of_exists ⟨y, hm, by simp⟩)
theorem MvF.mono {SL L : List (List Int)} {MV : List Mv} (h : MvF N SL MV) : MvF N (SL ++ L) MV := fun x hx => by
 obtain ⟨f, t, k, tr, s, s', h1, h2, h3, h4⟩ := h x hx;exact ⟨f, t, k, tr, s, s', h1, by rw [List.getElem?_append_left (List.getElem?_eq_some_iff.1 h2).1]; exact h2, by rw [List.getElem?_append_left (List.getElem?_eq_some_iff.1 h3).1]; exact h3, h4⟩
theorem MvF.snoc {SL : List (List Int)} {MV : List Mv} (h : MvF N SL MV) {x : Mv} (hx : ∃ (f t k : Nat) (tr : Tr) (s s' : List Int), x = ⟨(f : Int), (t : Int), (k : Int)⟩ ∧ SL[f]? = some s ∧ SL[t]? = some s' ∧ N.tr[k]? = some tr ∧ canT tr s = true ∧ fireT tr s = s' ∧ bigM s' = false) : MvF N SL (MV ++ [x]) := fun y hy => by
 rcases List.mem_append.1 hy with e | e
 · exact h y e
 · simp at e; subst e; exact hx
theorem EInv.next (h : EInv N M most i k E) {m : List Int} (hm : E.SL[i]? = some m) (hk : k < N.tr.length) (he : exOne N most i m k E = some E') : EInv N M most i (k + 1) E' ∧ (∃ L, E'.SL = E.SL ++ L) := by
 have hil := (List.getElem?_eq_some_iff.1 hm).1;have hmk := h.mks m (List.mem_of_getElem? hm);have split_ab : ∀ {a b : Nat}, (a < i ∨ a = i ∧ b < k + 1) → (a < i ∨ a = i ∧ b < k) ∨ (a = i ∧ b = k) := fun hh => by omega
 unfold exOne at he;rw [List.getElem?_eq_getElem hk] at he;simp only at he;have hg : N.tr[k]? = some N.tr[k] := List.getElem?_eq_getElem hk;split at he
 · rename_i hc;split at he
   · rename_i hb;cases he;exact ⟨⟨h.one, h.nod, h.mks, h.mvf, h.le, h.tree, fun hf => by cases hf⟩, [], by simp⟩
   · rename_i hb;have hb : bigM (fireT N.tr[k] m) = false := by simpa using hb
     have hymk : mkB N (fireT N.tr[k] m) = true := by
      have hfv := fire_at (f := i) hg hc hb;have h3 := fire_mk (t := (k : Int)) hmk (by rw [hfv]);rw [hfv] at h3; exact h3
     split at he
     · rename_i hx;split at he
       · cases he
       · cases he;have hix := exIdx_at hx;refine ⟨⟨h.one, h.nod, h.mks, h.mvf.snoc ⟨i, _, k, _, m, _, rfl, hm, hix, hg, hc, rfl, hb⟩, h.le, fun j h0 hj => ?_, fun hf a b s tr hab ha hb' hcn => ?_⟩, [], by simp⟩
         · obtain ⟨x, h1, h2⟩ := h.tree j h0 hj;exact ⟨x, List.mem_append.2 (.inl h1), h2⟩
         · rcases split_ab hab with h1 | ⟨h1, h2⟩
           · obtain ⟨g1, t, g2, g3⟩ := h.done hf a b s tr h1 ha hb' hcn;exact ⟨g1, t, List.mem_append.2 (.inl g2), g3⟩
           · subst h1 h2;rw [hm] at ha; cases ha;rw [hg] at hb'; cases hb';exact ⟨hb, _, List.mem_append.2 (.inr (by simp)), hix⟩
     · rename_i hx;split at he
       · rename_i hlt;split at he
         · cases he
         · cases he;have hno := exIdx_no hx;have hnew : (E.SL ++ [fireT N.tr[k] m])[E.SL.length]? = some (fireT N.tr[k] m) := by simp
           have old : ∀ {a : Nat} {s : List Int}, E.SL[a]? = some s → (E.SL ++ [fireT N.tr[k] m])[a]? = some s := fun ha => by
            rw [List.getElem?_append_left (List.getElem?_eq_some_iff.1 ha).1]; exact ha
           have cases' : ∀ {a : Nat} {s : List Int}, (E.SL ++ [fireT N.tr[k] m])[a]? = some s → E.SL[a]? = some s ∨ (a = E.SL.length ∧ s = fireT N.tr[k] m) := fun {a s} ha => by
            rcases Nat.lt_or_ge a E.SL.length with hl | hl
            · rw [List.getElem?_append_left hl] at ha; exact .inl ha
            · rw [List.getElem?_append_right hl] at ha;rcases Nat.eq_zero_or_pos (a - E.SL.length) with h0 | h0
              · rw [h0] at ha; simp at ha; exact .inr ⟨by omega, ha.symm⟩
              · rw [List.getElem?_eq_none (by simp; omega)] at ha; cases ha
           refine ⟨⟨old h.one, fun a b s ha hb' => ?_, fun s hs => ?_, h.mvf.mono.snoc ⟨i, _, k, _, m, _, rfl, old hm, hnew, hg, hc, rfl, hb⟩, by simp; omega, fun j h0 hj => ?_, fun hf a b s tr hab ha hb' hcn => ?_⟩, [fireT N.tr[k] m], rfl⟩
           · rcases cases' ha with h1 | ⟨h1, h2⟩ <;> rcases cases' hb' with g1 | ⟨g1, g2⟩
             · exact h.nod a b s h1 g1
             · subst g2; exact absurd h1 (hno a)
             · subst h2; exact absurd g1 (hno b)
             · omega
           · rcases List.mem_append.1 hs with h1 | h1
             · exact h.mks s h1
             · simp at h1; subst h1; exact hymk
           · rcases Nat.lt_or_ge j E.SL.length with hl | hl
             · obtain ⟨x, h1, h2⟩ := h.tree j h0 hl;exact ⟨x, List.mem_append.2 (.inl h1), h2⟩
             · have hj' : j < E.SL.length + 1 := by simpa using hj
               have e : j = E.SL.length := by omega
               refine ⟨_, List.mem_append.2 (.inr (List.mem_singleton.2 rfl)), by rw [e], ?_⟩;show (i : Int) < _; omega
           · rcases split_ab hab with h1 | ⟨h1, h2⟩
             · rcases cases' ha with g0 | ⟨g0, _⟩
               · obtain ⟨g1, t, g2, g3⟩ := h.done hf a b s tr h1 g0 hb' hcn;exact ⟨g1, t, List.mem_append.2 (.inl g2), old g3⟩
               · omega
             · subst h1 h2;rw [old hm] at ha; cases ha;rw [hg] at hb'; cases hb';exact ⟨hb, _, List.mem_append.2 (.inr (by simp)), hnew⟩
       · cases he;exact ⟨⟨h.one, h.nod, h.mks, h.mvf, h.le, h.tree, fun hf => by cases hf⟩, [], by simp⟩
 · rename_i hc;cases he;refine ⟨⟨h.one, h.nod, h.mks, h.mvf, h.le, h.tree, fun hf a b s tr hab ha hb' hcn => ?_⟩, [], by simp⟩;rcases split_ab hab with h1 | ⟨h1, h2⟩
   · exact h.done hf a b s tr h1 ha hb' hcn
   · subst h1 h2;rw [hm] at ha; cases ha;rw [hg] at hb'; cases hb';exact absurd hcn hc
theorem EInv.to (h : EInv N M most i 0 E) {m : List Int} (hm : E.SL[i]? = some m) : ∀ (k : Nat) {E' : ExS}, k ≤ N.tr.length → exTo N most i m k E = some E' → EInv N M most i k E' ∧ (∃ L, E'.SL = E.SL ++ L)
 | 0, E', _, he => by cases he; exact ⟨h, [], by simp⟩
 | k + 1, E', hk, he => by
  rw [exTo] at he;cases h1 : exTo N most i m k E with
  | none => rw [h1] at he; cases he
  | some F =>
   rw [h1] at he;obtain ⟨g1, L, g2⟩ := EInv.to h hm k (by omega) h1;have hm2 : F.SL[i]? = some m := by rw [g2, List.getElem?_append_left (List.getElem?_eq_some_iff.1 hm).1]; exact hm
   obtain ⟨g3, L', g4⟩ := g1.next hm2 (by omega) he
   exact ⟨g3, L ++ L', by rw [g4, g2, List.append_assoc]⟩
theorem EInv.row (h : EInv N M most i N.tr.length E) : EInv N M most (i + 1) 0 E :=
 ⟨h.one, h.nod, h.mks, h.mvf, h.le, h.tree, fun hf a b s tr hab ha hb hc => h.done hf a b s tr (by
  have := (List.getElem?_eq_some_iff.1 hb).1;omega) ha hb hc⟩
theorem EInv.all (f : Nat) : ∀ {i : Nat} {E E' : ExS}, EInv N M most i 0 E → exFrom N most f i E = some E' → ∃ j, E'.SL.length ≤ j ∧ EInv N M most j 0 E' := by
 induction f with
 | zero => intro i E E' _ h; cases h
 | succ f ih =>
  intro i E E' hI h;rw [exFrom] at h;split at h
  · rename_i hn;cases h;exact ⟨i, List.getElem?_eq_none_iff.1 hn, hI⟩
  · rename_i m hm;cases h1 : exTo N most i m N.tr.length E with
    | none => rw [h1] at h; cases h
    | some F =>
     rw [h1] at h;exact ih (hI.to hm _ (Nat.le_refl _) h1).1.row h
theorem EInv.start (hv : mkB N M = true) (h1 : 1 ≤ most) : EInv N M most 0 0 ⟨[M], [], true⟩ := by
 have one : ∀ {a : Nat} {s : List Int}, ([M] : List (List Int))[a]? = some s → a = 0 ∧ s = M := fun {a s} ha => by
  cases a with
  | zero => simp at ha; exact ⟨rfl, ha.symm⟩
  | succ a => simp at ha
 refine ⟨rfl, fun a b s ha hb => ?_, fun s hs => ?_, fun x hx => by simp at hx, by simpa using h1, fun j h0 hj => ?_, fun _ a b s tr hab => by omega⟩
 · have := one ha; have := one hb; omega
 · simp at hs; subst hs; exact hv
 · simp at hj; omega
end
structure Spc (N : Nt) (M : List Int) (most : Nat) (E : ExS) : Prop where
 one : E.SL[0]? = some M
 nod : ∀ (a b : Nat) (s : List Int), E.SL[a]? = some s → E.SL[b]? = some s → a = b
 mks : ∀ s ∈ E.SL, mkB N s = true
 mvf : MvF N E.SL E.MV
 le : E.SL.length ≤ most
 tree : ∀ j, 0 < j → j < E.SL.length → ∃ x ∈ E.MV, x.t = (j : Int) ∧ x.f < (j : Int)
 full : E.fl = true → MvC N E.SL E.MV
theorem exT_spc {N : Nt} {M : List Int} {most : Nat} {E : ExS} (hv : mkB N M = true) (h1 : 1 ≤ most) (h : exT N M most = some E) : Spc N M most E := by
 obtain ⟨j, hj, hI⟩ := EInv.all (most + 1) (EInv.start hv h1) h;exact ⟨hI.one, hI.nod, hI.mks, hI.mvf, hI.le, hI.tree, fun hf a b s tr ha hb hc => hI.done hf a b s tr (.inl (by have := (List.getElem?_eq_some_iff.1 ha).1; omega)) ha hb hc⟩
theorem Lead.snoc {MV : List Mv} {f g s : Nat} {k : Int} (h : Lead MV f s) (hx : (⟨(f : Int), (g : Int), k⟩ : Mv) ∈ MV) : Lead MV g s := by
 induction h with
 | stop => exact .step hx .stop
 | step hy _ ih => exact .step hy ih
theorem root_lead {MV : List Mv} {n : Nat} (hn : mvOk MV n) (ht : ∀ j, 0 < j → j < n → ∃ x ∈ MV, x.t = (j : Int) ∧ x.f < (j : Int)) : ∀ j, j < n → Lead MV j 0 := by
 intro j
 induction j using Nat.strongRecOn with
 | ind j ih =>
  intro hj;rcases Nat.eq_zero_or_pos j with h0 | h0
  · subst h0; exact .stop
  · obtain ⟨x, hx, h1, h2⟩ := ht j h0 hj;obtain ⟨f, hf⟩ := Int.eq_ofNat_of_zero_le (hn x hx).1;have := ih f (by omega) (by omega);refine this.snoc (k := x.s) ?_;rw [← hf, ← h1]; exact hx
end
section
structure BfS where
 B : List (Option Mv)
 Q : List Nat
def bNone (B : List (Option Mv)) (j : Nat) : Bool := match B[j]? with | some none => true | _ => false
theorem bNone_iff (B : List (Option Mv)) (j : Nat) : bNone B j = true ↔ B[j]? = some none := by
 unfold bNone;split
 · rename_i h; simp [h]
 · rename_i h; simp; exact fun e => h e
def bfOne (q : Nat) (S : BfS) (m : Mv) : BfS := if m.f = (q : Int) ∧ m.t ≠ 0 ∧ bNone S.B m.t.toNat = true then ⟨S.B.set m.t.toNat (some m), S.Q ++ [m.t.toNat]⟩ else S
def bfRow (MV : List Mv) (q : Nat) (S : BfS) : BfS := MV.foldl (bfOne q) S
def bfAll (MV : List Mv) : Nat → Nat → BfS → BfS
 | 0, _, S => S
 | f + 1, i, S => match S.Q[i]? with
  | none => S
  | some q => bfAll MV f (i + 1) (bfRow MV q S)
def bfStart (n : Nat) : BfS := ⟨List.replicate n none, [0]⟩
def BfLe (S S' : BfS) : Prop := S.B.length = S'.B.length ∧ (∀ (j : Nat) (m : Mv), S.B[j]? = some (some m) → S'.B[j]? = some (some m)) ∧ ∃ L, S'.Q = S.Q ++ L
theorem BfLe.refl (S : BfS) : BfLe S S := ⟨rfl, fun _ _ h => h, [], by simp⟩
theorem BfLe.trans {A B C : BfS} (h : BfLe A B) (k : BfLe B C) : BfLe A C := by
 obtain ⟨h1, h2, L, h3⟩ := h;obtain ⟨k1, k2, M, k3⟩ := k;exact ⟨h1.trans k1, fun j m hj => k2 j m (h2 j m hj), L ++ M, by rw [k3, h3, List.append_assoc]⟩
theorem bfOne_le (q : Nat) (S : BfS) (m : Mv) : BfLe S (bfOne q S m) := by
 unfold bfOne;split
 · rename_i h;refine ⟨by simp, fun j x hj => ?_, [m.t.toNat], rfl⟩;simp only;rw [List.getElem?_set];split
   · rename_i e; subst e; rw [(bNone_iff _ _).1 h.2.2] at hj; cases hj
   · exact hj
 · exact BfLe.refl S
theorem bfRow_le (MV : List Mv) (q : Nat) : ∀ S : BfS, BfLe S (bfRow MV q S) := by
 unfold bfRow
 induction MV with
 | nil => intro S; exact BfLe.refl S
 | cons m MV ih => intro S; exact (bfOne_le q S m).trans (ih _)
theorem bfAll_le (MV : List Mv) (f : Nat) : ∀ (i : Nat) (S : BfS), BfLe S (bfAll MV f i S) := by
 induction f with
 | zero => intro i S; exact BfLe.refl S
 | succ f ih =>
  intro i S;rw [bfAll];split
  · exact BfLe.refl S
  · exact (bfRow_le MV _ S).trans (ih _ _)
structure BfI (MV : List Mv) (n : Nat) (S : BfS) : Prop where
 len : S.B.length = n
 q0 : S.Q[0]? = some 0
 rng : ∀ x ∈ S.Q, x < n
 nod : S.Q.Nodup
 met : ∀ (j : Nat) (m : Mv), S.B[j]? = some (some m) → j ∈ S.Q ∧ 0 < j
 by_ : ∀ (a j : Nat), S.Q[a]? = some j → 0 < j → ∃ (m : Mv) (b f : Nat), S.B[j]? = some (some m) ∧ m ∈ MV ∧ m.t = (j : Int) ∧ m.f = (f : Int) ∧ b < a ∧ S.Q[b]? = some f
theorem BfI.start (MV : List Mv) (n : Nat) (h : 0 < n) : BfI MV n (bfStart n) := by
 refine ⟨by simp [bfStart], rfl, fun x hx => ?_, by simp [bfStart], fun j m hj => ?_, fun a j ha h0 => ?_⟩
 · simp [bfStart] at hx; subst hx; exact h
 · unfold bfStart at hj;simp only at hj;rw [List.getElem?_replicate] at hj;split at hj <;> cases hj
 · unfold bfStart at ha;cases a with
   | zero => simp at ha; omega
   | succ a => simp at ha
theorem BfI.one {MV : List Mv} {n : Nat} {S : BfS} (h : BfI MV n S) {q a : Nat} (hq : S.Q[a]? = some q) {m : Mv} (hm : m ∈ MV) (hn : mvOk MV n) : BfI MV n (bfOne q S m) := by
 unfold bfOne;split
 · rename_i hc;obtain ⟨c1, c2, c3'⟩ := hc;have c3 := (bNone_iff _ _).1 c3';clear c3';obtain ⟨r1, r2, r3, r4⟩ := hn m hm;obtain ⟨t, ht⟩ := Int.eq_ofNat_of_zero_le r3;have ht' : m.t.toNat = t := by omega
   have htl : t < S.B.length := by rw [h.len]; omega
   rw [ht'] at c3 ⊢;have hnq : t ∉ S.Q := by
    intro hmem;obtain ⟨b, hb, e⟩ := List.getElem_of_mem hmem;obtain ⟨x, _, _, h1, _⟩ := h.by_ b t (by rw [List.getElem?_eq_getElem hb, e]) (by omega);rw [c3] at h1; cases h1
   have hal := (List.getElem?_eq_some_iff.1 hq).1;refine ⟨by rw [List.length_set]; exact h.len, ?_, fun x hx => ?_, ?_, fun j x hj => ?_, fun b j hb h0 => ?_⟩
   · rw [List.getElem?_append_left (by omega)]; exact h.q0
   · rcases List.mem_append.1 hx with e | e
     · exact h.rng x e
     · simp at e; subst e; omega
   · rw [List.nodup_append];exact ⟨h.nod, by simp, fun x hx y hy => by simp at hy; subst hy; exact fun e => hnq (e ▸ hx)⟩
   · simp only at hj;rw [List.getElem?_set] at hj;split at hj
     · rename_i e; subst e;exact ⟨List.mem_append.2 (.inr (by simp)), by omega⟩
     · obtain ⟨h1, h2⟩ := h.met j x hj;exact ⟨List.mem_append.2 (.inl h1), h2⟩
   · simp only at hb ⊢;rcases Nat.lt_or_ge b S.Q.length with hl | hl
     · rw [List.getElem?_append_left hl] at hb;obtain ⟨x, b', f, h1, h2, h3, h4, h5, h6⟩ := h.by_ b j hb h0;have hjt : t ≠ j := fun e => hnq (e ▸ List.mem_of_getElem? hb)
       refine ⟨x, b', f, ?_, h2, h3, h4, h5, ?_⟩
       · rw [List.getElem?_set_ne hjt]; exact h1
       · rw [List.getElem?_append_left (by omega)]; exact h6
     · rw [List.getElem?_append_right hl] at hb;rcases Nat.eq_zero_or_pos (b - S.Q.length) with h1 | h1
       · rw [h1] at hb;simp at hb;subst hb;refine ⟨m, a, q, ?_, hm, ht, c1, by omega, ?_⟩
         · rw [List.getElem?_set_self htl]
         · rw [List.getElem?_append_left hal]; exact hq
       · rw [List.getElem?_eq_none (by simp; omega)] at hb; cases hb
 · exact h
theorem BfI.fold {MV : List Mv} {n : Nat} {q a : Nat} (hn : mvOk MV n) : ∀ (L : List Mv) (S : BfS), (∀ m ∈ L, m ∈ MV) → BfI MV n S → S.Q[a]? = some q → BfI MV n (L.foldl (bfOne q) S)
 | [], S, _, h, _ => h
 | m :: L, S, hL, h, hq => by
  rw [List.foldl_cons];have h1 := h.one hq (hL m (List.mem_cons_self ..)) hn;refine BfI.fold (a := a) hn L _ (fun x hx => hL x (List.mem_cons_of_mem _ hx)) h1 ?_;obtain ⟨_, _, M, e⟩ := bfOne_le q S m;rw [e, List.getElem?_append_left (List.getElem?_eq_some_iff.1 hq).1]; exact hq
theorem BfI.row {MV : List Mv} {n : Nat} {S : BfS} (h : BfI MV n S) {q a : Nat} (hq : S.Q[a]? = some q) (hn : mvOk MV n) : BfI MV n (bfRow MV q S) := BfI.fold hn MV S (fun _ hm => hm) h hq
theorem BfI.all {MV : List Mv} {n : Nat} (hn : mvOk MV n) (f : Nat) : ∀ (i : Nat) (S : BfS), BfI MV n S → BfI MV n (bfAll MV f i S) := by
 induction f with
 | zero => intro i S h; exact h
 | succ f ih =>
  intro i S h;rw [bfAll];split
  · exact h
  · rename_i q hq; exact ih _ _ (h.row hq hn)
def bfBack (B : List (Option Mv)) : Nat → Nat → List Int
 | 0, _ => []
 | f + 1, j => if j = 0 then [] else match B[j]? with
  | some (some m) => m.s :: bfBack B f m.f.toNat
  | _ => []
theorem back_le {MV : List Mv} {n : Nat} {S S' : BfS} (h : BfI MV n S) (hle : BfLe S S') : ∀ (f a j : Nat), S.Q[a]? = some j → bfBack S'.B f j = bfBack S.B f j := by
 intro f
 induction f with
 | zero => intro a j _; rfl
 | succ f ih =>
  intro a j ha;rw [bfBack, bfBack];by_cases h0 : j = 0
  · rw [if_pos h0, if_pos h0]
  · rw [if_neg h0, if_neg h0];obtain ⟨m, b, x, h1, _, _, h4, _, h6⟩ := h.by_ a j ha (by omega);rw [h1, hle.2.1 j m h1];simp only;rw [show m.f.toNat = x by omega, ih b x h6]
theorem back_fuel {MV : List Mv} {n : Nat} {S : BfS} (h : BfI MV n S) : ∀ (a j : Nat), S.Q[a]? = some j → ∀ f g : Nat, a < f → a < g → bfBack S.B f j = bfBack S.B g j := by
 intro a
 induction a using Nat.strongRecOn with
 | ind a ih =>
  intro j ha f g hf hg;obtain ⟨f', rfl⟩ : ∃ f', f = f' + 1 := ⟨f - 1, by omega⟩;obtain ⟨g', rfl⟩ : ∃ g', g = g' + 1 := ⟨g - 1, by omega⟩;rw [bfBack, bfBack];by_cases h0 : j = 0
  · rw [if_pos h0, if_pos h0]
  · rw [if_neg h0, if_neg h0];obtain ⟨m, b, x, h1, _, _, h4, h5, h6⟩ := h.by_ a j ha (by omega);rw [h1];simp only;rw [show m.f.toNat = x by omega, ih b h5 x h6 f' g' (by omega) (by omega)]
theorem back_way {MV : List Mv} {n : Nat} {S : BfS} (h : BfI MV n S) : ∀ (a j : Nat), S.Q[a]? = some j → ∀ f : Nat, a < f → ∀ {l : List Int} {g : Nat}, WayL MV g j l → WayL MV g 0 ((bfBack S.B f j).reverse ++ l) := by
 intro a
 induction a using Nat.strongRecOn with
 | ind a ih =>
  intro j ha f hf l g hw;obtain ⟨f', rfl⟩ : ∃ f', f = f' + 1 := ⟨f - 1, by omega⟩;rw [bfBack];by_cases h0 : j = 0
  · rw [if_pos h0]; subst h0; simpa using hw
  · rw [if_neg h0];obtain ⟨m, b, x, h1, h2, h3, h4, h5, h6⟩ := h.by_ a j ha (by omega);rw [h1];simp only;rw [show m.f.toNat = x by omega, List.reverse_cons, List.append_assoc];refine ih b h5 x h6 f' (by omega) (.step (t := j) ?_ hw);rw [← h4, ← h3]; exact h2
theorem back_len {MV : List Mv} {n : Nat} {S : BfS} (h : BfI MV n S) : ∀ (a j : Nat), S.Q[a]? = some j → ∀ f : Nat, a < f → (bfBack S.B f j).length ≤ a := by
 intro a
 induction a using Nat.strongRecOn with
 | ind a ih =>
  intro j ha f hf;obtain ⟨f', rfl⟩ : ∃ f', f = f' + 1 := ⟨f - 1, by omega⟩;rw [bfBack];by_cases h0 : j = 0
  · rw [if_pos h0]; simp
  · rw [if_neg h0];obtain ⟨m, b, x, h1, h2, h3, h4, h5, h6⟩ := h.by_ a j ha (by omega);rw [h1];simp only;rw [show m.f.toNat = x by omega, List.length_cons];have := ih b h5 x h6 f' (by omega);omega
end
end Go.Proofs.YtkhmngljpfibcaaGreatDoor
