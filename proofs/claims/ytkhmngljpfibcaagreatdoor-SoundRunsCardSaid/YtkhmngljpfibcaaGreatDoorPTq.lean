/- The search of space.Path in memory. Path of space: what a call returns. -/
import Derived.Test.YtkhmngljpfibcaaGreatDoorPUu
import Derived.Test.YtkhmngljpfibcaaGreatDoorPTn
import Derived.Test.YtkhmngljpfibcaaGreatDoorPHc
import Derived.Test.YtkhmngljpfibcaaGreatDoorPBs
namespace Go.Proofs.YtkhmngljpfibcaaGreatDoor
section
open Go.RowKit

theorem fold_filter (q : Nat) : ∀ (L : List Mv) (S : BfS), L.foldl (bfOne q) S = (L.filter fun x => decide (x.f = (q : Int))).foldl (bfOne q) S
 | [], S => rfl
 | m :: L, S => by
  rw [List.foldl_cons, List.filter_cons];by_cases h : m.f = (q : Int)
  · rw [if_pos (by simpa using h), List.foldl_cons]; exact fold_filter q L _
  · rw [if_neg (by simpa using h), bfOne_keep (fun h9 => h h9.1)]; exact fold_filter q L S
theorem bfRow_out {MV : List Mv} {n q : Nat} {s : List Mv} (S : BfS) (hq : q < n) (h : (outL MV n)[q]? = some s) : bfRow MV q S = s.foldl (bfOne q) S := by
 rw [outL_at MV n q hq] at h;cases h;exact fold_filter q MV S
theorem flat_set : ∀ (L : List Mv) (t : Nat) (m : Mv), t < L.length → (((L.flatMap mvC).set (t * 3) (.int .i64 m.f)).set (t * 3 + 1) (.int .i64 m.t)).set (t * 3 + 2) (.int .i64 m.s) = (L.set t m).flatMap mvC
 | [], t, m, h => by simp at h
 | x :: L, 0, m, _ => by simp [mvC]
 | x :: L, t + 1, m, h => by
  have ih := flat_set L t m (by simpa using h);rw [List.set_cons_succ, List.flatMap_cons, List.flatMap_cons, ← ih];simp only [mvC, List.cons_append, List.nil_append];rw [show (t + 1) * 3 = t * 3 + 1 + 1 + 1 by omega];simp only [List.set_cons_succ]
theorem OMv.set3 {w wr : World} {g n cap : Nat} {L : List Mv} (h : OMv w wr (.slice (some ⟨g, 0, none⟩) n cap) L) (hg : w.heap.size ≤ g) {t : Nat} (ht : t < L.length) (m : Mv) :
 OMv w (((wr.setCell ⟨g, t * 3, none⟩ (.int .i64 m.f)).setCell ⟨g, t * 3 + 1, none⟩ (.int .i64 m.t)).setCell ⟨g, t * 3 + 2, none⟩ (.int .i64 m.s)) (.slice (some ⟨g, 0, none⟩) n cap) (L.set t m) := by
 obtain ⟨A', c', he⟩ := h.slice;cases he;have h1 := ((h.1.stored (t * 3) (.int .i64 m.f)).1.stored (t * 3 + 1) (.int .i64 m.t)).1.stored (t * 3 + 2) (.int .i64 m.s) |>.1;rw [flat_set L t m ht] at h1;refine ⟨by rw [List.length_set]; exact h1, ?_⟩;exact ((h.2.setCell (p := ⟨g, t * 3, none⟩) hg _).setCell (p := ⟨g, t * 3 + 1, none⟩) hg _).setCell (p := ⟨g, t * 3 + 2, none⟩) hg _
def MetR (n : Nat) (S : BfS) (B : List Bool) : Prop := B.length = n ∧ ∀ j, j < n → B[j]? = some (decide (j = 0) || !bNone S.B j)
def ByM (n : Nat) (S : BfS) (L : List Mv) : Prop := L.length = n ∧ ∀ (j : Nat) (m : Mv), S.B[j]? = some (some m) → L[j]? = some m
structure PS (n : Nat) (w3 : World) (tb yb U : Nat) (S : BfS) (i : Nat) (qv : Value) (wr : World) : Prop where
 met : ∃ B, BL wr tb B ∧ MetR n S B
 by_ : ∃ L, OMv w3 wr (.slice (some ⟨yb, 0, none⟩) n n) L ∧ ByM n S L
 que : QO U wr qv (qI (S.Q.drop i))
 us : U ≤ wr.heap.size
section
variable {n : Nat} {w3 wr w' w7 : World} {tb yb U : Nat} {S : BfS} {i : Nat} {qv v7 : Value}
theorem PS.below (h : PS n w3 tb yb U S i qv wr) (hb : Below wr.heap.size wr w') : PS n w3 tb yb U S i qv w' := by
 obtain ⟨⟨B, h1, h2⟩, ⟨L, h3, h4⟩, h5, h6⟩ := h;exact ⟨⟨B, h1.below hb, h2⟩, ⟨L, h3.below hb, h4⟩, h5.below hb, by have := hb.size; omega⟩
theorem PS.bel (h : PS n w3 tb yb U S i qv wr) : Below w3.heap.size w3 wr := by
 obtain ⟨_, ⟨L, h3, _⟩, _, _⟩ := h;exact h3.2
theorem PS.apart (h : PS n w3 tb yb U S i qv wr) {g : Nat} (hg : g < U) : qv.ownBlock = none ∨ qv.ownBlock ≠ some g := by
 cases e : qv.ownBlock with
 | none => exact .inl rfl
 | some k => exact .inr fun e9 => by have := (h.que.lt k e).1; cases e9; omega
def stW (w : World) (tb yb t : Nat) (m : Mv) : World := (((w.setCell ⟨tb, t, none⟩ (.bool true)).setCell ⟨yb, t * 3, none⟩ (.int .i64 m.f)).setCell ⟨yb, t * 3 + 1, none⟩ (.int .i64 m.t)).setCell ⟨yb, t * 3 + 2, none⟩ (.int .i64 m.s)
theorem st_grown1 (w : World) (tb t : Nat) : w.grownBy (w.setCell ⟨tb, t, none⟩ (.bool true)) (some tb) := Lib.grownBy_setB (grown_refl w (some tb)) t _
theorem st_grown3 (w : World) (yb t : Nat) (m : Mv) : w.grownBy (((w.setCell ⟨yb, t * 3, none⟩ (.int .i64 m.f)).setCell ⟨yb, t * 3 + 1, none⟩ (.int .i64 m.t)).setCell ⟨yb, t * 3 + 2, none⟩ (.int .i64 m.s)) (some yb) :=
 Lib.grownBy_setB (Lib.grownBy_setB (Lib.grownBy_setB (grown_refl w (some yb)) _ _) _ _) _ _
theorem PS.put (h : PS n w3 tb yb U S i qv wr) (h1 : tb < U) (h2 : yb < U) (t : Nat) (m : Mv) : QO U (stW wr tb yb t m) qv (qI (S.Q.drop i)) :=
 (h.que.kept (st_grown1 wr tb t) (h.apart h1)).kept (st_grown3 _ yb t m) (h.apart h2)
theorem PS.fin (h : PS n w3 tb yb U S i qv wr) (h1 : tb < U) (h2 : yb < U) (h3 : tb ≠ yb) (h4 : w3.heap.size ≤ tb) (h5 : w3.heap.size ≤ yb) {t : Nat} (ht : t < n) (hl : S.B.length = n) (hi : i ≤ S.Q.length) {m : Mv} {o : Obj}
 (hq : QO U w7 v7 (qI (S.Q.drop i) ++ [(t : Int)])) (hw : ((stW wr tb yb t m).alloc o).grownBy w7 qv.ownBlock) : PS n w3 tb yb U ⟨S.B.set t (some m), S.Q ++ [t]⟩ i v7 w7 := by
 have hap1 := h.apart h1;have hap2 := h.apart h2;have hlt := h.que.lt;have hus := h.us;obtain ⟨⟨B, b1, b2, b3⟩, ⟨L, l1, l2, l3⟩, _, _⟩ := h;have hB : BL (stW wr tb yb t m) tb (B.set t true) := (((b1.set t true).other (fun e => h3 e.symm) _).other (fun e => h3 e.symm) _).other (fun e => h3 e.symm) _;have hL0 : OMv w3 (wr.setCell ⟨tb, t, none⟩ (.bool true)) (.slice (some ⟨yb, 0, none⟩) n n) L :=
  ⟨l1.1.kept (st_grown1 wr tb t) (.inr fun e => h3 (by simpa [Value.ownBlock] using e.symm)), l1.2.setCell (p := ⟨tb, t, none⟩) h4 _⟩
 have hL : OMv w3 (stW wr tb yb t m) (.slice (some ⟨yb, 0, none⟩) n n) (L.set t m) := hL0.set3 h5 (by omega) m;have hal := below_alloc (stW wr tb yb t m) o;have hne : ∀ g, qv.ownBlock = none ∨ qv.ownBlock ≠ some g → some g ≠ qv.ownBlock := fun g hg e => by
  rcases hg with h9 | h9
  · rw [h9] at e; cases e
  · exact h9 e.symm
 have hB7 : BL w7 tb (B.set t true) := by
  have h9 := hB.below hal;unfold BL;rw [hw.block tb h9.lt (hne _ hap1)]; exact h9
 have hL7 : OMv w3 w7 (.slice (some ⟨yb, 0, none⟩) n n) (L.set t m) :=
  ⟨(hL.below hal).1.kept hw (.inr fun e => hne _ hap2 (by simpa [Value.ownBlock] using e)), (hL.below hal).2.grown hw (hL.below hal).2.size (fun g hg => by have := (hlt g hg).1; omega)⟩
 refine ⟨⟨_, hB7, by rw [List.length_set]; exact b2, fun j hj => ?_⟩, ⟨_, hL7, by rw [List.length_set]; exact l2, fun j x hx => ?_⟩, ?_, ?_⟩
 · simp only;by_cases e : t = j
   · subst e;have e1 : bNone (S.B.set t (some m)) t = false := by
      cases h9 : bNone (S.B.set t (some m)) t with
      | false => rfl
      | true => have := (bNone_iff _ _).1 h9; rw [List.getElem?_set_self (by omega)] at this; cases this
     rw [List.getElem?_set_self (by omega), e1]; simp
   · have e1 : bNone (S.B.set t (some m)) j = bNone S.B j := by unfold bNone; rw [List.getElem?_set_ne e]
     rw [List.getElem?_set_ne e, e1]; exact b3 j hj
 · simp only at hx;by_cases e : t = j
   · subst e;rw [List.getElem?_set_self (by omega)] at hx;cases hx;rw [List.getElem?_set_self (by omega)]
   · rw [List.getElem?_set_ne e] at hx ⊢;exact l3 j x hx
 · simp only;rw [List.drop_append_of_le_length hi, qI_app]; exact hq
 · have := hw.size;have : (stW wr tb yb t m).heap.size = wr.heap.size := by simp [stW]
   simp at *; omega
end
end
section
open Go.RowKit

def mv0 : Mv := ⟨0, 0, 0⟩
theorem made_moves (n : Nat) : (madeCells #[Value.int .i64 0, .int .i64 0, .int .i64 0] (n * 3)).toList = (List.replicate n mv0).flatMap mvC := by
 have e1 : (madeCells #[Value.int .i64 0, .int .i64 0, .int .i64 0] (n * 3)).toList = List.replicate (n * 3) (.int .i64 0) := by
  apply List.ext_getElem?;intro j;rw [List.getElem?_replicate];unfold madeCells;simp only [Array.toList_map, Array.toList_range, List.getElem?_map];by_cases h : j < n * 3
  · rw [List.getElem?_range h, if_pos h];simp only [Option.map_some, Option.some.injEq];have h3 : j % 3 = 0 ∨ j % 3 = 1 ∨ j % 3 = 2 := by omega
    rcases h3 with h3 | h3 | h3 <;> simp [h3]
  · rw [List.getElem?_eq_none (by simpa using h), if_neg h]; rfl
 rw [e1]
 induction n with
 | zero => rfl
 | succ n ih => rw [List.replicate_succ, List.flatMap_cons, ← ih (by
  apply List.ext_getElem?;intro j;rw [List.getElem?_replicate];unfold madeCells;simp only [Array.toList_map, Array.toList_range, List.getElem?_map];by_cases h : j < n * 3
  · rw [List.getElem?_range h, if_pos h];simp only [Option.map_some, Option.some.injEq];have h3 : j % 3 = 0 ∨ j % 3 = 1 ∨ j % 3 = 2 := by omega
    rcases h3 with h3 | h3 | h3 <;> simp [h3]
  · rw [List.getElem?_eq_none (by simpa using h), if_neg h]; rfl), show (n + 1) * 3 = n * 3 + 1 + 1 + 1 by omega, List.replicate_succ, List.replicate_succ, List.replicate_succ]; rfl
theorem mk_moves (n : Nat) (hn : n ≤ 1000000) (w : World) : (Instr.makeSlice 29 (.int .i64 (n : Int)) (.int .i64 (n : Int))).run Tryz.prog w = .ok (.slice (some ⟨w.heap.size, 0, none⟩) n n) (w.alloc (.cells (madeCells #[.int .i64 0, .int .i64 0, .int .i64 0] (n * 3)) 113)) := by
 obtain ⟨i0, hi, hz0, hz1, hz2⟩ := info_parts moveInfo;have h := run_make (P := Tryz.prog) w 29 113 i0 _ Tryz.underlying29 hi hz0 .i64 .i64 (n : Int) (n : Int) (by omega) (by omega) (by rw [hz2]; omega) (by omega);rw [hz1, show (Value.agg #[.int .i64 0, .int .i64 0, .int .i64 0]).cells = #[.int .i64 0, .int .i64 0, .int .i64 0] from rfl] at h;simpa using h
theorem OMv.made (w0 w : World) (n : Nat) (hb : Below w0.heap.size w0 w) (hn : n ≤ 1000000) : OMv w0 (w.alloc (.cells (madeCells #[.int .i64 0, .int .i64 0, .int .i64 0] (n * 3)) 113)) (.slice (some ⟨w.heap.size, 0, none⟩) n n) (List.replicate n mv0) := by
 have ho := World.ownsRow_lit (base := w0.heap.size) (e := 113) (size := 3) w (madeCells #[.int .i64 0, .int .i64 0, .int .i64 0] (n * 3)) n hb.size (by unfold maxLen; omega) (size_madeCells _ _);rw [made_moves] at ho;exact ⟨by rw [List.length_replicate]; exact ho, below_then hb (below_alloc w _)⟩
theorem pathV_of {MV : List Mv} {n tn : Nat} {S : BfS} (h : BfI MV n S) (hle : BfLe S (bfF MV n)) (ht : tn < n) (hm : tn = 0 ∨ bNone S.B tn = false) : pathV MV n tn = ((bfBack S.B (n + 1) tn).reverse, 0) := by
 obtain ⟨a, ha, _⟩ := h.has ht hm;have h2 : tn = 0 ∨ bNone (bfF MV n).B tn = false := by
  rcases hm with e | e
  · exact .inl e
  · right;have hl : tn < S.B.length := by rw [h.len]; exact ht
    cases hv : S.B[tn] with
    | none =>
     have := (bNone_iff S.B tn).2 (by rw [List.getElem?_eq_getElem hl, hv]);rw [this] at e; cases e
    | some m =>
     have h9 := hle.2.1 tn m (by rw [List.getElem?_eq_getElem hl, hv]);cases hb : bNone (bfF MV n).B tn with
     | false => rfl
     | true => have := (bNone_iff _ _).1 hb; rw [h9] at this; cases this
 unfold pathV;rw [if_pos h2, back_le h hle (n + 1) a tn ha]
theorem pathV_no {MV : List Mv} {n tn : Nat} (h0 : tn ≠ 0) (hb : bNone (bfF MV n).B tn = true) : pathV MV n tn = ([], 10) := by
 unfold pathV;rw [if_neg];rintro (e | e)
 · exact h0 e
 · rw [hb] at e; cases e
theorem met_start (n : Nat) : MetR n (bfStart n) ((List.replicate n false).set 0 true) := by
 refine ⟨by simp, fun j hj => ?_⟩;have e1 : bNone (bfStart n).B j = true := (bNone_iff _ _).2 (by unfold bfStart; simp only; rw [List.getElem?_replicate, if_pos hj]);rw [e1];by_cases e : 0 = j
 · subst e; rw [List.getElem?_set_self (by simpa using hj)]; simp
 · rw [List.getElem?_set_ne e, List.getElem?_replicate, if_pos hj];have : decide (j = 0) = false := decide_eq_false (fun h => e h.symm);rw [this]; rfl
theorem by_start (n : Nat) : ByM n (bfStart n) (List.replicate n mv0) := by
 refine ⟨by simp, fun j m hj => ?_⟩;unfold bfStart at hj;simp only at hj;rw [List.getElem?_replicate] at hj;split at hj <;> cases hj
theorem qo_one (w : World) (x : Int) : QO w.heap.size (w.alloc (.cells #[.int .i64 x] 3)) (.slice (some ⟨w.heap.size, 0, none⟩) 1 1) [x] := by
 refine ⟨w.heap.size, 0, 1, #[.int .i64 x], rfl, Nat.le_refl _, heap_alloc_new w _, by simp, by unfold maxLen; omega, by simp, fun j y hj => ?_⟩
 match j, hj with
 | 0, hj => simp at hj; subst hj; rfl
 | j + 1, hj => simp at hj
end
end Go.Proofs.YtkhmngljpfibcaaGreatDoor
