/- Spaces: lists of lists and moves of one's own, in memory; the space of a tree, plain. cover.begin and cover.Graph: what a call returns. fire of reference 24: what a call returns. Bounded nets, certificates, runs: plain. Fire of reference 21: what a call returns. Run of reference 21: what a call returns. -/
import Derived.Test.YtkhmngljpfibcaaGreatDoorPUu
import Derived.Test.YtkhmngljpfibcaaGreatDoorPDj
import Derived.Test.YtkhmngljpfibcaaGreatDoorPDb
namespace Go.Proofs.YtkhmngljpfibcaaGreatDoor
section
open Go.RowKit

def OLL (w0 wr : World) (v : Value) (LL : List (List Int)) : Prop :=
 ∃ SL : List Value, wr.ownsRow w0.heap.size 27 1 v LL.length SL ∧ SL.length = LL.length ∧ (∀ (k : Nat) (u : Value) (s : List Int), SL[k]? = some u → LL[k]? = some s → NS w0 wr u s) ∧ Below w0.heap.size w0 wr
section
variable {w0 wr w' : World} {v : Value} {LL : List (List Int)}
theorem OLL.start (hb : Below w0.heap.size w0 wr) : OLL w0 wr (.slice none 0 0) [] := ⟨[], World.ownsRow_nil _ _ _ _, rfl, fun k u s h => by simp at h, hb⟩
theorem OLL.bel (h : OLL w0 wr v LL) : Below w0.heap.size w0 wr := by obtain ⟨_, _, _, _, h4⟩ := h; exact h4
theorem OLL.below (h : OLL w0 wr v LL) (hb : Below wr.heap.size wr w') : OLL w0 w' v LL := by
 obtain ⟨SL, h1, h2, h3, h4⟩ := h;exact ⟨SL, own_stays h1 hb, h2, fun k u s hk hs => (h3 k u s hk hs).below hb, below_then h4 hb⟩
theorem OLL.push {SL : List Value} (h1 : wr.ownsRow w0.heap.size 27 1 v LL.length SL) (h2 : SL.length = LL.length) (h3 : ∀ (k : Nat) (u : Value) (s : List Int), SL[k]? = some u → LL[k]? = some s → NS w0 wr u s) (h4 : Below w0.heap.size w0 wr)
 {o : Obj} {u v' : Value} {s : List Int} (hu : NS w0 wr u s) (ho : w'.ownsRow w0.heap.size 27 1 v' (LL.length + 1) (SL ++ [u])) (hg : (wr.alloc o).grownBy w' v.ownBlock) : OLL w0 w' v' (LL ++ [s]) := by
 have hb5 : ∀ k, v.ownBlock = some k → w0.heap.size ≤ k := fun k hk => (h1.lt k hk).1
 have hkeep : ∀ (x : Value) (L : List Int), NS w0 wr x L → NS w0 w' x L := fun x L hn =>
  (hn.below (below_alloc wr o)).kept hg (own_apart (hn.below (below_alloc wr o)).1 (h1.alloc o) (by decide)) hb5
 refine ⟨SL ++ [u], by rw [List.length_append]; exact ho, by rw [List.length_append, List.length_append, h2]; rfl, fun k x t hk ht => ?_, (h4.alloc h4.size o).grown hg (by have := h4.size; simp; omega) hb5⟩;rcases Nat.lt_or_ge k SL.length with hl | hl
 · rw [List.getElem?_append_left hl] at hk;rw [List.getElem?_append_left (by rw [← h2]; exact hl)] at ht;exact hkeep x t (h3 k x t hk ht)
 · rw [List.getElem?_append_right hl] at hk;rw [List.getElem?_append_right (by rw [← h2]; exact hl)] at ht;rcases Nat.eq_zero_or_pos (k - SL.length) with h0 | h0
   · rw [h0] at hk;rw [← h2, h0] at ht;simp at hk ht;subst hk ht;exact hkeep _ _ hu
   · rw [List.getElem?_eq_none (by simp; omega)] at hk; cases hk
theorem OLL.app (h : OLL w0 wr v LL) {o : Obj} {b k n : Nat} {e : TypeId} {x : Value} {xs : List Value} (hr : wr.ownsRow b e k x n xs) (h1 : 27 ≠ e) (h2 : 3 ≠ e) (hg : (wr.alloc o).grownBy w' x.ownBlock) (hbase : w0.heap.size ≤ b := by exact Nat.le_refl _) : OLL w0 w' v LL := by
 obtain ⟨SL, a1, a2, a3, a4⟩ := h;have hb5 : ∀ k, x.ownBlock = some k → w0.heap.size ≤ k := fun k hk => Nat.le_trans hbase (hr.lt k hk).1
 exact ⟨SL, (a1.alloc o).kept hg (own_apart (a1.alloc o) (hr.alloc o) h1), a2, fun k y s hk hs => ((a3 k y s hk hs).below (below_alloc wr o)).kept hg (own_apart ((a3 k y s hk hs).below (below_alloc wr o)).1 (hr.alloc o) h2) hb5, (a4.alloc a4.size o).grown hg (by have := a4.size; simp; omega) hb5⟩
theorem OLL.box (h : OLL w0 wr v LL) {b o : Nat} {cs : Array Value} {T : TypeId} (hb : wr.heap[b]? = some (.cells cs T (0, 0))) (h1 : 27 ≠ T) (h2 : 3 ≠ T) (h3 : w0.heap.size ≤ b) (u : Value) : OLL w0 (wr.setCell ⟨b, o, none⟩ u) v LL := by
 obtain ⟨SL, a1, a2, a3, a4⟩ := h;have hset : wr.grownBy (wr.setCell ⟨b, o, none⟩ u) (some b) := Lib.grownBy_setB (grown_refl wr (some b)) o u;have h5 : ∀ k, some b = some k → w0.heap.size ≤ k := fun k hk => by cases hk; exact h3
 exact ⟨SL, a1.kept hset (own_other a1 hb h1), a2, fun k x s hk hs => (a3 k x s hk hs).kept hset (own_other (a3 k x s hk hs).1 hb h2) h5, a4.grown hset a4.size h5⟩
theorem ns_box {L : List Int} (hn : NS w0 wr v L) {b o : Nat} {cs : Array Value} {T : TypeId} (hb : wr.heap[b]? = some (.cells cs T (0, 0))) (h2 : 3 ≠ T) (h3 : w0.heap.size ≤ b) (u : Value) : NS w0 (wr.setCell ⟨b, o, none⟩ u) v L :=
 hn.kept (Lib.grownBy_setB (grown_refl wr (some b)) o u) (own_other hn.1 hb h2) (fun k hk => by cases hk; exact h3)
theorem OLL.lin (h : OLL w0 wr v LL) : ∃ A cap, v = .slice A LL.length cap ∧ LIn wr A LL ∧ LL.length ≤ cap ∧ cap ≤ 9223372036854775807 := by
 obtain ⟨SL, h1, h2, h3, _⟩ := h;rcases h1.2 with ⟨hv, hn⟩ | ⟨g, cap, cur, hv, hg, hh, hnc, hc, _⟩
 · refine ⟨none, 0, by rw [hv, hn], fun i hi => ?_, by omega, by omega⟩;omega
 · subst hv;have hgl : g < wr.heap.size := (Array.getElem?_eq_some_iff.1 hh).1;refine ⟨some ⟨g, 0, none⟩, cap, rfl, fun i hi => ⟨_, rfl, by rw [add_block]; exact hgl, ?_⟩, hnc, hc⟩;have hi2 : i < SL.length := by omega
   refine ⟨SL[i], h1.cells (g := g) rfl i _ (List.getElem?_eq_getElem hi2), (h3 i _ _ (List.getElem?_eq_getElem hi2) (List.getElem?_eq_getElem hi)).sl⟩
end
structure Mv where
 f : Int
 t : Int
 s : Int
def mvC (x : Mv) : List Value := [.int .i64 x.f, .int .i64 x.t, .int .i64 x.s]
theorem mvC_len (x : Mv) : (mvC x).length = 3 := rfl
def OMv (w0 wr : World) (v : Value) (MV : List Mv) : Prop := wr.ownsRow w0.heap.size 113 3 v MV.length (MV.flatMap mvC) ∧ Below w0.heap.size w0 wr
section
variable {w0 wr w' : World} {v : Value} {MV : List Mv}
theorem OMv.start (hb : Below w0.heap.size w0 wr) : OMv w0 wr (.slice none 0 0) [] := ⟨World.ownsRow_nil _ _ _ _, hb⟩
theorem OMv.below (h : OMv w0 wr v MV) (hb : Below wr.heap.size wr w') : OMv w0 w' v MV := ⟨own_stays h.1 hb, below_then h.2 hb⟩
theorem OMv.push (h : OMv w0 wr v MV) {o : Obj} {x : Mv} {v' : Value} (ho : w'.ownsRow w0.heap.size 113 3 v' (MV.length + 1) (MV.flatMap mvC ++ mvC x)) (hg : (wr.alloc o).grownBy w' v.ownBlock) : OMv w0 w' v' (MV ++ [x]) := by
 refine ⟨?_, (h.2.alloc h.2.size o).grown hg (by have := h.2.size; simp; omega) (fun k hk => (h.1.lt k hk).1)⟩;rw [List.length_append, List.flatMap_append];have : [x].flatMap mvC = mvC x := by simp
 rw [this]; exact ho
theorem OMv.box (h : OMv w0 wr v MV) {b o : Nat} {cs : Array Value} {T : TypeId} (hb : wr.heap[b]? = some (.cells cs T (0, 0))) (h1 : 113 ≠ T) (h3 : w0.heap.size ≤ b) (u : Value) : OMv w0 (wr.setCell ⟨b, o, none⟩ u) v MV := by
 have hset : wr.grownBy (wr.setCell ⟨b, o, none⟩ u) (some b) := Lib.grownBy_setB (grown_refl wr (some b)) o u;exact ⟨h.1.kept hset (own_other h.1 hb h1), h.2.grown hset h.2.size (fun k hk => by cases hk; exact h3)⟩
end
end
section
open Go.RowKit

theorem add0 (ad : Addr) : ad.add 0 = ad := by simp [Addr.add]
end
section
open Go.RowKit

theorem pls_take {l : List Int} {n : Nat} (h : plsOk l n) (k : Nat) : plsOk (l.take k) n :=
 ⟨fun p hp => h.1 p (List.mem_of_mem_take hp), List.Sublist.nodup (List.take_sublist k l) h.2⟩
theorem incs_at {M l : List Int} {k p : Nat} (hl : plsOk l M.length) (hk : k < l.length) (hp : l[k] = (p : Int)) (hpm : p < M.length) :
 ∃ h : p < (incs M (l.take k)).length, (incs M (l.take k))[p] = M.getD p 0 := by
 refine ⟨by rw [incs_len]; exact hpm, ?_⟩;have hg := incs_get M (l.take k) (pls_take hl k) p;have hn : (p : Int) ∉ l.take k := by
  intro hm;obtain ⟨j, hj, e⟩ := List.getElem_of_mem hm;rw [List.getElem_take] at e;rw [List.length_take] at hj;have h2 := hl.2;have h3 : List.Pairwise (· ≠ ·) l := h2;rw [List.pairwise_iff_getElem] at h3;exact h3 j k (by omega) hk (by omega) (by rw [e, hp])
 rw [if_neg hn] at hg;have e : (incs M (l.take k)).getD p 0 = (incs M (l.take k))[p]'(by rw [incs_len]; exact hpm) := by simp [incs_len, hpm]
 rw [← e, hg]
end
section
def fireV (N : Nt) (m : List Int) (t : Int) : List Int × Int :=
 if t < 0 then ([], 2) else match N.tr[t.toNat]? with
  | none => ([], 2)
  | some x => if canT x m then (if bigM (fireT x m) then ([], 5) else (fireT x m, 0)) else ([], 12)
def runV (N : Nt) : List Int → Nat → List Int → List Int × Nat × Int
 | m, k, [] => (m, k, 0)
 | m, k, t :: l => if (fireV N m t).2 = 0 then runV N (fireV N m t).1 (k + 1) l else ([], k, (fireV N m t).2)
end
section
open Go.RowKit

def fire21 (N : Nt) (M : List Int) (t : Int) : List Int × Int := if mkB N M then fireV N M t else ([], 1)
def FvPo (r : List Int × Int) (w : World) (e : Ending) (w' : World) : Prop := if r.2 = 0 then ∃ v, e = .returned (.tuple #[v, .int .i64 0]) ∧ NS w w' v r.1 else e = .returned (.tuple #[.slice none 0 0, .int .i64 r.2]) ∧ Below w.heap.size w w'
theorem FvPo.no {r : List Int × Int} {w w' : World} {e : Ending} {k : Int} (h : r = ([], k)) (hk : k ≠ 0) (he : e = .returned (.tuple #[.slice none 0 0, .int .i64 k])) (hb : Below w.heap.size w w') : FvPo r w e w' := by
 subst h; unfold FvPo; rw [if_neg hk]; exact ⟨he, hb⟩
theorem FvPo.yes {r : List Int × Int} {w w' : World} {e : Ending} {L : List Int} {v : Value} (h : r = (L, 0)) (he : e = .returned (.tuple #[v, .int .i64 0])) (hs : NS w w' v L) : FvPo r w e w' := by
 subst h; unfold FvPo; rw [if_pos rfl]; exact ⟨v, he, hs⟩
theorem decs_at {M l : List Int} {k p : Nat} (hl : plsOk l M.length) (hk : k < l.length) (hp : l[k] = (p : Int)) (hpm : p < M.length) :
 ∃ h : p < (decs M (l.take k)).length, (decs M (l.take k))[p] = M.getD p 0 := by
 refine ⟨by rw [decs_len]; exact hpm, ?_⟩;have hg := decs_get M (l.take k) (pls_take hl k) p;have hn : (p : Int) ∉ l.take k := by
  intro hm;obtain ⟨j, hj, e⟩ := List.getElem_of_mem hm;rw [List.getElem_take] at e;rw [List.length_take] at hj;have h3 : List.Pairwise (· ≠ ·) l := hl.2;rw [List.pairwise_iff_getElem] at h3;exact h3 j k (by omega) hk (by omega) (by rw [e, hp])
 rw [if_neg hn] at hg;have e : (decs M (l.take k)).getD p 0 = (decs M (l.take k))[p]'(by rw [decs_len]; exact hpm) := by simp [decs_len, hpm]
 rw [← e, hg]
theorem decs_nonneg {t : Tr} {M : List Int} (hl : plsOk t.i M.length) (hM : nonneg M) (hc : canT t M = true) : nonneg (decs M t.i) := by
 intro p;rw [decs_get M t.i hl];have h1 := hM p;split
 · rename_i hp;have := canT_get hc p hp;unfold dec1; split <;> omega
 · exact h1
theorem bad_big {R : List Int} (h : nonneg R) : R.any badK = bigM R := by
 unfold bigM;rw [Bool.eq_iff_iff, List.any_eq_true, List.any_eq_true];constructor
 · rintro ⟨x, hx, hb⟩;obtain ⟨p, hp, rfl⟩ := List.getElem_of_mem hx;have h1 := h p;have e : R.getD p 0 = R[p] := by simp [hp]
   rw [e] at h1;refine ⟨_, hx, ?_⟩;unfold badK at hb;simp only [Bool.or_eq_true, decide_eq_true_eq] at hb ⊢;omega
 · rintro ⟨x, hx, hb⟩;exact ⟨x, hx, by unfold badK; rw [hb]; simp⟩
end
section
open Go.RowKit

theorem fv_yes {P : Program} {f : FuncId} {args : Array Value} {w : World} {r : List Int × Int} (h : Calls P f args w (FvPo r w)) (h0 : r.2 = 0) : Calls P f args w fun e w' => ∃ v, e = .returned (.tuple #[v, .int .i64 0]) ∧ NS w w' v r.1 :=
 h.mono fun e w' h1 => by unfold FvPo at h1; rw [if_pos h0] at h1; exact h1
theorem fv_no {P : Program} {f : FuncId} {args : Array Value} {w : World} {r : List Int × Int} (h : Calls P f args w (FvPo r w)) (h0 : r.2 ≠ 0) : Calls P f args w fun e w' => e = .returned (.tuple #[.slice none 0 0, .int .i64 r.2]) ∧ Below w.heap.size w w' :=
 h.mono fun e w' h1 => by unfold FvPo at h1; rw [if_neg h0] at h1; exact h1
theorem fire_mk {N : Nt} {M : List Int} {t : Int} (hm : mkB N M = true) (h : (fireV N M t).2 = 0) : mkB N (fireV N M t).1 = true := by
 have hml := mk_len hm;have hok := netOk_of (mk_nt hm) hml;have hisM := mkM hm;by_cases ht : t < 0
 · simp [fireV, ht] at h
 cases hx : N.tr[t.toNat]? with
 | none => simp [fireV, ht, hx] at h
 | some x =>
  have e : fireV N M t = if canT x M then (if bigM (fireT x M) then ([], 5) else (fireT x M, 0)) else ([], 12) := by
   unfold fireV; rw [if_neg ht, hx]
  rw [e] at h ⊢;by_cases hc : canT x M = true
  · rw [if_pos hc] at h ⊢;by_cases hb : bigM (fireT x M) = true
    · rw [if_pos hb] at h; simp at h
    · rw [if_neg hb];have hnn : nonneg (fireT x M) := fun p => by
       obtain ⟨e1, e2⟩ := fire_real (t := x) (x := M) (hok _ x hx) (fun p => (hisM p).1) hc p;rw [e1]; exact e2
      show mkB N (fireT x M) = true;unfold mkB;rw [mk_nt hm, fireT_len, decide_eq_true hml, bad_big hnn];simpa using hb
  · rw [if_neg hc] at h; simp at h
theorem runV_step {N : Nt} {M : List Int} {k : Nat} {t : Int} {l : List Int} (h : (fireV N M t).2 = 0) : runV N M k (t :: l) = runV N (fireV N M t).1 (k + 1) l := by
 rw [runV, if_pos h]
theorem runV_stop {N : Nt} {M : List Int} {k : Nat} {t : Int} {l : List Int} (h : (fireV N M t).2 ≠ 0) : runV N M k (t :: l) = ([], k, (fireV N M t).2) := by
 rw [runV, if_neg h]
def run21 (N : Nt) (M l : List Int) : List Int × Nat × Int := if mkB N M then (if 1000 < l.length then ([], 0, 5) else runV N M 0 l) else ([], 0, 1)
def RvPo (r : List Int × Nat × Int) (w : World) (e : Ending) (w' : World) : Prop := if r.2.2 = 0 then ∃ v, e = .returned (.tuple #[v, .int .i64 (r.2.1 : Int), .int .i64 0]) ∧ NS w w' v r.1 else e = .returned (.tuple #[.slice none 0 0, .int .i64 (r.2.1 : Int), .int .i64 r.2.2]) ∧ Below w.heap.size w w'
theorem RvPo.no {r : List Int × Nat × Int} {w w' : World} {e : Ending} {k : Int} {i : Nat} (h : r = ([], i, k)) (hk : k ≠ 0) (he : e = .returned (.tuple #[.slice none 0 0, .int .i64 (i : Int), .int .i64 k])) (hb : Below w.heap.size w w') : RvPo r w e w' := by
 subst h; unfold RvPo; rw [if_neg hk]; exact ⟨he, hb⟩
theorem RvPo.yes {r : List Int × Nat × Int} {w w' : World} {e : Ending} {L : List Int} {v : Value} {i : Nat} (h : r = (L, i, 0)) (he : e = .returned (.tuple #[v, .int .i64 (i : Int), .int .i64 0])) (hs : NS w w' v L) : RvPo r w e w' := by
 subst h; unfold RvPo; rw [if_pos rfl]; exact ⟨v, he, hs⟩
theorem rv_yes {P : Program} {f : FuncId} {args : Array Value} {w : World} {r : List Int × Nat × Int} (h : Calls P f args w (RvPo r w)) (h0 : r.2.2 = 0) : Calls P f args w fun e w' => ∃ v, e = .returned (.tuple #[v, .int .i64 (r.2.1 : Int), .int .i64 0]) ∧ NS w w' v r.1 :=
 h.mono fun e w' h1 => by unfold RvPo at h1; rw [if_pos h0] at h1; exact h1
theorem rv_no {P : Program} {f : FuncId} {args : Array Value} {w : World} {r : List Int × Nat × Int} (h : Calls P f args w (RvPo r w)) (h0 : r.2.2 ≠ 0) : Calls P f args w fun e w' => e = .returned (.tuple #[.slice none 0 0, .int .i64 (r.2.1 : Int), .int .i64 r.2.2]) ∧ Below w.heap.size w w' :=
 h.mono fun e w' h1 => by unfold RvPo at h1; rw [if_neg h0] at h1; exact h1
def RnI (N : Nt) (R : List Int × Nat × Int) (l : List Int) (n : Nat) (w0 : World) (g : Nat) (iv ov : Value) (wr : World) : Prop :=
 ∃ (k : Nat) (L : List Int), k + g = n ∧ iv = .int .i64 (k : Int) ∧ NS w0 wr ov L ∧ mkB N L = true ∧ R = runV N L k (l.drop k)
end
end Go.Proofs.YtkhmngljpfibcaaGreatDoor
