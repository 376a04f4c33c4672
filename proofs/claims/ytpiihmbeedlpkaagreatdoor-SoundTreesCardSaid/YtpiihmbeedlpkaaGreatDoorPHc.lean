/- Spaces: lists of lists and moves of one's own, in memory; the space of a tree, plain. The way between two nodes of the tree: what a call returns. -/
import Derived.Test.YtpiihmbeedlpkaaGreatDoorPUu
import Derived.Test.YtpiihmbeedlpkaaGreatDoorPDj
import Derived.Test.YtpiihmbeedlpkaaGreatDoorPDe
import Derived.Sort.OwnSortedInts
namespace Go.Proofs.YtpiihmbeedlpkaaGreatDoor
set_option maxRecDepth 100000
set_option maxHeartbeats 6400000
open Go.Lib (hid)
section
open Go.RowKit

theorem GP.st_at {w0 wr : World} {tb : Nat} {vN vS : Value} {NL : List Nv} {SL : List Value} {T : TS} (h : GP w0 wr tb vN vS NL SL T) {k : Nat} {s : List Int} (hk : T.states[k]? = some s) :
 ∃ g cap u, vS = .slice (some ⟨g, 0, none⟩) SL.length cap ∧ g < wr.heap.size ∧ w0.heap.size ≤ g ∧ k < SL.length ∧ NS w0 wr u s ∧ wr.cell? ⟨g, k, none⟩ = some u := by
 have hl : k < SL.length := by rw [h.stl]; exact (List.getElem?_eq_some_iff.1 hk).1
 obtain ⟨A, cap, hv, hA⟩ := row_slice h.sts;obtain ⟨g, rfl, h1, h2⟩ := hA (by omega);have hs := h.str k _ s (List.getElem?_eq_getElem hl) hk;have hst := h.sts;subst hv;refine ⟨g, cap, SL[k], rfl, h2, h1, hl, hs, ?_⟩;have hc := hst.cells (g := g) rfl k _ (List.getElem?_eq_getElem hl);have ha : (⟨g, 0, none⟩ : Addr).add k = ⟨g, k, none⟩ := by unfold Addr.add; split <;> simp_all
 rw [ha] at hc; exact hc
def OLL (w0 wr : World) (v : Value) (LL : List (List Int)) : Prop :=
 ∃ SL : List Value, wr.ownsRow w0.heap.size 34 1 v LL.length SL ∧ SL.length = LL.length ∧ (∀ (k : Nat) (u : Value) (s : List Int), SL[k]? = some u → LL[k]? = some s → NS w0 wr u s) ∧ Below w0.heap.size w0 wr
section
variable {w0 wr w' : World} {v : Value} {LL : List (List Int)}
theorem OLL.start (hb : Below w0.heap.size w0 wr) : OLL w0 wr (.slice none 0 0) [] := ⟨[], World.ownsRow_nil _ _ _ _, rfl, fun k u s h => by simp at h, hb⟩
theorem OLL.bel (h : OLL w0 wr v LL) : Below w0.heap.size w0 wr := by obtain ⟨_, _, _, _, h4⟩ := h; exact h4
theorem OLL.below (h : OLL w0 wr v LL) (hb : Below wr.heap.size wr w') : OLL w0 w' v LL := by
 obtain ⟨SL, h1, h2, h3, h4⟩ := h;exact ⟨SL, own_stays h1 hb, h2, fun k u s hk hs => (h3 k u s hk hs).below hb, below_then h4 hb⟩
theorem OLL.slice (h : OLL w0 wr v LL) : ∃ A cap, v = .slice A LL.length cap := by
 obtain ⟨SL, h1, _⟩ := h;obtain ⟨A, cap, e, _⟩ := row_slice h1;exact ⟨A, cap, e⟩
theorem OLL.push {SL : List Value} (h1 : wr.ownsRow w0.heap.size 34 1 v LL.length SL) (h2 : SL.length = LL.length) (h3 : ∀ (k : Nat) (u : Value) (s : List Int), SL[k]? = some u → LL[k]? = some s → NS w0 wr u s) (h4 : Below w0.heap.size w0 wr)
 {o : Obj} {u v' : Value} {s : List Int} (hu : NS w0 wr u s) (ho : w'.ownsRow w0.heap.size 34 1 v' (LL.length + 1) (SL ++ [u])) (hg : (wr.alloc o).grownBy w' v.ownBlock) : OLL w0 w' v' (LL ++ [s]) := by
 have hb5 : ∀ k, v.ownBlock = some k → w0.heap.size ≤ k := fun k hk => (h1.lt k hk).1
 have hkeep : ∀ (x : Value) (L : List Int), NS w0 wr x L → NS w0 w' x L := fun x L hn =>
  (hn.below (below_alloc wr o)).kept hg (own_apart (hn.below (below_alloc wr o)).1 (h1.alloc o) (by decide)) hb5
 refine ⟨SL ++ [u], by rw [List.length_append]; exact ho, by rw [List.length_append, List.length_append, h2]; rfl, fun k x t hk ht => ?_, (h4.alloc h4.size o).grown hg (by have := h4.size; simp; omega) hb5⟩;rcases Nat.lt_or_ge k SL.length with hl | hl
 · rw [List.getElem?_append_left hl] at hk;rw [List.getElem?_append_left (by rw [← h2]; exact hl)] at ht;exact hkeep x t (h3 k x t hk ht)
 · rw [List.getElem?_append_right hl] at hk;rw [List.getElem?_append_right (by rw [← h2]; exact hl)] at ht;rcases Nat.eq_zero_or_pos (k - SL.length) with h0 | h0
   · rw [h0] at hk;rw [← h2, h0] at ht;simp at hk ht;subst hk ht;exact hkeep _ _ hu
   · rw [List.getElem?_eq_none (by simp; omega)] at hk; cases hk
theorem OLL.app (h : OLL w0 wr v LL) {o : Obj} {b k n : Nat} {e : TypeId} {x : Value} {xs : List Value} (hr : wr.ownsRow b e k x n xs) (h1 : 34 ≠ e) (h2 : 3 ≠ e) (hg : (wr.alloc o).grownBy w' x.ownBlock) (hbase : w0.heap.size ≤ b := by exact Nat.le_refl _) : OLL w0 w' v LL := by
 obtain ⟨SL, a1, a2, a3, a4⟩ := h;have hb5 : ∀ k, x.ownBlock = some k → w0.heap.size ≤ k := fun k hk => Nat.le_trans hbase (hr.lt k hk).1
 exact ⟨SL, (a1.alloc o).kept hg (own_apart (a1.alloc o) (hr.alloc o) h1), a2, fun k y s hk hs => ((a3 k y s hk hs).below (below_alloc wr o)).kept hg (own_apart ((a3 k y s hk hs).below (below_alloc wr o)).1 (hr.alloc o) h2) hb5, (a4.alloc a4.size o).grown hg (by have := a4.size; simp; omega) hb5⟩
theorem OLL.box (h : OLL w0 wr v LL) {b o : Nat} {cs : Array Value} {T : TypeId} (hb : wr.heap[b]? = some (.cells cs T (0, 0))) (h1 : 34 ≠ T) (h2 : 3 ≠ T) (h3 : w0.heap.size ≤ b) (u : Value) : OLL w0 (wr.setCell ⟨b, o, none⟩ u) v LL := by
 obtain ⟨SL, a1, a2, a3, a4⟩ := h;have hset : wr.grownBy (wr.setCell ⟨b, o, none⟩ u) (some b) := Lib.grownBy_setB (grown_refl wr (some b)) o u;have h5 : ∀ k, some b = some k → w0.heap.size ≤ k := fun k hk => by cases hk; exact h3
 exact ⟨SL, a1.kept hset (own_other a1 hb h1), a2, fun k x s hk hs => (a3 k x s hk hs).kept hset (own_other (a3 k x s hk hs).1 hb h2) h5, a4.grown hset a4.size h5⟩
theorem ns_box {L : List Int} (hn : NS w0 wr v L) {b o : Nat} {cs : Array Value} {T : TypeId} (hb : wr.heap[b]? = some (.cells cs T (0, 0))) (h2 : 3 ≠ T) (h3 : w0.heap.size ≤ b) (u : Value) : NS w0 (wr.setCell ⟨b, o, none⟩ u) v L :=
 hn.kept (Lib.grownBy_setB (grown_refl wr (some b)) o u) (own_other hn.1 hb h2) (fun k hk => by cases hk; exact h3)
theorem OLL.lin (h : OLL w0 wr v LL) : ∃ A cap, v = .slice A LL.length cap ∧ LIn wr A LL ∧ LL.length ≤ cap ∧ cap ≤ 9223372036854775807 := by
 obtain ⟨SL, h1, h2, h3, _⟩ := h;rcases h1.2 with ⟨hv, hn⟩ | ⟨g, cap, cur, hv, hg, hh, hnc, hc, _⟩
 · refine ⟨none, 0, by rw [hv, hn], fun i hi => ?_, by omega, by omega⟩;omega
 · subst hv;have hgl : g < wr.heap.size := (Array.getElem?_eq_some_iff.1 hh).1;refine ⟨some ⟨g, 0, none⟩, cap, rfl, fun i hi => ⟨_, rfl, by rw [add_block]; exact hgl, ?_⟩, hnc, hc⟩;have hi2 : i < SL.length := by omega
   refine ⟨SL[i], h1.cells (g := g) rfl i _ (List.getElem?_eq_getElem hi2), (h3 i _ _ (List.getElem?_eq_getElem hi2) (List.getElem?_eq_getElem hi)).sl⟩
end
structure Mv where
 f : Int
 t : Int
 s : Int
def mvC (x : Mv) : List Value := [.int .i64 x.f, .int .i64 x.t, .int .i64 x.s]
theorem mvC_len (x : Mv) : (mvC x).length = 3 := rfl
theorem moveInfo : (Tryz.prog.info? 71).map (fun i => (i.zero, i.size, i.bytes)) = some (some (.agg #[.int .i64 0, .int .i64 0, .int .i64 0]), 3, 24) := by kernel_rfl
def OMv (w0 wr : World) (v : Value) (MV : List Mv) : Prop := wr.ownsRow w0.heap.size 71 3 v MV.length (MV.flatMap mvC) ∧ Below w0.heap.size w0 wr
section
variable {w0 wr w' : World} {v : Value} {MV : List Mv}
theorem OMv.start (hb : Below w0.heap.size w0 wr) : OMv w0 wr (.slice none 0 0) [] := ⟨World.ownsRow_nil _ _ _ _, hb⟩
theorem OMv.below (h : OMv w0 wr v MV) (hb : Below wr.heap.size wr w') : OMv w0 w' v MV := ⟨own_stays h.1 hb, below_then h.2 hb⟩
theorem OMv.slice (h : OMv w0 wr v MV) : ∃ A cap, v = .slice A MV.length cap := by
 obtain ⟨A, cap, e, _⟩ := row_slice h.1;exact ⟨A, cap, e⟩
theorem OMv.push (h : OMv w0 wr v MV) {o : Obj} {x : Mv} {v' : Value} (ho : w'.ownsRow w0.heap.size 71 3 v' (MV.length + 1) (MV.flatMap mvC ++ mvC x)) (hg : (wr.alloc o).grownBy w' v.ownBlock) : OMv w0 w' v' (MV ++ [x]) := by
 refine ⟨?_, (h.2.alloc h.2.size o).grown hg (by have := h.2.size; simp; omega) (fun k hk => (h.1.lt k hk).1)⟩;rw [List.length_append, List.flatMap_append];have : [x].flatMap mvC = mvC x := by simp
 rw [this]; exact ho
theorem OMv.box (h : OMv w0 wr v MV) {b o : Nat} {cs : Array Value} {T : TypeId} (hb : wr.heap[b]? = some (.cells cs T (0, 0))) (h1 : 71 ≠ T) (h3 : w0.heap.size ≤ b) (u : Value) : OMv w0 (wr.setCell ⟨b, o, none⟩ u) v MV := by
 have hset : wr.grownBy (wr.setCell ⟨b, o, none⟩ u) (some b) := Lib.grownBy_setB (grown_refl wr (some b)) o u;exact ⟨h.1.kept hset (own_other h.1 hb h1), h.2.grown hset h.2.size (fun k hk => by cases hk; exact h3)⟩
end
def SpB (w : World) (b : Nat) (vS vM : Value) (fl : Bool) : Prop := w.heap[b]? = some (.cells #[vS, vM, .bool fl] 65 (0, 0))
section
variable {w w' : World} {b : Nat} {vS vM : Value} {fl : Bool}
theorem SpB.lt (h : SpB w b vS vM fl) : b < w.heap.size := (Array.getElem?_eq_some_iff.1 h).1
theorem SpB.cells (h : SpB w b vS vM fl) : w.cell? ⟨b, 0, none⟩ = some vS ∧ w.cell? ⟨b, 1, none⟩ = some vM ∧ w.cell? ⟨b, 2, none⟩ = some (.bool fl) := by
 unfold SpB at h;simp [World.cell?, h]
theorem SpB.soft (h : SpB w b vS vM fl) (o : Nat) : w.frozen? ⟨b, o, none⟩ = false := by
 unfold SpB at h;simp [World.frozen?, h]
theorem SpB.below (h : SpB w b vS vM fl) (hb : Below w.heap.size w w') : SpB w' b vS vM fl := by
 unfold SpB; rw [hb.block b h.lt]; exact h
theorem SpB.grown (h : SpB w b vS vM fl) {row : Option Nat} (hg : w.grownBy w' row) (hne : some b ≠ row) : SpB w' b vS vM fl := by
 unfold SpB; rw [hg.block b h.lt hne]; exact h
theorem SpB.set0 (h : SpB w b vS vM fl) (u : Value) : SpB (w.setCell ⟨b, 0, none⟩ u) b u vM fl := by
 unfold SpB at h ⊢; rw [heap_set2 h]; rfl
theorem SpB.set1 (h : SpB w b vS vM fl) (u : Value) : SpB (w.setCell ⟨b, 1, none⟩ u) b vS u fl := by
 unfold SpB at h ⊢; rw [heap_set2 h]; rfl
theorem SpB.set2 (h : SpB w b vS vM fl) (u : Bool) : SpB (w.setCell ⟨b, 2, none⟩ (.bool u)) b vS vM u := by
 unfold SpB at h ⊢; rw [heap_set2 h]; rfl
end
def mvOf (T : TS) (x : Nd) : Mv := ⟨match T.nodes[x.ab.toNat]? with | some y => (y.st : Int) | none => 0, x.st, x.tr⟩
def movesOf (T : TS) : List Mv := (T.nodes.drop 1).map (mvOf T)
theorem drop_map_take (T : TS) (k : Nat) (h : k + 1 < T.nodes.length) : (movesOf T).take (k + 1) = (movesOf T).take k ++ [mvOf T T.nodes[k + 1]] := by
 have hl : k < (movesOf T).length := by unfold movesOf; rw [List.length_map, List.length_drop]; omega
 have e : (movesOf T)[k] = mvOf T T.nodes[k + 1] := by
  have : (movesOf T)[k]? = some (mvOf T T.nodes[k + 1]) := by unfold movesOf; rw [List.getElem?_map, List.getElem?_drop, Nat.add_comm 1 k, List.getElem?_eq_getElem h]; rfl
  rw [List.getElem?_eq_getElem hl] at this; exact Option.some.inj this
 rw [List.take_succ_eq_append_getElem hl, e]
theorem movesOf_len (T : TS) : (movesOf T).length = T.nodes.length - 1 := by unfold movesOf; rw [List.length_map, List.length_drop]
def SpPo (LL : List (List Int)) (MV : List Mv) (w : World) (e : Ending) (w' : World) : Prop := ∃ vS vM, e = .returned (.agg #[vS, vM, .bool true]) ∧ OLL w w' vS LL ∧ OMv w w' vM MV
theorem own_up {w w0 w1 : World} (hb : Below w.heap.size w w0) {k n : Nat} {e : TypeId} {v : Value} {xs : List Value} (h : w1.ownsRow w0.heap.size e k v n xs) : w1.ownsRow w.heap.size e k v n xs := by
 refine ⟨h.1, ?_⟩;rcases h.2 with hn | ⟨g, cap, cur, h1, h2, h3⟩
 · exact .inl hn
 · exact .inr ⟨g, cap, cur, h1, by have := hb.size; omega, h3⟩
theorem OLL.up {w w0 w1 : World} {v : Value} {LL : List (List Int)} (hb : Below w.heap.size w w0) (h : OLL w0 w1 v LL) : OLL w w1 v LL := by
 obtain ⟨SL, h1, h2, h3, h4⟩ := h;exact ⟨SL, own_up hb h1, h2, fun k u s hk hs => NS.up hb (h3 k u s hk hs), below_then hb h4⟩
theorem OMv.up {w w0 w1 : World} {v : Value} {MV : List Mv} (hb : Below w.heap.size w w0) (h : OMv w0 w1 v MV) : OMv w w1 v MV := ⟨own_up hb h.1, below_then hb h.2⟩
end
section
open Go.RowKit Go.Sort

theorem reverse_any {w0 w : World} {v : Value} {L : List Int} (h : NS w0 w v L) (hl : L.length ≤ 1000000) :
 Calls Tryz.prog 64 #[v] w fun e w' => e = .returned (.tuple #[]) ∧ NS w0 w' v L.reverse := by
 rcases h.1.2 with ⟨hv, hn⟩ | ⟨g, cap, cur, hv, hg, hh, hnc, hc, hsz, htk⟩
 · have hL : L = [] := List.eq_nil_of_length_eq_zero hn;subst hL hv;exact (Tryz.slices_Reverse_int_empty none 0 w).mono fun e w' ⟨h1, h2⟩ => ⟨h1, by subst h2; exact h⟩
 · subst hv;have hH : Holds (Value.int .i64) w g 0 L.toArray := holds_of_blockI hh (by rw [← htk, Nat.mul_one]);refine (Tryz.slices_Reverse_int g 0 cap L w hH (by omega)).mono fun e w' ⟨h1, n, h2⟩ => ⟨h1, ?_⟩
   have e0 : w' = grow (putRow (Value.int .i64) (Sort.ahead w n) g 0 L.reverse.toArray) #[] := by rw [grow_empty]; exact h2
   rw [e0];have ho := ownsRow_sortedI (base := w0.heap.size) (os := #[]) (n := n) (ts := L.reverse) (ss := L) (by simp) hg hh hnc hc (by rw [hsz]);refine ⟨by rw [List.length_reverse]; exact ho, h.2.grown (grownBy_sortedI _) h.2.size (fun k hk => by cases hk; exact hg)⟩
def WyI (N : Nt) (T : TS) (a : Nat) (W : List Nat) (w : World) (g : Nat) (iv ov : Value) (wr : World) : Prop :=
 ∃ (j : Nat) (l r : List Nat), j < g ∧ iv = .int .i64 (j : Int) ∧ Path N T a j l ∧ W = l ++ r ∧ NS w wr ov (r.reverse.map Int.ofNat) ∧ j < T.nodes.length
theorem way_any (w0 : World) (tb : Nat) (vN vS : Value) (NL : List Nv) (SL : List Value) (N : Nt) (M : List Int) (T : TS) (w : World) (h : GP w0 w tb vN vS NL SL T) (hI : TInv N M T) (a i : Nat) (W : List Nat) (hp : Path N T a i W) (hi : i < T.nodes.length) (hW : W.length ≤ 100000) :
 Calls Tryz.prog 43 #[.pointer (some ⟨tb, 0, none⟩), .int .i64 a, .int .i64 i] w fun e w' => ∃ v, e = .returned v ∧ NS w w' v (W.map Int.ofNat) := by
 have HG := hid h;have HTI := hid hI;have HL := hid h.len;have hnl : NL.length ≤ 20001 := by rw [h.len]; exact hI.len
 clear h hI;obtain ⟨i0, hii, hz0, hz1, hz2⟩ := info_parts intInfo;have HI := hid (And.intro hii (And.intro hz0 (And.intro hz1 hz2)));clear hii hz0 hz1 hz2;go_enter Tryz.func43, Tryz.ntmps43;go_wp2_with fail;go_loopg [8, 7] (i + 1) (fun g iv ov wr => WyI N T a W w g iv ov wr);case atStart => exact ⟨i, W, [], by omega, rfl, hp, by simp, NS.start (Below.refl _ _), hi⟩
 case round =>
  clear hp hi;obtain ⟨j, l, r, hjg, rfl, hp, hw, hS, hj⟩ := hrel;have HP := hid hp;have HW := hid hw;have HGr := hid (HG.out.below hS.2);have hrl : r.length ≤ 100000 := by rw [hw, List.length_append] at hW; omega
  have hll : (r.reverse.map Int.ofNat).length = r.length := by simp
  have HXa := hid (show (r.reverse.map Int.ofNat).reverse = r.map Int.ofNat by rw [← List.map_reverse, List.reverse_reverse]);have HXb := hid (fun k : Nat => show r.reverse.map Int.ofNat ++ [(k : Int)] = (k :: r).reverse.map Int.ofNat by simp);generalize r.reverse.map Int.ofNat = Z at *;have HS := hid hS;obtain ⟨Av, cv, rfl⟩ := hS.slice;rw [hll] at HS;clear hp hw hS;by_cases hja : j = a
  · have q1 : ((j : Int) != (a : Int)) = false := by rw [hja]; exact bne_self_eq_false _
    have hl0 : l = [] := by
     apply Classical.byContradiction;intro hne;have := (HP.out.le HTI.out).2 hne; omega
    have HX := hid (show Z.reverse = W.map Int.ofNat by rw [HW.out, hl0, List.nil_append]; exact HXa.out);clear hl0;rw [hll];go_wp2_with fail;((with_reducible refine (reverse_any HS.out (by rw [hll]; omega)).mono ?_); rintro e w1 ⟨rfl, hS1⟩)
    have HS1 := hid hS1;clear hS1;rw [HX.out] at HS1;go_wp2_with fail;go_ret;exact ⟨_, rfl, HS1.out⟩
  · have q1 : ((j : Int) != (a : Int)) = true := by rw [bne_iff_ne]; omega
    obtain ⟨j', k, l', d, hl', hp', hd, hj0, hab, htr⟩ : ∃ (j' k : Nat) (l' : List Nat) (d : Nd), l = l' ++ [k] ∧ Path N T a j' l' ∧ T.nodes[j]? = some d ∧ 0 < j ∧ d.ab = (j' : Int) ∧ d.tr = (k : Int) := by
     cases HP.out with
     | nil => exact absurd rfl hja
     | snoc h1 h2 h3 h4 h5 => exact ⟨_, _, _, _, rfl, h1, h2, h3, h4, h5⟩
    have hjj : j' < j := by have := HTI.out.ab j d hd; omega
    have HP' := hid hp';have HW' := hid (show W = l' ++ k :: r by rw [HW.out, hl']; simp);obtain ⟨gN, cN, x, hv, _, _, hjl, hx, _, _, hc⟩ := HGr.out.at_ hd;have HC2 := hid (show w.cell? ⟨gN, j * 8 + 2, none⟩ = some (.int .i64 (j' : Int)) by
     obtain ⟨gN', cN', x', hv', _, _, _, hx', _, _, hc'⟩ := HG.out.at_ hd;have e := hv'.symm.trans hv;cases e;have := hc' 2 _ rfl;rw [hx', hab] at this; exact this)
    have c3 := hc 3 _ rfl;have c2 := hc 2 _ rfl;rw [hx, htr] at c3;rw [hx, hab] at c2;have Q := hid (And.intro c3 c2);clear hc hx hd hp' hl' HP HW hja c3 c2;subst hv;obtain ⟨t0, t1, _, _⟩ := HGr.out.cells;obtain ⟨c3, c2⟩ := Q.out;have hj0' : (0 : Int) ≤ (j : Int) := by omega
    have hj1' : (j : Int) < (NL.length : Int) := by omega
    rw [hll];go_wp2_with (at_builtin; refine wpList_append_own _ rfl _ _ 34 rfl w.heap.size 3 i0 (.int .i64 0) 1 8 Tryz.underlying34 HI.out.1 HI.out.2.1 HI.out.2.2.1 HI.out.2.2.2 rfl (by decide) (.slice Av r.length cv) _ _ rfl (HS.out.1.alloc _) ⟨wr.heap.size, 0, none⟩ 1 1 [.int .i64 k] rfl rfl ?c1 ?c2 ?c3 ?c4 ?c5 ?_);case c1 => intro j u hj; match j, hj with | 0, hj => simp at hj; subst hj; simp [Addr.add] | j + 1, hj => simp at hj
    case c2 => intro u hu; simp at hu; subst hu; rfl
    case c3 => unfold maxLen; rw [hll]; omega
    case c4 => rw [hll]; omega
    case c5 => have := HS.out.size; simp; omega
    intro v' w4 hown4 hgrow4 _;have HS4 := hid (HS.out.push (by rw [hll]; exact hown4) hgrow4);rw [HXb.out k] at HS4;clear hown4 hgrow4 t0 t1 c3 c2;have HG4 := hid (HG.out.below HS4.out.2);obtain ⟨t0, t1, _, _⟩ := HG4.out.cells;have c2 := cell_stays HS4.out.2 HC2.out;go_wp2_with fail;go_roundg (gk - 1);case measure => omega
    case rel => exact ⟨j', l', k :: r, by omega, rfl, HP'.out, HW'.out, HS4.out, by omega⟩
end
end Go.Proofs.YtpiihmbeedlpkaaGreatDoor
