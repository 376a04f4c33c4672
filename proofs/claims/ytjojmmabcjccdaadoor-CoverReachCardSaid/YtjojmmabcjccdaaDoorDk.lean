/- Spaces: lists of lists and moves of one's own, in memory; the space of a tree, plain. -/
import Derived.Test.YtjojmmabcjccdaaDoorDj
namespace Go.Proofs.YtjojmmabcjccdaaDoor
open Go.RowKit

/-- a state, in memory -/
theorem GP.st_at {w0 wr : World} {tb : Nat} {vN vS : Value} {NL : List Nv} {SL : List Value} {T : TS} (h : GP w0 wr tb vN vS NL SL T) {k : Nat} {s : List Int} (hk : T.states[k]? = some s) :
    ∃ g cap u, vS = .slice (some ⟨g, 0, none⟩) SL.length cap ∧ g < wr.heap.size ∧ w0.heap.size ≤ g ∧ k < SL.length ∧ NS w0 wr u s ∧ wr.cell? ⟨g, k, none⟩ = some u := by
  have hl : k < SL.length := by rw [h.stl]; exact (List.getElem?_eq_some_iff.1 hk).1
  obtain ⟨A, cap, hv, hA⟩ := row_slice h.sts
  obtain ⟨g, rfl, h1, h2⟩ := hA (by omega)
  have hs := h.str k _ s (List.getElem?_eq_getElem hl) hk
  have hst := h.sts
  subst hv
  refine ⟨g, cap, SL[k], rfl, h2, h1, hl, hs, ?_⟩
  have hc := hst.cells (g := g) rfl k _ (List.getElem?_eq_getElem hl)
  have ha : (⟨g, 0, none⟩ : Addr).add k = ⟨g, k, none⟩ := by unfold Addr.add; split <;> simp_all
  rw [ha] at hc; exact hc
/-- a list of lists of one's own -/
def OLL (w0 wr : World) (v : Value) (LL : List (List Int)) : Prop :=
  ∃ SL : List Value, wr.ownsRow w0.heap.size 25 1 v LL.length SL ∧ SL.length = LL.length ∧ (∀ (k : Nat) (u : Value) (s : List Int), SL[k]? = some u → LL[k]? = some s → NS w0 wr u s) ∧ Below w0.heap.size w0 wr
section
variable {w0 wr w' : World} {v : Value} {LL : List (List Int)}
theorem OLL.start (hb : Below w0.heap.size w0 wr) : OLL w0 wr (.slice none 0 0) [] := ⟨[], World.ownsRow_nil _ _ _ _, rfl, fun k u s h => by simp at h, hb⟩
theorem OLL.bel (h : OLL w0 wr v LL) : Below w0.heap.size w0 wr := by obtain ⟨_, _, _, _, h4⟩ := h; exact h4
theorem OLL.below (h : OLL w0 wr v LL) (hb : Below wr.heap.size wr w') : OLL w0 w' v LL := by
  obtain ⟨SL, h1, h2, h3, h4⟩ := h
  exact ⟨SL, own_stays h1 hb, h2, fun k u s hk hs => (h3 k u s hk hs).below hb, below_then h4 hb⟩
theorem OLL.slice (h : OLL w0 wr v LL) : ∃ A cap, v = .slice A LL.length cap := by
  obtain ⟨SL, h1, _⟩ := h
  obtain ⟨A, cap, e, _⟩ := row_slice h1
  exact ⟨A, cap, e⟩
theorem OLL.push {SL : List Value} (h1 : wr.ownsRow w0.heap.size 25 1 v LL.length SL) (h2 : SL.length = LL.length) (h3 : ∀ (k : Nat) (u : Value) (s : List Int), SL[k]? = some u → LL[k]? = some s → NS w0 wr u s) (h4 : Below w0.heap.size w0 wr)
    {o : Obj} {u v' : Value} {s : List Int} (hu : NS w0 wr u s) (ho : w'.ownsRow w0.heap.size 25 1 v' (LL.length + 1) (SL ++ [u])) (hg : (wr.alloc o).grownBy w' v.ownBlock) : OLL w0 w' v' (LL ++ [s]) := by
  have hb5 : ∀ k, v.ownBlock = some k → w0.heap.size ≤ k := fun k hk => (h1.lt k hk).1
  have hkeep : ∀ (x : Value) (L : List Int), NS w0 wr x L → NS w0 w' x L := fun x L hn =>
    (hn.below (below_alloc wr o)).kept hg (own_apart (hn.below (below_alloc wr o)).1 (h1.alloc o) (by decide)) hb5
  refine ⟨SL ++ [u], by rw [List.length_append]; exact ho, by rw [List.length_append, List.length_append, h2]; rfl, fun k x t hk ht => ?_, (h4.alloc h4.size o).grown hg (by have := h4.size; simp; omega) hb5⟩
  rcases Nat.lt_or_ge k SL.length with hl | hl
  · rw [List.getElem?_append_left hl] at hk
    rw [List.getElem?_append_left (by rw [← h2]; exact hl)] at ht
    exact hkeep x t (h3 k x t hk ht)
  · rw [List.getElem?_append_right hl] at hk
    rw [List.getElem?_append_right (by rw [← h2]; exact hl)] at ht
    rcases Nat.eq_zero_or_pos (k - SL.length) with h0 | h0
    · rw [h0] at hk
      rw [← h2, h0] at ht
      simp at hk ht
      subst hk ht
      exact hkeep _ _ hu
    · rw [List.getElem?_eq_none (by simp; omega)] at hk; cases hk
/-- while a row of another type is appended to -/
theorem OLL.app (h : OLL w0 wr v LL) {o : Obj} {b k n : Nat} {e : TypeId} {x : Value} {xs : List Value} (hr : wr.ownsRow b e k x n xs) (h1 : 25 ≠ e) (h2 : 3 ≠ e) (hg : (wr.alloc o).grownBy w' x.ownBlock) (hbase : w0.heap.size ≤ b := by exact Nat.le_refl _) : OLL w0 w' v LL := by
  obtain ⟨SL, a1, a2, a3, a4⟩ := h
  have hb5 : ∀ k, x.ownBlock = some k → w0.heap.size ≤ k := fun k hk => Nat.le_trans hbase (hr.lt k hk).1
  exact ⟨SL, (a1.alloc o).kept hg (own_apart (a1.alloc o) (hr.alloc o) h1), a2, fun k y s hk hs => ((a3 k y s hk hs).below (below_alloc wr o)).kept hg (own_apart ((a3 k y s hk hs).below (below_alloc wr o)).1 (hr.alloc o) h2) hb5, (a4.alloc a4.size o).grown hg (by have := a4.size; simp; omega) hb5⟩
/-- while a block of another type is written -/
theorem OLL.box (h : OLL w0 wr v LL) {b o : Nat} {cs : Array Value} {T : TypeId} (hb : wr.heap[b]? = some (.cells cs T (0, 0))) (h1 : 25 ≠ T) (h2 : 3 ≠ T) (h3 : w0.heap.size ≤ b) (u : Value) : OLL w0 (wr.setCell ⟨b, o, none⟩ u) v LL := by
  obtain ⟨SL, a1, a2, a3, a4⟩ := h
  have hset : wr.grownBy (wr.setCell ⟨b, o, none⟩ u) (some b) := Lib.grownBy_setB (grown_refl wr (some b)) o u
  have h5 : ∀ k, some b = some k → w0.heap.size ≤ k := fun k hk => by cases hk; exact h3
  exact ⟨SL, a1.kept hset (own_other a1 hb h1), a2, fun k x s hk hs => (a3 k x s hk hs).kept hset (own_other (a3 k x s hk hs).1 hb h2) h5, a4.grown hset a4.size h5⟩
theorem ns_box {L : List Int} (hn : NS w0 wr v L) {b o : Nat} {cs : Array Value} {T : TypeId} (hb : wr.heap[b]? = some (.cells cs T (0, 0))) (h2 : 3 ≠ T) (h3 : w0.heap.size ≤ b) (u : Value) : NS w0 (wr.setCell ⟨b, o, none⟩ u) v L :=
  hn.kept (Lib.grownBy_setB (grown_refl wr (some b)) o u) (own_other hn.1 hb h2) (fun k hk => by cases hk; exact h3)
/-- it reads as a list of lists -/
theorem OLL.lin (h : OLL w0 wr v LL) : ∃ A cap, v = .slice A LL.length cap ∧ LIn wr A LL ∧ LL.length ≤ cap ∧ cap ≤ 9223372036854775807 := by
  obtain ⟨SL, h1, h2, h3, _⟩ := h
  rcases h1.2 with ⟨hv, hn⟩ | ⟨g, cap, cur, hv, hg, hh, hnc, hc, _⟩
  · refine ⟨none, 0, by rw [hv, hn], fun i hi => ?_, by omega, by omega⟩
    omega
  · subst hv
    have hgl : g < wr.heap.size := (Array.getElem?_eq_some_iff.1 hh).1
    refine ⟨some ⟨g, 0, none⟩, cap, rfl, fun i hi => ⟨_, rfl, by rw [add_block]; exact hgl, ?_⟩, hnc, hc⟩
    have hi2 : i < SL.length := by omega
    refine ⟨SL[i], h1.cells (g := g) rfl i _ (List.getElem?_eq_getElem hi2), (h3 i _ _ (List.getElem?_eq_getElem hi2) (List.getElem?_eq_getElem hi)).sl⟩
end
/-- a move -/
structure Mv where
  f : Int
  t : Int
  s : Int
def mvC (x : Mv) : List Value := [.int .i64 x.f, .int .i64 x.t, .int .i64 x.s]
theorem mvC_len (x : Mv) : (mvC x).length = 3 := rfl
theorem moveInfo : (Tryd.prog.info? 72).map (fun i => (i.zero, i.size, i.bytes)) = some (some (.agg #[.int .i64 0, .int .i64 0, .int .i64 0]), 3, 24) := by kernel_rfl
/-- moves of one's own -/
def OMv (w0 wr : World) (v : Value) (MV : List Mv) : Prop := wr.ownsRow w0.heap.size 72 3 v MV.length (MV.flatMap mvC) ∧ Below w0.heap.size w0 wr
section
variable {w0 wr w' : World} {v : Value} {MV : List Mv}
theorem OMv.start (hb : Below w0.heap.size w0 wr) : OMv w0 wr (.slice none 0 0) [] := ⟨World.ownsRow_nil _ _ _ _, hb⟩
theorem OMv.below (h : OMv w0 wr v MV) (hb : Below wr.heap.size wr w') : OMv w0 w' v MV := ⟨own_stays h.1 hb, below_then h.2 hb⟩
theorem OMv.slice (h : OMv w0 wr v MV) : ∃ A cap, v = .slice A MV.length cap := by
  obtain ⟨A, cap, e, _⟩ := row_slice h.1
  exact ⟨A, cap, e⟩
theorem OMv.push (h : OMv w0 wr v MV) {o : Obj} {x : Mv} {v' : Value} (ho : w'.ownsRow w0.heap.size 72 3 v' (MV.length + 1) (MV.flatMap mvC ++ mvC x)) (hg : (wr.alloc o).grownBy w' v.ownBlock) : OMv w0 w' v' (MV ++ [x]) := by
  refine ⟨?_, (h.2.alloc h.2.size o).grown hg (by have := h.2.size; simp; omega) (fun k hk => (h.1.lt k hk).1)⟩
  rw [List.length_append, List.flatMap_append]
  have : [x].flatMap mvC = mvC x := by simp
  rw [this]; exact ho
theorem OMv.box (h : OMv w0 wr v MV) {b o : Nat} {cs : Array Value} {T : TypeId} (hb : wr.heap[b]? = some (.cells cs T (0, 0))) (h1 : 72 ≠ T) (h3 : w0.heap.size ≤ b) (u : Value) : OMv w0 (wr.setCell ⟨b, o, none⟩ u) v MV := by
  have hset : wr.grownBy (wr.setCell ⟨b, o, none⟩ u) (some b) := Lib.grownBy_setB (grown_refl wr (some b)) o u
  exact ⟨h.1.kept hset (own_other h.1 hb h1), h.2.grown hset h.2.size (fun k hk => by cases hk; exact h3)⟩
end
/-- a space as a value -/
def SpIn (w : World) (v : Value) (LL : List (List Int)) (MV : List Mv) (fl : Bool) : Prop :=
  ∃ A c A' c', v = .agg #[.slice A LL.length c, .slice A' MV.length c', .bool fl] ∧ LIn w A LL ∧ LL.length ≤ 9223372036854775807 ∧ Rd mvC 3 w A' MV ∧ MV.length ≤ 9223372036854775807
theorem SpIn.below {w w' : World} {v : Value} {LL : List (List Int)} {MV : List Mv} {fl : Bool} (h : SpIn w v LL MV fl) (hb : Below w.heap.size w w') : SpIn w' v LL MV fl := by
  obtain ⟨A, c, A', c', h1, h2, h3, h4, h5⟩ := h
  exact ⟨A, c, A', c', h1, h2.below hb, h3, h4.below hb, h5⟩
theorem SpIn.mk {w0 w : World} {vS vM : Value} {LL : List (List Int)} {MV : List Mv} {fl : Bool} (h1 : OLL w0 w vS LL) (h2 : OMv w0 w vM MV) : SpIn w (.agg #[vS, vM, .bool fl]) LL MV fl := by
  obtain ⟨A, c, rfl, hl, h3, h4⟩ := h1.lin
  obtain ⟨A', c', rfl, _, h5, h6, h7, _⟩ := own_rd mvC_len (by decide) h2.1
  exact ⟨A, c, A', c', rfl, hl, by omega, h7, by omega⟩
/-- a block that holds a space -/
def SpB (w : World) (b : Nat) (vS vM : Value) (fl : Bool) : Prop := w.heap[b]? = some (.cells #[vS, vM, .bool fl] 31 (0, 0))
section
variable {w w' : World} {b : Nat} {vS vM : Value} {fl : Bool}
theorem SpB.lt (h : SpB w b vS vM fl) : b < w.heap.size := (Array.getElem?_eq_some_iff.1 h).1
theorem SpB.cells (h : SpB w b vS vM fl) : w.cell? ⟨b, 0, none⟩ = some vS ∧ w.cell? ⟨b, 1, none⟩ = some vM ∧ w.cell? ⟨b, 2, none⟩ = some (.bool fl) := by
  unfold SpB at h
  simp [World.cell?, h]
theorem SpB.soft (h : SpB w b vS vM fl) (o : Nat) : w.frozen? ⟨b, o, none⟩ = false := by
  unfold SpB at h
  simp [World.frozen?, h]
theorem SpB.below (h : SpB w b vS vM fl) (hb : Below w.heap.size w w') : SpB w' b vS vM fl := by
  unfold SpB; rw [hb.block b h.lt]; exact h
theorem SpB.grown (h : SpB w b vS vM fl) {row : Option Nat} (hg : w.grownBy w' row) (hne : some b ≠ row) : SpB w' b vS vM fl := by
  unfold SpB; rw [hg.block b h.lt hne]; exact h
theorem SpB.set0 (h : SpB w b vS vM fl) (u : Value) : SpB (w.setCell ⟨b, 0, none⟩ u) b u vM fl := by
  unfold SpB at h ⊢; rw [heap_set2 h]; rfl
theorem SpB.set1 (h : SpB w b vS vM fl) (u : Value) : SpB (w.setCell ⟨b, 1, none⟩ u) b vS u fl := by
  unfold SpB at h ⊢; rw [heap_set2 h]; rfl
theorem SpB.set2 (h : SpB w b vS vM fl) (u : Bool) : SpB (w.setCell ⟨b, 2, none⟩ (.bool u)) b vS vM u := by
  unfold SpB at h ⊢; rw [heap_set2 h]; rfl
end
/-- the moves of a tree -/
def mvOf (T : TS) (x : Nd) : Mv := ⟨match T.nodes[x.ab.toNat]? with | some y => (y.st : Int) | none => 0, x.st, x.tr⟩
def movesOf (T : TS) : List Mv := (T.nodes.drop 1).map (mvOf T)
theorem drop_map_take (T : TS) (k : Nat) (h : k + 1 < T.nodes.length) : (movesOf T).take (k + 1) = (movesOf T).take k ++ [mvOf T T.nodes[k + 1]] := by
  have hl : k < (movesOf T).length := by unfold movesOf; rw [List.length_map, List.length_drop]; omega
  have e : (movesOf T)[k] = mvOf T T.nodes[k + 1] := by
    have : (movesOf T)[k]? = some (mvOf T T.nodes[k + 1]) := by unfold movesOf; rw [List.getElem?_map, List.getElem?_drop, Nat.add_comm 1 k, List.getElem?_eq_getElem h]; rfl
    rw [List.getElem?_eq_getElem hl] at this; exact Option.some.inj this
  rw [List.take_succ_eq_append_getElem hl, e]
theorem movesOf_len (T : TS) : (movesOf T).length = T.nodes.length - 1 := by unfold movesOf; rw [List.length_map, List.length_drop]
/-- what a call does -/
def SpPo (LL : List (List Int)) (MV : List Mv) (w : World) (e : Ending) (w' : World) : Prop := ∃ vS vM, e = .returned (.agg #[vS, vM, .bool true]) ∧ OLL w w' vS LL ∧ OMv w w' vM MV
theorem own_up {w w0 w1 : World} (hb : Below w.heap.size w w0) {k n : Nat} {e : TypeId} {v : Value} {xs : List Value} (h : w1.ownsRow w0.heap.size e k v n xs) : w1.ownsRow w.heap.size e k v n xs := by
  refine ⟨h.1, ?_⟩
  rcases h.2 with hn | ⟨g, cap, cur, h1, h2, h3⟩
  · exact .inl hn
  · exact .inr ⟨g, cap, cur, h1, by have := hb.size; omega, h3⟩
theorem OLL.up {w w0 w1 : World} {v : Value} {LL : List (List Int)} (hb : Below w.heap.size w w0) (h : OLL w0 w1 v LL) : OLL w w1 v LL := by
  obtain ⟨SL, h1, h2, h3, h4⟩ := h
  exact ⟨SL, own_up hb h1, h2, fun k u s hk hs => NS.up hb (h3 k u s hk hs), below_then hb h4⟩
theorem OMv.up {w w0 w1 : World} {v : Value} {MV : List Mv} (hb : Below w.heap.size w w0) (h : OMv w0 w1 v MV) : OMv w w1 v MV := ⟨own_up hb h.1, below_then hb h.2⟩
end Go.Proofs.YtjojmmabcjccdaaDoor
