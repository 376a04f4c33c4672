/- The tree of reference 24 in memory. -/
import Derived.Test.YtjojmmabcjccdaaDoorDp
namespace Go.Proofs.YtjojmmabcjccdaaDoor
open Go.RowKit

theorem rnodeInfo : (Tryd.prog.info? 80).map (fun i => (i.zero, i.size, i.bytes)) = some (some (.agg #[.slice none 0 0, .int .i64 0, .int .i64 0, .bool false]), 4, 48) := by kernel_rfl
/-- a row of one's own, or one that was there before -/
def XS (w0 wr : World) (v : Value) (L : List Int) : Prop := NS w0 wr v L ∨ (SlIn w0 v L ∧ Below w0.heap.size w0 wr)
section
variable {w0 wr w' : World} {v : Value} {L : List Int}
theorem XS.sl (h : XS w0 wr v L) : SlIn wr v L := by
  rcases h with h | ⟨h, hb⟩
  · exact h.sl
  · exact h.below hb
theorem XS.below (h : XS w0 wr v L) (hb : Below wr.heap.size wr w') : XS w0 w' v L := by
  rcases h with h | ⟨h, hb0⟩
  · exact .inl (h.below hb)
  · exact .inr ⟨h, below_then hb0 hb⟩
theorem XS.app (h : XS w0 wr v L) {o : Obj} {b k n : Nat} {e : TypeId} {x : Value} {xs : List Value} (hr : wr.ownsRow b e k x n xs) (h2 : 3 ≠ e) (hg : (wr.alloc o).grownBy w' x.ownBlock) (hbase : w0.heap.size ≤ b) : XS w0 w' v L := by
  have hb5 : ∀ k, x.ownBlock = some k → w0.heap.size ≤ k := fun k hk => Nat.le_trans hbase (hr.lt k hk).1
  rcases h with h | ⟨h, hb⟩
  · exact .inl ((h.below (below_alloc wr o)).kept hg (own_apart (h.below (below_alloc wr o)).1 (hr.alloc o) h2) hb5)
  · exact .inr ⟨h, (hb.alloc hb.size o).grown hg (by have := hb.size; simp; omega) hb5⟩
theorem XS.box (h : XS w0 wr v L) {b o : Nat} {cs : Array Value} {T : TypeId} (hb : wr.heap[b]? = some (.cells cs T (0, 0))) (h2 : 3 ≠ T) (h3 : w0.heap.size ≤ b) (u : Value) : XS w0 (wr.setCell ⟨b, o, none⟩ u) v L := by
  have h5 : ∀ k, some b = some k → w0.heap.size ≤ k := fun k hk => by cases hk; exact h3
  rcases h with h | ⟨h, hb0⟩
  · exact .inl (h.kept (Lib.grownBy_setB (grown_refl wr (some b)) o u) (own_other h.1 hb h2) h5)
  · exact .inr ⟨h, hb0.grown (Lib.grownBy_setB (grown_refl wr (some b)) o u) hb0.size h5⟩
end
theorem OMv.app {w0 wr w' : World} {v : Value} {MV : List Mv} (h : OMv w0 wr v MV) {o : Obj} {b k n : Nat} {e : TypeId} {x : Value} {xs : List Value} (hr : wr.ownsRow b e k x n xs) (h1 : 72 ≠ e) (hg : (wr.alloc o).grownBy w' x.ownBlock) (hbase : w0.heap.size ≤ b) : OMv w0 w' v MV :=
  ⟨(h.1.alloc o).kept hg (own_apart (h.1.alloc o) (hr.alloc o) h1), (h.2.alloc h.2.size o).grown hg (by have := h.2.size; simp; omega) (fun k hk => Nat.le_trans hbase (hr.lt k hk).1)⟩
/-- the tree, the space -/
structure RG (w0 wr : World) (sb : Nat) (vS vM vN : Value) (SL : List Value) (NL : List Rv) (ST : List (List Int)) (MV : List Mv) (ND : List Nd) : Prop where
  blk : SpB wr sb vS vM true
  sbb : w0.heap.size ≤ sb
  sts : wr.ownsRow w0.heap.size 25 1 vS SL.length SL
  stl : SL.length = ST.length
  str : ∀ (k : Nat) (v : Value) (s : List Int), SL[k]? = some v → ST[k]? = some s → XS w0 wr v s
  mvs : OMv w0 wr vM MV
  nds : wr.ownsRow w0.heap.size 80 4 vN NL.length (NL.flatMap rdC)
  ndm : NL.map Rv.d = ND
  ndr : ∀ x ∈ NL, XS w0 wr x.v x.d.ms
  bel : Below w0.heap.size w0 wr
section
variable {w0 wr w' : World} {sb : Nat} {vS vM vN : Value} {SL : List Value} {NL : List Rv} {ST : List (List Int)} {MV : List Mv} {ND : List Nd}
theorem RG.below (h : RG w0 wr sb vS vM vN SL NL ST MV ND) (hb : Below wr.heap.size wr w') : RG w0 w' sb vS vM vN SL NL ST MV ND :=
  ⟨h.blk.below hb, h.sbb, own_stays h.sts hb, h.stl, fun k v s hk hs => (h.str k v s hk hs).below hb, h.mvs.below hb, own_stays h.nds hb, h.ndm, fun x hx => (h.ndr x hx).below hb, below_then h.bel hb⟩
theorem RG.up {w : World} (hb : Below w.heap.size w w0) (hs : ∀ (k : Nat) (v : Value) (s : List Int), SL[k]? = some v → ST[k]? = some s → XS w0 wr v s → XS w wr v s) (hn : ∀ x ∈ NL, XS w0 wr x.v x.d.ms → XS w wr x.v x.d.ms) (h : RG w0 wr sb vS vM vN SL NL ST MV ND) : RG w wr sb vS vM vN SL NL ST MV ND :=
  ⟨h.blk, by have := hb.size; have := h.sbb; omega, own_up hb h.sts, h.stl, fun k v s hk hs' => hs k v s hk hs' (h.str k v s hk hs'), h.mvs.up hb, own_up hb h.nds, h.ndm, fun x hx => hn x hx (h.ndr x hx), below_then hb h.bel⟩
theorem RG.len (h : RG w0 wr sb vS vM vN SL NL ST MV ND) : NL.length = ND.length := by rw [← h.ndm, List.length_map]
/-- the states as they are read -/
theorem RG.lin (h : RG w0 wr sb vS vM vN SL NL ST MV ND) : ∃ A cap, vS = .slice A SL.length cap ∧ LIn wr A ST ∧ SL.length ≤ cap ∧ cap ≤ 9223372036854775807 := by
  rcases h.sts.2 with ⟨hv, hn⟩ | ⟨g, cap, cur, hv, hg, hh, hnc, hc, _⟩
  · refine ⟨none, 0, by rw [hv, hn], fun i hi => ?_, by omega, by omega⟩
    have := h.stl; omega
  · have hgl : g < wr.heap.size := (Array.getElem?_eq_some_iff.1 hh).1
    refine ⟨some ⟨g, 0, none⟩, cap, hv, fun i hi => ⟨_, rfl, by rw [add_block]; exact hgl, ?_⟩, hnc, hc⟩
    have hi2 : i < SL.length := by have := h.stl; omega
    have hs := h.sts
    rw [hv] at hs
    refine ⟨SL[i], hs.cells (g := g) rfl i _ (List.getElem?_eq_getElem hi2), (h.str i _ _ (List.getElem?_eq_getElem hi2) (List.getElem?_eq_getElem hi)).sl⟩
/-- the nodes as they are read -/
theorem RG.rin (h : RG w0 wr sb vS vM vN SL NL ST MV ND) (h0 : 0 < NL.length) : ∃ g cap, vN = .slice (some ⟨g, 0, none⟩) NL.length cap ∧ w0.heap.size ≤ g ∧ NL.length ≤ cap ∧ RIn wr g NL := by
  obtain ⟨A, cap, hv, hA⟩ := row_slice h.nds
  obtain ⟨g, rfl, h1, h2⟩ := hA h0
  subst hv
  refine ⟨g, cap, rfl, h1, row_cap h.nds, h2, fun i x hx => ⟨fun j u hu => ?_, (h.ndr x (List.mem_of_getElem? hx)).sl⟩⟩
  have hj : j < 4 := by have := (List.getElem?_eq_some_iff.1 hu).1; rw [rdC_len] at this; exact this
  have hil := (List.getElem?_eq_some_iff.1 hx).1
  have hq : (NL.flatMap rdC)[i * 4 + j]? = some u := by
    have e1 := drop_flat (c := rdC) (K := 4) rdC_len NL i
    have e2 : (NL.flatMap rdC)[i * 4 + j]? = ((NL.flatMap rdC).drop (i * 4))[j]? := by rw [List.getElem?_drop]
    rw [e2, e1, List.drop_eq_getElem_cons hil, List.flatMap_cons, List.getElem?_append_left (by rw [rdC_len]; exact hj)]
    rw [List.getElem?_eq_getElem hil] at hx
    rw [Option.some.inj hx]; exact hu
  have hc := h.nds.cells (g := g) rfl (i * 4 + j) u hq
  have ha : (⟨g, 0, none⟩ : Addr).add (i * 4 + j) = ⟨g, i * 4 + j, none⟩ := by unfold Addr.add; split <;> simp_all
  rw [ha] at hc; exact hc
/-- a state is put in -/
theorem RG.state (h : RG w0 wr sb vS vM vN SL NL ST MV ND) {o : Obj} {v vS' : Value} {s : List Int} (hv : XS w0 wr v s) (hN : NS w0 wr v s) (ho : w'.ownsRow w0.heap.size 25 1 vS' (SL.length + 1) (SL ++ [v])) (hg : (wr.alloc o).grownBy w' vS.ownBlock) :
    RG w0 (w'.setCell ⟨sb, 0, none⟩ vS') sb vS' vM vN (SL ++ [v]) NL (ST ++ [s]) MV ND ∧ XS w0 (w'.setCell ⟨sb, 0, none⟩ vS') v s ∧ NS w0 (w'.setCell ⟨sb, 0, none⟩ vS') v s := by
  have ha := below_alloc wr o
  have hb5 : ∀ k, vS.ownBlock = some k → w0.heap.size ≤ k := fun k hk => (h.sts.lt k hk).1
  have hsp : SpB w' sb vS vM true := (h.blk.below ha).grown hg (row_block (h.sts.alloc o) (h.blk.below ha) (by decide))
  have hx : ∀ x L, XS w0 wr x L → XS w0 (w'.setCell ⟨sb, 0, none⟩ vS') x L := fun x L hx => (hx.app h.sts (by decide) hg (Nat.le_refl _)).box hsp (by decide) h.sbb vS'
  have hset : w'.grownBy (w'.setCell ⟨sb, 0, none⟩ vS') (some sb) := Lib.grownBy_setB (grown_refl w' (some sb)) 0 vS'
  have hns : NS w0 w' v s := (hN.below ha).kept hg (own_apart (hN.below ha).1 (h.sts.alloc o) (by decide)) hb5
  refine ⟨⟨hsp.set0 vS', h.sbb, ?_, by rw [List.length_append, List.length_append, h.stl]; rfl, fun k x t hk ht => ?_, (h.mvs.app h.sts (by decide) hg (Nat.le_refl _)).box hsp (by decide) h.sbb vS', ?_, h.ndm, fun x hx' => hx _ _ (h.ndr x hx'), ?_⟩, hx v s hv, ns_box hns hsp (by decide) h.sbb vS'⟩
  · rw [List.length_append]; exact ho.kept hset (own_other ho hsp (by decide))
  · rcases Nat.lt_or_ge k SL.length with hl | hl
    · rw [List.getElem?_append_left hl] at hk
      rw [List.getElem?_append_left (by rw [← h.stl]; exact hl)] at ht
      exact hx _ _ (h.str k x t hk ht)
    · rw [List.getElem?_append_right hl] at hk
      rw [List.getElem?_append_right (by rw [← h.stl]; exact hl)] at ht
      rcases Nat.eq_zero_or_pos (k - SL.length) with h0 | h0
      · rw [h0] at hk
        rw [← h.stl, h0] at ht
        simp at hk ht
        subst hk ht
        exact hx _ _ hv
      · rw [List.getElem?_eq_none (by simp; omega)] at hk; cases hk
  · exact ((h.nds.alloc o).kept hg (own_apart (h.nds.alloc o) (h.sts.alloc o) (by decide))).kept hset (own_other ((h.nds.alloc o).kept hg (own_apart (h.nds.alloc o) (h.sts.alloc o) (by decide))) hsp (by decide))
  · exact ((h.bel.alloc h.bel.size o).grown hg (by have := h.bel.size; simp; omega) hb5).setCell (p := ⟨sb, 0, none⟩) h.sbb vS'
/-- a move is put in -/
theorem RG.move (h : RG w0 wr sb vS vM vN SL NL ST MV ND) {o : Obj} {x : Mv} {vM' : Value} (ho : w'.ownsRow w0.heap.size 72 3 vM' (MV.length + 1) (MV.flatMap mvC ++ mvC x)) (hg : (wr.alloc o).grownBy w' vM.ownBlock) :
    RG w0 (w'.setCell ⟨sb, 1, none⟩ vM') sb vS vM' vN SL NL ST (MV ++ [x]) ND ∧ ∀ v s, NS w0 wr v s → NS w0 (w'.setCell ⟨sb, 1, none⟩ vM') v s := by
  have ha := below_alloc wr o
  have hb5 : ∀ k, vM.ownBlock = some k → w0.heap.size ≤ k := fun k hk => (h.mvs.1.lt k hk).1
  have hsp : SpB w' sb vS vM true := (h.blk.below ha).grown hg (row_block (h.mvs.1.alloc o) (h.blk.below ha) (by decide))
  have hx : ∀ x L, XS w0 wr x L → XS w0 (w'.setCell ⟨sb, 1, none⟩ vM') x L := fun x L hx => (hx.app h.mvs.1 (by decide) hg (Nat.le_refl _)).box hsp (by decide) h.sbb vM'
  have hset : w'.grownBy (w'.setCell ⟨sb, 1, none⟩ vM') (some sb) := Lib.grownBy_setB (grown_refl w' (some sb)) 1 vM'
  have hns : ∀ v s, NS w0 wr v s → NS w0 w' v s := fun v s hN => (hN.below ha).kept hg (own_apart (hN.below ha).1 (h.mvs.1.alloc o) (by decide)) hb5
  have hs1 := (h.sts.alloc o).kept hg (own_apart (h.sts.alloc o) (h.mvs.1.alloc o) (by decide))
  have hn1 := (h.nds.alloc o).kept hg (own_apart (h.nds.alloc o) (h.mvs.1.alloc o) (by decide))
  exact ⟨⟨hsp.set1 vM', h.sbb, hs1.kept hset (own_other hs1 hsp (by decide)), h.stl, fun k x t hk ht => hx _ _ (h.str k x t hk ht), (h.mvs.push ho hg).box hsp (by decide) h.sbb vM', hn1.kept hset (own_other hn1 hsp (by decide)), h.ndm, fun x hx' => hx _ _ (h.ndr x hx'), ((h.bel.alloc h.bel.size o).grown hg (by have := h.bel.size; simp; omega) hb5).setCell (p := ⟨sb, 1, none⟩) h.sbb vM'⟩, fun v s hN => ns_box (hns v s hN) hsp (by decide) h.sbb vM'⟩
/-- a node is put in -/
theorem RG.node (h : RG w0 wr sb vS vM vN SL NL ST MV ND) {o : Obj} {x : Rv} {vN' : Value} (hx : XS w0 wr x.v x.d.ms) (ho : w'.ownsRow w0.heap.size 80 4 vN' (NL.length + 1) (NL.flatMap rdC ++ rdC x)) (hg : (wr.alloc o).grownBy w' vN.ownBlock) :
    RG w0 w' sb vS vM vN' SL (NL ++ [x]) ST MV (ND ++ [x.d]) := by
  have ha := below_alloc wr o
  have hb5 : ∀ k, vN.ownBlock = some k → w0.heap.size ≤ k := fun k hk => (h.nds.lt k hk).1
  have hsp : SpB w' sb vS vM true := (h.blk.below ha).grown hg (row_block (h.nds.alloc o) (h.blk.below ha) (by decide))
  have hxs : ∀ x L, XS w0 wr x L → XS w0 w' x L := fun x L hx => hx.app h.nds (by decide) hg (Nat.le_refl _)
  refine ⟨hsp, h.sbb, (h.sts.alloc o).kept hg (own_apart (h.sts.alloc o) (h.nds.alloc o) (by decide)), h.stl, fun k x t hk ht => hxs _ _ (h.str k x t hk ht), h.mvs.app h.nds (by decide) hg (Nat.le_refl _), ?_, by rw [List.map_append, h.ndm]; rfl, fun y hy => ?_, (h.bel.alloc h.bel.size o).grown hg (by have := h.bel.size; simp; omega) hb5⟩
  · rw [List.length_append, List.flatMap_append]
    have : [x].flatMap rdC = rdC x := by simp
    rw [this]; exact ho
  · rcases List.mem_append.1 hy with hy | hy
    · exact hxs _ _ (h.ndr y hy)
    · have : y = x := by simpa using hy
      subst this; exact hxs _ _ hx
end
end Go.Proofs.YtjojmmabcjccdaaDoor
