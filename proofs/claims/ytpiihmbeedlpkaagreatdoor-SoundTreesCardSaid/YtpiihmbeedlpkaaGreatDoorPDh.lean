/- The coverability tree in memory. -/
import Derived.Test.YtpiihmbeedlpkaaGreatDoorPUu
import Derived.Test.YtpiihmbeedlpkaaGreatDoorPDg
import Derived.Test.YtpiihmbeedlpkaaGreatDoorPCd
namespace Go.Proofs.YtpiihmbeedlpkaaGreatDoor
open Go.RowKit

theorem own_kind {w : World} {b k g : Nat} {e : TypeId} {v : Value} {n : Nat} {xs : List Value} (h : w.ownsRow b e k v n xs) (hg : v.ownBlock = some g) : ∃ cur, w.heap[g]? = some (.cells cur e (0, 0)) := by
 rcases h.2 with ⟨rfl, _⟩ | ⟨g', cap, cur, rfl, _, hgg, _⟩
 · simp [Value.ownBlock] at hg
 · simp [Value.ownBlock] at hg;subst hg; exact ⟨cur, hgg⟩
theorem own_apart {w : World} {b b' k k' : Nat} {e e' : TypeId} {v v' : Value} {n n' : Nat} {xs xs' : List Value} (h : w.ownsRow b e k v n xs) (h' : w.ownsRow b' e' k' v' n' xs') (hne : e ≠ e') : v.ownBlock = none ∨ v.ownBlock ≠ v'.ownBlock := by
 cases hv : v.ownBlock with
 | none => exact .inl rfl
 | some g =>
  refine .inr fun e1 => ?_
  obtain ⟨c, h1⟩ := own_kind h hv;obtain ⟨c', h2⟩ := own_kind h' e1.symm;rw [h1] at h2; cases h2; exact hne rfl
theorem own_other {w : World} {b k g : Nat} {e T : TypeId} {v : Value} {n : Nat} {xs : List Value} {cs : Array Value} {fr : Nat × Nat} (h : w.ownsRow b e k v n xs) (hg : w.heap[g]? = some (.cells cs T fr)) (hne : e ≠ T) : v.ownBlock = none ∨ v.ownBlock ≠ some g := by
 cases hv : v.ownBlock with
 | none => exact .inl rfl
 | some g' =>
  refine .inr fun e1 => ?_
  cases e1;obtain ⟨c, h1⟩ := own_kind h hv;rw [h1] at hg; cases hg; exact hne rfl
theorem own_nomap {w : World} {b k g : Nat} {e : TypeId} {v : Value} {n : Nat} {xs : List Value} {es : Array MapEntry} {cl : Nat} (h : w.ownsRow b e k v n xs) (hg : w.heap[g]? = some (.map es cl)) : v.ownBlock = none ∨ v.ownBlock ≠ some g := by
 cases hv : v.ownBlock with
 | none => exact .inl rfl
 | some g' =>
  refine .inr fun e1 => ?_
  cases e1;obtain ⟨c, h1⟩ := own_kind h hv;rw [h1] at hg; cases hg
theorem NS.kept {w0 wr w' : World} {v : Value} {L : List Int} {row : Option Nat} (h : NS w0 wr v L) (hg : wr.grownBy w' row) (hne : v.ownBlock = none ∨ v.ownBlock ≠ row) (hr : ∀ k, row = some k → w0.heap.size ≤ k) : NS w0 w' v L :=
 ⟨h.1.kept hg hne, h.2.grown hg h.2.size hr⟩
theorem NS.one {w0 wr : World} {v : Value} {L : List Int} (h : NS w0 wr v L) : v.oneCell' = true := by obtain ⟨A, c, rfl⟩ := h.slice; rfl
structure Nv where
 d : Nd
 vp : Value
 vm : Value
def ndC (x : Nv) : List Value := [x.vp, x.vm, .int .i64 x.d.ab, .int .i64 x.d.tr, .int .i64 (x.d.st : Int), .int .i64 x.d.gr, .bool x.d.nw, .bool x.d.om]
theorem ndC_len (x : Nv) : (ndC x).length = 8 := rfl
structure GP (w0 wr : World) (tb : Nat) (vN vS : Value) (NL : List Nv) (SL : List Value) (T : TS) : Prop where
 tree : wr.heap[tb]? = some (.cells #[vN, vS] 91 (0, 0))
 tbb : w0.heap.size ≤ tb
 nds : wr.ownsRow w0.heap.size 93 8 vN NL.length (NL.flatMap ndC)
 ndm : NL.map Nv.d = T.nodes
 ndr : ∀ x ∈ NL, NS w0 wr x.vp x.d.pn ∧ NS w0 wr x.vm x.d.ms
 sts : wr.ownsRow w0.heap.size 34 1 vS SL.length SL
 stl : SL.length = T.states.length
 str : ∀ (k : Nat) (v : Value) (s : List Int), SL[k]? = some v → T.states[k]? = some s → NS w0 wr v s
 bel : Below w0.heap.size w0 wr
section
variable {w0 wr w' : World} {tb : Nat} {vN vS : Value} {NL : List Nv} {SL : List Value} {T : TS}
theorem GP.lt (h : GP w0 wr tb vN vS NL SL T) : tb < wr.heap.size := (Array.getElem?_eq_some_iff.1 h.tree).1
theorem GP.kept (h : GP w0 wr tb vN vS NL SL T) {row : Option Nat} (hg : wr.grownBy w' row) (h1 : some tb ≠ row) (h2 : vN.ownBlock = none ∨ vN.ownBlock ≠ row) (h3 : vS.ownBlock = none ∨ vS.ownBlock ≠ row)
 (h4 : ∀ (v : Value) (L : List Int), NS w0 wr v L → v.ownBlock = none ∨ v.ownBlock ≠ row) (h5 : ∀ k, row = some k → w0.heap.size ≤ k) : GP w0 w' tb vN vS NL SL T :=
 ⟨by rw [hg.block tb h.lt h1]; exact h.tree, h.tbb, h.nds.kept hg h2, h.ndm, fun x hx => ⟨(h.ndr x hx).1.kept hg (h4 _ _ (h.ndr x hx).1) h5, (h.ndr x hx).2.kept hg (h4 _ _ (h.ndr x hx).2) h5⟩, h.sts.kept hg h3, h.stl,
  fun k v s hk hs => (h.str k v s hk hs).kept hg (h4 _ _ (h.str k v s hk hs)) h5, h.bel.grown hg h.bel.size h5⟩
theorem GP.below (h : GP w0 wr tb vN vS NL SL T) (hb : Below wr.heap.size wr w') : GP w0 w' tb vN vS NL SL T :=
 ⟨by rw [hb.block tb h.lt]; exact h.tree, h.tbb, own_stays h.nds hb, h.ndm, fun x hx => ⟨(h.ndr x hx).1.below hb, (h.ndr x hx).2.below hb⟩, own_stays h.sts hb, h.stl,
  fun k v s hk hs => (h.str k v s hk hs).below hb, below_then h.bel hb⟩
theorem GP.up {w : World} (hb : Below w.heap.size w w0) (h : GP w0 wr tb vN vS NL SL T) : GP w wr tb vN vS NL SL T := by
 have hl : ∀ {b k : Nat} {e : TypeId} {v : Value} {n : Nat} {xs : List Value}, wr.ownsRow w0.heap.size e k v n xs → wr.ownsRow w.heap.size e k v n xs := by
  intro b k e v n xs h;refine ⟨h.1, ?_⟩;rcases h.2 with hn | ⟨g, cap, cur, h1, h2, h3⟩
  · exact .inl hn
  · exact .inr ⟨g, cap, cur, h1, by have := hb.size; omega, h3⟩
 exact ⟨h.tree, by have := hb.size; have := h.tbb; omega, hl (b := 0) h.nds, h.ndm, fun x hx => ⟨NS.up hb (h.ndr x hx).1, NS.up hb (h.ndr x hx).2⟩, hl (b := 0) h.sts, h.stl, fun k v s hk hs => NS.up hb (h.str k v s hk hs), below_then hb h.bel⟩
theorem GP.cells (h : GP w0 wr tb vN vS NL SL T) : wr.cell? ⟨tb, 0, none⟩ = some vN ∧ wr.cell? ⟨tb, 1, none⟩ = some vS ∧ wr.frozen? ⟨tb, 0, none⟩ = false ∧ wr.frozen? ⟨tb, 1, none⟩ = false := by
 have := h.tree;simp [World.cell?, World.frozen?, this]
theorem GP.len (h : GP w0 wr tb vN vS NL SL T) : NL.length = T.nodes.length := by rw [← h.ndm, List.length_map]
theorem row_slice {w : World} {b k : Nat} {e : TypeId} {v : Value} {n : Nat} {xs : List Value} (h : w.ownsRow b e k v n xs) : ∃ A cap, v = .slice A n cap ∧ (0 < n → ∃ g, A = some ⟨g, 0, none⟩ ∧ b ≤ g ∧ g < w.heap.size) := by
 rcases h.2 with ⟨rfl, h0⟩ | ⟨g, cap, cur, rfl, h1, h2, _⟩
 · exact ⟨none, 0, by rw [h0], fun h => by omega⟩
 · exact ⟨_, cap, rfl, fun _ => ⟨g, rfl, h1, (Array.getElem?_eq_some_iff.1 h2).1⟩⟩
theorem GP.row_ne (h : GP w0 wr tb vN vS NL SL T) : (vN.ownBlock = none ∨ vN.ownBlock ≠ some tb) ∧ (vS.ownBlock = none ∨ vS.ownBlock ≠ some tb) ∧ ∀ (v : Value) (L : List Int), NS w0 wr v L → v.ownBlock = none ∨ v.ownBlock ≠ some tb :=
 ⟨own_other h.nds h.tree (by decide), own_other h.sts h.tree (by decide), fun _ _ hn => own_other hn.1 h.tree (by decide)⟩
theorem heap_set2 {w : World} {b o : Nat} {cs : Array Value} {t : TypeId} {v : Value} (h : w.heap[b]? = some (.cells cs t (0, 0))) : (w.setCell ⟨b, o, none⟩ v).heap[b]? = some (.cells (cs.setIfInBounds o v) t (0, 0)) := by
 have hb := (Array.getElem?_eq_some_iff.1 h).1;unfold World.setCell;simp [Array.getElem?_modify, h]
theorem GP.state (h : GP w0 wr tb vN vS NL SL T) {o : Obj} {v vS' : Value} {s : List Int} (hv : NS w0 wr v s) (ho : w'.ownsRow w0.heap.size 34 1 vS' (SL.length + 1) (SL ++ [v])) (hg : (wr.alloc o).grownBy w' vS.ownBlock) :
 GP w0 (w'.setCell ⟨tb, 1, none⟩ vS') tb vN vS' NL (SL ++ [v]) ⟨T.nodes, T.states ++ [s]⟩ := by
 have ha := h.below (below_alloc wr o);have hva := hv.below (below_alloc wr o);obtain ⟨n1, n2, n3⟩ := ha.row_ne;have hlt := ha.lt;have hb5 : ∀ k, vS.ownBlock = some k → w0.heap.size ≤ k := fun k hk => (h.sts.lt k hk).1
 have hne : some tb ≠ vS.ownBlock := by
  rcases n2 with e | e
  · rw [e]; simp
  · exact fun e1 => e e1.symm
 have h4 : ∀ (v : Value) (L : List Int), NS w0 (wr.alloc o) v L → v.ownBlock = none ∨ v.ownBlock ≠ vS.ownBlock := fun v L hn => own_apart hn.1 ha.sts (by decide)
 have htree : w'.heap[tb]? = some (.cells #[vN, vS] 91 (0, 0)) := by rw [hg.block tb hlt hne]; exact ha.tree
 have hlt2 : tb < w'.heap.size := (Array.getElem?_eq_some_iff.1 htree).1;have hset : w'.grownBy (w'.setCell ⟨tb, 1, none⟩ vS') (some tb) := Lib.grownBy_setB (grown_refl w' (some tb)) 1 vS';have hN : w'.ownsRow w0.heap.size 93 8 vN NL.length (NL.flatMap ndC) := ha.nds.kept hg (own_apart ha.nds ha.sts (by decide));have hkeep : ∀ (v : Value) (L : List Int), NS w0 wr v L → NS w0 (w'.setCell ⟨tb, 1, none⟩ vS') v L := fun v L hn => by
  have h1 := (hn.below (below_alloc wr o)).kept hg (h4 v L (hn.below (below_alloc wr o))) hb5;exact h1.kept hset (own_other h1.1 htree (by decide)) (fun k hk => by cases hk; exact h.tbb)
 refine ⟨by rw [heap_set2 htree]; rfl, h.tbb, hN.kept hset (own_other hN htree (by decide)), h.ndm, fun x hx => ⟨hkeep _ _ (h.ndr x hx).1, hkeep _ _ (h.ndr x hx).2⟩, ?_, ?_, fun k u t hk ht => ?_, ?_⟩
 · rw [List.length_append]; exact ho.kept hset (own_other ho htree (by decide))
 · rw [List.length_append, List.length_append, h.stl]; rfl
 · rcases Nat.lt_or_ge k SL.length with hl | hl
   · rw [List.getElem?_append_left hl] at hk;rw [List.getElem?_append_left (by rw [← h.stl]; exact hl)] at ht;exact hkeep u t (h.str k u t hk ht)
   · rw [List.getElem?_append_right hl] at hk;rw [List.getElem?_append_right (by rw [← h.stl]; exact hl)] at ht;rcases Nat.eq_zero_or_pos (k - SL.length) with h0 | h0
     · rw [h0] at hk;rw [← h.stl, h0] at ht;simp at hk ht;subst hk ht;exact hkeep _ _ hv
     · rw [List.getElem?_eq_none (by simp; omega)] at hk; cases hk
 · exact ((h.bel.alloc h.bel.size o).grown hg (by have := h.bel.size; simp; omega) hb5).grown hset (by have := h.bel.size; have := hg.size; simp at this; omega) (fun k hk => by cases hk; exact h.tbb)
theorem GP.state_blk (h : GP w0 wr tb vN vS NL SL T) {o : Obj} (vS' : Value) (hg : (wr.alloc o).grownBy w' vS.ownBlock) {g : Nat} {c : Array Value} {t : TypeId} (hgc : wr.heap[g]? = some (.cells c t (0, 0))) (ht : t ≠ 34) (hne : g ≠ tb) :
 w'.heap[g]? = some (.cells c t (0, 0)) ∧ (w'.setCell ⟨tb, 1, none⟩ vS').heap[g]? = some (.cells c t (0, 0)) := by
 have ha := below_alloc wr o;have h1 : (wr.alloc o).heap[g]? = some (.cells c t (0, 0)) := by rw [ha.block g (Array.getElem?_eq_some_iff.1 hgc).1]; exact hgc
 have hn : some g ≠ vS.ownBlock := by
  rcases own_other (h.sts.alloc o) h1 (fun e => ht e.symm) with e1 | e1
  · rw [e1]; simp
  · exact fun e2 => e1 e2.symm
 have h2 : w'.heap[g]? = some (.cells c t (0, 0)) := by rw [hg.block g (Array.getElem?_eq_some_iff.1 h1).1 hn]; exact h1
 have hset : w'.grownBy (w'.setCell ⟨tb, 1, none⟩ vS') (some tb) := Lib.grownBy_setB (grown_refl w' (some tb)) 1 vS';exact ⟨h2, by rw [hset.block g (Array.getElem?_eq_some_iff.1 h2).1 (fun e => hne (Option.some.inj e))]; exact h2⟩
theorem GP.state_ns (h : GP w0 wr tb vN vS NL SL T) {o : Obj} (vS' : Value) (hg : (wr.alloc o).grownBy w' vS.ownBlock) {v : Value} {L : List Int} (hn : NS w0 wr v L) : NS w0 (w'.setCell ⟨tb, 1, none⟩ vS') v L := by
 have hb5 : ∀ k, vS.ownBlock = some k → w0.heap.size ≤ k := fun k hk => (h.sts.lt k hk).1
 have ha := hn.below (below_alloc wr o);have h1 := ha.kept hg (own_apart ha.1 (h.sts.alloc o) (by decide)) hb5;have ht := (below_alloc wr o).block tb h.lt;have hne : some tb ≠ vS.ownBlock := by
  rcases h.row_ne.2.1 with e | e
  · rw [e]; simp
  · exact fun e1 => e e1.symm
 have htree : w'.heap[tb]? = some (.cells #[vN, vS] 91 (0, 0)) := by rw [hg.block tb (by have := h.lt; simp; omega) hne, ht]; exact h.tree
 have hset : w'.grownBy (w'.setCell ⟨tb, 1, none⟩ vS') (some tb) := Lib.grownBy_setB (grown_refl w' (some tb)) 1 vS';exact h1.kept hset (own_other h1.1 htree (by decide)) (fun k hk => by cases hk; exact h.tbb)
theorem news_blk {w : World} {B : Nat} {cs : Array Value} {t : TypeId} {fr : Nat × Nat} (hb : w.heap[B]? = some (.cells cs t fr)) : ∀ j u, cs.toList[j]? = some u → w.cell? ((⟨B, 0, none⟩ : Addr).add j) = some u := by
 intro j u hu;have ha : (⟨B, 0, none⟩ : Addr).add j = ⟨B, 0 + j, none⟩ := by unfold Addr.add; split <;> simp_all
 rw [ha];simp [World.cell?, hb];simpa using hu
theorem GP.node (h : GP w0 wr tb vN vS NL SL T) {o : Obj} {x : Nv} {vN' : Value} (hp : NS w0 wr x.vp x.d.pn) (hm : NS w0 wr x.vm x.d.ms) (ho : w'.ownsRow w0.heap.size 93 8 vN' (NL.length + 1) (NL.flatMap ndC ++ ndC x)) (hg : (wr.alloc o).grownBy w' vN.ownBlock) :
 GP w0 (w'.setCell ⟨tb, 0, none⟩ vN') tb vN' vS (NL ++ [x]) SL ⟨T.nodes ++ [x.d], T.states⟩ := by
 have ha := h.below (below_alloc wr o);obtain ⟨n1, n2, n3⟩ := ha.row_ne;have hlt := ha.lt;have hb5 : ∀ k, vN.ownBlock = some k → w0.heap.size ≤ k := fun k hk => (h.nds.lt k hk).1
 have hne : some tb ≠ vN.ownBlock := by
  rcases n1 with e | e
  · rw [e]; simp
  · exact fun e1 => e e1.symm
 have h4 : ∀ (v : Value) (L : List Int), NS w0 (wr.alloc o) v L → v.ownBlock = none ∨ v.ownBlock ≠ vN.ownBlock := fun v L hn => own_apart hn.1 ha.nds (by decide)
 have htree : w'.heap[tb]? = some (.cells #[vN, vS] 91 (0, 0)) := by rw [hg.block tb hlt hne]; exact ha.tree
 have hset : w'.grownBy (w'.setCell ⟨tb, 0, none⟩ vN') (some tb) := Lib.grownBy_setB (grown_refl w' (some tb)) 0 vN';have hS : w'.ownsRow w0.heap.size 34 1 vS SL.length SL := ha.sts.kept hg (own_apart ha.sts ha.nds (by decide));have hkeep : ∀ (v : Value) (L : List Int), NS w0 wr v L → NS w0 (w'.setCell ⟨tb, 0, none⟩ vN') v L := fun v L hn => by
  have h1 := (hn.below (below_alloc wr o)).kept hg (h4 v L (hn.below (below_alloc wr o))) hb5;exact h1.kept hset (own_other h1.1 htree (by decide)) (fun k hk => by cases hk; exact h.tbb)
 refine ⟨by rw [heap_set2 htree]; rfl, h.tbb, ?_, by rw [List.map_append, h.ndm]; rfl, fun y hy => ?_, hS.kept hset (own_other hS htree (by decide)), h.stl, fun k u t hk ht => hkeep u t (h.str k u t hk ht), ?_⟩
 · rw [List.length_append, List.flatMap_append];have : [x].flatMap ndC = ndC x := by simp
   rw [this];exact ho.kept hset (own_other ho htree (by decide))
 · rcases List.mem_append.1 hy with h1 | h1
   · exact ⟨hkeep _ _ (h.ndr y h1).1, hkeep _ _ (h.ndr y h1).2⟩
   · simp at h1; subst h1; exact ⟨hkeep _ _ hp, hkeep _ _ hm⟩
 · exact ((h.bel.alloc h.bel.size o).grown hg (by have := h.bel.size; simp; omega) hb5).grown hset (by have := h.bel.size; have := hg.size; simp at this; omega) (fun k hk => by cases hk; exact h.tbb)
end
structure GC (w0 wr : World) (ba bt bm mb : Nat) (most : Nat) (tb : Nat) (vN vS : Value) (NL : List Nv) (SL : List Value) (T : TS) : Prop where
 at_ : wr.heap[ba]? = some (.cells #[.map (some mb)] 115 (0, 0))
 pt : wr.heap[bt]? = some (.cells #[.pointer (some ⟨tb, 0, none⟩)] 86 (0, 0))
 mo : wr.heap[bm]? = some (.cells #[.int .i64 (most : Int)] 3 (0, 0))
 ab : w0.heap.size ≤ mb
 km : KM wr mb T.states
 gp : GP w0 wr tb vN vS NL SL T
section
variable {w0 wr w' : World} {ba bt bm mb most tb : Nat} {vN vS : Value} {NL : List Nv} {SL : List Value} {T : TS}
theorem GC.below (h : GC w0 wr ba bt bm mb most tb vN vS NL SL T) (hb : Below wr.heap.size wr w') : GC w0 w' ba bt bm mb most tb vN vS NL SL T :=
 ⟨by rw [hb.block ba (Array.getElem?_eq_some_iff.1 h.at_).1]; exact h.at_, by rw [hb.block bt (Array.getElem?_eq_some_iff.1 h.pt).1]; exact h.pt, by rw [hb.block bm (Array.getElem?_eq_some_iff.1 h.mo).1]; exact h.mo, h.ab, h.km.below hb, h.gp.below hb⟩
theorem GC.cells (h : GC w0 wr ba bt bm mb most tb vN vS NL SL T) : wr.cell? ⟨ba, 0, none⟩ = some (.map (some mb)) ∧ wr.cell? ⟨bt, 0, none⟩ = some (.pointer (some ⟨tb, 0, none⟩)) ∧ wr.cell? ⟨bm, 0, none⟩ = some (.int .i64 (most : Int)) := by
 have h1 := h.at_; have h2 := h.pt; have h3 := h.mo;simp [World.cell?, h1, h2, h3]
theorem GC.caps (h : GC w0 wr ba bt bm mb most tb vN vS NL SL T) {row : Option Nat} (hg : wr.grownBy w' row) (h1 : ∀ b cs t, wr.heap[b]? = some (.cells cs t (0, 0)) → (t = 115 ∨ t = 86 ∨ t = 3) → some b ≠ row) :
 w'.heap[ba]? = some (.cells #[.map (some mb)] 115 (0, 0)) ∧ w'.heap[bt]? = some (.cells #[.pointer (some ⟨tb, 0, none⟩)] 86 (0, 0)) ∧ w'.heap[bm]? = some (.cells #[.int .i64 (most : Int)] 3 (0, 0)) :=
 ⟨by rw [hg.block ba (Array.getElem?_eq_some_iff.1 h.at_).1 (h1 _ _ _ h.at_ (.inl rfl))]; exact h.at_, by rw [hg.block bt (Array.getElem?_eq_some_iff.1 h.pt).1 (h1 _ _ _ h.pt (.inr (.inl rfl)))]; exact h.pt, by rw [hg.block bm (Array.getElem?_eq_some_iff.1 h.mo).1 (h1 _ _ _ h.mo (.inr (.inr rfl)))]; exact h.mo⟩
theorem row_block {w : World} {b k : Nat} {e : TypeId} {v : Value} {n : Nat} {xs : List Value} (h : w.ownsRow b e k v n xs) {g : Nat} {cs : Array Value} {t : TypeId} (hg : w.heap[g]? = some (.cells cs t (0, 0))) (hne : e ≠ t) : some g ≠ v.ownBlock := by
 rcases own_other h hg hne with e1 | e1
 · rw [e1]; simp
 · exact fun e2 => e1 e2.symm
theorem GC.store (h : GC w0 wr ba bt bm mb most tb vN vS NL SL T) {L : List (List Int)} (hk : KM w' mb L) (hg : wr.grownBy w' (some mb)) :
 (w'.heap[ba]? = some (.cells #[.map (some mb)] 115 (0, 0)) ∧ w'.heap[bt]? = some (.cells #[.pointer (some ⟨tb, 0, none⟩)] 86 (0, 0)) ∧ w'.heap[bm]? = some (.cells #[.int .i64 (most : Int)] 3 (0, 0))) ∧ KM w' mb L ∧ GP w0 w' tb vN vS NL SL T ∧ ∀ (v : Value) (s : List Int), NS w0 wr v s → NS w0 w' v s := by
 obtain ⟨n, D, hm, _⟩ := h.km;obtain ⟨es, cl, hmb, _⟩ := hm;have hns : ∀ (v : Value) (s : List Int), NS w0 wr v s → v.ownBlock = none ∨ v.ownBlock ≠ some mb := fun v s hn => own_nomap hn.1 hmb
 have h5 : ∀ k, some mb = some k → w0.heap.size ≤ k := fun k e => by cases e; exact h.ab
 refine ⟨h.caps hg (fun b cs t hb _ e => ?_), hk, h.gp.kept hg (fun e => ?_) (own_nomap h.gp.nds hmb) (own_nomap h.gp.sts hmb) hns h5, fun v s hn => hn.kept hg (hns v s hn) h5⟩
 · cases e; rw [hmb] at hb; cases hb
 · cases e; have := h.gp.tree; rw [hmb] at this; cases this
theorem caps_app {w1 w2 : World} (hc : w1.heap[ba]? = some (.cells #[.map (some mb)] 115 (0, 0)) ∧ w1.heap[bt]? = some (.cells #[.pointer (some ⟨tb, 0, none⟩)] 86 (0, 0)) ∧ w1.heap[bm]? = some (.cells #[.int .i64 (most : Int)] 3 (0, 0))) {L : List (List Int)} (hk : KM w1 mb L) {o : Obj} {b n k q : Nat} {e : TypeId} {v : Value} {xs : List Value} (hr : w1.ownsRow b e k v n xs) (he : e = 93 ∨ e = 34) (hg : (w1.alloc o).grownBy w2 v.ownBlock) {cs : Array Value} (ht : w1.heap[tb]? = some (.cells cs 91 (0, 0))) (u : Value) :
 ((w2.setCell ⟨tb, q, none⟩ u).heap[ba]? = some (.cells #[.map (some mb)] 115 (0, 0)) ∧ (w2.setCell ⟨tb, q, none⟩ u).heap[bt]? = some (.cells #[.pointer (some ⟨tb, 0, none⟩)] 86 (0, 0)) ∧ (w2.setCell ⟨tb, q, none⟩ u).heap[bm]? = some (.cells #[.int .i64 (most : Int)] 3 (0, 0))) ∧ KM (w2.setCell ⟨tb, q, none⟩ u) mb L := by
 have hset : w2.grownBy (w2.setCell ⟨tb, q, none⟩ u) (some tb) := Lib.grownBy_setB (grown_refl w2 (some tb)) q u;have ha := below_alloc w1 o;have hlt := (Array.getElem?_eq_some_iff.1 ht).1;have ht1 : (w1.alloc o).heap[tb]? = some (.cells cs 91 (0, 0)) := by rw [ha.block tb hlt]; exact ht
 have hr1 : (w1.alloc o).ownsRow b e k v n xs := hr.alloc o;have key : ∀ (g : Nat) (c : Array Value) (t : TypeId), w1.heap[g]? = some (.cells c t (0, 0)) → (t = 115 ∨ t = 86 ∨ t = 3) → (w2.setCell ⟨tb, q, none⟩ u).heap[g]? = some (.cells c t (0, 0)) := by
  intro g c t hgc htt;have hgl := (Array.getElem?_eq_some_iff.1 hgc).1;have h1 : (w1.alloc o).heap[g]? = some (.cells c t (0, 0)) := by rw [ha.block g hgl]; exact hgc
  have hgl1 := (Array.getElem?_eq_some_iff.1 h1).1;have hne : some g ≠ v.ownBlock := row_block hr1 h1 (by rcases he with rfl | rfl <;> rcases htt with rfl | rfl | rfl <;> decide);have h2 : w2.heap[g]? = some (.cells c t (0, 0)) := by rw [hg.block g hgl1 hne]; exact h1
  have hne2 : some g ≠ some tb := fun e1 => by
   cases e1;rw [hgc] at ht; cases ht;rcases htt with h3 | h3 | h3 <;> revert h3 <;> decide
  rw [hset.block g (Array.getElem?_eq_some_iff.1 h2).1 hne2]; exact h2
 refine ⟨⟨key _ _ _ hc.1 (.inl rfl), key _ _ _ hc.2.1 (.inr (.inl rfl)), key _ _ _ hc.2.2 (.inr (.inr rfl))⟩, ?_⟩;have hk1 := hk.below ha;have hmb1 : ∃ es cl, (w1.alloc o).heap[mb]? = some (.map es cl) := by obtain ⟨_, _, ⟨es, cl, h1, _⟩, _⟩ := hk1; exact ⟨es, cl, h1⟩
 obtain ⟨es, cl, hmb⟩ := hmb1;have hk2 : KM w2 mb L := hk1.grown hg (by
  rcases own_nomap hr1 hmb with e1 | e1
  · rw [e1]; simp
  · exact fun e2 => e1 e2.symm)
 exact hk2.grown hset (fun e1 => by cases e1; rw [hmb] at ht1; cases ht1)
theorem GC.box (h : GC w0 wr ba bt bm mb most tb vN vS NL SL T) {bx o : Nat} {cs : Array Value} (hx : wr.heap[bx]? = some (.cells cs 93 (0, 0))) (h1 : bx ≠ tb) (h2 : ∀ g, vN.ownBlock = some g → g ≠ bx) (h3 : w0.heap.size ≤ bx) (u : Value) : GC w0 (wr.setCell ⟨bx, o, none⟩ u) ba bt bm mb most tb vN vS NL SL T := by
 have hset : wr.grownBy (wr.setCell ⟨bx, o, none⟩ u) (some bx) := Lib.grownBy_setB (grown_refl wr (some bx)) o u;have hc := h.caps hset (fun b cs t hb ht e => by
  cases e;rw [hx] at hb; cases hb;rcases ht with e | e | e <;> revert e <;> decide)
 refine ⟨hc.1, hc.2.1, hc.2.2, h.ab, h.km.grown hset (fun e => ?_), h.gp.kept hset (fun e => h1 (Option.some.inj e).symm) ?_ (own_other h.gp.sts hx (by decide)) (fun v L hn => own_other hn.1 hx (by decide)) (fun k hk => by cases hk; exact h3)⟩
 · cases e;obtain ⟨_, _, ⟨es, cl, hm, _⟩, _⟩ := h.km;rw [hx] at hm; cases hm
 · cases hv : vN.ownBlock with
   | none => exact .inl rfl
   | some g => exact .inr fun e => h2 g hv (Option.some.inj e)
theorem GC.box_ns {v : Value} {L : List Int} (hn : NS w0 wr v L) {bx o : Nat} {cs : Array Value} (hx : wr.heap[bx]? = some (.cells cs 93 (0, 0))) (h3 : w0.heap.size ≤ bx) (u : Value) : NS w0 (wr.setCell ⟨bx, o, none⟩ u) v L :=
 hn.kept (Lib.grownBy_setB (grown_refl wr (some bx)) o u) (own_other hn.1 hx (by decide)) (fun k hk => by cases hk; exact h3)
end
end Go.Proofs.YtpiihmbeedlpkaaGreatDoor
