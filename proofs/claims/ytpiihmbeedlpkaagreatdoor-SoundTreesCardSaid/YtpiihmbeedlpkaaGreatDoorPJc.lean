/- Moves of the tree, what leads to each state, lowering: plain; rows of rows of one's own. Rows of moves, each in its own block; the moves that leave each state. cover.Covers: the closure, and what its loops keep. -/
import Derived.Test.YtpiihmbeedlpkaaGreatDoorPUu
import Derived.Test.YtpiihmbeedlpkaaGreatDoorPHb
import Derived.Test.YtpiihmbeedlpkaaGreatDoorPDe
import Derived.Test.YtpiihmbeedlpkaaGreatDoorPDn
import Derived.Test.YtpiihmbeedlpkaaGreatDoorPHf
import Derived.Maps.AppendAt
namespace Go.Proofs.YtpiihmbeedlpkaaGreatDoor
section
open Go.RowKit

theorem moves_ok {N : Nt} {M : List Int} {T : TS} (h : TInv N M T) : mvOk (movesOf T) T.states.length ∧ ∀ x ∈ movesOf T, 0 ≤ x.s ∧ x.s < (N.tr.length : Int) := by
 have key : ∀ x ∈ movesOf T, (0 ≤ x.f ∧ x.f < (T.states.length : Int) ∧ 0 ≤ x.t ∧ x.t < (T.states.length : Int)) ∧ 0 ≤ x.s ∧ x.s < (N.tr.length : Int) := by
  intro x hx;unfold movesOf at hx;obtain ⟨d, hd, rfl⟩ := List.mem_map.1 hx;obtain ⟨j, hj, rfl⟩ := List.getElem_of_mem hd;rw [List.length_drop] at hj;rw [List.getElem_drop];have hdj : T.nodes[1 + j]? = some T.nodes[1 + j] := List.getElem?_eq_getElem (by omega);obtain ⟨i, k, e, t, hij, h1, h2, h3, _, h5, _⟩ := h.par (1 + j) _ hdj (by omega);have s1 := (List.getElem?_eq_some_iff.1 (h.st _ _ hdj)).1;have s2 := (List.getElem?_eq_some_iff.1 (h.st _ _ h3)).1;have s3 := (List.getElem?_eq_some_iff.1 h5).1;unfold mvOf;simp only;rw [h1, Int.toNat_natCast, h3, h2];simp only;omega
 exact ⟨fun x hx => (key x hx).1, fun x hx => (key x hx).2⟩
def backL (MV : List Mv) (n : Nat) : List (List Int) := (List.range n).map fun t : Nat => (MV.filter fun x => decide (x.t = ((t : Nat) : Int))).map Mv.f
theorem backL_len (MV : List Mv) (n : Nat) : (backL MV n).length = n := by simp [backL]
theorem backL_at (MV : List Mv) (n t : Nat) (h : t < n) : (backL MV n)[t]? = some ((MV.filter fun x => decide (x.t = (t : Int))).map Mv.f) := by
 unfold backL; rw [List.getElem?_map, List.getElem?_range h]; rfl
theorem backL_nil (n : Nat) : backL [] n = List.replicate n [] := by
 apply List.ext_getElem?;intro t;rcases Nat.lt_or_ge t n with h | h
 · rw [backL_at [] n t h]; simp [h]
 · rw [List.getElem?_eq_none (by rw [backL_len]; exact h), List.getElem?_eq_none (by simpa using h)]
theorem backL_short (MV : List Mv) (n t : Nat) {s : List Int} (h : (backL MV n)[t]? = some s) : s.length ≤ MV.length := by
 have ht : t < n := by have := (List.getElem?_eq_some_iff.1 h).1; rwa [backL_len] at this
 rw [backL_at MV n t ht] at h; cases h;rw [List.length_map]; exact List.length_filter_le _ _
theorem backL_mem (MV : List Mv) (n t : Nat) {s : List Int} (h : (backL MV n)[t]? = some s) (f : Int) : f ∈ s ↔ ∃ x ∈ MV, x.t = (t : Int) ∧ x.f = f := by
 have ht : t < n := by have := (List.getElem?_eq_some_iff.1 h).1; rwa [backL_len] at this
 rw [backL_at MV n t ht] at h; cases h;simp [and_assoc]
theorem backL_take (MV : List Mv) (n k t : Nat) (hk : k < MV.length) (ht : MV[k].t = (t : Int)) (htn : t < n) {s : List Int} (hs : (backL (MV.take k) n)[t]? = some s) : backL (MV.take (k + 1)) n = (backL (MV.take k) n).set t (s ++ [MV[k].f]) := by
 rw [backL_at _ n t htn] at hs; cases hs;apply List.ext_getElem?;intro q;rw [List.getElem?_set];rcases Nat.lt_or_ge q n with h | h
 · rw [backL_at _ n q h, backL_at _ n q h, List.take_succ_eq_append_getElem hk, List.filter_append, List.map_append];by_cases e : t = q
   · subst e;rw [if_pos rfl, if_pos (by rw [backL_len]; exact htn)];simp [ht]
   · rw [if_neg e];have : ¬ ((t : Int) = (q : Int)) := by omega
     simp [ht, this]
 · rw [List.getElem?_eq_none (by rw [backL_len]; exact h), if_neg (by omega), List.getElem?_eq_none (by rw [backL_len]; exact h)]
structure BK (B : Nat) (wr : World) (v : Value) (SL : List Value) (LL : List (List Int)) : Prop where
 row : wr.ownsRow B 34 1 v SL.length SL
 len : SL.length = LL.length
 els : ∀ (k : Nat) (x : Value) (s : List Int), SL[k]? = some x → LL[k]? = some s → wr.ownsRow B 3 1 x s.length (s.map (Value.int .i64))
 apart : ∀ (j k : Nat) (x y : Value), j ≠ k → SL[j]? = some x → SL[k]? = some y → x.ownBlock = none ∨ x.ownBlock ≠ y.ownBlock
section
variable {B : Nat} {wr w' : World} {v : Value} {SL : List Value} {LL : List (List Int)}
theorem BK.kept (h : BK B wr v SL LL) {row : Option Nat} (hg : wr.grownBy w' row) (h1 : v.ownBlock = none ∨ v.ownBlock ≠ row) (h2 : ∀ (k : Nat) (x : Value), SL[k]? = some x → x.ownBlock = none ∨ x.ownBlock ≠ row) : BK B w' v SL LL :=
 ⟨h.row.kept hg h1, h.len, fun k x s hx hs => (h.els k x s hx hs).kept hg (h2 k x hx), h.apart⟩
theorem BK.below (h : BK B wr v SL LL) (hb : Below wr.heap.size wr w') : BK B w' v SL LL :=
 ⟨own_stays h.row hb, h.len, fun k x s hx hs => own_stays (h.els k x s hx hs) hb, h.apart⟩
theorem BK.lt (h : BK B wr v SL LL) : (∀ g, v.ownBlock = some g → B ≤ g ∧ g < wr.heap.size) ∧ ∀ (k : Nat) (x : Value) (g : Nat), SL[k]? = some x → x.ownBlock = some g → B ≤ g ∧ g < wr.heap.size := by
 refine ⟨fun g hg => h.row.lt g hg, fun k x g hx hg => ?_⟩;have hk : k < LL.length := by rw [← h.len]; exact (List.getElem?_eq_some_iff.1 hx).1
 exact (h.els k x _ hx (List.getElem?_eq_getElem hk)).lt g hg
theorem BK.far (h : BK B wr v SL LL) {U : Nat} (hU : (∀ g, v.ownBlock = some g → B ≤ g ∧ g < U) ∧ ∀ (k : Nat) (x : Value) (g : Nat), SL[k]? = some x → x.ownBlock = some g → B ≤ g ∧ g < U) {row : Option Nat} (hg : wr.grownBy w' row) (hr : ∀ g, row = some g → g < B ∨ U ≤ g) : BK B w' v SL LL := by
 have key : ∀ x : Value, (∀ g, x.ownBlock = some g → B ≤ g ∧ g < U) → x.ownBlock = none ∨ x.ownBlock ≠ row := by
  intro x hx;cases hb : x.ownBlock with
  | none => exact .inl rfl
  | some g =>
   refine .inr fun e => ?_
   have := hx g hb; have := hr g e.symm; omega
 exact h.kept hg (key v hU.1) fun k x hx => key x fun g hg => hU.2 k x g hx hg
theorem BK.at_ (h : BK B wr v SL LL) {g n c : Nat} (hv : v = .slice (some ⟨g, 0, none⟩) n c) {k : Nat} {s : List Int} (hk : LL[k]? = some s) :
 ∃ u, SL[k]? = some u ∧ g < wr.heap.size ∧ wr.cell? ⟨g, k, none⟩ = some u ∧ wr.frozen? ⟨g, k, none⟩ = false ∧ wr.ownsRow B 3 1 u s.length (s.map (Value.int .i64)) := by
 have hl : k < SL.length := by rw [h.len]; exact (List.getElem?_eq_some_iff.1 hk).1
 have hu : SL[k]? = some SL[k] := List.getElem?_eq_getElem hl;subst hv;refine ⟨SL[k], hu, (h.row.lt g rfl).2, ?_, ?_, h.els k _ s hu hk⟩
 · have hc := h.row.cells (g := g) rfl k _ hu;have ha : (⟨g, 0, none⟩ : Addr).add k = ⟨g, k, none⟩ := by unfold Addr.add; split <;> simp_all
   rw [ha] at hc; exact hc
 · obtain ⟨cur, hc⟩ := own_kind h.row rfl;simp [World.frozen?, hc]
theorem BK.push {g n c : Nat} (h : BK B wr (.slice (some ⟨g, 0, none⟩) n c) SL LL) {t : Nat} {u v' : Value} {s : List Int} (hu : SL[t]? = some u) (hs : LL[t]? = some s) {o : Obj} {x : Int}
 (ho : w'.ownsRow B 3 1 v' (s.length + 1) (s.map (Value.int .i64) ++ [.int .i64 x])) (hg : (wr.alloc o).grownBy w' u.ownBlock) (hat : v'.ownBlock = u.ownBlock ∨ v'.ownBlock = some (wr.alloc o).heap.size) :
 BK B (w'.setCell ⟨g, t, none⟩ v') (.slice (some ⟨g, 0, none⟩) n c) (SL.set t v') (LL.set t (s ++ [x])) := by
 have hu' := h.els t u s hu hs;have ha := h.below (below_alloc wr o);have hset : w'.grownBy (w'.setCell ⟨g, t, none⟩ v') (some g) := Lib.grownBy_setB (grown_refl w' (some g)) t v';have hrow : w'.ownsRow B 34 1 (.slice (some ⟨g, 0, none⟩) n c) SL.length SL := ha.row.kept hg (own_apart ha.row (hu'.alloc o) (by decide));obtain ⟨cur, hcur⟩ := own_kind hrow rfl;have hlt := h.lt;have htl : t < SL.length := (List.getElem?_eq_some_iff.1 hu).1;have hn : n = SL.length := by
  rcases hrow.2 with ⟨hv, _⟩ | ⟨g', cap, cur, hv, _⟩
  · cases hv
  · cases hv; rfl
 subst hn;refine ⟨?_, by rw [List.length_set, List.length_set]; exact h.len, ?_, ?_⟩
 · have := (hrow.stored t v').1;rw [List.length_set]; exact this
 · intro k y q hy hq;rw [List.getElem?_set] at hy hq;by_cases e : t = k
   · subst e;rw [if_pos rfl, if_pos htl] at hy;rw [if_pos rfl, if_pos (by rw [← h.len]; exact htl)] at hq;cases hy; cases hq;rw [List.length_append, List.map_append];exact ho.kept hset (own_other ho hcur (by decide))
   · rw [if_neg e] at hy hq;have h1 := ha.els k y q hy hq;have h2 := h1.kept hg (h.apart k t y u (fun e' => e e'.symm) hy hu);exact h2.kept hset (own_other h2 hcur (by decide))
 · intro j k y z hjk hy hz;rw [List.getElem?_set] at hy hz;have old : ∀ (k : Nat) (z : Value), t ≠ k → SL[k]? = some z → z.ownBlock = none ∨ z.ownBlock ≠ v'.ownBlock := by
    intro k z e hz;rcases hat with e1 | e1
    · rw [e1]; exact h.apart k t z u (fun e' => e e'.symm) hz hu
    · rw [e1];cases hb : z.ownBlock with
      | none => exact .inl rfl
      | some b =>
       refine .inr fun e2 => ?_
       have := hlt.2 k z b hz hb;have := Option.some.inj e2;simp at this; omega
   by_cases e1 : t = j
   · rw [if_pos e1, if_pos htl] at hy;cases hy;rw [if_neg (by omega)] at hz;rcases old k z (by omega) hz with h1 | h1
     · cases hv : v'.ownBlock with
       | none => exact .inl rfl
       | some b => exact .inr (by rw [h1]; simp)
     · exact .inr fun e => h1 e.symm
   · rw [if_neg e1] at hy;by_cases e2 : t = k
     · rw [if_pos e2, if_pos htl] at hz;cases hz;exact old j y e1 hy
     · rw [if_neg e2] at hz;exact h.apart j k y z hjk hy hz
end
theorem BK.start {B : Nat} {w : World} {n : Nat} (hB : B ≤ w.heap.size) (hn : n ≤ 1000000) : BK B (w.alloc (.cells (madeCells #[.slice none 0 0] n) 34)) (.slice (some ⟨w.heap.size, 0, none⟩) n n) (List.replicate n (.slice none 0 0)) (List.replicate n []) := by
 have ho := World.ownsRow_lit (base := B) (e := 34) (size := 1) w (madeCells #[.slice none 0 0] n) n hB (by unfold maxLen; omega) (by simp [madeCells]);rw [toList_madeCells_one] at ho;refine ⟨by rw [List.length_replicate]; exact ho, by simp, fun k x s hx hs => ?_, fun j k x y _ hx _ => ?_⟩
 · have h1 : x = .slice none 0 0 := List.eq_of_mem_replicate (List.mem_of_getElem? hx);have h2 : s = [] := List.eq_of_mem_replicate (List.mem_of_getElem? hs);subst h1 h2;exact World.ownsRow_nil _ _ _ _
 · have h1 : x = .slice none 0 0 := List.eq_of_mem_replicate (List.mem_of_getElem? hx);subst h1; exact .inl rfl
theorem step_append_at {P : Program} {w : World} {ops : Array Oper} {o : Oper} {a : Act} {K : Act → World → Prop} {Q : Exit → Act → World → Prop} {E : Prop} (hgd : o.guard = none) (s x : Operand) (t : TypeId)
 (ho : o.op = .call { callee := .builtin .append, args := #[s, x], argTypes := #[t, t] })
 (base : Nat) (e : TypeId) (i : TypeInfo) (z : Value) (size bytes : Nat) (ht : P.underlying t = some (.slice e)) (hi : P.info? e = some i) (hz : i.zero = some z)
 (hsize : i.size = size) (hby : i.bytes = bytes) (hzs : z.cells.size = size) (hsz : 0 < size)
 (v : Value) (n : Nat) (xs : List Value) (hs : a.eval s = v) (hown : w.ownsRow base e size v n xs)
 (ad : Addr) (m c : Nat) (news : List Value) (hx : a.eval x = .slice (some ad) m c) (hl : news.length = m * size) (hnews : ∀ j u, news[j]? = some u → w.cell? (ad.add j) = some u) (h1 : ∀ u ∈ news, u.oneCell' = true)
 (h63 : n + m ≤ maxLen) (hbytes : (n + m) * bytes ≤ 140737488355328) (hbase : base ≤ w.heap.size)
 (h : ∀ v' w', w'.ownsRow base e size v' (n + m) (xs ++ news) → w.grownBy w' v.ownBlock → (v'.ownBlock = v.ownBlock ∨ v'.ownBlock = some w.heap.size) → K (a.put o.dst v') w') :
 if Region.wanted o (yielded ops a.tmps) = true then Oper.wp P o a w K Q else E := by
 have hw : Region.wanted o (yielded ops a.tmps) = true := by simp [Region.wanted, hgd]
 rw [if_pos hw];obtain ⟨v', w', hr, h2, h3, _, h5⟩ := run_append_own_at (P := P) w base t o.type e i z size bytes ht hi hz hsize hby hzs hsz v n xs hown ad m c news hl hnews h1 h63 hbytes hbase;unfold Oper.wp execOp;simp only [ho, resolve, invoke, builtin, Sem.run_bind, Sem.run_pure, Result.andThen_ok, List.map_toArray, List.map_cons, List.map_nil, hs, hx, hr];exact h v' w' h2 h3 h5
end
section
open Go.RowKit

def outL (MV : List Mv) (n : Nat) : List (List Mv) := (List.range n).map fun t : Nat => MV.filter fun x => decide (x.f = ((t : Nat) : Int))
theorem outL_len (MV : List Mv) (n : Nat) : (outL MV n).length = n := by simp [outL]
theorem outL_at (MV : List Mv) (n t : Nat) (h : t < n) : (outL MV n)[t]? = some (MV.filter fun x => decide (x.f = (t : Int))) := by
 unfold outL; rw [List.getElem?_map, List.getElem?_range h]; rfl
theorem outL_nil (n : Nat) : outL [] n = List.replicate n [] := by
 apply List.ext_getElem?;intro t;rcases Nat.lt_or_ge t n with h | h
 · rw [outL_at [] n t h]; simp [h]
 · rw [List.getElem?_eq_none (by rw [outL_len]; exact h), List.getElem?_eq_none (by simpa using h)]
theorem outL_short (MV : List Mv) (n t : Nat) {s : List Mv} (h : (outL MV n)[t]? = some s) : s.length ≤ MV.length := by
 have ht : t < n := by have := (List.getElem?_eq_some_iff.1 h).1; rwa [outL_len] at this
 rw [outL_at MV n t ht] at h; cases h;exact List.length_filter_le _ _
theorem outL_mem (MV : List Mv) (n t : Nat) {s : List Mv} (h : (outL MV n)[t]? = some s) (x : Mv) : x ∈ s ↔ x ∈ MV ∧ x.f = (t : Int) := by
 have ht : t < n := by have := (List.getElem?_eq_some_iff.1 h).1; rwa [outL_len] at this
 rw [outL_at MV n t ht] at h; cases h;simp
theorem outL_take (MV : List Mv) (n k t : Nat) (hk : k < MV.length) (ht : MV[k].f = (t : Int)) (htn : t < n) {s : List Mv} (hs : (outL (MV.take k) n)[t]? = some s) : outL (MV.take (k + 1)) n = (outL (MV.take k) n).set t (s ++ [MV[k]]) := by
 rw [outL_at _ n t htn] at hs; cases hs;apply List.ext_getElem?;intro q;rw [List.getElem?_set];rcases Nat.lt_or_ge q n with h | h
 · rw [outL_at _ n q h, outL_at _ n q h, List.take_succ_eq_append_getElem hk, List.filter_append];by_cases e : t = q
   · subst e;rw [if_pos rfl, if_pos (by rw [outL_len]; exact htn)];simp [ht]
   · rw [if_neg e];have : ¬ ((t : Int) = (q : Int)) := by omega
     simp [ht, this]
 · rw [List.getElem?_eq_none (by rw [outL_len]; exact h), if_neg (by omega), List.getElem?_eq_none (by rw [outL_len]; exact h)]
structure BM (B : Nat) (wr : World) (v : Value) (SL : List Value) (LL : List (List Mv)) : Prop where
 row : wr.ownsRow B 36 1 v SL.length SL
 len : SL.length = LL.length
 els : ∀ (k : Nat) (x : Value) (s : List Mv), SL[k]? = some x → LL[k]? = some s → wr.ownsRow B 71 3 x s.length (s.flatMap mvC)
 apart : ∀ (j k : Nat) (x y : Value), j ≠ k → SL[j]? = some x → SL[k]? = some y → x.ownBlock = none ∨ x.ownBlock ≠ y.ownBlock
section
variable {B : Nat} {wr w' : World} {v : Value} {SL : List Value} {LL : List (List Mv)}
theorem BM.below (h : BM B wr v SL LL) (hb : Below wr.heap.size wr w') : BM B w' v SL LL :=
 ⟨own_stays h.row hb, h.len, fun k x s hx hs => own_stays (h.els k x s hx hs) hb, h.apart⟩
theorem BM.lt (h : BM B wr v SL LL) : (∀ g, v.ownBlock = some g → B ≤ g ∧ g < wr.heap.size) ∧ ∀ (k : Nat) (x : Value) (g : Nat), SL[k]? = some x → x.ownBlock = some g → B ≤ g ∧ g < wr.heap.size := by
 refine ⟨fun g hg => h.row.lt g hg, fun k x g hx hg => ?_⟩;have hk : k < LL.length := by rw [← h.len]; exact (List.getElem?_eq_some_iff.1 hx).1
 exact (h.els k x _ hx (List.getElem?_eq_getElem hk)).lt g hg
theorem BM.at_ (h : BM B wr v SL LL) {g n c : Nat} (hv : v = .slice (some ⟨g, 0, none⟩) n c) {k : Nat} {s : List Mv} (hk : LL[k]? = some s) :
 ∃ u, SL[k]? = some u ∧ g < wr.heap.size ∧ wr.cell? ⟨g, k, none⟩ = some u ∧ wr.frozen? ⟨g, k, none⟩ = false ∧ wr.ownsRow B 71 3 u s.length (s.flatMap mvC) := by
 have hl : k < SL.length := by rw [h.len]; exact (List.getElem?_eq_some_iff.1 hk).1
 have hu : SL[k]? = some SL[k] := List.getElem?_eq_getElem hl;subst hv;refine ⟨SL[k], hu, (h.row.lt g rfl).2, ?_, ?_, h.els k _ s hu hk⟩
 · have hc := h.row.cells (g := g) rfl k _ hu;have ha : (⟨g, 0, none⟩ : Addr).add k = ⟨g, k, none⟩ := by unfold Addr.add; split <;> simp_all
   rw [ha] at hc; exact hc
 · obtain ⟨cur, hc⟩ := own_kind h.row rfl;simp [World.frozen?, hc]
theorem BM.push {g n c : Nat} (h : BM B wr (.slice (some ⟨g, 0, none⟩) n c) SL LL) {t : Nat} {u v' : Value} {s : List Mv} (hu : SL[t]? = some u) (hs : LL[t]? = some s) {o : Obj} {x : Mv}
 (ho : w'.ownsRow B 71 3 v' (s.length + 1) (s.flatMap mvC ++ mvC x)) (hg : (wr.alloc o).grownBy w' u.ownBlock) (hat : v'.ownBlock = u.ownBlock ∨ v'.ownBlock = some (wr.alloc o).heap.size) :
 BM B (w'.setCell ⟨g, t, none⟩ v') (.slice (some ⟨g, 0, none⟩) n c) (SL.set t v') (LL.set t (s ++ [x])) := by
 have hu' := h.els t u s hu hs;have ha := h.below (below_alloc wr o);have hset : w'.grownBy (w'.setCell ⟨g, t, none⟩ v') (some g) := Lib.grownBy_setB (grown_refl w' (some g)) t v';have hrow : w'.ownsRow B 36 1 (.slice (some ⟨g, 0, none⟩) n c) SL.length SL := ha.row.kept hg (own_apart ha.row (hu'.alloc o) (by decide));obtain ⟨cur, hcur⟩ := own_kind hrow rfl;have hlt := h.lt;have htl : t < SL.length := (List.getElem?_eq_some_iff.1 hu).1;have hn : n = SL.length := by
  rcases hrow.2 with ⟨hv, _⟩ | ⟨g', cap, cur, hv, _⟩
  · cases hv
  · cases hv; rfl
 subst hn;refine ⟨?_, by rw [List.length_set, List.length_set]; exact h.len, ?_, ?_⟩
 · have := (hrow.stored t v').1;rw [List.length_set]; exact this
 · intro k y q hy hq;rw [List.getElem?_set] at hy hq;by_cases e : t = k
   · subst e;rw [if_pos rfl, if_pos htl] at hy;rw [if_pos rfl, if_pos (by rw [← h.len]; exact htl)] at hq;cases hy; cases hq;rw [List.length_append, List.flatMap_append, show [x].flatMap mvC = mvC x by simp];exact ho.kept hset (own_other ho hcur (by decide))
   · rw [if_neg e] at hy hq;have h1 := ha.els k y q hy hq;have h2 := h1.kept hg (h.apart k t y u (fun e' => e e'.symm) hy hu);exact h2.kept hset (own_other h2 hcur (by decide))
 · intro j k y z hjk hy hz;rw [List.getElem?_set] at hy hz;have old : ∀ (k : Nat) (z : Value), t ≠ k → SL[k]? = some z → z.ownBlock = none ∨ z.ownBlock ≠ v'.ownBlock := by
    intro k z e hz;rcases hat with e1 | e1
    · rw [e1]; exact h.apart k t z u (fun e' => e e'.symm) hz hu
    · rw [e1];cases hb : z.ownBlock with
      | none => exact .inl rfl
      | some b =>
       refine .inr fun e2 => ?_
       have := hlt.2 k z b hz hb;have := Option.some.inj e2;simp at this; omega
   by_cases e1 : t = j
   · rw [if_pos e1, if_pos htl] at hy;cases hy;rw [if_neg (by omega)] at hz;rcases old k z (by omega) hz with h1 | h1
     · cases hv : v'.ownBlock with
       | none => exact .inl rfl
       | some b => exact .inr (by rw [h1]; simp)
     · exact .inr fun e => h1 e.symm
   · rw [if_neg e1] at hy;by_cases e2 : t = k
     · rw [if_pos e2, if_pos htl] at hz;cases hz;exact old j y e1 hy
     · rw [if_neg e2] at hz;exact h.apart j k y z hjk hy hz
end
theorem BM.start {B : Nat} {w : World} {n : Nat} (hB : B ≤ w.heap.size) (hn : n ≤ 1000000) : BM B (w.alloc (.cells (madeCells #[.slice none 0 0] n) 36)) (.slice (some ⟨w.heap.size, 0, none⟩) n n) (List.replicate n (.slice none 0 0)) (List.replicate n []) := by
 have ho := World.ownsRow_lit (base := B) (e := 36) (size := 1) w (madeCells #[.slice none 0 0] n) n hB (by unfold maxLen; omega) (by simp [madeCells]);rw [toList_madeCells_one] at ho;refine ⟨by rw [List.length_replicate]; exact ho, by simp, fun k x s hx hs => ?_, fun j k x y _ hx _ => ?_⟩
 · have h1 : x = .slice none 0 0 := List.eq_of_mem_replicate (List.mem_of_getElem? hx);have h2 : s = [] := List.eq_of_mem_replicate (List.mem_of_getElem? hs);subst h1 h2;exact World.ownsRow_nil _ _ _ _
 · have h1 : x = .slice none 0 0 := List.eq_of_mem_replicate (List.mem_of_getElem? hx);subst h1; exact .inl rfl
end
section
open Go.RowKit

def fill1 (n k : Nat) : List Int := List.replicate k (-1) ++ List.replicate (n - k) 0
theorem fill1_len (n k : Nat) (h : k ≤ n) : (fill1 n k).length = n := by unfold fill1; simp; omega
theorem fill1_set (n k : Nat) (h : k < n) : (fill1 n k).set k (-1) = fill1 n (k + 1) := by
 apply List.ext_getElem?;intro j;unfold fill1;rw [List.getElem?_set];by_cases e : k = j
 · subst e;rw [if_pos rfl, if_pos (by simp; omega), List.getElem?_append_left (by simp)];simp
 · rw [if_neg e];rcases Nat.lt_or_ge j k with hj | hj
   · rw [List.getElem?_append_left (by simpa using hj), List.getElem?_append_left (by simp; omega)];simp [hj, show j < k + 1 by omega]
   · rw [List.getElem?_append_right (by simpa using hj), List.getElem?_append_right (by simp; omega)];simp only [List.length_replicate];rw [List.getElem?_replicate, List.getElem?_replicate];by_cases h2 : j < n
     · rw [if_pos (by omega), if_pos (by omega)]
     · rw [if_neg (by omega), if_neg (by omega)]
theorem fill1_full (n : Nat) : fill1 n n = List.replicate n (-1) := by simp [fill1]
theorem NS.made (w : World) (n : Nat) (hn : n ≤ 1000000) : NS w (w.alloc (.cells (madeCells #[.int .i64 0] n) 3)) (.slice (some ⟨w.heap.size, 0, none⟩) n n) (fill1 n 0) := by
 have ho := World.ownsRow_lit (base := w.heap.size) (e := 3) (size := 1) w (madeCells #[.int .i64 0] n) n (Nat.le_refl _) (by unfold maxLen; omega) (by simp [madeCells]);rw [toList_madeCells_one] at ho;refine ⟨?_, below_alloc w _⟩;rw [fill1_len n 0 (Nat.zero_le _)];have e : (fill1 n 0).map (Value.int .i64) = List.replicate n (.int .i64 0) := by unfold fill1; simp
 rw [e]; exact ho
def FiI (n : Nat) (w1 : World) (fb g : Nat) (iv : Value) (wr : World) : Prop :=
 ∃ k : Nat, k + g = n ∧ iv = .int .i64 (k : Int) ∧ NS w1 wr (.slice (some ⟨fb, 0, none⟩) n n) (fill1 n k)
def QR (U : Nat) (wr : World) (v : Value) (Q : List Int) : Prop := wr.ownsRow U 3 1 v Q.length (Q.map (Value.int .i64))
structure BS (MV : List Mv) (goal n : Nat) (LL : List (List Int)) (w1 : World) (B U fb gb : Nat) (SL : List Value) (F Q : List Int) (i : Nat) (part : List Int) (qv : Value) (wr : World) : Prop where
 bi : BI MV goal n F Q i part
 far : NS w1 wr (.slice (some ⟨fb, 0, none⟩) n n) F
 que : QR U wr qv Q
 bk : BK B wr (.slice (some ⟨gb, 0, none⟩) n n) SL LL
 il : i ≤ Q.length
 us : U ≤ wr.heap.size
def QuI (MV : List Mv) (goal n : Nat) (LL : List (List Int)) (w1 : World) (B U fb gb : Nat) (SL : List Value) (g : Nat) (iv qv : Value) (wr : World) : Prop :=
 ∃ (i : Nat) (F Q : List Int), i + g = n ∧ iv = .int .i64 (i : Int) ∧ BS MV goal n LL w1 B U fb gb SL F Q i [] qv wr
def Qu2 (MV : List Mv) (goal n : Nat) (LL : List (List Int)) (w1 : World) (B U fb gb : Nat) (SL : List Value) (i : Nat) (c : Int) (s : List Int) (g : Nat) (jv qv : Value) (wr : World) : Prop :=
 ∃ (j : Nat) (F Q : List Int), j + g = s.length ∧ jv = .int .i64 (j : Int) ∧ Q[i]? = some c ∧ BS MV goal n LL w1 B U fb gb SL F Q i (s.take j) qv wr
theorem BS.lower {MV : List Mv} {goal n : Nat} {LL : List (List Int)} {w1 : World} {B U fb gb : Nat} {SL : List Value} {F Q : List Int} {i : Nat} {part : List Int} {qv : Value} {wr w' : World} (h : BS MV goal n LL w1 B U fb gb SL F Q i part qv wr) (hn : mvOk MV n)
 (hU : (∀ g, (Value.slice (some ⟨gb, 0, none⟩) n n).ownBlock = some g → B ≤ g ∧ g < U) ∧ ∀ (k : Nat) (x : Value) (g : Nat), SL[k]? = some x → x.ownBlock = some g → B ≤ g ∧ g < U) (hfb : fb < B) (hBU : B ≤ U) (hw1 : w1.heap.size ≤ fb)
 {c : Int} (hc : Q[i]? = some c) {x : Mv} (hx : x ∈ MV) (ht : x.t = c) (hneg : fd F x.f < 0) {o : Obj} {v' : Value}
 (ho : w'.ownsRow U 3 1 v' (Q.length + 1) (Q.map (Value.int .i64) ++ [.int .i64 x.f])) (hg : ((wr.setCell ⟨fb, x.f.toNat, none⟩ (.int .i64 (fd F c + 1))).alloc o).grownBy w' qv.ownBlock) :
 BS MV goal n LL w1 B U fb gb SL (F.set x.f.toNat (fd F c + 1)) (Q ++ [x.f]) i (part ++ [x.f]) v' w' := by
 have h1 := h.bi.pred hc hx ht hn;rw [if_pos hneg, if_pos hneg] at h1;have hset : wr.grownBy (wr.setCell ⟨fb, x.f.toNat, none⟩ (.int .i64 (fd F c + 1))) (some fb) := Lib.grownBy_setB (grown_refl wr (some fb)) x.f.toNat _;have hf := h.far.set hw1 x.f.toNat (fd F c + 1);have hfa := hf.below (below_alloc _ o);have hq : ∀ g, qv.ownBlock = some g → U ≤ g := fun g hg => (h.que.lt g hg).1
 refine ⟨h1, hfa.kept hg (.inr fun e => ?_) (fun k hk => ?_), ?_, ?_, by rw [List.length_append]; have := h.il; omega, ?_⟩
 · have := hq fb e.symm; omega
 · have := hq k hk; omega
 · unfold QR; rw [List.length_append, List.map_append]; exact ho
 · have h2 := h.bk.far hU hset (fun g hg => by cases hg; exact .inl hfb);exact (h2.below (below_alloc _ o)).far hU hg (fun g hg => .inr (hq g hg))
 · have := h.us; have := hg.size; simp at this; omega
theorem BS.same {MV : List Mv} {goal n : Nat} {LL : List (List Int)} {w1 : World} {B U fb gb : Nat} {SL : List Value} {F Q : List Int} {i : Nat} {part : List Int} {qv : Value} {wr : World} (h : BS MV goal n LL w1 B U fb gb SL F Q i part qv wr) (hn : mvOk MV n)
 {c : Int} (hc : Q[i]? = some c) {x : Mv} (hx : x ∈ MV) (ht : x.t = c) (hneg : ¬ fd F x.f < 0) : BS MV goal n LL w1 B U fb gb SL F Q i (part ++ [x.f]) qv wr := by
 have h1 := h.bi.pred hc hx ht hn;rw [if_neg hneg, if_neg hneg] at h1;exact ⟨h1, h.far, h.que, h.bk, h.il, h.us⟩
theorem QR.slice {U : Nat} {wr : World} {v : Value} {Q : List Int} (h : QR U wr v Q) : ∃ A c, v = .slice A Q.length c := by
 rcases h.2 with ⟨rfl, h0⟩ | ⟨g, cap, cur, rfl, _⟩
 · exact ⟨none, 0, by rw [h0]⟩
 · exact ⟨_, cap, rfl⟩
theorem QR.at_ {U : Nat} {wr : World} {v : Value} {Q : List Int} (h : QR U wr v Q) {i : Nat} {c : Int} (hc : Q[i]? = some c) : ∃ g cap, v = .slice (some ⟨g, 0, none⟩) Q.length cap ∧ U ≤ g ∧ g < wr.heap.size ∧ wr.cell? ⟨g, i, none⟩ = some (.int .i64 c) := by
 have hl := (List.getElem?_eq_some_iff.1 hc).1;obtain ⟨A, cap, rfl, hA⟩ := row_slice h;obtain ⟨g, rfl, h1, h2⟩ := hA (by omega);refine ⟨g, cap, rfl, h1, h2, ?_⟩;have hq := h.cells (g := g) rfl i (.int .i64 c) (by rw [List.getElem?_map, hc]; rfl);have ha : (⟨g, 0, none⟩ : Addr).add i = ⟨g, i, none⟩ := by unfold Addr.add; split <;> simp_all
 rw [ha] at hq; exact hq
theorem NS.fdc {w wr : World} {g n cap : Nat} {F : List Int} (h : NS w wr (.slice (some ⟨g, 0, none⟩) n cap) F) (hl : F.length = n) (p : Nat) (hp : p < n) :
 wr.cell? ⟨g, p, none⟩ = some (.int .i64 (fd F p)) ∧ wr.frozen? ⟨g, p, none⟩ = false := by
 have hpl : p < F.length := by rw [hl]; exact hp
 obtain ⟨h1, h2⟩ := h.cells p hpl;have e : fd F p = F[p] := by unfold fd; simp [hpl]
 exact ⟨by rw [e]; exact h1, h2⟩
end
end Go.Proofs.YtpiihmbeedlpkaaGreatDoor
