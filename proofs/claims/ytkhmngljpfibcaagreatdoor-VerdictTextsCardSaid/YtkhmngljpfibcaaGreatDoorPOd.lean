/- A certificate that grows, in memory. -/
import Derived.Test.YtkhmngljpfibcaaGreatDoorPUu
import Derived.Test.YtkhmngljpfibcaaGreatDoorPOc
import Derived.Maps.AppendAt
namespace Go.Proofs.YtkhmngljpfibcaaGreatDoor
open Go.RowKit

def Apart (a b : Value) : Prop := ∀ g, a.ownBlock = some g → b.ownBlock ≠ some g
theorem Apart.symm {a b : Value} (h : Apart a b) : Apart b a := fun g h1 h2 => h g h2 h1
theorem apart_nil (v : Value) : Apart (.slice none 0 0) v := fun g h => by cases h
theorem Apart.or {a b : Value} (h : Apart a b) : a.ownBlock = none ∨ a.ownBlock ≠ b.ownBlock := by
 cases e : a.ownBlock with
 | none => exact .inl rfl
 | some g => exact .inr (fun e2 => h g e e2.symm)
structure CeB (w0 w : World) (b : Nat) (vr vp vk vv vs vx : Value) (C : Ce) : Prop where
 blk : w.heap[b]? = some (.cells #[.int .i64 C.cl, .int .i64 C.cn, vr, vp, vk, vv, vs, vx] 31 (0, 0))
 bb : w0.heap.size ≤ b
 r : NS w0 w vr C.r
 p : NS w0 w vp C.p
 k : OLL w0 w vk C.k
 v : OMv w0 w vv C.v
 s : OLL w0 w vs C.s
 x : OLL w0 w vx C.x
 ks : Apart vk vs
 kx : Apart vk vx
 sx : Apart vs vx
section
variable {w0 w w' : World} {b : Nat} {vr vp vk vv vs vx : Value} {C : Ce}
theorem CeB.lt (h : CeB w0 w b vr vp vk vv vs vx C) : b < w.heap.size := (Array.getElem?_eq_some_iff.1 h.blk).1
theorem CeB.bel (h : CeB w0 w b vr vp vk vv vs vx C) : Below w0.heap.size w0 w := h.r.2
theorem CeB.below (h : CeB w0 w b vr vp vk vv vs vx C) (hb : Below w.heap.size w w') : CeB w0 w' b vr vp vk vv vs vx C :=
 ⟨by rw [hb.block b h.lt]; exact h.blk, h.bb, h.r.below hb, h.p.below hb, h.k.below hb, h.v.below hb, h.s.below hb, h.x.below hb, h.ks, h.kx, h.sx⟩
theorem CeB.cells (h : CeB w0 w b vr vp vk vv vs vx C) : w.cell? ⟨b, 0, none⟩ = some (.int .i64 C.cl) ∧ w.cell? ⟨b, 1, none⟩ = some (.int .i64 C.cn) ∧ w.cell? ⟨b, 2, none⟩ = some vr ∧ w.cell? ⟨b, 3, none⟩ = some vp ∧ w.cell? ⟨b, 4, none⟩ = some vk ∧ w.cell? ⟨b, 5, none⟩ = some vv ∧ w.cell? ⟨b, 6, none⟩ = some vs ∧ w.cell? ⟨b, 7, none⟩ = some vx := by
 have := h.blk;simp [World.cell?, this]
theorem CeB.soft (h : CeB w0 w b vr vp vk vv vs vx C) (o : Nat) : w.frozen? ⟨b, o, none⟩ = false := by
 have := h.blk;simp [World.frozen?, this]
theorem CeB.put (h : CeB w0 w b vr vp vk vv vs vx C) {o : Nat} {u : Value} {C' : Ce} {ur up uk uv us ux : Value} (hc : ((#[.int .i64 C.cl, .int .i64 C.cn, vr, vp, vk, vv, vs, vx] : Array Value).setIfInBounds o u) = #[.int .i64 C'.cl, .int .i64 C'.cn, ur, up, uk, uv, us, ux])
 (hr : NS w0 w ur C'.r) (hp : NS w0 w up C'.p) (hk : OLL w0 w uk C'.k) (hv : OMv w0 w uv C'.v) (hs : OLL w0 w us C'.s) (hx : OLL w0 w ux C'.x) (h1 : Apart uk us) (h2 : Apart uk ux) (h3 : Apart us ux) :
 CeB w0 (w.setCell ⟨b, o, none⟩ u) b ur up uk uv us ux C' :=
 ⟨by rw [heap_set2 h.blk, hc], h.bb, ns_box hr h.blk (by decide) h.bb u, ns_box hp h.blk (by decide) h.bb u, hk.box h.blk (by decide) (by decide) h.bb u, hv.box h.blk (by decide) h.bb u, hs.box h.blk (by decide) (by decide) h.bb u, hx.box h.blk (by decide) (by decide) h.bb u, h1, h2, h3⟩
theorem CeB.setCl (h : CeB w0 w b vr vp vk vv vs vx C) (k : Int) : CeB w0 (w.setCell ⟨b, 0, none⟩ (.int .i64 k)) b vr vp vk vv vs vx { C with cl := k } :=
 h.put (C' := { C with cl := k }) rfl h.r h.p h.k h.v h.s h.x h.ks h.kx h.sx
theorem CeB.setCn (h : CeB w0 w b vr vp vk vv vs vx C) (k : Int) : CeB w0 (w.setCell ⟨b, 1, none⟩ (.int .i64 k)) b vr vp vk vv vs vx { C with cn := k } :=
 h.put (C' := { C with cn := k }) rfl h.r h.p h.k h.v h.s h.x h.ks h.kx h.sx
theorem CeB.setR (h : CeB w0 w b vr vp vk vv vs vx C) {u : Value} {l : List Int} (hu : NS w0 w u l) : CeB w0 (w.setCell ⟨b, 2, none⟩ u) b u vp vk vv vs vx { C with r := l } :=
 h.put (C' := { C with r := l }) rfl hu h.p h.k h.v h.s h.x h.ks h.kx h.sx
theorem CeB.setP (h : CeB w0 w b vr vp vk vv vs vx C) {u : Value} {l : List Int} (hu : NS w0 w u l) : CeB w0 (w.setCell ⟨b, 3, none⟩ u) b vr u vk vv vs vx { C with p := l } :=
 h.put (C' := { C with p := l }) rfl h.r hu h.k h.v h.s h.x h.ks h.kx h.sx
theorem OLL.app_ne {v x : Value} {LL : List (List Int)} (h : OLL w0 w v LL) {o : Obj} {n : Nat} {xs : List Value} (hr : w.ownsRow w0.heap.size 27 1 x n xs) (hne : Apart v x) (hg : (w.alloc o).grownBy w' x.ownBlock) : OLL w0 w' v LL := by
 obtain ⟨SL, a1, a2, a3, a4⟩ := h;have hb5 : ∀ k, x.ownBlock = some k → w0.heap.size ≤ k := fun k hk => (hr.lt k hk).1
 exact ⟨SL, (a1.alloc o).kept hg hne.or, a2, fun k y s hk hs => ((a3 k y s hk hs).below (below_alloc w o)).kept hg (own_apart ((a3 k y s hk hs).below (below_alloc w o)).1 (hr.alloc o) (by decide)) hb5, (a4.alloc a4.size o).grown hg (by have := a4.size; simp; omega) hb5⟩
theorem ns_app {u x : Value} {l : List Int} (hn : NS w0 w u l) {o : Obj} {e : TypeId} {k n : Nat} {xs : List Value} (hr : w.ownsRow w0.heap.size e k x n xs) (he : 3 ≠ e) (hg : (w.alloc o).grownBy w' x.ownBlock) : NS w0 w' u l :=
 (hn.below (below_alloc w o)).kept hg (own_apart (hn.below (below_alloc w o)).1 (hr.alloc o) he) (fun k hk => (hr.lt k hk).1)
theorem omv_app {u x : Value} {V : List Mv} (hn : OMv w0 w u V) {o : Obj} {n : Nat} {xs : List Value} (hr : w.ownsRow w0.heap.size 27 1 x n xs) (hg : (w.alloc o).grownBy w' x.ownBlock) : OMv w0 w' u V :=
 ⟨(hn.1.alloc o).kept hg (own_apart (hn.1.alloc o) (hr.alloc o) (by decide)), (hn.2.alloc hn.2.size o).grown hg (by have := hn.2.size; simp; omega) (fun k hk => (hr.lt k hk).1)⟩
theorem apart_push {x v' v : Value} {n : Nat} {LL : List (List Int)} (hx : Apart x v) (hl : OLL w0 w v LL) (hn : n = w.heap.size + 1) (h : v'.ownBlock = x.ownBlock ∨ v'.ownBlock = some n) : Apart v' v := by
 intro g h1 h2;rcases h with h | h
 · exact hx g (h.symm.trans h1) h2
 · obtain ⟨SL, a1, _⟩ := hl;have := (a1.lt g h2).2;rw [h] at h1; cases h1; omega
theorem CeB.blk2 (h : CeB w0 w b vr vp vk vv vs vx C) {o : Obj} {x : Value} {e : TypeId} {k n : Nat} {xs : List Value} (hr : w.ownsRow w0.heap.size e k x n xs) (he : e ≠ 31) (hg : (w.alloc o).grownBy w' x.ownBlock) :
 w'.heap[b]? = some (.cells #[.int .i64 C.cl, .int .i64 C.cn, vr, vp, vk, vv, vs, vx] 31 (0, 0)) := by
 have hlt := h.lt;have h1 : (w.alloc o).heap[b]? = some (.cells #[.int .i64 C.cl, .int .i64 C.cn, vr, vp, vk, vv, vs, vx] 31 (0, 0)) := by
  rw [(below_alloc w o).block b hlt]; exact h.blk
 have h2 : some b ≠ x.ownBlock := by
  intro e2;have := own_other (hr.alloc o) h1 he;rcases this with e3 | e3
  · rw [← e2] at e3; cases e3
  · exact e3 e2.symm
 rw [hg.block b (by simp; omega) h2]; exact h1
theorem CeB.pushK (h : CeB w0 w b vr vp vk vv vs vx C) {SL : List Value} (h1 : w.ownsRow w0.heap.size 27 1 vk C.k.length SL) (h2 : SL.length = C.k.length) (h3 : ∀ (k : Nat) (u : Value) (s : List Int), SL[k]? = some u → C.k[k]? = some s → NS w0 w u s)
 {o : Obj} {u v' : Value} {l : List Int} (hu : NS w0 w u l) (ho : w'.ownsRow w0.heap.size 27 1 v' (C.k.length + 1) (SL ++ [u])) (hg : (w.alloc o).grownBy w' vk.ownBlock) (ha : v'.ownBlock = vk.ownBlock ∨ v'.ownBlock = some (w.heap.size + 1)) :
 CeB w0 (w'.setCell ⟨b, 4, none⟩ v') b vr vp v' vv vs vx { C with k := C.k ++ [l] } := by
 have e := h.blk2 h1 (by decide) hg;have hw : CeB w0 w' b vr vp v' vv vs vx { C with k := C.k ++ [l] } ∨ True := .inr trivial;clear hw;have hk := OLL.push h1 h2 h3 h.bel hu ho hg;have hr := ns_app h.r h1 (by decide) hg;have hp := ns_app h.p h1 (by decide) hg;have hv := omv_app h.v h1 hg;have hs := h.s.app_ne h1 h.ks.symm hg;have hx := h.x.app_ne h1 h.kx.symm hg;exact ⟨by rw [heap_set2 e]; rfl, h.bb, ns_box hr e (by decide) h.bb v', ns_box hp e (by decide) h.bb v', hk.box e (by decide) (by decide) h.bb v', hv.box e (by decide) h.bb v', hs.box e (by decide) (by decide) h.bb v', hx.box e (by decide) (by decide) h.bb v', apart_push h.ks h.s rfl ha, apart_push h.kx h.x rfl ha, h.sx⟩
theorem CeB.pushS (h : CeB w0 w b vr vp vk vv vs vx C) {SL : List Value} (h1 : w.ownsRow w0.heap.size 27 1 vs C.s.length SL) (h2 : SL.length = C.s.length) (h3 : ∀ (k : Nat) (u : Value) (s : List Int), SL[k]? = some u → C.s[k]? = some s → NS w0 w u s)
 {o : Obj} {u v' : Value} {l : List Int} (hu : NS w0 w u l) (ho : w'.ownsRow w0.heap.size 27 1 v' (C.s.length + 1) (SL ++ [u])) (hg : (w.alloc o).grownBy w' vs.ownBlock) (ha : v'.ownBlock = vs.ownBlock ∨ v'.ownBlock = some (w.heap.size + 1)) :
 CeB w0 (w'.setCell ⟨b, 6, none⟩ v') b vr vp vk vv v' vx { C with s := C.s ++ [l] } := by
 have e := h.blk2 h1 (by decide) hg;have hs := OLL.push h1 h2 h3 h.bel hu ho hg;have hr := ns_app h.r h1 (by decide) hg;have hp := ns_app h.p h1 (by decide) hg;have hv := omv_app h.v h1 hg;have hk := h.k.app_ne h1 h.ks hg;have hx := h.x.app_ne h1 h.sx.symm hg;exact ⟨by rw [heap_set2 e]; rfl, h.bb, ns_box hr e (by decide) h.bb v', ns_box hp e (by decide) h.bb v', hk.box e (by decide) (by decide) h.bb v', hv.box e (by decide) h.bb v', hs.box e (by decide) (by decide) h.bb v', hx.box e (by decide) (by decide) h.bb v', (apart_push h.ks.symm h.k rfl ha).symm, h.kx, apart_push h.sx h.x rfl ha⟩
theorem CeB.pushX (h : CeB w0 w b vr vp vk vv vs vx C) {SL : List Value} (h1 : w.ownsRow w0.heap.size 27 1 vx C.x.length SL) (h2 : SL.length = C.x.length) (h3 : ∀ (k : Nat) (u : Value) (s : List Int), SL[k]? = some u → C.x[k]? = some s → NS w0 w u s)
 {o : Obj} {u v' : Value} {l : List Int} (hu : NS w0 w u l) (ho : w'.ownsRow w0.heap.size 27 1 v' (C.x.length + 1) (SL ++ [u])) (hg : (w.alloc o).grownBy w' vx.ownBlock) (ha : v'.ownBlock = vx.ownBlock ∨ v'.ownBlock = some (w.heap.size + 1)) :
 CeB w0 (w'.setCell ⟨b, 7, none⟩ v') b vr vp vk vv vs v' { C with x := C.x ++ [l] } := by
 have e := h.blk2 h1 (by decide) hg;have hx := OLL.push h1 h2 h3 h.bel hu ho hg;have hr := ns_app h.r h1 (by decide) hg;have hp := ns_app h.p h1 (by decide) hg;have hv := omv_app h.v h1 hg;have hk := h.k.app_ne h1 h.kx hg;have hs := h.s.app_ne h1 h.sx hg;exact ⟨by rw [heap_set2 e]; rfl, h.bb, ns_box hr e (by decide) h.bb v', ns_box hp e (by decide) h.bb v', hk.box e (by decide) (by decide) h.bb v', hv.box e (by decide) h.bb v', hs.box e (by decide) (by decide) h.bb v', hx.box e (by decide) (by decide) h.bb v', h.ks, (apart_push h.kx.symm h.k rfl ha).symm, (apart_push h.sx.symm h.s rfl ha).symm⟩
theorem CeB.pushV (h : CeB w0 w b vr vp vk vv vs vx C) {o : Obj} {v' : Value} {m : Mv} (ho : w'.ownsRow w0.heap.size 113 3 v' (C.v.length + 1) (C.v.flatMap mvC ++ mvC m)) (hg : (w.alloc o).grownBy w' vv.ownBlock) :
 CeB w0 (w'.setCell ⟨b, 5, none⟩ v') b vr vp vk v' vs vx { C with v := C.v ++ [m] } := by
 have e := h.blk2 h.v.1 (by decide) hg;have hv := h.v.push ho hg;have hr := ns_app h.r h.v.1 (by decide) hg;have hp := ns_app h.p h.v.1 (by decide) hg;have hk := h.k.app h.v.1 (by decide) (by decide) hg;have hs := h.s.app h.v.1 (by decide) (by decide) hg;have hx := h.x.app h.v.1 (by decide) (by decide) hg;exact ⟨by rw [heap_set2 e]; rfl, h.bb, ns_box hr e (by decide) h.bb v', ns_box hp e (by decide) h.bb v', hk.box e (by decide) (by decide) h.bb v', hv.box e (by decide) h.bb v', hs.box e (by decide) (by decide) h.bb v', hx.box e (by decide) (by decide) h.bb v', h.ks, h.kx, h.sx⟩
theorem CeB.cfm (h : CeB w0 w b vr vp vk vv vs vx C) : ∃ Ar cr Ap cp Ak ck Av cv As cs Aw cw, vr = .slice Ar C.r.length cr ∧ vp = .slice Ap C.p.length cp ∧ vk = .slice Ak C.k.length ck ∧ vv = .slice Av C.v.length cv ∧ vs = .slice As C.s.length cs ∧ vx = .slice Aw C.x.length cw ∧
 ZIn w Ar C.r ∧ ZIn w Ap C.p ∧ LIn w Ak C.k ∧ Rd mvC 3 w Av C.v ∧ LIn w As C.s ∧ LIn w Aw C.x := by
 obtain ⟨Ar, cr, e1, z1, _⟩ := h.r.zin;obtain ⟨Ap, cp, e2, z2, _⟩ := h.p.zin;obtain ⟨Ak, ck, e3, z3, _⟩ := h.k.lin;obtain ⟨Av, cv, e4, _, _, _, z4, _⟩ := own_rd mvC_len (by decide) h.v.1;obtain ⟨As, cs, e5, z5, _⟩ := h.s.lin;obtain ⟨Aw, cw, e6, z6, _⟩ := h.x.lin;exact ⟨Ar, cr, Ap, cp, Ak, ck, Av, cv, As, cs, Aw, cw, e1, e2, e3, e4, e5, e6, z1, z2, z3, z4, z5, z6⟩
end
end Go.Proofs.YtkhmngljpfibcaaGreatDoor
