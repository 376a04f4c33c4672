/- cover.grow's closure that puts a node in: what a call returns. -/
import Derived.Test.YtjojmmabcjccdaaDoorDh
import Derived.Test.YtjojmmabcjccdaaDoorCo
import Derived.Test.YtjojmmabcjccdaaDoorHa
namespace Go.Proofs.YtjojmmabcjccdaaDoor
open Go.RowKit

theorem nodeInfo : (Tryd.prog.info? 90).map (fun i => (i.zero, i.size, i.bytes)) = some (some (.agg #[.slice none 0 0, .slice none 0 0, .int .i64 0, .int .i64 0, .int .i64 0, .int .i64 0, .bool false, .bool false]), 8, 88) := by kernel_rfl
theorem rowInfo : (Tryd.prog.info? 25).map (fun i => (i.zero, i.size, i.bytes)) = some (some (.slice none 0 0), 1, 24) := by kernel_rfl
/-- what a call does -/
def AddPo (w0 : World) (ba bt bm mb most tb : Nat) (R : Option TS) (e : Ending) (w' : World) : Prop :=
  Below w0.heap.size w0 w' ∧ match R with
  | some T' => e = .returned (.int .i64 0) ∧ ∃ vN vS NL SL, GC w0 w' ba bt bm mb most tb vN vS NL SL T'
  | none => e = .returned (.int .i64 13)
theorem AddPo.no {w0 w' : World} {ba bt bm mb most tb : Nat} {R : Option TS} {e : Ending} (hR : R = none) (hb : Below w0.heap.size w0 w') (he : e = .returned (.int .i64 13)) : AddPo w0 ba bt bm mb most tb R e w' := by
  subst hR; exact ⟨hb, he⟩
theorem AddPo.yes {w0 w' : World} {ba bt bm mb most tb : Nat} {R : Option TS} {T' : TS} {e : Ending} {vN vS : Value} {NL : List Nv} {SL : List Value} (hR : R = some T') (h : GC w0 w' ba bt bm mb most tb vN vS NL SL T') (he : e = .returned (.int .i64 0)) : AddPo w0 ba bt bm mb most tb R e w' := by
  subst hR; exact ⟨h.gp.bel, he, _, _, _, _, h⟩
theorem idx_in {T : TS} {z : List Int} (h : z ∈ T.states) : stIdx T z ≠ T.states.length := by
  have := List.findIdx_lt_length_of_exists (xs := T.states) (p := fun s => decide (s = z)) ⟨z, h, by simp⟩
  unfold stIdx; omega
theorem idx_out {T : TS} {z : List Int} (h : z ∉ T.states) : stIdx T z = T.states.length := by
  unfold stIdx
  apply List.findIdx_eq_length_of_false
  intro x hx
  simp only [decide_eq_false_iff_not]
  rintro rfl; exact h hx
theorem idx_at {T : TS} {z : List Int} (hn : ∀ (i j : Nat) (s : List Int), T.states[i]? = some s → T.states[j]? = some s → i = j) (k : Nat) (h : T.states[k]? = some z) : stIdx T z = k := by
  have hm : z ∈ T.states := List.mem_of_getElem? h
  have hlt : stIdx T z < T.states.length := List.findIdx_lt_length_of_exists ⟨z, hm, by simp⟩
  refine hn _ k z ?_ h
  rw [List.getElem?_eq_getElem hlt]
  have := List.findIdx_getElem (w := hlt)
  simp only [decide_eq_true_eq] at this
  exact congrArg some this
/-- a node's block -/
def NdB (w : World) (b : Nat) (vp vm : Value) (ab tr st gr : Int) (nw om : Bool) : Prop := w.heap[b]? = some (.cells #[vp, vm, .int .i64 ab, .int .i64 tr, .int .i64 st, .int .i64 gr, .bool nw, .bool om] 90 (0, 0))
section
variable {w w' : World} {b : Nat} {vp vm : Value} {ab tr st gr : Int} {nw om : Bool}
theorem NdB.lt (h : NdB w b vp vm ab tr st gr nw om) : b < w.heap.size := (Array.getElem?_eq_some_iff.1 h).1
theorem NdB.new (w : World) (vp vm : Value) (ab tr st gr : Int) (nw om : Bool) : NdB (w.alloc (.cells #[vp, vm, .int .i64 ab, .int .i64 tr, .int .i64 st, .int .i64 gr, .bool nw, .bool om] 90)) w.heap.size vp vm ab tr st gr nw om := heap_alloc_new w _
theorem NdB.below (h : NdB w b vp vm ab tr st gr nw om) (hb : Below w.heap.size w w') : NdB w' b vp vm ab tr st gr nw om := by
  unfold NdB; rw [hb.block b h.lt]; exact h
theorem NdB.grown (h : NdB w b vp vm ab tr st gr nw om) {row : Option Nat} (hg : w.grownBy w' row) (hne : some b ≠ row) : NdB w' b vp vm ab tr st gr nw om := by
  unfold NdB; rw [hg.block b h.lt hne]; exact h
theorem NdB.cells (h : NdB w b vp vm ab tr st gr nw om) : w.cell? ⟨b, 0, none⟩ = some vp ∧ w.cell? ⟨b, 1, none⟩ = some vm ∧ w.cell? ⟨b, 2, none⟩ = some (.int .i64 ab) ∧ w.cell? ⟨b, 3, none⟩ = some (.int .i64 tr) ∧ w.cell? ⟨b, 4, none⟩ = some (.int .i64 st) ∧ w.cell? ⟨b, 5, none⟩ = some (.int .i64 gr) ∧ w.cell? ⟨b, 6, none⟩ = some (.bool nw) ∧ w.cell? ⟨b, 7, none⟩ = some (.bool om) := by
  unfold NdB at h
  simp [World.cell?, h]
theorem NdB.set4 (h : NdB w b vp vm ab tr st gr nw om) (k : Int) : NdB (w.setCell ⟨b, 4, none⟩ (.int .i64 k)) b vp vm ab tr k gr nw om := by
  unfold NdB at h ⊢; rw [heap_set2 h]; rfl
theorem NdB.set6 (h : NdB w b vp vm ab tr st gr nw om) (k : Bool) : NdB (w.setCell ⟨b, 6, none⟩ (.bool k)) b vp vm ab tr st gr k om := by
  unfold NdB at h ⊢; rw [heap_set2 h]; rfl
theorem NdB.set5 (h : NdB w b vp vm ab tr st gr nw om) (k : Int) : NdB (w.setCell ⟨b, 5, none⟩ (.int .i64 k)) b vp vm ab tr st k nw om := by
  unfold NdB at h ⊢; rw [heap_set2 h]; rfl
theorem NdB.set7 (h : NdB w b vp vm ab tr st gr nw om) (k : Bool) : NdB (w.setCell ⟨b, 7, none⟩ (.bool k)) b vp vm ab tr st gr nw k := by
  unfold NdB at h ⊢; rw [heap_set2 h]; rfl
theorem NdB.soft (h : NdB w b vp vm ab tr st gr nw om) (o : Nat) : w.frozen? ⟨b, o, none⟩ = false := by
  unfold NdB at h
  simp [World.frozen?, h]
end
set_option maxHeartbeats 6400000 in
set_option maxRecDepth 100000 in
theorem add_any (w0 : World) (ba bt bm mb most tb : Nat) (vN vS : Value) (NL : List Nv) (SL : List Value) (T : TS) (d : Nd) (vp vm : Value) (s0 : Int) (n0 : Bool) (w : World)
    (h : GC w0 w ba bt bm mb most tb vN vS NL SL T) (hp : NS w0 w vp d.pn) (hm : NS w0 w vm d.ms) (hz : okZ d.ms) (hst : T.states.length ≤ 100000) (hnd : T.nodes.length ≤ 100000) (hno : ∀ (i j : Nat) (s : List Int), T.states[i]? = some s → T.states[j]? = some s → i = j) (ht : Tb w) :
    Calls Tryd.prog 76 #[.agg #[vp, vm, .int .i64 d.ab, .int .i64 d.tr, .int .i64 s0, .int .i64 d.gr, .bool n0, .bool d.om], .pointer (some ⟨ba, 0, none⟩), .pointer (some ⟨bt, 0, none⟩), .pointer (some ⟨bm, 0, none⟩)] w (AddPo w0 ba bt bm mb most tb (addN most T d)) := by
  have HB := Lib.hid (below_alloc w (.cells #[vp, vm, .int .i64 d.ab, .int .i64 d.tr, .int .i64 s0, .int .i64 d.gr, .bool n0, .bool d.om] 90))
  have HX := Lib.hid (NdB.new w vp vm d.ab d.tr s0 d.gr n0 d.om)
  have HG := Lib.hid (h.below HB.out)
  have HP := Lib.hid (hp.below HB.out)
  have HM := Lib.hid (hm.below HB.out)
  have HT := Lib.hid (ht.below HB.out)
  have HZ := Lib.hid hz
  have HNo := Lib.hid hno
  obtain ⟨i0, hi, hz0, hz1, hz2⟩ := info_parts nodeInfo
  have HI := Lib.hid (And.intro hi (And.intro hz0 (And.intro hz1 hz2)))
  clear hi hz0 hz1 hz2
  obtain ⟨j0, hi, hz0, hz1, hz2⟩ := info_parts rowInfo
  have HJ := Lib.hid (And.intro hi (And.intro hz0 (And.intro hz1 hz2)))
  clear hi hz0 hz1 hz2
  have hbw : w.heap.size < (w.alloc (.cells #[vp, vm, .int .i64 d.ab, .int .i64 d.tr, .int .i64 s0, .int .i64 d.gr, .bool n0, .bool d.om] 90)).heap.size := by simp
  have hfresh : (∀ g, vN.ownBlock = some g → g ≠ w.heap.size) ∧ (∀ g, vS.ownBlock = some g → g ≠ w.heap.size) ∧ tb ≠ w.heap.size ∧ w0.heap.size ≤ w.heap.size := ⟨fun g e => by have := (h.gp.nds.lt g e).2; omega, fun g e => by have := (h.gp.sts.lt g e).2; omega, by have := h.gp.lt; omega, h.gp.bel.size⟩
  have HF := Lib.hid hfresh
  have HRes := Lib.hid (show addN most T d = _ from by unfold addN; rfl)
  generalize addN most T d = R at *
  clear h hp hm hz hno ht hfresh
  obtain ⟨Am, cm, hvm, _, _, _⟩ := HM.out.zin
  subst hvm
  go_enter Tryd.func76, Tryd.ntmps76
  go_wp2_with fail
  generalize hbx : w.heap.size = bx at *
  generalize w.alloc _ = w1 at *
  clear hbx
  obtain ⟨k0, k1, k2⟩ := HG.out.cells
  obtain ⟨x0, x1, x2, x3, x4, x5, x6, x7⟩ := HX.out.cells
  have a0 := fun dd os => cell_regrown k0 dd os
  have a1 := fun dd os => cell_regrown x1 dd os
  by_cases hin : d.ms ∈ T.states
  · have hlt := idx_in hin
    have hlk := fun dd os => (HG.out.km.below (below_regrown w1 dd os)).look HZ.out (stIdx T d.ms : Int) (fun k hk => by rw [idx_at HNo.out k hk]) (fun h => absurd hin h)
    rw [decide_eq_true hin] at hlk
    have HK := Lib.hid (fun dd os => key_any Am d.ms.length cm d.ms _ (by obtain ⟨A', c', e, hz, _⟩ := (HM.out.below (below_regrown w1 dd os)).zin; cases e; exact hz) rfl HZ.out.2 HZ.out.1 (HT.out.below (below_regrown w1 dd os)))
    rw [if_neg hlt] at HRes
    clear hlt
    refine wp_region_quiet_below (by kernel_rfl) (by kernel_rfl) ?_
    repeat (quiet_step (exact Calls.regrown_of (HK.out _ _)))
    refine wpQuiet_nil ?_
    intro _ hw'
    obtain ⟨⟨dq, osq⟩, hw''⟩ := hw'
    subst hw''
    clear a0 a1 hlk k0 k1 k2 x0 x1 x2 x3 x4 x5 x6 x7
    have HG2 := Lib.hid (HG.out.below (below_regrown w1 dq osq))
    have HX2 := Lib.hid (HX.out.below (below_regrown w1 dq osq))
    have HP2 := Lib.hid (HP.out.below (below_regrown w1 dq osq))
    have HM2 := Lib.hid (HM.out.below (below_regrown w1 dq osq))
    have HT2 := Lib.hid (HT.out.below (below_regrown w1 dq osq))
    have hbw2 : bx < (Sort.grow (redrawn w1 dq) osq).heap.size := by have := (below_regrown w1 dq osq).size; omega
    generalize Sort.grow (redrawn w1 dq) osq = w2 at *
    clear HG HX HP HM HT HB hbw
    have HG := Lib.hid HG2.out
    have HX := Lib.hid HX2.out
    have HP := Lib.hid HP2.out
    have HM := Lib.hid HM2.out
    have HT := Lib.hid HT2.out
    clear HG2 HX2 HP2 HM2 HT2
    have HP6 := Lib.hid HP.out
    have HM6 := Lib.hid HM.out
    generalize hw6 : w2 = w6 at *
    clear hw6 HP HM HT HK
    have HP := Lib.hid HP6.out
    have HM := Lib.hid HM6.out
    clear HP6 HM6
    obtain ⟨AN, cN, hvN, _⟩ := row_slice HG.out.gp.nds
    subst hvN
    have HNl := Lib.hid HG.out.gp.len
    obtain ⟨k0, k1, k2⟩ := HG.out.cells
    obtain ⟨t0, t1, _, tf⟩ := HG.out.gp.cells
    obtain ⟨x0, x1, x2, x3, x4, x5, x6, x7⟩ := HX.out.cells
    by_cases h20 : 20000 < NL.length
    · rw [if_pos (by have := HNl.out; (try simp only at this); omega)] at HRes
      go_wp2_with fail
      go_ret
      exact AddPo.no HRes.out HG.out.gp.bel rfl
    · rw [if_neg (by have := HNl.out; (try simp only at this); omega)] at HRes
      have xf4 := HX.out.soft 4
      have xf6 := HX.out.soft 6
      go_wp2_with fail
      clear k0 k1 k2 t0 t1 tf x0 x1 x2 x3 x4 x5 x6 x7 xf4 xf6
      have hbx0 : w0.heap.size ≤ bx := HF.out.2.2.2
      have HGa := Lib.hid (HG.out.box (o := 4) HX.out HF.out.2.2.1.symm HF.out.1 hbx0 (.int .i64 ((stIdx T d.ms : Nat) : Int)))
      have HPa := Lib.hid (GC.box_ns (o := 4) HP.out HX.out hbx0 (.int .i64 ((stIdx T d.ms : Nat) : Int)))
      have HMa := Lib.hid (GC.box_ns (o := 4) HM.out HX.out hbx0 (.int .i64 ((stIdx T d.ms : Nat) : Int)))
      have HXa := Lib.hid (HX.out.set4 ((stIdx T d.ms : Nat) : Int))
      have HGb := Lib.hid (HGa.out.box (o := 6) HXa.out HF.out.2.2.1.symm HF.out.1 hbx0 (.bool false))
      have HPb := Lib.hid (GC.box_ns (o := 6) HPa.out HXa.out hbx0 (.bool false))
      have HMb := Lib.hid (GC.box_ns (o := 6) HMa.out HXa.out hbx0 (.bool false))
      have HXb := Lib.hid (HXa.out.set6 false)
      generalize (w6.setCell ⟨bx, 4, none⟩ (.int .i64 ((stIdx T d.ms : Nat) : Int))).setCell ⟨bx, 6, none⟩ (.bool false) = w7 at *
      have hbd : Below w7.heap.size w7 w7.drew := (Below.refl _ _).drew
      have HGd := Lib.hid (HGb.out.below hbd)
      have HPd := Lib.hid (HPb.out.below hbd)
      have HMd := Lib.hid (HMb.out.below hbd)
      have HXd := Lib.hid (HXb.out.below hbd)
      have hS0 := And.intro HGd.out.cells.2.1 (And.intro HGd.out.gp.cells.1 HXd.out.cells)
      refine wp_region_e_drew 10 (S := fun w' => w'.cell? ⟨bt, 0, none⟩ = some (.pointer (some ⟨tb, 0, none⟩)) ∧ w'.cell? ⟨tb, 0, none⟩ = some (.slice AN NL.length cN) ∧ w'.cell? ⟨bx, 0, none⟩ = some vp ∧ w'.cell? ⟨bx, 1, none⟩ = some (.slice Am d.ms.length cm) ∧ w'.cell? ⟨bx, 2, none⟩ = some (.int .i64 d.ab) ∧ w'.cell? ⟨bx, 3, none⟩ = some (.int .i64 d.tr) ∧ w'.cell? ⟨bx, 4, none⟩ = some (.int .i64 ((stIdx T d.ms : Nat) : Int)) ∧ w'.cell? ⟨bx, 5, none⟩ = some (.int .i64 d.gr) ∧ w'.cell? ⟨bx, 6, none⟩ = some (.bool false) ∧ w'.cell? ⟨bx, 7, none⟩ = some (.bool d.om)) (by kernel_rfl) hS0 (fun hHeld => ?_)
      clear hbd hS0 HG HP HM HX HGa HPa HMa HXa HGb HPb HMb HXb
      generalize w7.drew = wd at *
      refine wpAnyE_take (i := 0) (v := ?_) [8, 9, 10] rfl (by kernel_rfl) (by kernel_rfl) (by kernel_rfl) (by kernel_rfl) (by kernel_rfl) (by kernel_rfl) (fun _ _ _ h => h) (Or.inl ⟨by rfl, ?_⟩) (by assumption) ?_
      rotate_left
      · intro w hSw; (try dsimp only at hSw); go_simp; try (with_reducible rfl)
      try go_simp
      refine wpAnyE_take (i := 1) (v := ?_) [2, 3, 4, 7, 10] rfl (by kernel_rfl) (by kernel_rfl) (by kernel_rfl) (by kernel_rfl) (by kernel_rfl) (by kernel_rfl) (fun _ _ _ h => h) (Or.inl ⟨by rfl, ?_⟩) (by assumption) ?_
      rotate_left
      · intro w hSw; (try dsimp only at hSw); go_simp; try (with_reducible rfl)
      try go_simp
      refine wpAnyE_take (i := 2) (v := ?_) [3, 4, 7, 10] rfl (by kernel_rfl) (by kernel_rfl) (by kernel_rfl) (by kernel_rfl) (by kernel_rfl) (by kernel_rfl) (fun _ _ _ h => h) (Or.inl ⟨by rfl, ?_⟩) (by assumption) ?_
      rotate_left
      · intro w hSw; (try dsimp only at hSw); go_simp; try (with_reducible rfl)
      try go_simp
      refine wpAnyE_take (i := 3) (v := ?_) [4, 7, 10] rfl (by kernel_rfl) (by kernel_rfl) (by kernel_rfl) (by kernel_rfl) (by kernel_rfl) (by kernel_rfl) (fun _ _ _ h => h) (Or.inl ⟨by rfl, ?_⟩) (by assumption) ?_
      rotate_left
      · intro w hSw; (try dsimp only at hSw); go_simp; try (with_reducible rfl)
      try go_simp
      refine wpAnyE_take (i := 4) (v := ?_) [7, 10] rfl (by kernel_rfl) (by kernel_rfl) (by kernel_rfl) (by kernel_rfl) (by kernel_rfl) (by kernel_rfl) (fun _ _ _ h => h) (Or.inl ⟨by rfl, ?_⟩) (by assumption) ?_
      rotate_left
      · intro w hSw; (try dsimp only at hSw); go_simp; try (with_reducible rfl)
      try go_simp
      refine wpAnyE_take (i := 5) (v := ?_) [6, 7, 10] rfl (by kernel_rfl) (by kernel_rfl) (by kernel_rfl) (by kernel_rfl) (by kernel_rfl) (by kernel_rfl) (fun _ _ _ h => h) (Or.inl ⟨by rfl, ?_⟩) (by assumption) ?_
      rotate_left
      · intro w hSw; (try dsimp only at hSw); go_simp; try (with_reducible rfl)
      try go_simp
      have hS0 := hHeld
      refine wpAnyE_one (i := 6) (by kernel_rfl) rfl (fun K hK => ?_)
      go_simp
      skip
      refine hK.out _ _ (fun _ => ⟨cell_stays (below_alloc _ _) hS0.1, cell_stays (below_alloc _ _) hS0.2.1, cell_stays (below_alloc _ _) hS0.2.2.1, cell_stays (below_alloc _ _) hS0.2.2.2.1, cell_stays (below_alloc _ _) hS0.2.2.2.2.1, cell_stays (below_alloc _ _) hS0.2.2.2.2.2.1, cell_stays (below_alloc _ _) hS0.2.2.2.2.2.2.1, cell_stays (below_alloc _ _) hS0.2.2.2.2.2.2.2.1, cell_stays (below_alloc _ _) hS0.2.2.2.2.2.2.2.2.1, cell_stays (below_alloc _ _) hS0.2.2.2.2.2.2.2.2.2⟩) (fun hH => ?_)
      have hHeld := hH (by decide)
      clear hH hK K
      try go_simp
      refine wpAnyE_one (i := 7) (by kernel_rfl) rfl (fun K hK => ?_)
      refine step_append_own rfl _ _ 86 rfl w0.heap.size 90 i0 (.agg #[.slice none 0 0, .slice none 0 0, .int .i64 0, .int .i64 0, .int .i64 0, .int .i64 0, .bool false, .bool false]) 8 88 Tryd.underlying86 HI.out.1 HI.out.2.1 HI.out.2.2.1 HI.out.2.2.2 rfl (by decide) (.slice AN NL.length cN) _ _ rfl (HGd.out.gp.nds.alloc _) ⟨wd.heap.size, 0, none⟩ 1 1 [vp, .slice Am d.ms.length cm, .int .i64 d.ab, .int .i64 d.tr, .int .i64 ((stIdx T d.ms : Nat) : Int), .int .i64 d.gr, .bool false, .bool d.om] rfl rfl ?c1 ?c2 ?c3 ?c4 ?c5 ?_
      case c1 => exact news_blk (heap_alloc_new wd (.cells #[vp, .slice Am d.ms.length cm, .int .i64 d.ab, .int .i64 d.tr, .int .i64 ((stIdx T d.ms : Nat) : Int), .int .i64 d.gr, .bool false, .bool d.om] 90))
      case c2 => intro u hu; simp at hu; rcases hu with rfl | rfl | rfl | rfl | rfl | rfl | rfl | rfl <;> first | exact NS.one HPd.out | rfl
      case c3 => have := HNl.out; (try simp only at this); unfold maxLen; omega
      case c4 => have := HNl.out; (try simp only at this); omega
      case c5 => have := HGd.out.gp.bel.size; simp; omega
      intro vN' w8 hown8 hgrow8
      obtain ⟨A8, c8, rfl, _⟩ := row_slice hown8
      have HG8 := Lib.hid (HGd.out.gp.node (x := ⟨⟨d.pn, d.ms, d.ab, d.tr, stIdx T d.ms, d.gr, false, d.om⟩, vp, .slice Am d.ms.length cm⟩) HPd.out HMd.out hown8 hgrow8)
      have HC8 := Lib.hid (caps_app (q := 0) ⟨HGd.out.at_, HGd.out.pt, HGd.out.mo⟩ HGd.out.km HGd.out.gp.nds (.inl rfl) hgrow8 HGd.out.gp.tree (.slice A8 (NL.length + 1) c8))
      have htr : (wd.alloc (.cells #[vp, .slice Am d.ms.length cm, .int .i64 d.ab, .int .i64 d.tr, .int .i64 ((stIdx T d.ms : Nat) : Int), .int .i64 d.gr, .bool false, .bool d.om] 90)).heap[tb]? = some (.cells #[.slice AN NL.length cN, vS] 88 (0, 0)) := by rw [(below_alloc wd _).block tb HGd.out.gp.lt]; exact HGd.out.gp.tree
      have hne8 := row_block (HGd.out.gp.nds.alloc _) htr (by decide)
      have htb8 : w8.cell? ⟨tb, 0, none⟩ = some (.slice AN NL.length cN) := hgrow8.cell (cell_stays (below_alloc _ _) HGd.out.gp.cells.1) hne8
      have htf8 : w8.frozen? ⟨tb, 0, none⟩ = false := by
        have h2 := hgrow8.block tb (Array.getElem?_eq_some_iff.1 htr).1 hne8
        rw [htr] at h2
        simp [World.frozen?, h2]
      have htp : (wd.alloc (.cells #[vp, .slice Am d.ms.length cm, .int .i64 d.ab, .int .i64 d.tr, .int .i64 ((stIdx T d.ms : Nat) : Int), .int .i64 d.gr, .bool false, .bool d.om] 90)).heap[bt]? = some (.cells #[.pointer (some ⟨tb, 0, none⟩)] 75 (0, 0)) := by rw [(below_alloc wd _).block bt (Array.getElem?_eq_some_iff.1 HGd.out.pt).1]; exact HGd.out.pt
      have hbt8 : w8.cell? ⟨bt, 0, none⟩ = some (.pointer (some ⟨tb, 0, none⟩)) := hgrow8.cell (cell_stays (below_alloc _ _) HGd.out.cells.2.1) (row_block (HGd.out.gp.nds.alloc _) htp (by decide))
      have hneb : some bx ≠ (Value.slice AN NL.length cN).ownBlock := fun e => HF.out.1 bx e.symm rfl
      refine hK.out _ _ (fun _ => ⟨hbt8, htb8, hgrow8.cell (cell_stays (below_alloc _ _) hS0.2.2.1) hneb, hgrow8.cell (cell_stays (below_alloc _ _) hS0.2.2.2.1) hneb, hgrow8.cell (cell_stays (below_alloc _ _) hS0.2.2.2.2.1) hneb, hgrow8.cell (cell_stays (below_alloc _ _) hS0.2.2.2.2.2.1) hneb, hgrow8.cell (cell_stays (below_alloc _ _) hS0.2.2.2.2.2.2.1) hneb, hgrow8.cell (cell_stays (below_alloc _ _) hS0.2.2.2.2.2.2.2.1) hneb, hgrow8.cell (cell_stays (below_alloc _ _) hS0.2.2.2.2.2.2.2.2.1) hneb, hgrow8.cell (cell_stays (below_alloc _ _) hS0.2.2.2.2.2.2.2.2.2) hneb⟩) (fun hH => ?_)
      have hHeld := hH (by decide)
      clear hH hK K
      try go_simp
      refine wpAnyE_take (i := 8) (v := ?_) [9, 10] rfl (by kernel_rfl) (by kernel_rfl) (by kernel_rfl) (by kernel_rfl) (by kernel_rfl) (by kernel_rfl) (fun _ _ _ h => h) (Or.inl ⟨by rfl, ?_⟩) (by assumption) ?_
      rotate_left
      · intro w hSw; (try dsimp only at hSw); go_simp; try (with_reducible rfl)
      try go_simp
      refine wpAnyE_take (i := 9) (v := ?_) [10] rfl (by kernel_rfl) (by kernel_rfl) (by kernel_rfl) (by kernel_rfl) (by kernel_rfl) (by kernel_rfl) (fun _ _ _ h => h) (Or.inl ⟨by rfl, ?_⟩) (by assumption) ?_
      rotate_left
      · intro w hSw; (try dsimp only at hSw); go_simp; try (with_reducible rfl)
      try go_simp
      refine wpAnyE_one (i := 10) (by kernel_rfl) rfl (fun K hK => ?_)
      go_simp
      skip
      refine hK.out _ _ (fun h => absurd rfl h) (fun _ => ?_)
      clear hK K
      try go_simp
      refine wpAnyE_done (by kernel_rfl) ?_ _
      have HFin := Lib.hid (show GC w0 (w8.setCell ⟨tb, 0, none⟩ (.slice A8 (NL.length + 1) c8)) ba bt bm mb most tb (.slice A8 (NL.length + 1) c8) vS (NL ++ [⟨⟨d.pn, d.ms, d.ab, d.tr, stIdx T d.ms, d.gr, false, d.om⟩, vp, .slice Am d.ms.length cm⟩]) SL ⟨T.nodes ++ [⟨d.pn, d.ms, d.ab, d.tr, stIdx T d.ms, d.gr, false, d.om⟩], T.states⟩ from ⟨HC8.out.1.1, HC8.out.1.2.1, HC8.out.1.2.2, HGd.out.ab, HC8.out.2, HG8.out⟩)
      clear hHeld hS0 htr hne8 htb8 htf8 htp hbt8 hneb HGd HPd HMd HXd HG8 HC8 hown8 hgrow8
      generalize w8.setCell ⟨tb, 0, none⟩ (.slice A8 (NL.length + 1) c8) = w9 at *
      go_wp2_with fail
      go_ret
      exact AddPo.yes (HRes.out) HFin.out rfl
  · have hlk := fun dd os => (HG.out.km.below (below_regrown w1 dd os)).look HZ.out 0 (fun k hk => absurd (List.mem_of_getElem? hk) hin) (fun _ => rfl)
    rw [decide_eq_false hin] at hlk
    have HK := Lib.hid (fun dd os => key_any Am d.ms.length cm d.ms _ (by obtain ⟨A', c', e, hz, _⟩ := (HM.out.below (below_regrown w1 dd os)).zin; cases e; exact hz) rfl HZ.out.2 HZ.out.1 (HT.out.below (below_regrown w1 dd os)))
    refine wp_region_quiet_below (by kernel_rfl) (by kernel_rfl) ?_
    repeat (quiet_step (exact Calls.regrown_of (HK.out _ _)))
    refine wpQuiet_nil ?_
    intro _ hw'
    obtain ⟨⟨dq, osq⟩, hw''⟩ := hw'
    subst hw''
    clear a0 a1 hlk k0 k1 k2 x0 x1 x2 x3 x4 x5 x6 x7
    have HG2 := Lib.hid (HG.out.below (below_regrown w1 dq osq))
    have HX2 := Lib.hid (HX.out.below (below_regrown w1 dq osq))
    have HP2 := Lib.hid (HP.out.below (below_regrown w1 dq osq))
    have HM2 := Lib.hid (HM.out.below (below_regrown w1 dq osq))
    have HT2 := Lib.hid (HT.out.below (below_regrown w1 dq osq))
    have hbw2 : bx < (Sort.grow (redrawn w1 dq) osq).heap.size := by have := (below_regrown w1 dq osq).size; omega
    generalize Sort.grow (redrawn w1 dq) osq = w2 at *
    clear HG HX HP HM HT HB hbw
    have HG := Lib.hid HG2.out
    have HX := Lib.hid HX2.out
    have HP := Lib.hid HP2.out
    have HM := Lib.hid HM2.out
    have HT := Lib.hid HT2.out
    clear HG2 HX2 HP2 HM2 HT2
    obtain ⟨AS, cS, hvS, _⟩ := row_slice HG.out.gp.sts
    subst hvS
    have HSl := Lib.hid HG.out.gp.stl
    obtain ⟨k0, k1, k2⟩ := HG.out.cells
    obtain ⟨x0, x1, x2, x3, x4, x5, x6, x7⟩ := HX.out.cells
    obtain ⟨t0, t1, _, tf⟩ := HG.out.gp.cells
    rw [if_pos (idx_out hin)] at HRes
    by_cases hmo : SL.length = most
    · have q1 : ((SL.length : Int) == (most : Int)) = true := by rw [hmo]; exact beq_self_eq_true _
      rw [if_pos (by rw [← HSl.out]; exact hmo)] at HRes
      go_wp2_with fail
      go_ret
      exact AddPo.no HRes.out HG.out.gp.bel rfl
    · have q1 : ((SL.length : Int) == (most : Int)) = false := by rw [beq_eq_false_iff_ne]; omega
      rw [if_neg (by rw [← HSl.out]; exact hmo)] at HRes
      go_wp2_with fail
      have hS0 : w2.cell? ⟨ba, 0, none⟩ = some (.map (some mb)) ∧ w2.cell? ⟨bx, 1, none⟩ = some (.slice Am d.ms.length cm) := ⟨k0, x1⟩
      clear k0 k1 k2 x0 x1 x2 x3 x4 x5 x6 x7 t0 t1 tf
      refine wp_region_held_drew (S := fun w' => w'.cell? ⟨ba, 0, none⟩ = some (.map (some mb)) ∧ w'.cell? ⟨bx, 1, none⟩ = some (.slice Am d.ms.length cm)) (by kernel_rfl) hS0 (fun hHeld => ?_)
      have hbd : Below w2.heap.size w2 w2.drew := (Below.refl _ _).drew
      have HGd := Lib.hid (HG.out.below hbd)
      have HXd := Lib.hid (HX.out.below hbd)
      have HPd := Lib.hid (HP.out.below hbd)
      have HMd := Lib.hid (HM.out.below hbd)
      have HTd := Lib.hid (HT.out.below hbd)
      have hbwd : bx < w2.drew.heap.size := by have := hbd.size; omega
      clear hbd hS0 HG HX HP HM HT hbw2
      have hS0 := hHeld
      generalize w2.drew = wd at *
      refine wpAnyH_take (i := 0) (v := ?_) rfl (by kernel_rfl) (by kernel_rfl) (by kernel_rfl) (fun _ _ _ h => h) (Or.inl ⟨by rfl, ?_⟩) (by assumption) ?_
      rotate_left
      · intro w hSw; (try dsimp only at hSw); go_simp; try (with_reducible rfl)
      try go_simp
      refine wpAnyH_take (i := 1) (v := ?_) rfl (by kernel_rfl) (by kernel_rfl) (by kernel_rfl) (fun _ _ _ h => h) (Or.inl ⟨by rfl, ?_⟩) (by assumption) ?_
      rotate_left
      · intro w hSw; (try dsimp only at hSw); go_simp; try (with_reducible rfl)
      try go_simp
      refine wpAnyH_take (i := 2) (v := ?_) rfl (by kernel_rfl) (by kernel_rfl) (by kernel_rfl) (fun _ _ _ h => h) (Or.inl ⟨by rfl, ?_⟩) (by assumption) ?_
      rotate_left
      · intro w hSw; (try dsimp only at hSw); go_simp; try (with_reducible rfl)
      try go_simp
      refine wpAnyH_take (i := 4) (v := ?_) rfl (by kernel_rfl) (by kernel_rfl) (by kernel_rfl) (fun _ _ _ h => h) (Or.inl ⟨by rfl, ?_⟩) (by assumption) ?_
      rotate_left
      · intro w hSw; (try dsimp only at hSw); go_simp; try (with_reducible rfl)
      try go_simp
      refine wpAnyH_ready (rs := [3]) (by kernel_rfl) (by simp) ?_
      refine AllReadyH.cons rfl (fun K hK => ?_) AllReadyH.nil
      go_simp
      ((refine (key_any Am d.ms.length cm d.ms _ (by obtain ⟨A', c', e, hz, _⟩ := HMd.out.zin; cases e; exact hz) rfl HZ.out.2 HZ.out.1 HTd.out).mono ?_); rintro e w3 ⟨rfl, hb3⟩)
      refine hK.out _ _ (⟨cell_stays hb3 hS0.1, cell_stays hb3 hS0.2⟩) (fun hHeld => ?_)
      clear hK K
      try go_simp
      have hb23 : Below wd.heap.size wd w3 := ⟨hb3.os, hb3.tape, hb3.output, hb3.size, hb3.block⟩
      have HG3 := Lib.hid (HGd.out.below hb23)
      have HX3 := Lib.hid (HXd.out.below hb23)
      have HP3 := Lib.hid (HPd.out.below hb23)
      have HM3 := Lib.hid (HMd.out.below hb23)
      have hbw3 : bx < w3.heap.size := by have := hb23.size; omega
      obtain ⟨w4, hrun, hkm, hgr⟩ := HG3.out.km.store HZ.out hin (by omega)
      rw [← HSl.out] at hrun
      have HST := Lib.hid (HG3.out.store hkm hgr)
      have HX4 := Lib.hid (HX3.out.grown hgr (fun e => by
        obtain ⟨_, _, ⟨es, cl, h1, _⟩, _⟩ := HG3.out.km
        cases e
        have := HX3.out
        unfold NdB at this
        rw [h1] at this; cases this))
      obtain ⟨y0, y1, _⟩ := HX4.out.cells
      have hc4 : w4.cell? ⟨ba, 0, none⟩ = some (.map (some mb)) := by have := HST.out.1.1; simp [World.cell?, this]
      refine wpAnyH_ready (rs := [5]) (by kernel_rfl) (by simp) ?_
      refine AllReadyH.cons rfl (fun K hK => ?_) AllReadyH.nil
      go_simp
      skip
      refine hK.out _ _ (⟨hc4, y1⟩) (fun hHeld => ?_)
      clear hK K
      try go_simp
      refine wpAnyH_done (by kernel_rfl) ?_ _
      go_wp2_with fail
      have HAb := Lib.hid HG3.out.ab
      have HC4 := Lib.hid HST.out.1
      have HK4 := Lib.hid HST.out.2.1
      have HG4 := Lib.hid HST.out.2.2.1
      have HP4 := Lib.hid (HST.out.2.2.2 _ _ HP3.out)
      have HM4 := Lib.hid (HST.out.2.2.2 _ _ HM3.out)
      have hbw4 : bx < w4.heap.size := HX4.out.lt
      clear HGd HXd HPd HMd HTd HG3 HX3 HP3 HM3 HST hrun hkm hgr hbwd hbw3 hS0 hb23 hHeld y0 y1 hc4
      have hbd : Below w4.heap.size w4 w4.drew := (Below.refl _ _).drew
      have HGd := Lib.hid (HG4.out.below hbd)
      have HXd := Lib.hid (HX4.out.below hbd)
      have HPd := Lib.hid (HP4.out.below hbd)
      have HMd := Lib.hid (HM4.out.below hbd)
      have HKd := Lib.hid (HK4.out.below hbd)
      have HCd := Lib.hid (show _ ∧ _ ∧ _ from ⟨(hbd.block ba (Array.getElem?_eq_some_iff.1 HC4.out.1).1).trans HC4.out.1, (hbd.block bt (Array.getElem?_eq_some_iff.1 HC4.out.2.1).1).trans HC4.out.2.1, (hbd.block bm (Array.getElem?_eq_some_iff.1 HC4.out.2.2).1).trans HC4.out.2.2⟩)
      obtain ⟨t0, t1, _, tf1⟩ := HGd.out.cells
      have hbt : w4.drew.cell? ⟨bt, 0, none⟩ = some (.pointer (some ⟨tb, 0, none⟩)) := by have := HCd.out.2.1; simp [World.cell?, this]
      have hS0 : w4.drew.cell? ⟨bt, 0, none⟩ = some (.pointer (some ⟨tb, 0, none⟩)) ∧ w4.drew.cell? ⟨tb, 1, none⟩ = some (.slice AS SL.length cS) ∧ w4.drew.cell? ⟨bx, 1, none⟩ = some (.slice Am d.ms.length cm) := ⟨hbt, t1, HXd.out.cells.2.1⟩
      refine wp_region_e_drew 11 (S := fun w' => w'.cell? ⟨bt, 0, none⟩ = some (.pointer (some ⟨tb, 0, none⟩)) ∧ w'.cell? ⟨tb, 1, none⟩ = some (.slice AS SL.length cS) ∧ w'.cell? ⟨bx, 1, none⟩ = some (.slice Am d.ms.length cm)) (by kernel_rfl) hS0 (fun hHeld => ?_)
      clear t0 t1 hbt tf1 hbd HG4 HX4 HP4 HM4 HK4 HC4 hS0
      have hbw5 : bx < w4.drew.heap.size := HXd.out.lt
      clear hbw4
      generalize w4.drew = wd at *
      refine wpAnyE_take (i := 0) (v := ?_) [9, 10, 11] rfl (by kernel_rfl) (by kernel_rfl) (by kernel_rfl) (by kernel_rfl) (by kernel_rfl) (by kernel_rfl) (fun _ _ _ h => h) (Or.inl ⟨by rfl, ?_⟩) (by assumption) ?_
      rotate_left
      · intro w hSw; (try dsimp only at hSw); go_simp; try (with_reducible rfl)
      try go_simp
      refine wpAnyE_take (i := 1) (v := ?_) [2, 3, 4, 8, 11] rfl (by kernel_rfl) (by kernel_rfl) (by kernel_rfl) (by kernel_rfl) (by kernel_rfl) (by kernel_rfl) (fun _ _ _ h => h) (Or.inl ⟨by rfl, ?_⟩) (by assumption) ?_
      rotate_left
      · intro w hSw; (try dsimp only at hSw); go_simp; try (with_reducible rfl)
      try go_simp
      refine wpAnyE_take (i := 2) (v := ?_) [3, 4, 8, 11] rfl (by kernel_rfl) (by kernel_rfl) (by kernel_rfl) (by kernel_rfl) (by kernel_rfl) (by kernel_rfl) (fun _ _ _ h => h) (Or.inl ⟨by rfl, ?_⟩) (by assumption) ?_
      rotate_left
      · intro w hSw; (try dsimp only at hSw); go_simp; try (with_reducible rfl)
      try go_simp
      refine wpAnyE_take (i := 3) (v := ?_) [4, 8, 11] rfl (by kernel_rfl) (by kernel_rfl) (by kernel_rfl) (by kernel_rfl) (by kernel_rfl) (by kernel_rfl) (fun _ _ _ h => h) (Or.inl ⟨by rfl, ?_⟩) (by assumption) ?_
      rotate_left
      · intro w hSw; (try dsimp only at hSw); go_simp; try (with_reducible rfl)
      try go_simp
      refine wpAnyE_take (i := 4) (v := ?_) [8, 11] rfl (by kernel_rfl) (by kernel_rfl) (by kernel_rfl) (by kernel_rfl) (by kernel_rfl) (by kernel_rfl) (fun _ _ _ h => h) (Or.inl ⟨by rfl, ?_⟩) (by assumption) ?_
      rotate_left
      · intro w hSw; (try dsimp only at hSw); go_simp; try (with_reducible rfl)
      try go_simp
      refine wpAnyE_take (i := 5) (v := ?_) [6, 7, 8, 11] rfl (by kernel_rfl) (by kernel_rfl) (by kernel_rfl) (by kernel_rfl) (by kernel_rfl) (by kernel_rfl) (fun _ _ _ h => h) (Or.inl ⟨by rfl, ?_⟩) (by assumption) ?_
      rotate_left
      · intro w hSw; (try dsimp only at hSw); go_simp; try (with_reducible rfl)
      try go_simp
      refine wpAnyE_take (i := 6) (v := ?_) [7, 8, 11] rfl (by kernel_rfl) (by kernel_rfl) (by kernel_rfl) (by kernel_rfl) (by kernel_rfl) (by kernel_rfl) (fun _ _ _ h => h) (Or.inl ⟨by rfl, ?_⟩) (by assumption) ?_
      rotate_left
      · intro w hSw; (try dsimp only at hSw); go_simp; try (with_reducible rfl)
      try go_simp
      have hS0 := hHeld
      refine wpAnyE_one (i := 7) (by kernel_rfl) rfl (fun K hK => ?_)
      go_simp
      skip
      refine hK.out _ _ (fun _ => ⟨cell_stays (below_alloc _ _) hS0.1, cell_stays (below_alloc _ _) hS0.2.1, cell_stays (below_alloc _ _) hS0.2.2⟩) (fun hH => ?_)
      have hHeld := hH (by decide)
      clear hH hK K
      try go_simp
      refine wpAnyE_one (i := 8) (by kernel_rfl) rfl (fun K hK => ?_)
      refine step_append_own rfl _ _ 28 rfl w0.heap.size 25 j0 (.slice none 0 0) 1 24 Tryd.underlying28 HJ.out.1 HJ.out.2.1 HJ.out.2.2.1 HJ.out.2.2.2 rfl (by decide) (.slice AS SL.length cS) _ _ rfl (HGd.out.sts.alloc _) ⟨wd.heap.size, 0, none⟩ 1 1 [.slice Am d.ms.length cm] rfl rfl ?c1 ?c2 ?c3 ?c4 ?c5 ?_
      case c1 => intro j u hj; match j, hj with | 0, hj => simp at hj; subst hj; simp [Addr.add] | j + 1, hj => simp at hj
      case c2 => intro u hu; simp at hu; subst hu; rfl
      case c3 => have := HSl.out; unfold maxLen; omega
      case c4 => have := HSl.out; omega
      case c5 => have := HGd.out.bel.size; simp; omega
      intro vS' w5 hown5 hgrow5
      obtain ⟨A6, c6, rfl, _⟩ := row_slice hown5
      have HG6 := Lib.hid (HGd.out.state HMd.out hown5 hgrow5)
      have HX6 := Lib.hid (HGd.out.state_blk (.slice A6 (SL.length + 1) c6) hgrow5 HXd.out (by decide) (fun e => HF.out.2.2.1 e.symm))
      have HP6 := Lib.hid (HGd.out.state_ns (.slice A6 (SL.length + 1) c6) hgrow5 HPd.out)
      have HM6 := Lib.hid (HGd.out.state_ns (.slice A6 (SL.length + 1) c6) hgrow5 HMd.out)
      have HC6 := Lib.hid (caps_app (q := 1) HCd.out HKd.out HGd.out.sts (.inr rfl) hgrow5 HGd.out.tree (.slice A6 (SL.length + 1) c6))
      have hbt5 : w5.cell? ⟨bt, 0, none⟩ = some (.pointer (some ⟨tb, 0, none⟩)) := by
        have := (HGd.out.state_blk (.slice A6 (SL.length + 1) c6) hgrow5 HCd.out.2.1 (by decide) (fun e => by
          have h1 := HCd.out.2.1
          have h2 := HGd.out.tree
          rw [e, h2] at h1; cases h1)).1
        simp [World.cell?, this]
      have htr : (wd.alloc (.cells #[.slice Am d.ms.length cm] 25)).heap[tb]? = some (.cells #[vN, .slice AS SL.length cS] 88 (0, 0)) := by rw [(below_alloc wd _).block tb HGd.out.lt]; exact HGd.out.tree
      have htb5 : w5.cell? ⟨tb, 1, none⟩ = some (.slice AS SL.length cS) := hgrow5.cell (cell_stays (below_alloc _ _) HGd.out.cells.2.1) (row_block (HGd.out.sts.alloc _) htr (by decide))
      have hbx5 : w5.cell? ⟨bx, 1, none⟩ = some (.slice Am d.ms.length cm) := by have := HX6.out.1; simp [World.cell?, this]
      have htf5 : w5.frozen? ⟨tb, 1, none⟩ = false := by
        have h2 := hgrow5.block tb (Array.getElem?_eq_some_iff.1 htr).1 (row_block (HGd.out.sts.alloc _) htr (by decide))
        rw [htr] at h2
        simp [World.frozen?, h2]
      refine hK.out _ _ (fun _ => ⟨hbt5, htb5, hbx5⟩) (fun hH => ?_)
      have hHeld := hH (by decide)
      clear hH hK K
      try go_simp
      refine wpAnyE_take (i := 9) (v := ?_) [10, 11] rfl (by kernel_rfl) (by kernel_rfl) (by kernel_rfl) (by kernel_rfl) (by kernel_rfl) (by kernel_rfl) (fun _ _ _ h => h) (Or.inl ⟨by rfl, ?_⟩) (by assumption) ?_
      rotate_left
      · intro w hSw; (try dsimp only at hSw); go_simp; try (with_reducible rfl)
      try go_simp
      refine wpAnyE_take (i := 10) (v := ?_) [11] rfl (by kernel_rfl) (by kernel_rfl) (by kernel_rfl) (by kernel_rfl) (by kernel_rfl) (by kernel_rfl) (fun _ _ _ h => h) (Or.inl ⟨by rfl, ?_⟩) (by assumption) ?_
      rotate_left
      · intro w hSw; (try dsimp only at hSw); go_simp; try (with_reducible rfl)
      try go_simp
      refine wpAnyE_one (i := 11) (by kernel_rfl) rfl (fun K hK => ?_)
      go_simp
      skip
      refine hK.out _ _ (fun h => absurd rfl h) (fun _ => ?_)
      clear hK K
      try go_simp
      refine wpAnyE_done (by kernel_rfl) ?_ _
      have HX := Lib.hid (show NdB (w5.setCell ⟨tb, 1, none⟩ (.slice A6 (SL.length + 1) c6)) bx vp (.slice Am d.ms.length cm) d.ab d.tr s0 d.gr n0 d.om from HX6.out.2)
      have HG := Lib.hid (show GC w0 (w5.setCell ⟨tb, 1, none⟩ (.slice A6 (SL.length + 1) c6)) ba bt bm mb most tb vN (.slice A6 (SL.length + 1) c6) NL (SL ++ [.slice Am d.ms.length cm]) ⟨T.nodes, T.states ++ [d.ms]⟩ from ⟨HC6.out.1.1, HC6.out.1.2.1, HC6.out.1.2.2, HAb.out, HC6.out.2, HG6.out⟩)
      clear htr HG6 HX6 HC6 HGd HXd HPd HMd HKd HCd hown5 hgrow5 hbt5 htb5 hbx5 htf5 hbw5 hHeld hS0
      generalize w5.setCell ⟨tb, 1, none⟩ (.slice A6 (SL.length + 1) c6) = w6 at *
      have HP := Lib.hid HP6.out
      have HM := Lib.hid HM6.out
      clear HP6 HM6
      obtain ⟨AN, cN, hvN, _⟩ := row_slice HG.out.gp.nds
      subst hvN
      have HNl := Lib.hid HG.out.gp.len
      obtain ⟨k0, k1, k2⟩ := HG.out.cells
      obtain ⟨t0, t1, _, tf⟩ := HG.out.gp.cells
      obtain ⟨x0, x1, x2, x3, x4, x5, x6, x7⟩ := HX.out.cells
      by_cases h20 : 20000 < NL.length
      · rw [if_pos (by have := HNl.out; (try simp only at this); omega)] at HRes
        go_wp2_with fail
        go_ret
        exact AddPo.no HRes.out HG.out.gp.bel rfl
      · rw [if_neg (by have := HNl.out; (try simp only at this); omega)] at HRes
        have xf4 := HX.out.soft 4
        have xf6 := HX.out.soft 6
        go_wp2_with fail
        clear k0 k1 k2 t0 t1 tf x0 x1 x2 x3 x4 x5 x6 x7 xf4 xf6
        have hbx0 : w0.heap.size ≤ bx := HF.out.2.2.2
        have HGa := Lib.hid (HG.out.box (o := 4) HX.out HF.out.2.2.1.symm HF.out.1 hbx0 (.int .i64 ((SL.length : Nat) : Int)))
        have HPa := Lib.hid (GC.box_ns (o := 4) HP.out HX.out hbx0 (.int .i64 ((SL.length : Nat) : Int)))
        have HMa := Lib.hid (GC.box_ns (o := 4) HM.out HX.out hbx0 (.int .i64 ((SL.length : Nat) : Int)))
        have HXa := Lib.hid (HX.out.set4 ((SL.length : Nat) : Int))
        have HGb := Lib.hid (HGa.out.box (o := 6) HXa.out HF.out.2.2.1.symm HF.out.1 hbx0 (.bool true))
        have HPb := Lib.hid (GC.box_ns (o := 6) HPa.out HXa.out hbx0 (.bool true))
        have HMb := Lib.hid (GC.box_ns (o := 6) HMa.out HXa.out hbx0 (.bool true))
        have HXb := Lib.hid (HXa.out.set6 true)
        generalize (w6.setCell ⟨bx, 4, none⟩ (.int .i64 ((SL.length : Nat) : Int))).setCell ⟨bx, 6, none⟩ (.bool true) = w7 at *
        have hbd : Below w7.heap.size w7 w7.drew := (Below.refl _ _).drew
        have HGd := Lib.hid (HGb.out.below hbd)
        have HPd := Lib.hid (HPb.out.below hbd)
        have HMd := Lib.hid (HMb.out.below hbd)
        have HXd := Lib.hid (HXb.out.below hbd)
        have hS0 := And.intro HGd.out.cells.2.1 (And.intro HGd.out.gp.cells.1 HXd.out.cells)
        refine wp_region_e_drew 10 (S := fun w' => w'.cell? ⟨bt, 0, none⟩ = some (.pointer (some ⟨tb, 0, none⟩)) ∧ w'.cell? ⟨tb, 0, none⟩ = some (.slice AN NL.length cN) ∧ w'.cell? ⟨bx, 0, none⟩ = some vp ∧ w'.cell? ⟨bx, 1, none⟩ = some (.slice Am d.ms.length cm) ∧ w'.cell? ⟨bx, 2, none⟩ = some (.int .i64 d.ab) ∧ w'.cell? ⟨bx, 3, none⟩ = some (.int .i64 d.tr) ∧ w'.cell? ⟨bx, 4, none⟩ = some (.int .i64 ((SL.length : Nat) : Int)) ∧ w'.cell? ⟨bx, 5, none⟩ = some (.int .i64 d.gr) ∧ w'.cell? ⟨bx, 6, none⟩ = some (.bool true) ∧ w'.cell? ⟨bx, 7, none⟩ = some (.bool d.om)) (by kernel_rfl) hS0 (fun hHeld => ?_)
        clear hbd hS0 HG HP HM HX HGa HPa HMa HXa HGb HPb HMb HXb
        generalize w7.drew = wd at *
        refine wpAnyE_take (i := 0) (v := ?_) [8, 9, 10] rfl (by kernel_rfl) (by kernel_rfl) (by kernel_rfl) (by kernel_rfl) (by kernel_rfl) (by kernel_rfl) (fun _ _ _ h => h) (Or.inl ⟨by rfl, ?_⟩) (by assumption) ?_
        rotate_left
        · intro w hSw; (try dsimp only at hSw); go_simp; try (with_reducible rfl)
        try go_simp
        refine wpAnyE_take (i := 1) (v := ?_) [2, 3, 4, 7, 10] rfl (by kernel_rfl) (by kernel_rfl) (by kernel_rfl) (by kernel_rfl) (by kernel_rfl) (by kernel_rfl) (fun _ _ _ h => h) (Or.inl ⟨by rfl, ?_⟩) (by assumption) ?_
        rotate_left
        · intro w hSw; (try dsimp only at hSw); go_simp; try (with_reducible rfl)
        try go_simp
        refine wpAnyE_take (i := 2) (v := ?_) [3, 4, 7, 10] rfl (by kernel_rfl) (by kernel_rfl) (by kernel_rfl) (by kernel_rfl) (by kernel_rfl) (by kernel_rfl) (fun _ _ _ h => h) (Or.inl ⟨by rfl, ?_⟩) (by assumption) ?_
        rotate_left
        · intro w hSw; (try dsimp only at hSw); go_simp; try (with_reducible rfl)
        try go_simp
        refine wpAnyE_take (i := 3) (v := ?_) [4, 7, 10] rfl (by kernel_rfl) (by kernel_rfl) (by kernel_rfl) (by kernel_rfl) (by kernel_rfl) (by kernel_rfl) (fun _ _ _ h => h) (Or.inl ⟨by rfl, ?_⟩) (by assumption) ?_
        rotate_left
        · intro w hSw; (try dsimp only at hSw); go_simp; try (with_reducible rfl)
        try go_simp
        refine wpAnyE_take (i := 4) (v := ?_) [7, 10] rfl (by kernel_rfl) (by kernel_rfl) (by kernel_rfl) (by kernel_rfl) (by kernel_rfl) (by kernel_rfl) (fun _ _ _ h => h) (Or.inl ⟨by rfl, ?_⟩) (by assumption) ?_
        rotate_left
        · intro w hSw; (try dsimp only at hSw); go_simp; try (with_reducible rfl)
        try go_simp
        refine wpAnyE_take (i := 5) (v := ?_) [6, 7, 10] rfl (by kernel_rfl) (by kernel_rfl) (by kernel_rfl) (by kernel_rfl) (by kernel_rfl) (by kernel_rfl) (fun _ _ _ h => h) (Or.inl ⟨by rfl, ?_⟩) (by assumption) ?_
        rotate_left
        · intro w hSw; (try dsimp only at hSw); go_simp; try (with_reducible rfl)
        try go_simp
        have hS0 := hHeld
        refine wpAnyE_one (i := 6) (by kernel_rfl) rfl (fun K hK => ?_)
        go_simp
        skip
        refine hK.out _ _ (fun _ => ⟨cell_stays (below_alloc _ _) hS0.1, cell_stays (below_alloc _ _) hS0.2.1, cell_stays (below_alloc _ _) hS0.2.2.1, cell_stays (below_alloc _ _) hS0.2.2.2.1, cell_stays (below_alloc _ _) hS0.2.2.2.2.1, cell_stays (below_alloc _ _) hS0.2.2.2.2.2.1, cell_stays (below_alloc _ _) hS0.2.2.2.2.2.2.1, cell_stays (below_alloc _ _) hS0.2.2.2.2.2.2.2.1, cell_stays (below_alloc _ _) hS0.2.2.2.2.2.2.2.2.1, cell_stays (below_alloc _ _) hS0.2.2.2.2.2.2.2.2.2⟩) (fun hH => ?_)
        have hHeld := hH (by decide)
        clear hH hK K
        try go_simp
        refine wpAnyE_one (i := 7) (by kernel_rfl) rfl (fun K hK => ?_)
        refine step_append_own rfl _ _ 86 rfl w0.heap.size 90 i0 (.agg #[.slice none 0 0, .slice none 0 0, .int .i64 0, .int .i64 0, .int .i64 0, .int .i64 0, .bool false, .bool false]) 8 88 Tryd.underlying86 HI.out.1 HI.out.2.1 HI.out.2.2.1 HI.out.2.2.2 rfl (by decide) (.slice AN NL.length cN) _ _ rfl (HGd.out.gp.nds.alloc _) ⟨wd.heap.size, 0, none⟩ 1 1 [vp, .slice Am d.ms.length cm, .int .i64 d.ab, .int .i64 d.tr, .int .i64 ((SL.length : Nat) : Int), .int .i64 d.gr, .bool true, .bool d.om] rfl rfl ?c1 ?c2 ?c3 ?c4 ?c5 ?_
        case c1 => exact news_blk (heap_alloc_new wd (.cells #[vp, .slice Am d.ms.length cm, .int .i64 d.ab, .int .i64 d.tr, .int .i64 ((SL.length : Nat) : Int), .int .i64 d.gr, .bool true, .bool d.om] 90))
        case c2 => intro u hu; simp at hu; rcases hu with rfl | rfl | rfl | rfl | rfl | rfl | rfl | rfl <;> first | exact NS.one HPd.out | rfl
        case c3 => have := HNl.out; (try simp only at this); unfold maxLen; omega
        case c4 => have := HNl.out; (try simp only at this); omega
        case c5 => have := HGd.out.gp.bel.size; simp; omega
        intro vN' w8 hown8 hgrow8
        obtain ⟨A8, c8, rfl, _⟩ := row_slice hown8
        have HG8 := Lib.hid (HGd.out.gp.node (x := ⟨⟨d.pn, d.ms, d.ab, d.tr, SL.length, d.gr, true, d.om⟩, vp, .slice Am d.ms.length cm⟩) HPd.out HMd.out hown8 hgrow8)
        have HC8 := Lib.hid (caps_app (q := 0) ⟨HGd.out.at_, HGd.out.pt, HGd.out.mo⟩ HGd.out.km HGd.out.gp.nds (.inl rfl) hgrow8 HGd.out.gp.tree (.slice A8 (NL.length + 1) c8))
        have htr : (wd.alloc (.cells #[vp, .slice Am d.ms.length cm, .int .i64 d.ab, .int .i64 d.tr, .int .i64 ((SL.length : Nat) : Int), .int .i64 d.gr, .bool true, .bool d.om] 90)).heap[tb]? = some (.cells #[.slice AN NL.length cN, (.slice A6 (SL.length + 1) c6)] 88 (0, 0)) := by rw [(below_alloc wd _).block tb HGd.out.gp.lt]; exact HGd.out.gp.tree
        have hne8 := row_block (HGd.out.gp.nds.alloc _) htr (by decide)
        have htb8 : w8.cell? ⟨tb, 0, none⟩ = some (.slice AN NL.length cN) := hgrow8.cell (cell_stays (below_alloc _ _) HGd.out.gp.cells.1) hne8
        have htf8 : w8.frozen? ⟨tb, 0, none⟩ = false := by
          have h2 := hgrow8.block tb (Array.getElem?_eq_some_iff.1 htr).1 hne8
          rw [htr] at h2
          simp [World.frozen?, h2]
        have htp : (wd.alloc (.cells #[vp, .slice Am d.ms.length cm, .int .i64 d.ab, .int .i64 d.tr, .int .i64 ((SL.length : Nat) : Int), .int .i64 d.gr, .bool true, .bool d.om] 90)).heap[bt]? = some (.cells #[.pointer (some ⟨tb, 0, none⟩)] 75 (0, 0)) := by rw [(below_alloc wd _).block bt (Array.getElem?_eq_some_iff.1 HGd.out.pt).1]; exact HGd.out.pt
        have hbt8 : w8.cell? ⟨bt, 0, none⟩ = some (.pointer (some ⟨tb, 0, none⟩)) := hgrow8.cell (cell_stays (below_alloc _ _) HGd.out.cells.2.1) (row_block (HGd.out.gp.nds.alloc _) htp (by decide))
        have hneb : some bx ≠ (Value.slice AN NL.length cN).ownBlock := fun e => HF.out.1 bx e.symm rfl
        refine hK.out _ _ (fun _ => ⟨hbt8, htb8, hgrow8.cell (cell_stays (below_alloc _ _) hS0.2.2.1) hneb, hgrow8.cell (cell_stays (below_alloc _ _) hS0.2.2.2.1) hneb, hgrow8.cell (cell_stays (below_alloc _ _) hS0.2.2.2.2.1) hneb, hgrow8.cell (cell_stays (below_alloc _ _) hS0.2.2.2.2.2.1) hneb, hgrow8.cell (cell_stays (below_alloc _ _) hS0.2.2.2.2.2.2.1) hneb, hgrow8.cell (cell_stays (below_alloc _ _) hS0.2.2.2.2.2.2.2.1) hneb, hgrow8.cell (cell_stays (below_alloc _ _) hS0.2.2.2.2.2.2.2.2.1) hneb, hgrow8.cell (cell_stays (below_alloc _ _) hS0.2.2.2.2.2.2.2.2.2) hneb⟩) (fun hH => ?_)
        have hHeld := hH (by decide)
        clear hH hK K
        try go_simp
        refine wpAnyE_take (i := 8) (v := ?_) [9, 10] rfl (by kernel_rfl) (by kernel_rfl) (by kernel_rfl) (by kernel_rfl) (by kernel_rfl) (by kernel_rfl) (fun _ _ _ h => h) (Or.inl ⟨by rfl, ?_⟩) (by assumption) ?_
        rotate_left
        · intro w hSw; (try dsimp only at hSw); go_simp; try (with_reducible rfl)
        try go_simp
        refine wpAnyE_take (i := 9) (v := ?_) [10] rfl (by kernel_rfl) (by kernel_rfl) (by kernel_rfl) (by kernel_rfl) (by kernel_rfl) (by kernel_rfl) (fun _ _ _ h => h) (Or.inl ⟨by rfl, ?_⟩) (by assumption) ?_
        rotate_left
        · intro w hSw; (try dsimp only at hSw); go_simp; try (with_reducible rfl)
        try go_simp
        refine wpAnyE_one (i := 10) (by kernel_rfl) rfl (fun K hK => ?_)
        go_simp
        skip
        refine hK.out _ _ (fun h => absurd rfl h) (fun _ => ?_)
        clear hK K
        try go_simp
        refine wpAnyE_done (by kernel_rfl) ?_ _
        have HFin := Lib.hid (show GC w0 (w8.setCell ⟨tb, 0, none⟩ (.slice A8 (NL.length + 1) c8)) ba bt bm mb most tb (.slice A8 (NL.length + 1) c8) (.slice A6 (SL.length + 1) c6) (NL ++ [⟨⟨d.pn, d.ms, d.ab, d.tr, SL.length, d.gr, true, d.om⟩, vp, .slice Am d.ms.length cm⟩]) (SL ++ [.slice Am d.ms.length cm]) ⟨T.nodes ++ [⟨d.pn, d.ms, d.ab, d.tr, SL.length, d.gr, true, d.om⟩], T.states ++ [d.ms]⟩ from ⟨HC8.out.1.1, HC8.out.1.2.1, HC8.out.1.2.2, HGd.out.ab, HC8.out.2, HG8.out⟩)
        clear hHeld hS0 htr hne8 htb8 htf8 htp hbt8 hneb HGd HPd HMd HXd HG8 HC8 hown8 hgrow8
        generalize w8.setCell ⟨tb, 0, none⟩ (.slice A8 (NL.length + 1) c8) = w9 at *
        go_wp2_with fail
        go_ret
        exact AddPo.yes (by rw [HRes.out, HSl.out]) HFin.out rfl
end Go.Proofs.YtjojmmabcjccdaaDoor
