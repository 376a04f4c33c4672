/- The tree's space: what a call returns. -/
import Derived.Test.YtjojmmabcjccdaaDoorDk
namespace Go.Proofs.YtjojmmabcjccdaaDoor
open Go.RowKit

/-- the loop over the states -/
def StI (LL : List (List Int)) (w : World) (ob n g : Nat) (kv : Value) (wr : World) : Prop :=
  ∃ (k : Nat) (v : Value), k + g = n ∧ kv = .int .i64 (k : Int) ∧ SpB wr ob v (.slice none 0 0) true ∧ SpB wr w.heap.size (.slice none 0 0) (.slice none 0 0) false ∧ OLL w wr v (LL.take k)
/-- the loop over the nodes -/
def MvI (T : TS) (w : World) (ob n g : Nat) (kv : Value) (wr : World) : Prop :=
  ∃ (k : Nat) (vS vM : Value), k + g = n ∧ kv = .int .i64 (k : Int) ∧ SpB wr ob vS vM true ∧ SpB wr w.heap.size (.slice none 0 0) (.slice none 0 0) false ∧ OLL w wr vS T.states ∧ OMv w wr vM ((movesOf T).take k)
theorem row_cap {w : World} {b k n g c : Nat} {e : TypeId} {xs : List Value} (h : w.ownsRow b e k (.slice (some ⟨g, 0, none⟩) n c) n xs) : n ≤ c := by
  rcases h.2 with ⟨hv, _⟩ | ⟨g', cap, cur, hv, _, _, h1, _⟩
  · cases hv
  · cases hv; exact h1
theorem take_len {α : Type} {L : List α} {k : Nat} (h : k ≤ L.length) : (L.take k).length = k := by rw [List.length_take]; omega
set_option maxHeartbeats 12800000 in
set_option maxRecDepth 100000 in
theorem space_any (w0 : World) (tb : Nat) (vN vS : Value) (NL : List Nv) (SL : List Value) (N : Nt) (M : List Int) (T : TS) (w : World) (h : GP w0 w tb vN vS NL SL T) (hI : TInv N M T) (hlen : ∀ s ∈ T.states, s.length ≤ 1000) :
    Calls Tryd.prog 43 #[.pointer (some ⟨tb, 0, none⟩)] w (SpPo T.states (movesOf T) w) := by
  have HB := Lib.hid (two_boxes w (.cells #[.slice none 0 0, .slice none 0 0, .bool false] 31) (.cells #[.slice none 0 0, .slice none 0 0, .bool true] 31))
  have hnew := heap_alloc_new (w.alloc (.cells #[.slice none 0 0, .slice none 0 0, .bool false] 31)) (.cells #[.slice none 0 0, .slice none 0 0, .bool true] 31)
  rw [World.size_alloc] at hnew
  have hres := heap_alloc_new w (.cells #[.slice none 0 0, .slice none 0 0, .bool false] 31)
  have hres2 := (below_alloc (w.alloc (.cells #[.slice none 0 0, .slice none 0 0, .bool false] 31)) (.cells #[.slice none 0 0, .slice none 0 0, .bool true] 31)).block w.heap.size (by simp)
  rw [hres] at hres2
  have HSb := Lib.hid (show SpB _ (w.heap.size + 1) (.slice none 0 0) (.slice none 0 0) true from hnew)
  have HRb := Lib.hid (show SpB _ w.heap.size (.slice none 0 0) (.slice none 0 0) false from hres2)
  have HG0 := Lib.hid h
  have HG := Lib.hid (h.below HB.out)
  have HI := Lib.hid hI
  have HLs := Lib.hid hlen
  have HSl := Lib.hid h.stl
  have HNl := Lib.hid h.len
  have hcnt : SL.length ≤ 20001 := by rw [h.stl]; have := hI.cnt; have := hI.len; omega
  have hnl : NL.length ≤ 20001 := by rw [h.len]; exact hI.len
  have hnl0 : 0 < NL.length := by rw [h.len]; exact (List.getElem?_eq_some_iff.1 hI.root).1
  obtain ⟨j0, hi, hz0, hz1, hz2⟩ := info_parts rowInfo
  have HJ := Lib.hid (And.intro hi (And.intro hz0 (And.intro hz1 hz2)))
  clear hi hz0 hz1 hz2
  obtain ⟨i0, hi, hz0, hz1, hz2⟩ := info_parts moveInfo
  have HMi := Lib.hid (And.intro hi (And.intro hz0 (And.intro hz1 hz2)))
  clear hi hz0 hz1 hz2 h hI hlen hnew hres hres2
  obtain ⟨AS, cS, hvS, hAS⟩ := row_slice HG.out.sts
  subst hvS
  obtain ⟨t0, t1, _, _⟩ := HG.out.cells
  go_enter Tryd.func43, Tryd.ntmps43
  go_wp2_with fail
  generalize hob : w.heap.size + 1 = ob at *
  have hobw : w.heap.size ≤ ob := by omega
  have hrb : w.heap.size ≠ ob := by omega
  generalize (w.alloc _).alloc _ = wi at *
  go_loopg [14] (SL.length) (fun g kv wr => StI T.states w ob SL.length g kv wr)
  case atStart => exact ⟨0, _, by omega, rfl, HSb.out, HRb.out, by rw [List.take_zero]; exact OLL.start HB.out⟩
  case round =>
    clear t0 t1 HG HSb HRb
    obtain ⟨k, v, hkg, rfl, hSb, hRb, hO⟩ := hrel
    have HK := Lib.hid hkg
    have HRb := Lib.hid hRb
    have hle : k ≤ SL.length := by omega
    have hlk : (T.states.take k).length = k := take_len (by rw [← HSl.out]; exact hle)
    obtain ⟨Av, cv, rfl⟩ := hO.slice
    rw [hlk] at hSb hO
    have HO := Lib.hid hO
    have HX := Lib.hid hSb
    have HLk := Lib.hid hlk
    clear hkg hSb hRb hO hlk
    obtain ⟨o0, o1, o2⟩ := HX.out.cells
    have HGr := Lib.hid (HG0.out.below HO.out.bel)
    by_cases hlt : k < SL.length
    · have hlt' : k < T.states.length := by rw [← HSl.out]; exact hlt
      obtain ⟨gS, cS', u, hv', _, _, _, hu, c0⟩ := HGr.out.st_at (List.getElem?_eq_getElem hlt')
      cases hv'
      obtain ⟨Au, cu, hueq, hzu, _, _⟩ := hu.zin
      subst hueq
      have HTk := Lib.hid (List.take_succ_eq_append_getElem hlt')
      have hsl := HLs.out _ (List.getElem_mem hlt')
      generalize T.states[k] = s at *
      have HZu := Lib.hid hzu
      clear hlt' hu hzu
      go_wp2_with fail
      have hbd : Below wr.heap.size wr wr.drew := (Below.refl _ _).drew
      have HOd := Lib.hid (HO.out.below hbd)
      have HXd := Lib.hid (HX.out.below hbd)
      have HRd := Lib.hid (HRb.out.below hbd)
      have HZd := Lib.hid (HZu.out.below hbd)
      have hS0 := HXd.out.cells.1
      refine wp_region_e_drew 7 (S := fun w' => w'.cell? ⟨ob, 0, none⟩ = some (.slice Av k cv)) (by kernel_rfl) hS0 (fun hHeld => ?_)
      clear hS0 hbd HO HX HRb HZu HGr o0 o1 o2 c0
      generalize wr.drew = wd at *
      refine wpAnyE_take (i := 0) (v := ?_) [1, 5, 7] rfl (by kernel_rfl) (by kernel_rfl) (by kernel_rfl) (by kernel_rfl) (by kernel_rfl) (by kernel_rfl) (fun _ _ _ h => h) (Or.inl ⟨by rfl, ?_⟩) (by assumption) ?_
      rotate_left
      · intro w hSw; (try dsimp only at hSw); go_simp; try (with_reducible rfl)
      try go_simp
      refine wpAnyE_take (i := 1) (v := ?_) [5, 7] rfl (by kernel_rfl) (by kernel_rfl) (by kernel_rfl) (by kernel_rfl) (by kernel_rfl) (by kernel_rfl) (fun _ _ _ h => h) (Or.inl ⟨by rfl, ?_⟩) (by assumption) ?_
      rotate_left
      · intro w hSw; (try dsimp only at hSw); go_simp; try (with_reducible rfl)
      try go_simp
      refine wpAnyE_take (i := 2) (v := ?_) [3, 4, 5, 7] rfl (by kernel_rfl) (by kernel_rfl) (by kernel_rfl) (by kernel_rfl) (by kernel_rfl) (by kernel_rfl) (fun _ _ _ h => h) (Or.inl ⟨by rfl, ?_⟩) (by assumption) ?_
      rotate_left
      · intro w hSw; (try dsimp only at hSw); go_simp; try (with_reducible rfl)
      try go_simp
      have hS0 := hHeld
      refine wpAnyE_one (i := 3) (by kernel_rfl) rfl (fun K hK => ?_)
      go_simp
      ((refine (clone_any Au s.length cu s wd HZd.out rfl (by omega)).mono ?_); rintro e w3 ⟨v3, rfl, hS3⟩; obtain ⟨A3, c3, rfl⟩ := hS3.slice)
      refine hK.out _ _ (fun _ => cell_stays hS3.2 hS0) (fun hH => ?_)
      have hHeld := hH (by decide)
      clear hH hK K
      try go_simp
      have HO3 := Lib.hid (HOd.out.below hS3.2)
      have HX3 := Lib.hid (HXd.out.below hS3.2)
      have HR3 := Lib.hid (HRd.out.below hS3.2)
      have HN3 := Lib.hid (NS.up HOd.out.bel hS3)
      have hS1 := hHeld
      clear hS3 hS0 HOd HXd HRd HZd
      refine wpAnyE_one (i := 4) (by kernel_rfl) rfl (fun K hK => ?_)
      go_simp
      skip
      refine hK.out _ _ (fun _ => cell_stays (below_alloc _ _) hS1) (fun hH => ?_)
      have hHeld := hH (by decide)
      clear hH hK K
      try go_simp
      refine wpAnyE_one (i := 5) (by kernel_rfl) rfl (fun K hK => ?_)
      obtain ⟨SLk, q1, q2, q3, q4⟩ := HO3.out
      rw [HLk.out] at q1
      refine step_append_own rfl _ _ 28 rfl w.heap.size 25 j0 (.slice none 0 0) 1 24 Tryd.underlying28 HJ.out.1 HJ.out.2.1 HJ.out.2.2.1 HJ.out.2.2.2 rfl (by decide) (.slice Av k cv) _ _ rfl (q1.alloc _) ⟨w3.heap.size, 0, none⟩ 1 1 [.slice A3 s.length c3] rfl rfl ?c1 ?c2 ?c3 ?c4 ?c5 ?_
      case c1 => exact news_blk (heap_alloc_new w3 (.cells #[.slice A3 s.length c3] 25))
      case c2 => intro u hu; simp at hu; subst hu; rfl
      case c3 => unfold maxLen; omega
      case c4 => omega
      case c5 => have := q4.size; simp; omega
      intro v5 w5 hown5 hgrow5
      obtain ⟨A5, c5, rfl, _⟩ := row_slice hown5
      have hne : ∀ {cs : Array Value} {b : Nat}, w3.heap[b]? = some (.cells cs 31 (0, 0)) → some b ≠ (Value.slice Av k cv).ownBlock := fun hb => row_block q1 hb (by decide)
      have HX5 := Lib.hid (((HX3.out.below (below_alloc w3 (.cells #[.slice A3 s.length c3] 25))).grown hgrow5 (hne HX3.out)).set0 (.slice A5 (k + 1) c5))
      have HX5c := Lib.hid (((HX3.out.below (below_alloc w3 (.cells #[.slice A3 s.length c3] 25))).grown hgrow5 (hne HX3.out)))
      have HO5 := Lib.hid ((OLL.push (by rw [HLk.out]; exact q1) q2 q3 q4 HN3.out (by rw [HLk.out]; exact hown5) hgrow5).box (o := 0) HX5c.out (by decide) (by decide) hobw (.slice A5 (k + 1) c5))
      have HR5 := Lib.hid (((HR3.out.below (below_alloc w3 (.cells #[.slice A3 s.length c3] 25))).grown hgrow5 (hne HR3.out)).grown (Lib.grownBy_setB (grown_refl w5 (some ob)) 0 (.slice A5 (k + 1) c5)) (fun e => hrb (Option.some.inj e)))
      refine hK.out _ _ (fun _ => HX5c.out.cells.1) (fun hH => ?_)
      have hHeld := hH (by decide)
      have xf := HX5c.out.soft 0
      clear hH hK K
      try go_simp
      refine wpAnyE_take (i := 6) (v := ?_) [7] rfl (by kernel_rfl) (by kernel_rfl) (by kernel_rfl) (by kernel_rfl) (by kernel_rfl) (by kernel_rfl) (fun _ _ _ h => h) (Or.inl ⟨by rfl, ?_⟩) (by assumption) ?_
      rotate_left
      · intro w hSw; (try dsimp only at hSw); go_simp; try (with_reducible rfl)
      try go_simp
      refine wpAnyE_one (i := 7) (by kernel_rfl) rfl (fun K hK => ?_)
      go_simp
      skip
      refine hK.out _ _ (fun h => absurd rfl h) (fun _ => ?_)
      clear hK K
      try go_simp
      refine wpAnyE_done (by kernel_rfl) ?_ _
      clear hHeld hS1 HO3 HX3 HR3 HN3 q1 q2 q3 q4 hown5 hgrow5 hne HX5c xf
      generalize w5.setCell ⟨ob, 0, none⟩ (.slice A5 (k + 1) c5) = w6 at *
      go_wp2_with fail
      go_roundg (gk - 1)
      case measure => have := HK.out; omega
      case rel => exact ⟨k + 1, _, by have := HK.out; omega, by go_num, HX5.out, HR5.out, by rw [HTk.out]; exact HO5.out⟩
    · have HE := Lib.hid (show T.states.take k = T.states from List.take_of_length_le (by rw [← HSl.out]; omega))
      rw [HE.out] at HO
      clear HE HLk
      obtain ⟨AN, cN, hvN, hAN⟩ := row_slice HGr.out.nds
      subst hvN
      obtain ⟨gN, rfl, _, _⟩ := hAN hnl0
      obtain ⟨t0, t1, _, _⟩ := HGr.out.cells
      have hcap := row_cap HGr.out.nds
      have HSt := Lib.hid (show OLL w wr (.slice Av k cv) T.states from HO.out)
      clear HO
      by_cases hc1 : cN = 1
      · subst hc1
        have hn1 : NL.length = 1 := by omega
        have hm0 : movesOf T = [] := List.eq_nil_of_length_eq_zero (by rw [movesOf_len, ← HNl.out]; omega)
        have HO := Lib.hid HSt.out
        have HM := Lib.hid (show OMv w wr (.slice none 0 0) (movesOf T) from by rw [hm0]; exact OMv.start HSt.out.bel)
        clear hm0 HSt
        have hn2 : NL.length - 1 = 0 := by omega


        go_wp2_with fail
        go_loopg [32] (0) (fun g kv wx => kv = .int .i64 0 ∧ wr = wx)
        case atStart => exact ⟨rfl, rfl⟩
        case round =>
          obtain ⟨rfl, rfl⟩ := hrel
          obtain ⟨x0, x1, x2⟩ := HX.out.cells
          obtain ⟨r0, r1, r2⟩ := HRb.out.cells
          have rf0 := HRb.out.soft 0
          have rf1 := HRb.out.soft 1
          have rf2 := HRb.out.soft 2
          have HRa := Lib.hid (HRb.out.set0 (.slice Av k cv))
          have HOa := Lib.hid (HO.out.box (o := 0) HRb.out (by decide) (by decide) (Nat.le_refl _) (.slice Av k cv))
          have HMa := Lib.hid (HM.out.box (o := 0) HRb.out (by decide) (Nat.le_refl _) (.slice Av k cv))
          have HRc := Lib.hid (HRa.out.set1 (.slice none 0 0))
          have HOc := Lib.hid (HOa.out.box (o := 1) HRa.out (by decide) (by decide) (Nat.le_refl _) (.slice none 0 0))
          have HMc := Lib.hid (HMa.out.box (o := 1) HRa.out (by decide) (Nat.le_refl _) (.slice none 0 0))
          have HRe := Lib.hid (HRc.out.set2 true)
          have HOe := Lib.hid (HOc.out.box (o := 2) HRc.out (by decide) (by decide) (Nat.le_refl _) (.bool true))
          have HMe := Lib.hid (HMc.out.box (o := 2) HRc.out (by decide) (Nat.le_refl _) (.bool true))
          clear HRa HOa HMa HRc HOc HMc
          go_wp2_with fail
          generalize ((wr.setCell ⟨w.heap.size, 0, none⟩ (.slice Av k cv)).setCell ⟨w.heap.size, 1, none⟩ (.slice none 0 0)).setCell ⟨w.heap.size, 2, none⟩ (.bool true) = we at *
          obtain ⟨d0, d1, d2⟩ := HRe.out.cells
          exact bodyPost_ret (v := .agg #[.slice Av k cv, .slice none 0 0, .bool true]) (by simp [results, Tryd.results43, go_sem, d0, d1, d2]) rfl ⟨_, _, rfl, HOe.out, HMe.out⟩
      · go_wp2_with fail
        go_loopg [32] (NL.length - 1) (fun g kv wr => MvI T w ob (NL.length - 1) g kv wr)
        case atStart => exact ⟨0, _, _, by omega, rfl, HX.out, HRb.out, HSt.out, by rw [List.take_zero]; exact OMv.start HSt.out.bel⟩
        case round =>
          clear HX HRb HSt t0 t1 HGr o0 o1 o2 HK hle hlt
          obtain ⟨k, vS, vM, hkg, rfl, hX, hRb, hO, hM2⟩ := hrel
          have HK := Lib.hid hkg
          have HX := Lib.hid hX
          have HRb := Lib.hid hRb
          have HO := Lib.hid hO
          have HM := Lib.hid hM2
          have hle : k ≤ NL.length - 1 := by omega
          have HGr := Lib.hid (HG0.out.below hO.bel)
          obtain ⟨Am, cm, rfl⟩ := hM2.slice
          obtain ⟨As, cs, rfl⟩ := hO.slice
          have hml : ((movesOf T).take k).length = k := take_len (by rw [movesOf_len, ← HNl.out]; exact hle)
          rw [hml] at hX hM2
          have HX := Lib.hid hX
          have HM := Lib.hid hM2
          have HMl := Lib.hid hml
          clear hkg hX hRb hO hM2 hml
          by_cases hlt : k < NL.length - 1
          · have hk1 : k + 1 < T.nodes.length := by rw [← HNl.out]; omega
            obtain ⟨d, hd⟩ : ∃ d, T.nodes[k + 1]? = some d := ⟨_, List.getElem?_eq_getElem hk1⟩
            have HMs := Lib.hid (drop_map_take T k hk1)
            have hde : T.nodes[k + 1] = d := by rw [List.getElem?_eq_getElem hk1] at hd; exact Option.some.inj hd
            rw [hde] at HMs
            obtain ⟨p, kk, e, t, hp1, hp2, hp3, hp4, hrest⟩ := HI.out.par (k + 1) d hd (by omega)
            clear hrest
            have HMv := Lib.hid (show mvOf T d = ⟨(e.st : Int), (d.st : Int), d.tr⟩ by unfold mvOf; rw [hp2]; simp [hp4])
            obtain ⟨gN1, cN1, x, hv', _, _, _, hx, hxp, hxm, hc⟩ := HGr.out.at_ hd
            cases hv'
            obtain ⟨gN2, cN2, y, hv', _, _, hpl, hy, _, _, hc'⟩ := HGr.out.at_ hp4
            cases hv'
            have n0 := hc 0 _ rfl
            have n1 := hc 1 _ rfl
            have n2 := hc 2 _ rfl
            have n3 := hc 3 _ rfl
            have n4 := hc 4 _ rfl
            have n5 := hc 5 _ rfl
            have n6 := hc 6 _ rfl
            have n7 := hc 7 _ rfl
            have m4 := hc' 4 _ rfl
            rw [hx] at n2 n3 n4 n5 n6 n7
            rw [hy] at m4
            rw [hp2] at n2
            rw [show (k + 1) * 8 + 0 = 8 + k * 8 by omega] at n0
            rw [show (k + 1) * 8 + 1 = 8 + k * 8 + 1 by omega] at n1
            rw [show (k + 1) * 8 + 2 = 8 + k * 8 + 1 + 1 by omega] at n2
            rw [show (k + 1) * 8 + 3 = 8 + k * 8 + 1 + 1 + 1 by omega] at n3
            rw [show (k + 1) * 8 + 4 = 8 + k * 8 + 1 + 1 + 1 + 1 by omega] at n4
            rw [show (k + 1) * 8 + 5 = 8 + k * 8 + 1 + 1 + 1 + 1 + 1 by omega] at n5
            rw [show (k + 1) * 8 + 6 = 8 + k * 8 + 1 + 1 + 1 + 1 + 1 + 1 by omega] at n6
            rw [show (k + 1) * 8 + 7 = 8 + k * 8 + 1 + 1 + 1 + 1 + 1 + 1 + 1 by omega] at n7
            obtain ⟨Ap, cp, hpe⟩ := hxp.slice
            obtain ⟨Aq, cq, hqe⟩ := hxm.slice
            have n0' : wr.cell? ⟨gN, 8 + k * 8, none⟩ = some (.slice Ap d.pn.length cp) := n0.trans (congrArg some hpe)
            have n1' : wr.cell? ⟨gN, 8 + k * 8 + 1, none⟩ = some (.slice Aq d.ms.length cq) := n1.trans (congrArg some hqe)
            have hp0 : (0 : Int) ≤ (p : Int) := by omega
            have hp9 : (p : Int) < (NL.length : Int) := by omega
            clear hc hc' hx hy hp2 hp3 hp4 hd hde hk1 hxp hxm n0 n1 hpe hqe
            have HBx := Lib.hid (below_alloc wr (.cells #[(.slice Ap d.pn.length cp), (.slice Aq d.ms.length cq), .int .i64 (p : Int), .int .i64 d.tr, .int .i64 (d.st : Int), .int .i64 d.gr, .bool d.nw, .bool d.om] 90))
            have HXb := Lib.hid (NdB.new wr (.slice Ap d.pn.length cp) (.slice Aq d.ms.length cq) p d.tr (d.st : Int) d.gr d.nw d.om)
            go_wp2_with fail
            generalize hxb : wr.heap.size = xb at *
            generalize wr.alloc _ = w1 at *
            rw [← hxb] at HBx
            clear hxb
            have hbd : Below w1.heap.size w1 w1.drew := (Below.refl _ _).drew
            have HB1 := Lib.hid (below_then HBx.out hbd)
            have HGd := Lib.hid (HGr.out.below HB1.out)
            have HOd := Lib.hid (HO.out.below HB1.out)
            have HMd := Lib.hid (HM.out.below HB1.out)
            have HXd := Lib.hid (HX.out.below HB1.out)
            have HRd := Lib.hid (HRb.out.below HB1.out)
            have HNd := Lib.hid (HXb.out.below hbd)
            have hS0 := And.intro HXd.out.cells.2.1 (And.intro HGd.out.cells.1 (And.intro HNd.out.cells.2.2.1 (And.intro HNd.out.cells.2.2.2.1 (And.intro HNd.out.cells.2.2.2.2.1 (cell_stays HB1.out m4)))))
            refine wp_region_e_drew 19 (S := fun w' => w'.cell? ⟨ob, 1, none⟩ = some (.slice Am k cm) ∧ w'.cell? ⟨tb, 0, none⟩ = some (.slice (some ⟨gN, 0, none⟩) NL.length cN) ∧ w'.cell? ⟨xb, 2, none⟩ = some (.int .i64 (p : Int)) ∧ w'.cell? ⟨xb, 3, none⟩ = some (.int .i64 d.tr) ∧ w'.cell? ⟨xb, 4, none⟩ = some (.int .i64 (d.st : Int)) ∧ w'.cell? ⟨gN, p * 8 + 4, none⟩ = some (.int .i64 (e.st : Int))) (by kernel_rfl) hS0 (fun hHeld => ?_)
            clear hS0 hbd HB1 HGr HO HM HX HRb HXb HBx n0' n1' n2 n3 n4 n5 n6 n7 m4
            generalize w1.drew = wd at *
            refine wpAnyE_take (i := 0) (v := ?_) [1, 17, 19] rfl (by kernel_rfl) (by kernel_rfl) (by kernel_rfl) (by kernel_rfl) (by kernel_rfl) (by kernel_rfl) (fun _ _ _ h => h) (Or.inl ⟨by rfl, ?_⟩) (by assumption) ?_
            rotate_left
            · intro w hSw; (try dsimp only at hSw); go_simp; try (with_reducible rfl)
            try go_simp
            refine wpAnyE_take (i := 1) (v := ?_) [17, 19] rfl (by kernel_rfl) (by kernel_rfl) (by kernel_rfl) (by kernel_rfl) (by kernel_rfl) (by kernel_rfl) (fun _ _ _ h => h) (Or.inl ⟨by rfl, ?_⟩) (by assumption) ?_
            rotate_left
            · intro w hSw; (try dsimp only at hSw); go_simp; try (with_reducible rfl)
            try go_simp
            refine wpAnyE_take (i := 2) (v := ?_) [3, 4, 5, 8, 9, 10, 15, 16, 17, 19] rfl (by kernel_rfl) (by kernel_rfl) (by kernel_rfl) (by kernel_rfl) (by kernel_rfl) (by kernel_rfl) (fun _ _ _ h => h) (Or.inl ⟨by rfl, ?_⟩) (by assumption) ?_
            rotate_left
            · intro w hSw; (try dsimp only at hSw); go_simp; try (with_reducible rfl)
            try go_simp
            refine wpAnyE_take (i := 3) (v := ?_) [4, 5, 8, 9, 10, 15, 16, 17, 19] rfl (by kernel_rfl) (by kernel_rfl) (by kernel_rfl) (by kernel_rfl) (by kernel_rfl) (by kernel_rfl) (fun _ _ _ h => h) (Or.inl ⟨by rfl, ?_⟩) (by assumption) ?_
            rotate_left
            · intro w hSw; (try dsimp only at hSw); go_simp; try (with_reducible rfl)
            try go_simp
            refine wpAnyE_take (i := 4) (v := ?_) [5, 8, 9, 10, 15, 16, 17, 19] rfl (by kernel_rfl) (by kernel_rfl) (by kernel_rfl) (by kernel_rfl) (by kernel_rfl) (by kernel_rfl) (fun _ _ _ h => h) (Or.inl ⟨by rfl, ?_⟩) (by assumption) ?_
            rotate_left
            · intro w hSw; (try dsimp only at hSw); go_simp; try (with_reducible rfl)
            try go_simp
            refine wpAnyE_take (i := 5) (v := ?_) [8, 9, 10, 15, 16, 17, 19] rfl (by kernel_rfl) (by kernel_rfl) (by kernel_rfl) (by kernel_rfl) (by kernel_rfl) (by kernel_rfl) (fun _ _ _ h => h) (Or.inl ⟨by rfl, ?_⟩) (by assumption) ?_
            rotate_left
            · intro w hSw; (try dsimp only at hSw); go_simp; try (with_reducible rfl)
            try go_simp
            refine wpAnyE_take (i := 6) (v := ?_) [7, 8, 9, 10, 15, 16, 17, 19] rfl (by kernel_rfl) (by kernel_rfl) (by kernel_rfl) (by kernel_rfl) (by kernel_rfl) (by kernel_rfl) (fun _ _ _ h => h) (Or.inl ⟨by rfl, ?_⟩) (by assumption) ?_
            rotate_left
            · intro w hSw; (try dsimp only at hSw); go_simp; try (with_reducible rfl)
            try go_simp
            refine wpAnyE_take (i := 7) (v := ?_) [8, 9, 10, 15, 16, 17, 19] rfl (by kernel_rfl) (by kernel_rfl) (by kernel_rfl) (by kernel_rfl) (by kernel_rfl) (by kernel_rfl) (fun _ _ _ h => h) (Or.inl ⟨by rfl, ?_⟩) (by assumption) ?_
            rotate_left
            · intro w hSw; (try dsimp only at hSw); go_simp; try (with_reducible rfl)
            try go_simp
            refine wpAnyE_take (i := 8) (v := ?_) [9, 10, 15, 16, 17, 19] rfl (by kernel_rfl) (by kernel_rfl) (by kernel_rfl) (by kernel_rfl) (by kernel_rfl) (by kernel_rfl) (fun _ _ _ h => h) (Or.inl ⟨by rfl, ?_⟩) (by assumption) ?_
            rotate_left
            · intro w hSw; (try dsimp only at hSw); go_simp; try (with_reducible rfl)
            try go_simp
            refine wpAnyE_take (i := 9) (v := ?_) [10, 15, 16, 17, 19] rfl (by kernel_rfl) (by kernel_rfl) (by kernel_rfl) (by kernel_rfl) (by kernel_rfl) (by kernel_rfl) (fun _ _ _ h => h) (Or.inl ⟨by rfl, ?_⟩) (by assumption) ?_
            rotate_left
            · intro w hSw; (try dsimp only at hSw); go_simp; try (with_reducible rfl)
            try go_simp
            refine wpAnyE_take (i := 10) (v := ?_) [15, 16, 17, 19] rfl (by kernel_rfl) (by kernel_rfl) (by kernel_rfl) (by kernel_rfl) (by kernel_rfl) (by kernel_rfl) (fun _ _ _ h => h) (Or.inl ⟨by rfl, ?_⟩) (by assumption) ?_
            rotate_left
            · intro w hSw; (try dsimp only at hSw); go_simp; try (with_reducible rfl)
            try go_simp
            refine wpAnyE_take (i := 11) (v := ?_) [12, 15, 16, 17, 19] rfl (by kernel_rfl) (by kernel_rfl) (by kernel_rfl) (by kernel_rfl) (by kernel_rfl) (by kernel_rfl) (fun _ _ _ h => h) (Or.inl ⟨by rfl, ?_⟩) (by assumption) ?_
            rotate_left
            · intro w hSw; (try dsimp only at hSw); go_simp; try (with_reducible rfl)
            try go_simp
            refine wpAnyE_take (i := 12) (v := ?_) [15, 16, 17, 19] rfl (by kernel_rfl) (by kernel_rfl) (by kernel_rfl) (by kernel_rfl) (by kernel_rfl) (by kernel_rfl) (fun _ _ _ h => h) (Or.inl ⟨by rfl, ?_⟩) (by assumption) ?_
            rotate_left
            · intro w hSw; (try dsimp only at hSw); go_simp; try (with_reducible rfl)
            try go_simp
            refine wpAnyE_take (i := 13) (v := ?_) [14, 15, 16, 17, 19] rfl (by kernel_rfl) (by kernel_rfl) (by kernel_rfl) (by kernel_rfl) (by kernel_rfl) (by kernel_rfl) (fun _ _ _ h => h) (Or.inl ⟨by rfl, ?_⟩) (by assumption) ?_
            rotate_left
            · intro w hSw; (try dsimp only at hSw); go_simp; try (with_reducible rfl)
            try go_simp
            refine wpAnyE_take (i := 14) (v := ?_) [15, 16, 17, 19] rfl (by kernel_rfl) (by kernel_rfl) (by kernel_rfl) (by kernel_rfl) (by kernel_rfl) (by kernel_rfl) (fun _ _ _ h => h) (Or.inl ⟨by rfl, ?_⟩) (by assumption) ?_
            rotate_left
            · intro w hSw; (try dsimp only at hSw); go_simp; try (with_reducible rfl)
            try go_simp
            refine wpAnyE_take (i := 15) (v := ?_) [16, 17, 19] rfl (by kernel_rfl) (by kernel_rfl) (by kernel_rfl) (by kernel_rfl) (by kernel_rfl) (by kernel_rfl) (fun _ _ _ h => h) (Or.inl ⟨by rfl, ?_⟩) (by assumption) ?_
            rotate_left
            · intro w hSw; (try dsimp only at hSw); go_simp; try (with_reducible rfl)
            try go_simp
            have hS1 := hHeld
            refine wpAnyE_one (i := 16) (by kernel_rfl) rfl (fun K hK => ?_)
            go_simp
            skip
            refine hK.out _ _ (fun _ => ⟨cell_stays (below_alloc _ _) hS1.1, cell_stays (below_alloc _ _) hS1.2.1, cell_stays (below_alloc _ _) hS1.2.2.1, cell_stays (below_alloc _ _) hS1.2.2.2.1, cell_stays (below_alloc _ _) hS1.2.2.2.2.1, cell_stays (below_alloc _ _) hS1.2.2.2.2.2⟩) (fun hH => ?_)
            have hHeld := hH (by decide)
            clear hH hK K
            try go_simp
            refine wpAnyE_one (i := 17) (by kernel_rfl) rfl (fun K hK => ?_)
            have hq := HMd.out.1
            rw [HMl.out] at hq
            refine step_append_own rfl _ _ 29 rfl w.heap.size 72 i0 (.agg #[.int .i64 0, .int .i64 0, .int .i64 0]) 3 24 Tryd.underlying29 HMi.out.1 HMi.out.2.1 HMi.out.2.2.1 HMi.out.2.2.2 rfl (by decide) (.slice Am k cm) _ _ rfl (hq.alloc _) ⟨wd.heap.size, 0, none⟩ 1 1 [.int .i64 (e.st : Int), .int .i64 (d.st : Int), .int .i64 d.tr] rfl rfl ?c1 ?c2 ?c3 ?c4 ?c5 ?_
            case c1 => exact news_blk (heap_alloc_new wd (.cells #[.int .i64 (e.st : Int), .int .i64 (d.st : Int), .int .i64 d.tr] 72))
            case c2 => intro u hu; simp at hu; rcases hu with rfl | rfl | rfl <;> rfl
            case c3 => unfold maxLen; omega
            case c4 => omega
            case c5 => have := HMd.out.2.size; simp; omega
            intro v5 w5 hown5 hgrow5
            obtain ⟨A5, c5, rfl, _⟩ := row_slice hown5
            have hal := below_alloc wd (.cells #[.int .i64 (e.st : Int), .int .i64 (d.st : Int), .int .i64 d.tr] 72)
            have hne : ∀ {cs : Array Value} {T : TypeId} {b : Nat}, wd.heap[b]? = some (.cells cs T (0, 0)) → 72 ≠ T → some b ≠ (Value.slice Am k cm).ownBlock := fun hb ht => row_block hq hb ht
            have HX5c := Lib.hid ((HXd.out.below hal).grown hgrow5 (hne HXd.out (by decide)))
            have HX5 := Lib.hid (HX5c.out.set1 (.slice A5 (k + 1) c5))
            have HR5 := Lib.hid (((HRd.out.below hal).grown hgrow5 (hne HRd.out (by decide))).grown (Lib.grownBy_setB (grown_refl w5 (some ob)) 1 (.slice A5 (k + 1) c5)) (fun e => hrb (Option.some.inj e)))
            have HN5 := Lib.hid ((HNd.out.below hal).grown hgrow5 (hne HNd.out (by decide)))
            have HM5 := Lib.hid ((HMd.out.push (x := ⟨(e.st : Int), (d.st : Int), d.tr⟩) (by rw [HMl.out]; exact hown5) hgrow5).box (o := 1) HX5c.out (by decide) hobw (.slice A5 (k + 1) c5))
            have HO5 := Lib.hid ((HOd.out.app (e := 72) hq (by decide) (by decide) hgrow5).box (o := 1) HX5c.out (by decide) (by decide) hobw (.slice A5 (k + 1) c5))
            have htr := HGd.out.tree
            have htb5 : w5.cell? ⟨tb, 0, none⟩ = some (.slice (some ⟨gN, 0, none⟩) NL.length cN) := hgrow5.cell (cell_stays hal HGd.out.cells.1) (hne htr (by decide))
            have hgn5 : w5.cell? ⟨gN, p * 8 + 4, none⟩ = some (.int .i64 (e.st : Int)) := hgrow5.cell (cell_stays hal hS1.2.2.2.2.2) (by
              obtain ⟨cur, h1⟩ := own_kind HGd.out.nds rfl
              exact hne h1 (by decide))
            refine hK.out _ _ (fun _ => ⟨HX5c.out.cells.2.1, htb5, HN5.out.cells.2.2.1, HN5.out.cells.2.2.2.1, HN5.out.cells.2.2.2.2.1, hgn5⟩) (fun hH => ?_)
            have hHeld := hH (by decide)
            have xf := HX5c.out.soft 1
            clear hH hK K
            try go_simp
            refine wpAnyE_take (i := 18) (v := ?_) [19] rfl (by kernel_rfl) (by kernel_rfl) (by kernel_rfl) (by kernel_rfl) (by kernel_rfl) (by kernel_rfl) (fun _ _ _ h => h) (Or.inl ⟨by rfl, ?_⟩) (by assumption) ?_
            rotate_left
            · intro w hSw; (try dsimp only at hSw); go_simp; try (with_reducible rfl)
            try go_simp
            refine wpAnyE_one (i := 19) (by kernel_rfl) rfl (fun K hK => ?_)
            go_simp
            skip
            refine hK.out _ _ (fun h => absurd rfl h) (fun _ => ?_)
            clear hK K
            try go_simp
            refine wpAnyE_done (by kernel_rfl) ?_ _
            clear hHeld hS1 HOd HMd HXd HRd HNd HGd hq hown5 hgrow5 hne HX5c HN5 htr htb5 hgn5 xf hal
            generalize w5.setCell ⟨ob, 1, none⟩ (.slice A5 (k + 1) c5) = w6 at *
            go_wp2_with fail
            go_roundg (gk - 1)
            case measure => have := HK.out; omega
            case rel => exact ⟨k + 1, _, _, by have := HK.out; omega, by go_num, HX5.out, HR5.out, HO5.out, by rw [HMs.out, HMv.out]; exact HM5.out⟩
          · have HE := Lib.hid (show (movesOf T).take k = movesOf T from List.take_of_length_le (by rw [movesOf_len, ← HNl.out]; omega))
            rw [HE.out] at HM
            clear HE HMl
            obtain ⟨x0, x1, x2⟩ := HX.out.cells
            obtain ⟨r0, r1, r2⟩ := HRb.out.cells
            have rf0 := HRb.out.soft 0
            have rf1 := HRb.out.soft 1
            have rf2 := HRb.out.soft 2
            have HRa := Lib.hid (HRb.out.set0 (.slice As T.states.length cs))
            have HOa := Lib.hid (HO.out.box (o := 0) HRb.out (by decide) (by decide) (Nat.le_refl _) (.slice As T.states.length cs))
            have HMa := Lib.hid (HM.out.box (o := 0) HRb.out (by decide) (Nat.le_refl _) (.slice As T.states.length cs))
            have HRc := Lib.hid (HRa.out.set1 (.slice Am k cm))
            have HOc := Lib.hid (HOa.out.box (o := 1) HRa.out (by decide) (by decide) (Nat.le_refl _) (.slice Am k cm))
            have HMc := Lib.hid (HMa.out.box (o := 1) HRa.out (by decide) (Nat.le_refl _) (.slice Am k cm))
            have HRe := Lib.hid (HRc.out.set2 true)
            have HOe := Lib.hid (HOc.out.box (o := 2) HRc.out (by decide) (by decide) (Nat.le_refl _) (.bool true))
            have HMe := Lib.hid (HMc.out.box (o := 2) HRc.out (by decide) (Nat.le_refl _) (.bool true))
            clear HRa HOa HMa HRc HOc HMc
            go_wp2_with fail
            generalize ((wr.setCell ⟨w.heap.size, 0, none⟩ (.slice As T.states.length cs)).setCell ⟨w.heap.size, 1, none⟩ (.slice Am k cm)).setCell ⟨w.heap.size, 2, none⟩ (.bool true) = we at *
            obtain ⟨d0, d1, d2⟩ := HRe.out.cells
            exact bodyPost_ret (v := .agg #[.slice As T.states.length cs, .slice Am k cm, .bool true]) (by simp [results, Tryd.results43, go_sem, d0, d1, d2]) rfl ⟨_, _, rfl, HOe.out, HMe.out⟩
end Go.Proofs.YtjojmmabcjccdaaDoor
