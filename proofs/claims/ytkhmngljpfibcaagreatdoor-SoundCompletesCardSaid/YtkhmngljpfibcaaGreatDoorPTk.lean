/- Path of reference 22: what a call returns. -/
import Derived.Test.YtkhmngljpfibcaaGreatDoorPUu
import Derived.Test.YtkhmngljpfibcaaGreatDoorPBz
namespace Go.Proofs.YtkhmngljpfibcaaGreatDoor
set_option maxRecDepth 100000
set_option maxHeartbeats 25600000
open Go.Lib (hid)
open Go.RowKit

theorem cell_far2 {w : World} {b b' o o' : Nat} {u x : Value} (h : w.cell? ⟨b', o', none⟩ = some x) (hn : b' ≠ b) : (w.setCell ⟨b, o, none⟩ u).cell? ⟨b', o', none⟩ = some x :=
 (Lib.grownBy_setB (grown_refl w (some b)) o u).cell h (fun e => hn (Option.some.inj e))
theorem path22_any (As : Option Addr) (n cs : Nat) (Av : Option Addr) (nm cv : Nat) (fl : Bool) (MV : List Mv) (tn : Nat) (w : World) (h1 : 0 < n) (h2 : n ≤ 2000) (h3 : nm ≤ 20000) (hm : MV.length = nm) (hr : Rd mvC 3 w Av MV) (ho : mvOk MV n) (htn : tn < n) :
 Calls Tryz.prog 71 #[.agg #[.slice As n cs, .slice Av nm cv, .bool fl], .int .i64 (tn : Int)] w (FvPo (pathV MV n tn) w) := by
 have HB0 := hid (below_alloc w (.cells #[.slice As n cs, .slice Av nm cv, .bool fl] 41));have hsb := heap_alloc_new w (.cells #[.slice As n cs, .slice Av nm cv, .bool fl] 41);have HSb0 := hid (show SpB _ w.heap.size (.slice As n cs) (.slice Av nm cv) fl from hsb);have HR0 := hid (hr.below HB0.out);have HMl := hid hm;have HMo := hid ho;have q1 : decide ((tn : Int) < 0) = false := decide_eq_false (by omega);have q2 : decide ((tn : Int) ≥ (n : Int)) = false := decide_eq_false (by omega);have q2b : decide (n ≤ tn) = false := decide_eq_false (by omega);obtain ⟨i0, hi, hz0, hz1, hz2⟩ := info_parts intInfo;have HI := hid (And.intro hi (And.intro hz0 (And.intro hz1 hz2)));clear hi hz0 hz1 hz2;clear hr hm ho hsb;go_enter Tryz.func71, Tryz.ntmps71;go_wp2_with fail;generalize w.alloc _ = wa at *;have HFo := hid (formed22_any As n cs Av nm cv fl MV wa h1 h2 h3 HMl.out HR0.out HMo.out);obtain ⟨s0, s1, s2⟩ := HSb0.out.cells;((with_reducible refine HFo.out.mono ?_); rintro e w0 ⟨rfl, hb1⟩)
 have HB := hid (below_then HB0.out hb1);have HSb := hid (HSb0.out.below hb1);have HRd := hid (HR0.out.below hb1);clear hb1 HFo HB0 HSb0 HR0 s0 s1 s2;obtain ⟨s0, s1, s2⟩ := HSb.out.cells;have HS1 := hid (NS.start (Below.refl w0.heap.size w0));go_wp2_with fail;clear s0 s1 s2;go_loopg [6, 7] (n) (fun g yv iv wr => ∃ k : Nat, k + g = n ∧ iv = .int .i64 (k : Int) ∧ NS w0 wr yv (List.replicate k (-1)));case atStart => exact ⟨0, by omega, rfl, HS1.out⟩
 case round =>
  clear HS1;obtain ⟨k, hk, rfl, hS⟩ := hrel;have HK := hid hk;have HS := hid hS;obtain ⟨Ay, cy, hv⟩ := hS.slice;rw [List.length_replicate] at hv;subst hv;have hle : k ≤ n := by omega
  obtain ⟨s0, s1, s2⟩ := (HSb.out.below hS.2).cells;clear hk hS;by_cases hlt : k < n
  · have hown := HS.out.1;rw [List.length_replicate] at hown;have hbs := HS.out.size;go_wp2_with (at_builtin; refine wpList_append_own _ rfl _ _ 27 rfl w0.heap.size 3 i0 (.int .i64 0) 1 8 Tryz.underlying27 HI.out.1 HI.out.2.1 HI.out.2.2.1 HI.out.2.2.2 rfl (by decide) (.slice Ay k cy) _ _ rfl (hown.alloc _) ⟨wr.heap.size, 0, none⟩ 1 1 [.int .i64 (-1)] rfl rfl ?a1 ?a2 ?a3 ?a4 ?a5 ?_);try (case a1 => exact news_blk (heap_alloc_new wr (.cells #[.int .i64 (-1)] 3)))
    try (case a2 => first | rfl | (intro u hu; simp at hu; subst hu; rfl))
    case a3 => unfold maxLen; omega
    case a4 => omega
    case a5 => first | omega | (simp; omega)
    intro v5 w5 hown5 hgrow5 _;have HS5 := hid (HS.out.push (x := -1) (by rw [List.length_replicate, List.map_replicate]; exact hown5) hgrow5);have e5 : List.replicate k (-1 : Int) ++ [-1] = List.replicate (k + 1) (-1) := by rw [List.replicate_succ']
    rw [e5] at HS5;clear hown hown5 hgrow5 e5;go_wp2_with fail;go_roundg (gk - 1);case measure => have := HK.out; omega
    case rel => exact ⟨k + 1, by have := HK.out; omega, by go_num, HS5.out⟩
  · have hkn : n = k := by omega
    subst hkn;obtain ⟨gy, cy', hv9, hgy, hgl⟩ := HS.out.row (by rw [List.length_replicate]; exact h1);rw [List.length_replicate] at hv9;cases hv9;clear HK hle hlt;have HQ0 : QR wr.heap.size (wr.alloc (.cells #[.int .i64 0] 3)) (.slice (some ⟨wr.heap.size, 0, none⟩) 1 1) (qI (bfStart n).Q) := by
     exact World.ownsRow_lit (base := wr.heap.size) (e := 3) (size := 1) wr #[.int .i64 0] 1 (by simp) (by unfold maxLen; omega) rfl
    have HS0 := hid (show RS MV w0 wr.heap.size gy n cy (bfStart n) (.slice (some ⟨wr.heap.size, 0, none⟩) 1 1) (wr.alloc (.cells #[.int .i64 0] 3)) from ⟨⟨_, HS.out.below (below_alloc wr _), ByR.start MV n⟩, HQ0, by simp⟩);clear HQ0 HS
    go_upto_region 11 with (fail)
    generalize wr.alloc _ = w2 at *;generalize wr.heap.size = U at *;have hgyU := hgl;clear hgl s0 s1 s2;go_wp2_with fail;go_loopg [8, 9] (n + 1) (fun g qv iv wr => ∃ (i : Nat) (S : BfS), i + g = n + 1 ∧ iv = .int .i64 (i : Int) ∧ i ≤ S.Q.length ∧ BfI MV n S ∧ bfF MV n = bfAll MV (n + 1 - i) i S ∧ RS MV w0 U gy n cy S qv wr);case atStart => exact ⟨0, _, by omega, rfl, by omega, BfI.start MV n h1, rfl, HS0.out⟩
    case round =>
     clear HS0;obtain ⟨i, S, hig, rfl, hiQ, hBi, hF, hS⟩ := hrel;obtain ⟨Aq, cq, rfl, _⟩ := row_slice hS.que;have HK := hid hig;have HS := hid hS;have HBi := hid hBi;have HF := hid hF;have hrm := hBi.room;obtain ⟨s0, s1, s2⟩ := (HSb.out.below hS.bel).cells;clear hig hS hF hBi;by_cases hlt : i < S.Q.length
     · obtain ⟨q, hq⟩ : ∃ q, S.Q[i]? = some q := ⟨_, List.getElem?_eq_getElem hlt⟩;have HQ0 := hid hq;have hii : (i : Int) < ((qI S.Q).length : Int) := by rw [qI_len]; omega
       clear hq;go_wp2_with fail;clear s0 s1 s2;obtain ⟨go, rfl⟩ : ∃ go, go = gk := ⟨_, rfl⟩;obtain ⟨wo, rfl⟩ : ∃ wo : World, wo = wr := ⟨_, rfl⟩;go_loopg [10, 8] (nm) (fun g kv qv wr => ∃ (k : Nat) (S2 : BfS), k + g = nm ∧ kv = .int .i64 (k : Int) ∧ (MV.take k).foldl (bfOne q) S = S2 ∧ BfI MV n S2 ∧ S2.Q[i]? = some q ∧ RS MV w0 U gy n cy S2 qv wr);case atStart => exact ⟨0, S, by omega, rfl, by simp, HBi.out, HQ0.out, HS.out⟩
       case round =>
        clear HS hii;obtain ⟨k, S2, hkg, rfl, hS2e, hBi, hQi, hS⟩ := hrel;obtain ⟨Aq2, cq2, rfl, _⟩ := row_slice hS.que;have HJ := hid hkg;have HS := hid hS;have hle : k ≤ nm := by omega
        obtain ⟨s0, s1, s2⟩ := (HSb.out.below hS.bel).cells;clear hkg hS;by_cases hlt2 : k < nm
        · clear s0 s1 s2;have hlt' : k < MV.length := by rw [HMl.out]; exact hlt2
          have hxm := List.getElem_mem hlt';have HFs := hid (fold_snoc (S := S) (q := q) hlt');rw [hS2e] at HFs;have hgk := List.getElem?_eq_getElem hlt';obtain ⟨am, rfl, hpa, m0, m1, m2⟩ := mv_cells (HRd.out.below HS.out.bel) hlt';obtain ⟨r1', r2', r3', r4'⟩ := HMo.out _ hxm;obtain ⟨hbi9, hqi9⟩ := hBi.row1 hQi hxm HMo.out;generalize MV[k] = x at *;obtain ⟨xf, xt, xs⟩ := x;simp only at r1' r2' r3' r4' m0 m1 m2;obtain ⟨f, rfl⟩ := Int.eq_ofNat_of_zero_le r1';obtain ⟨t, rfl⟩ := Int.eq_ofNat_of_zero_le r3';have htn : t < n := by omega
          have hti : (t : Int) < (n : Int) := by omega
          have htB : t < S2.B.length := by rw [hBi.len]; exact htn
          obtain ⟨gq, cq9, hv9, hgq, hgql, r0⟩ := HS.out.que.at_ (qI_at hQi);cases hv9;have hii : (i : Int) < ((qI S2.Q).length : Int) := by have := (List.getElem?_eq_some_iff.1 (qI_at hQi)).1; omega
          have hql : (qI S2.Q).length ≤ 2000 := by rw [qI_len]; have := hBi.room; omega
          have HGk := hid hgk;have HBi9 := hid hbi9;have HQi9 := hid hqi9;have HQi := hid hQi;obtain ⟨Y, hY, hR⟩ := HS.out.yb;have hgl := (hY.1.lt gy rfl).2;have hYl : Y.length = n := by rw [hR.1, hBi.len]
          have htY : t < Y.length := by omega
          have HRy := hid hR;obtain ⟨y0, ys⟩ := hY.cells t htY;obtain ⟨s0, s1, s2⟩ := (HSb.out.below HS.out.bel).cells;clear hbi9 hqi9 hQi hgk hxm r1' r2' r3' r4' hlt' hBi hR hY;by_cases hfq : f = q;rotate_left
          · have HStep := hid (show (MV.take (k + 1)).foldl (bfOne q) S = bfOne q S2 ⟨(f : Int), (t : Int), xs⟩ from HFs.out);have z1 : ((f : Int) == (q : Int)) = false := by rw [beq_eq_false_iff_ne]; omega
            have r1 : True := trivial;rw [bfOne_keep (fun h => hfq (by have := h.1; simp only at this; omega))] at HStep HBi9 HQi9;go_wp2_with fail;go_quiet (fail);have hbq := below_drewN (wr.alloc (.cells #[.int .i64 (f : Int), .int .i64 (t : Int), .int .i64 xs] 113)) nq;have HS6 := hid ((HS.out.below (below_alloc wr (.cells #[.int .i64 (f : Int), .int .i64 (t : Int), .int .i64 xs] 113))).below hbq);clear hbq HS;generalize (wr.alloc (.cells #[.int .i64 (f : Int), .int .i64 (t : Int), .int .i64 xs] 113)).drewN nq = w6 at *;clear y0 m0 m1 m2 s0 s1 s2 r0 r1 ys;go_wp2_with fail;go_roundg (gk - 1);case measure => have := HJ.out; omega
            case rel => exact ⟨k + 1, _, by have := HJ.out; omega, by go_num, HStep.out, HBi9.out, HQi9.out, HS6.out⟩
          subst hfq;have z1 : ((f : Int) == (f : Int)) = true := by simp
          by_cases ht0 : t = 0
          · have HStep := hid (show (MV.take (k + 1)).foldl (bfOne f) S = bfOne f S2 ⟨(f : Int), (t : Int), xs⟩ from HFs.out);have z2 : ((t : Int) != 0) = false := by rw [ht0]; rfl
            have r1 : True := trivial;rw [bfOne_keep (fun h => h.2.1 (by simp only; omega))] at HStep HBi9 HQi9;clear ht0;go_wp2_with fail;go_quiet (fail);have hbq := below_drewN (wr.alloc (.cells #[.int .i64 (f : Int), .int .i64 (t : Int), .int .i64 xs] 113)) nq;have HS6 := hid ((HS.out.below (below_alloc wr (.cells #[.int .i64 (f : Int), .int .i64 (t : Int), .int .i64 xs] 113))).below hbq);clear hbq HS;generalize (wr.alloc (.cells #[.int .i64 (f : Int), .int .i64 (t : Int), .int .i64 xs] 113)).drewN nq = w6 at *;clear y0 m0 m1 m2 s0 s1 s2 r0 r1 ys;go_wp2_with fail;go_roundg (gk - 1);case measure => have := HJ.out; omega
            case rel => exact ⟨k + 1, _, by have := HJ.out; omega, by go_num, HStep.out, HBi9.out, HQi9.out, HS6.out⟩
          have z2 : ((t : Int) != 0) = true := by rw [bne_iff_ne]; omega
          cases hbn : bNone S2.B t with
          | false =>
           have HStep := hid (show (MV.take (k + 1)).foldl (bfOne f) S = bfOne f S2 ⟨(f : Int), (t : Int), xs⟩ from HFs.out);obtain ⟨_, kk, mm, hyk, _, _⟩ := HRy.out.yes htB hbn;rw [hyk] at y0;have z3 : decide ((kk : Int) < 0) = false := decide_eq_false (by omega);have r1 : True := trivial;rw [bfOne_keep (fun h => by have h9 := h.2.2; simp only [Int.toNat_natCast] at h9; rw [hbn] at h9; cases h9)] at HStep HBi9 HQi9;clear hyk;go_wp2_with fail;go_quiet (fail);have hbq := below_drewN (wr.alloc (.cells #[.int .i64 (f : Int), .int .i64 (t : Int), .int .i64 xs] 113)) nq;have HS6 := hid ((HS.out.below (below_alloc wr (.cells #[.int .i64 (f : Int), .int .i64 (t : Int), .int .i64 xs] 113))).below hbq);clear hbq HS;generalize (wr.alloc (.cells #[.int .i64 (f : Int), .int .i64 (t : Int), .int .i64 xs] 113)).drewN nq = w6 at *;clear y0 m0 m1 m2 s0 s1 s2 r0 r1 ys;go_wp2_with fail;go_roundg (gk - 1);case measure => have := HJ.out; omega
           case rel => exact ⟨k + 1, _, by have := HJ.out; omega, by go_num, HStep.out, HBi9.out, HQi9.out, HS6.out⟩
          | true =>
           have HStep := hid (show (MV.take (k + 1)).foldl (bfOne f) S = bfOne f S2 ⟨(f : Int), (t : Int), xs⟩ from HFs.out);obtain ⟨_, hyk⟩ := HRy.out.no htB hbn;rw [hyk] at y0;have z3 : decide ((-1 : Int) < 0) = true := by decide
           have r1 : True := trivial;rw [bfOne_put (m := ⟨(f : Int), (t : Int), xs⟩) rfl rfl ht0 hbn] at HStep HBi9 HQi9;have hxb := heap_alloc_new wr (.cells #[.int .i64 (f : Int), .int .i64 (t : Int), .int .i64 xs] 113);have hgx : gy ≠ wr.heap.size := by omega
           clear hyk;go_wp2_with fail;go_quiet (fail);have hbq := below_drewN (wr.alloc (.cells #[.int .i64 (f : Int), .int .i64 (t : Int), .int .i64 xs] 113)) nq;have HS6 := hid ((HS.out.below (below_alloc wr (.cells #[.int .i64 (f : Int), .int .i64 (t : Int), .int .i64 xs] 113))).below hbq);have HX6 := hid (show ((wr.alloc (.cells #[.int .i64 (f : Int), .int .i64 (t : Int), .int .i64 xs] 113)).drewN nq).heap[wr.heap.size]? = some (.cells #[.int .i64 (f : Int), .int .i64 (t : Int), .int .i64 xs] 113 (0, 0)) by rw [hbq.block _ (by simp)]; exact hxb);clear hxb;clear hbq HS;generalize (wr.alloc (.cells #[.int .i64 (f : Int), .int .i64 (t : Int), .int .i64 xs] 113)).drewN nq = w6 at *;clear y0 m0 m1 m2 s0 s1 s2 r0 r1 ys;generalize wr.heap.size = xb at *;obtain ⟨x0, x1, x2⟩ := mvb_cells9 HX6.out;obtain ⟨Y6, hY6, hR6⟩ := HS6.out.yb;have htY6 : t < Y6.length := by rw [hR6.1]; exact htB
           obtain ⟨y0, ys⟩ := hY6.cells t htY6;clear hR6 hY6;have HPut := hid (HS6.out.put hgyU t (k : Int));have HFin := hid (fun (v7 : Value) (w7 : World) (o : Obj) => HS6.out.fin (v7 := v7) (w7 := w7) (o := o) (t := t) hgyU hgy HGk.out);have x1' := cell_far2 (b := gy) (o := t) (u := .int .i64 (k : Int)) x1 (fun e => hgx e.symm);have hus6 := HS6.out.us
           go_upto_region 20 with (fail)
           clear x0 x1 x2 y0 ys HX6;have hus8 : U ≤ (w6.setCell ⟨gy, t, none⟩ (.int .i64 (k : Int))).heap.size := by simp; omega
           clear hus6 HS6;generalize w6.setCell ⟨gy, t, none⟩ (.int .i64 (k : Int)) = w8 at *;go_wp2_with (at_builtin; refine wpList_append_own _ rfl _ _ 27 rfl U 3 i0 (.int .i64 0) 1 8 Tryz.underlying27 HI.out.1 HI.out.2.1 HI.out.2.2.1 HI.out.2.2.2 rfl (by decide) (.slice (some ⟨gq, 0, none⟩) (qI S2.Q).length cq2) _ _ rfl (HPut.out.alloc _) ⟨w8.heap.size, 0, none⟩ 1 1 [.int .i64 ((t : Int))] rfl rfl ?c1 ?c2 ?c3 ?c4 ?c5 ?_);try (case c1 => exact news_blk (heap_alloc_new w8 (.cells #[.int .i64 ((t : Int))] 3)))
           try (case c2 => first | rfl | (intro u hu; simp at hu; subst hu; rfl))
           case c3 => unfold maxLen; omega
           case c4 => omega
           case c5 => simp; omega
           intro v7 w7 hown7 hgrow7 _;have HS7 := hid (HFin.out v7 w7 _ hown7 hgrow7);clear hown7 hgrow7 HFin HPut x1' hus8;go_wp2_with fail;go_roundg (gk - 1);case measure => have := HJ.out; omega
           case rel => exact ⟨k + 1, _, by have := HJ.out; omega, by go_num, HStep.out, HBi9.out, HQi9.out, HS7.out⟩
        · have he : bfRow MV q S = S2 := by rw [← hS2e]; unfold bfRow; rw [List.take_of_length_le (by rw [HMl.out]; omega)]
          have HE := hid (show bfF MV n = bfAll MV (n + 1 - (i + 1)) (i + 1) S2 by
           rw [HF.out, show n + 1 - i = (n - i) + 1 by omega, bfAll_step HQ0.out, he, show n + 1 - (i + 1) = n - i by omega])
          have hiQ2 : i + 1 ≤ S2.Q.length := (List.getElem?_eq_some_iff.1 hQi).1;have HBi2 := hid hBi;clear he hQi hBi hS2e;go_wp2_with fail;go_roundg (go - 1);case measure => have := HK.out; omega
          case rel => exact ⟨i + 1, S2, by have := HK.out; omega, by go_num, hiQ2, HBi2.out, HE.out, HS.out⟩
     · have HFS := hid (show bfF MV n = S by rw [HF.out]; exact bfAll_end (by omega));have hii : ¬ ((i : Int) < ((qI S.Q).length : Int)) := by rw [qI_len]; omega
       clear HF HK
       go_upto_region 21 with (fail)
       clear s0 s1 s2;have htB : tn < S.B.length := by rw [HBi.out.len]; exact htn
       by_cases hgo : tn = 0 ∨ bNone S.B tn = false;rotate_left
       · have hn0 : tn ≠ 0 := fun e => hgo (.inl e)
         have hbn : bNone S.B tn = true := by
          cases h9 : bNone S.B tn with
          | false => exact absurd (.inr h9) hgo
          | true => rfl
         obtain ⟨Y, hY, hR⟩ := HS.out.yb;obtain ⟨hl, hyk⟩ := hR.no htB hbn;have y0 := (hY.cells tn hl).1;rw [hyk] at y0;have z1 : ((tn : Int) != 0) = true := by rw [bne_iff_ne]; omega
         have z3 : decide ((-1 : Int) < 0) = true := by decide
         have htI : (tn : Int) < (n : Int) := by omega
         have HV := hid (show pathV MV n tn = ([], 10) by unfold pathV; rw [HFS.out, if_neg hgo]);clear hgo hR hY hyk hbn;go_wp2_with fail;go_ret2;exact FvPo.no HV.out (by decide) rfl (below_then HB.out HS.out.bel)
       have HV := hid (show pathV MV n tn = ((bfBack S.B (n + 1) tn).reverse, 0) by unfold pathV; rw [HFS.out, if_pos hgo]);obtain ⟨a, ha, han⟩ := HBi.out.has htn hgo;by_cases hn0 : tn = 0
       · have z1 : ((tn : Int) != 0) = false := by rw [hn0]; rfl
         have y0 : True := trivial;clear hgo hn0;have HS1 := hid (NS.start (Below.refl wr.heap.size wr));go_wp2_with fail;clear y0;obtain ⟨wq, rfl⟩ : ∃ wq : World, wq = wr := ⟨_, rfl⟩;go_loopg [1, 12] (a) (fun g tv ov wr => ∃ (j : Nat) (L : List Int), tv = .int .i64 (j : Int) ∧ S.Q[g]? = some j ∧ g < n ∧ bfBack S.B (n + 1) tn = L ++ bfBack S.B (n + 1) j ∧ NS wq wr ov L ∧ L.length + g ≤ n);case atStart => exact ⟨tn, [], rfl, ha, han, rfl, HS1.out, by simp; omega⟩
         case round =>
          clear HS1;obtain ⟨j, L, rfl, hj, hgn, hbk, hL, hLl⟩ := hrel;obtain ⟨Ao, co, rfl⟩ := hL.slice;have HL := hid hL;have HBk := hid hbk;clear hL hbk;by_cases hj0 : j = 0
          · have z1 : ((j : Int) != 0) = false := by rw [hj0]; rfl
            have HLe := hid (show bfBack S.B (n + 1) tn = L by rw [HBk.out, hj0, back_zero, List.append_nil]);have HO1 := hid (NS.start (Below.refl wr.heap.size wr));clear hj hj0;go_wp2_with fail;obtain ⟨wz, rfl⟩ : ∃ wz : World, wz = wr := ⟨_, rfl⟩;go_loopg [13, 14] (L.length) (fun g ov iv wr => g ≤ L.length ∧ iv = .int .i64 ((g : Int) - 1) ∧ NS wz wr ov (L.drop g).reverse);case atStart => exact ⟨by omega, rfl, by rw [List.drop_length]; exact HO1.out⟩
            case round =>
             clear HO1;obtain ⟨hgl, rfl, hO⟩ := hrel;obtain ⟨Ap, cp, hv⟩ := hO.slice;rw [List.length_reverse, List.length_drop] at hv;subst hv;have HO := hid hO;clear hO;by_cases hg0 : gk = 0
             · have z2 : decide (((gk : Nat) : Int) - 1 ≥ 0) = false := decide_eq_false (by omega);have z2b : ¬ (0 ≤ ((gk : Nat) : Int) - 1) := by omega
               have HOe := hid (show NS wz wr (.slice Ap (L.length - gk) cp) L.reverse by have := HO.out; rw [hg0, List.drop_zero] at this; rw [hg0]; exact this);clear hg0;go_wp2_with fail;go_ret2;exact FvPo.yes (by rw [HV.out, HLe.out]) rfl (NS.up (below_then HB.out (below_then HS.out.bel HL.out.2)) HOe.out)
             · obtain ⟨g1, hg1⟩ : ∃ g1, gk = g1 + 1 := ⟨gk - 1, by omega⟩;have hgi : ((gk : Nat) : Int) - 1 = (g1 : Int) := by omega
               rw [hgi];have hlt1 : g1 < L.length := by omega
               have HDr := hid (show (L.drop g1).reverse = (L.drop gk).reverse ++ [L[g1]] by rw [hg1, List.drop_eq_getElem_cons hlt1, List.reverse_cons]);obtain ⟨ao, hoe, hpo, o0⟩ := (ns_zin2 (HL.out.below HO.out.2)) g1 hlt1;subst hoe;have hown := HO.out.1;rw [List.length_reverse, List.length_drop] at hown;have hbs := HO.out.size;have z2 : decide ((g1 : Int) ≥ 0) = true := decide_eq_true (by omega);have hg1l : (g1 : Int) < (L.length : Int) := by omega
               generalize L[g1] = x at *;have HG1 := hid hg1;clear hg1;go_wp2_with (at_builtin; refine wpList_append_own _ rfl _ _ 27 rfl wz.heap.size 3 i0 (.int .i64 0) 1 8 Tryz.underlying27 HI.out.1 HI.out.2.1 HI.out.2.2.1 HI.out.2.2.2 rfl (by decide) (.slice Ap (L.length - gk) cp) _ _ rfl (hown.alloc _) ⟨wr.heap.size, 0, none⟩ 1 1 [.int .i64 (x)] rfl rfl ?fb1 ?fb2 ?fb3 ?fb4 ?fb5 ?_);try (case fb1 => exact news_blk (heap_alloc_new wr (.cells #[.int .i64 (x)] 3)))
               try (case fb2 => first | rfl | (intro u hu; simp at hu; subst hu; rfl))
               case fb3 => unfold maxLen; omega
               case fb4 => omega
               case fb5 => first | omega | (simp; omega)
               intro v5 w5 hown5 hgrow5 _;have HO5 := hid (HO.out.push (x := x) (by rw [List.length_reverse, List.length_drop, List.map_reverse, List.map_drop]; exact hown5) hgrow5);rw [← HDr.out] at HO5;clear hown hown5 hgrow5 o0;go_wp2_with fail;go_roundg g1;case measure => have := HG1.out; omega
               case rel => exact ⟨by have := HG1.out; omega, by go_num, HO5.out⟩
          · have z1 : ((j : Int) != 0) = true := by rw [bne_iff_ne]; omega
            obtain ⟨m, b, f, e1, e2, e3, e4, e5, e6⟩ := HBi.out.back hj hgn hj0;have hjn : j < n := HBi.out.rng j (List.mem_of_getElem? hj);have hjB : j < S.B.length := by rw [HBi.out.len]; exact hjn
            have hbn : bNone S.B j = false := by
             cases h9 : bNone S.B j with
             | false => rfl
             | true => have := (bNone_iff _ _).1 h9; rw [e1] at this; cases this
            obtain ⟨Y, hY, hR⟩ := HS.out.yb;obtain ⟨hl, kk, mm, hyk, e7, e8⟩ := hR.yes hjB hbn;have hmm : mm = m := by rw [e1] at e7; cases e7; rfl
            subst hmm;have y0 := (hY.cells j hl).1;rw [hyk] at y0;obtain ⟨hkk, hmk⟩ := List.getElem?_eq_some_iff.1 e8;obtain ⟨am, rfl, hpa, m0, m1, m2⟩ := mv_cells (HRd.out.below HS.out.bel) hkk;rw [hmk] at m0 m1 m2;have s1 := (HSb.out.below HS.out.bel).cells.2.1;have hkm : (kk : Int) < (nm : Int) := by rw [← HMl.out]; omega
            have hjnI : (j : Int) < (n : Int) := by omega
            have hwl := (HSb.out.below HS.out.bel).lt;have hgl := (hY.1.lt gy rfl).2;have HNx := hid (show bfBack S.B (n + 1) tn = (L ++ [mm.s]) ++ bfBack S.B (n + 1) f by rw [HBk.out, e6, List.append_assoc]; rfl);have He5 := hid e5;obtain ⟨xf, xt, xs⟩ := mm;simp only at m0 m1 m2 HNx e3;subst e3;have HY := hid (And.intro s1 (And.intro y0 (And.intro m2 m0)));clear e1 e2 e5 e6 e7 e8 hmk hyk hY hR hbn hj m1
            go_upto_region 25 with (fail)
            have hbd : Below wr.heap.size wr wr.drew := (Below.refl _ _).drew;have HLd := hid (HL.out.below hbd);have hS0 := And.intro (cell_stays HLd.out.2 s1) (And.intro (cell_stays HLd.out.2 y0) (cell_stays HLd.out.2 m2));refine rh3 hS0 (fun hHeld => ?_);clear hS0 hbd HL s1 y0 m2 m0;generalize wr.drew = wd at *;refine tkH 0 ?_;(try go_simp);refine tkH 1 ?_;(try go_simp);refine tkH 2 ?_;(try go_simp);refine tkH 3 ?_;(try go_simp);refine tkH 4 ?_;(try go_simp);refine tkH 5 ?_;(try go_simp);refine tkH 6 ?_;(try go_simp);refine tkH 7 ?_;(try go_simp);refine tkH 8 ?_;(try go_simp);refine tkH 9 ?_;(try go_simp);have hS9 := hHeld;refine tkR 10 (fun K hK => ?_);go_simp;skip;refine hK.out _ _ (⟨cell_stays (below_alloc _ _) hS9.1, cell_stays (below_alloc _ _) hS9.2.1, cell_stays (below_alloc _ _) hS9.2.2⟩) (fun hHeld => ?_);clear hK K;try go_simp
            refine tkR 11 (fun K hK => ?_);have hq := HLd.out.1;have hbs := HLd.out.size;refine step_append_own rfl _ _ 27 rfl wq.heap.size 3 i0 (.int .i64 0) 1 8 Tryz.underlying27 HI.out.1 HI.out.2.1 HI.out.2.2.1 HI.out.2.2.2 rfl (by decide) (.slice Ao L.length co) _ _ rfl (hq.alloc _) ⟨wd.heap.size, 0, none⟩ 1 1 [.int .i64 xs] rfl rfl ?f1 ?f2 ?f3 ?f4 ?f5 ?_;case f1 => exact news_blk (heap_alloc_new wd (.cells #[.int .i64 xs] 3))
            case f2 => intro u hu; simp at hu; subst hu; rfl
            case f3 => unfold maxLen; omega
            case f4 => omega
            case f5 => first | omega | (simp; omega)
            intro v5 w5 hown5 hgrow5;have HL5 := hid (HLd.out.push (x := xs) hown5 hgrow5);refine hK.out _ _ ⟨cell_stays HL5.out.2 HY.out.1, cell_stays HL5.out.2 HY.out.2.1, cell_stays HL5.out.2 HY.out.2.2.1⟩ (fun hHeld => ?_);clear hK K hS9 hq hown5 hgrow5 HLd;try go_simp
            refine tkH 12 ?_;(try go_simp);refine wpAnyH_done (by kernel_rfl) ?_ _;clear hHeld;have s1 := cell_stays HL5.out.2 HY.out.1;have y0 := cell_stays HL5.out.2 HY.out.2.1;have m0 := cell_stays HL5.out.2 HY.out.2.2.2;go_wp2_with fail;go_quiet (fail);have HL6 := hid (HL5.out.below (below_drewN w5 nq));clear HL5 s1 y0 m0;generalize w5.drewN nq = w6 at *;go_wp2_with fail;go_roundg b;case measure => omega
            case rel => exact ⟨f, L ++ [xs], rfl, He5.out, by omega, HNx.out, HL6.out, by rw [List.length_append]; simp; omega⟩
       · have hbn : bNone S.B tn = false := hgo.resolve_left hn0;obtain ⟨Y, hY, hR⟩ := HS.out.yb;obtain ⟨hl, kt, _, hyk, _, _⟩ := hR.yes htB hbn;have y0 := (hY.cells tn hl).1;rw [hyk] at y0;have z1 : ((tn : Int) != 0) = true := by rw [bne_iff_ne]; omega
         have z3 : decide ((kt : Int) < 0) = false := decide_eq_false (by omega);have htI : (tn : Int) < (n : Int) := by omega
         clear hgo hR hY hyk hbn;have HS1 := hid (NS.start (Below.refl wr.heap.size wr));go_wp2_with fail;clear y0;obtain ⟨wq, rfl⟩ : ∃ wq : World, wq = wr := ⟨_, rfl⟩;go_loopg [1, 12] (a) (fun g tv ov wr => ∃ (j : Nat) (L : List Int), tv = .int .i64 (j : Int) ∧ S.Q[g]? = some j ∧ g < n ∧ bfBack S.B (n + 1) tn = L ++ bfBack S.B (n + 1) j ∧ NS wq wr ov L ∧ L.length + g ≤ n);case atStart => exact ⟨tn, [], rfl, ha, han, rfl, HS1.out, by simp; omega⟩
         case round =>
          clear HS1;obtain ⟨j, L, rfl, hj, hgn, hbk, hL, hLl⟩ := hrel;obtain ⟨Ao, co, rfl⟩ := hL.slice;have HL := hid hL;have HBk := hid hbk;clear hL hbk;by_cases hj0 : j = 0
          · have z1 : ((j : Int) != 0) = false := by rw [hj0]; rfl
            have HLe := hid (show bfBack S.B (n + 1) tn = L by rw [HBk.out, hj0, back_zero, List.append_nil]);have HO1 := hid (NS.start (Below.refl wr.heap.size wr));clear hj hj0;go_wp2_with fail;obtain ⟨wz, rfl⟩ : ∃ wz : World, wz = wr := ⟨_, rfl⟩;go_loopg [13, 14] (L.length) (fun g ov iv wr => g ≤ L.length ∧ iv = .int .i64 ((g : Int) - 1) ∧ NS wz wr ov (L.drop g).reverse);case atStart => exact ⟨by omega, rfl, by rw [List.drop_length]; exact HO1.out⟩
            case round =>
             clear HO1;obtain ⟨hgl, rfl, hO⟩ := hrel;obtain ⟨Ap, cp, hv⟩ := hO.slice;rw [List.length_reverse, List.length_drop] at hv;subst hv;have HO := hid hO;clear hO;by_cases hg0 : gk = 0
             · have z2 : decide (((gk : Nat) : Int) - 1 ≥ 0) = false := decide_eq_false (by omega);have z2b : ¬ (0 ≤ ((gk : Nat) : Int) - 1) := by omega
               have HOe := hid (show NS wz wr (.slice Ap (L.length - gk) cp) L.reverse by have := HO.out; rw [hg0, List.drop_zero] at this; rw [hg0]; exact this);clear hg0;go_wp2_with fail;go_ret2;exact FvPo.yes (by rw [HV.out, HLe.out]) rfl (NS.up (below_then HB.out (below_then HS.out.bel HL.out.2)) HOe.out)
             · obtain ⟨g1, hg1⟩ : ∃ g1, gk = g1 + 1 := ⟨gk - 1, by omega⟩;have hgi : ((gk : Nat) : Int) - 1 = (g1 : Int) := by omega
               rw [hgi];have hlt1 : g1 < L.length := by omega
               have HDr := hid (show (L.drop g1).reverse = (L.drop gk).reverse ++ [L[g1]] by rw [hg1, List.drop_eq_getElem_cons hlt1, List.reverse_cons]);obtain ⟨ao, hoe, hpo, o0⟩ := (ns_zin2 (HL.out.below HO.out.2)) g1 hlt1;subst hoe;have hown := HO.out.1;rw [List.length_reverse, List.length_drop] at hown;have hbs := HO.out.size;have z2 : decide ((g1 : Int) ≥ 0) = true := decide_eq_true (by omega);have hg1l : (g1 : Int) < (L.length : Int) := by omega
               generalize L[g1] = x at *;have HG1 := hid hg1;clear hg1;go_wp2_with (at_builtin; refine wpList_append_own _ rfl _ _ 27 rfl wz.heap.size 3 i0 (.int .i64 0) 1 8 Tryz.underlying27 HI.out.1 HI.out.2.1 HI.out.2.2.1 HI.out.2.2.2 rfl (by decide) (.slice Ap (L.length - gk) cp) _ _ rfl (hown.alloc _) ⟨wr.heap.size, 0, none⟩ 1 1 [.int .i64 (x)] rfl rfl ?hb1 ?hb2 ?hb3 ?hb4 ?hb5 ?_);try (case hb1 => exact news_blk (heap_alloc_new wr (.cells #[.int .i64 (x)] 3)))
               try (case hb2 => first | rfl | (intro u hu; simp at hu; subst hu; rfl))
               case hb3 => unfold maxLen; omega
               case hb4 => omega
               case hb5 => first | omega | (simp; omega)
               intro v5 w5 hown5 hgrow5 _;have HO5 := hid (HO.out.push (x := x) (by rw [List.length_reverse, List.length_drop, List.map_reverse, List.map_drop]; exact hown5) hgrow5);rw [← HDr.out] at HO5;clear hown hown5 hgrow5 o0;go_wp2_with fail;go_roundg g1;case measure => have := HG1.out; omega
               case rel => exact ⟨by have := HG1.out; omega, by go_num, HO5.out⟩
          · have z1 : ((j : Int) != 0) = true := by rw [bne_iff_ne]; omega
            obtain ⟨m, b, f, e1, e2, e3, e4, e5, e6⟩ := HBi.out.back hj hgn hj0;have hjn : j < n := HBi.out.rng j (List.mem_of_getElem? hj);have hjB : j < S.B.length := by rw [HBi.out.len]; exact hjn
            have hbn : bNone S.B j = false := by
             cases h9 : bNone S.B j with
             | false => rfl
             | true => have := (bNone_iff _ _).1 h9; rw [e1] at this; cases this
            obtain ⟨Y, hY, hR⟩ := HS.out.yb;obtain ⟨hl, kk, mm, hyk, e7, e8⟩ := hR.yes hjB hbn;have hmm : mm = m := by rw [e1] at e7; cases e7; rfl
            subst hmm;have y0 := (hY.cells j hl).1;rw [hyk] at y0;obtain ⟨hkk, hmk⟩ := List.getElem?_eq_some_iff.1 e8;obtain ⟨am, rfl, hpa, m0, m1, m2⟩ := mv_cells (HRd.out.below HS.out.bel) hkk;rw [hmk] at m0 m1 m2;have s1 := (HSb.out.below HS.out.bel).cells.2.1;have hkm : (kk : Int) < (nm : Int) := by rw [← HMl.out]; omega
            have hjnI : (j : Int) < (n : Int) := by omega
            have hwl := (HSb.out.below HS.out.bel).lt;have hgl := (hY.1.lt gy rfl).2;have HNx := hid (show bfBack S.B (n + 1) tn = (L ++ [mm.s]) ++ bfBack S.B (n + 1) f by rw [HBk.out, e6, List.append_assoc]; rfl);have He5 := hid e5;obtain ⟨xf, xt, xs⟩ := mm;simp only at m0 m1 m2 HNx e3;subst e3;have HY := hid (And.intro s1 (And.intro y0 (And.intro m2 m0)));clear e1 e2 e5 e6 e7 e8 hmk hyk hY hR hbn hj m1
            go_upto_region 25 with (fail)
            have hbd : Below wr.heap.size wr wr.drew := (Below.refl _ _).drew;have HLd := hid (HL.out.below hbd);have hS0 := And.intro (cell_stays HLd.out.2 s1) (And.intro (cell_stays HLd.out.2 y0) (cell_stays HLd.out.2 m2));refine rh3 hS0 (fun hHeld => ?_);clear hS0 hbd HL s1 y0 m2 m0;generalize wr.drew = wd at *;refine tkH 0 ?_;(try go_simp);refine tkH 1 ?_;(try go_simp);refine tkH 2 ?_;(try go_simp);refine tkH 3 ?_;(try go_simp);refine tkH 4 ?_;(try go_simp);refine tkH 5 ?_;(try go_simp);refine tkH 6 ?_;(try go_simp);refine tkH 7 ?_;(try go_simp);refine tkH 8 ?_;(try go_simp);refine tkH 9 ?_;(try go_simp);have hS9 := hHeld;refine tkR 10 (fun K hK => ?_);go_simp;skip;refine hK.out _ _ (⟨cell_stays (below_alloc _ _) hS9.1, cell_stays (below_alloc _ _) hS9.2.1, cell_stays (below_alloc _ _) hS9.2.2⟩) (fun hHeld => ?_);clear hK K;try go_simp
            refine tkR 11 (fun K hK => ?_);have hq := HLd.out.1;have hbs := HLd.out.size;refine step_append_own rfl _ _ 27 rfl wq.heap.size 3 i0 (.int .i64 0) 1 8 Tryz.underlying27 HI.out.1 HI.out.2.1 HI.out.2.2.1 HI.out.2.2.2 rfl (by decide) (.slice Ao L.length co) _ _ rfl (hq.alloc _) ⟨wd.heap.size, 0, none⟩ 1 1 [.int .i64 xs] rfl rfl ?h1 ?h2 ?h3 ?h4 ?h5 ?_;case h1 => exact news_blk (heap_alloc_new wd (.cells #[.int .i64 xs] 3))
            case h2 => intro u hu; simp at hu; subst hu; rfl
            case h3 => unfold maxLen; omega
            case h4 => omega
            case h5 => first | omega | (simp; omega)
            intro v5 w5 hown5 hgrow5;have HL5 := hid (HLd.out.push (x := xs) hown5 hgrow5);refine hK.out _ _ ⟨cell_stays HL5.out.2 HY.out.1, cell_stays HL5.out.2 HY.out.2.1, cell_stays HL5.out.2 HY.out.2.2.1⟩ (fun hHeld => ?_);clear hK K hS9 hq hown5 hgrow5 HLd;try go_simp
            refine tkH 12 ?_;(try go_simp);refine wpAnyH_done (by kernel_rfl) ?_ _;clear hHeld;have s1 := cell_stays HL5.out.2 HY.out.1;have y0 := cell_stays HL5.out.2 HY.out.2.1;have m0 := cell_stays HL5.out.2 HY.out.2.2.2;go_wp2_with fail;go_quiet (fail);have HL6 := hid (HL5.out.below (below_drewN w5 nq));clear HL5 s1 y0 m0;generalize w5.drewN nq = w6 at *;go_wp2_with fail;go_roundg b;case measure => omega
            case rel => exact ⟨f, L ++ [xs], rfl, He5.out, by omega, HNx.out, HL6.out, by rw [List.length_append]; simp; omega⟩
end Go.Proofs.YtkhmngljpfibcaaGreatDoor
