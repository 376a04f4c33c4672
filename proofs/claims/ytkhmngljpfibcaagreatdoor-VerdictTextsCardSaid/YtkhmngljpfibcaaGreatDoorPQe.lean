/- verdict.covers: what a call returns. -/
import Derived.Test.YtkhmngljpfibcaaGreatDoorPQd
namespace Go.Proofs.YtkhmngljpfibcaaGreatDoor
set_option maxRecDepth 100000
set_option maxHeartbeats 12800000
open Go.Lib (hid)
open Go.RowKit

theorem vcovers_any (N : Nt) (A : Option Addr) (n c : Nat) (Al : Option Addr) (nl cl : Nat) (LL : List (List Int)) (w : World) (h : NtIn w A N) (hn : N.tr.length = n) (hv : ntB N = true) (hL : LIn w Al LL) (hl : LL.length = nl) (hl2 : nl ≤ 9223372036854775806) (hall : ∀ s ∈ LL, mkX N.pl true s = true) :
 Calls Tryz.prog 170 #[.agg #[.int .i64 N.pl, .slice A n c, .int .i64 N.src, .int .i64 N.snk], .slice Al nl cl] w fun e w' => e = .returned (.bool (covX N LL)) ∧ Below w.heap.size w w' := by
 have HB := hid (two_boxes w (.cells #[.int .i64 N.pl, .slice A n c, .int .i64 N.src, .int .i64 N.snk] 24) (.cells #[.slice Al nl cl] 28));have HNb := hid ((NB.new w N.pl A n c N.src N.snk).below (below_alloc _ (.cells #[.slice Al nl cl] 28)));have hlb := heap_alloc_new (w.alloc (.cells #[.int .i64 N.pl, .slice A n c, .int .i64 N.src, .int .i64 N.snk] 24)) (.cells #[.slice Al nl cl] 28);rw [World.size_alloc] at hlb;have HIn := hid (h.below HB.out);have HL := hid (hL.below HB.out);have HLb := hid (show LLB _ (w.heap.size + 1) Al nl cl LL from ⟨hlb, hL.below HB.out, hl⟩);have HLl := hid hl;have HNl := hid hn;have HV := hid hv;have HAll := hid hall;have hpls := nt_small hv;have hn60 : n ≤ 60 := by omega
 have hpl1 : 1 ≤ N.pl := hpls.1;have hpl40 : N.pl ≤ 40 := hpls.2.1;have hsrc := nt_src hv;have hnl2 := hl2;have hone := vone_any N.pl.toNat A n c N.src N.snk N.src.toNat;rw [show ((N.pl.toNat : Nat) : Int) = N.pl by omega, show ((N.src.toNat : Nat) : Int) = N.src by omega] at hone;have HOne := hid (fun w => hone w (by omega) (by omega));have HOl := hid (oneM_len N.pl.toNat N.src.toNat);have HLs0 := hid (show ∀ s ∈ LL, N.pl.toNat ≤ s.length from fun s hs => by have := mkX_len (hall s hs); omega);clear h hn hL hl hv hall hpls hlb hone hsrc;go_enter Tryz.func170, Tryz.ntmps170;go_wp2_with fail;generalize (w.alloc (.cells #[.int .i64 N.pl, .slice A n c, .int .i64 N.src, .int .i64 N.snk] 24)).alloc (.cells #[.slice Al nl cl] 28) = w0 at *;generalize w.heap.size + 1 = lb0 at *;obtain ⟨b0, b1, b2, b3⟩ := HNb.out.cells;go_wp2_with fail;((with_reducible refine (HOne.out w0).mono ?_); rintro e w1 ⟨v1, rfl, hS1⟩)
 obtain ⟨A1, c1, rfl⟩ := hS1.slice;have HB1 := hid hS1.2;have HLb1 := hid (HLb.out.below hS1.2);have HZ1 := hid (show ZIn w1 A1 (oneM N.pl.toNat N.src.toNat) by obtain ⟨A', c', e, hz, _⟩ := hS1.zin; cases e; exact hz);rw [HOl.out];have HC1 := hid (vcov1_any A1 N.pl.toNat c1 (oneM N.pl.toNat N.src.toNat) lb0 Al nl cl LL w1 HZ1.out HOl.out HLb1.out hnl2 HLs0.out);clear hS1 b0 b1 b2 b3 HOne HLb;cases hbl : belowB LL (oneM N.pl.toNat N.src.toNat) with
 | false =>
  rw [hbl] at HC1;have HV3 := hid (show covX N LL = false by unfold covX; rw [hbl]; rfl);clear hbl;go_wp2_with fail;((with_reducible refine HC1.out.mono ?_); rintro e w2 ⟨rfl, hb2⟩)
  have HB2 := hid (below_then HB1.out hb2);go_wp2_with fail;go_ret;exact ⟨ret_bool HV3.out.symm, HB.out.trans (HB2.out.mono HB.out.size)⟩
 | true =>
  rw [hbl] at HC1;have HVt := hid (show covX N LL = dblB (belowB LL) N LL by unfold covX; rw [hbl]; rfl);clear hbl;go_wp2_with fail;((with_reducible refine HC1.out.mono ?_); rintro e w2 ⟨rfl, hb2⟩)
  have HBs := hid (below_then HB1.out hb2);have HSt0 := hid (HLb1.out.below hb2);have cl0 := HSt0.out.cell;clear hb2 HC1 HZ1 HLb1 HB1;go_wp2_with fail;clear cl0;go_loopg [22] (nl) (fun g iv wr => ∃ k : Nat, k + g = nl ∧ iv = .int .i64 (k : Int) ∧ (LL.take k).all (fun s => N.tr.all (okX (belowB LL) s)) = true ∧ LLB wr lb0 Al nl cl LL ∧ Below w0.heap.size w0 wr);case atStart => exact ⟨0, by omega, rfl, by simp, HSt0.out, HBs.out⟩
  case round =>
   clear HSt0 HBs;obtain ⟨k, hk, rfl, hp, hSt, hB⟩ := hrel;have HK := hid hk;have HP := hid hp;have HSt := hid hSt;have HBr := hid hB;have HLr := hid (HL.out.below hB);have hle : k ≤ nl := by omega
   obtain ⟨b0, b1, b2, b3⟩ := (HNb.out.below hB).cells;clear hk hp hB hSt;by_cases hlt : k < nl
   · have hlt' : k < LL.length := by rw [HLl.out]; exact hlt
     obtain ⟨al, hal, hpa, u, q0, Ax, nx, cx, rfl, zx, hx1, hx2, hx3⟩ := (HL.out) k hlt';have HZx0 := hid zx;have q9 : wr.cell? (al.add k) = some (.slice Ax nx cx) := cell_stays HBr.out q0;clear q0 zx;subst hal;have HTk := hid (all_step (fun s => N.tr.all (okX (belowB LL) s)) hlt');have HNo := hid (fun hh => all_false (f := fun s => N.tr.all (okX (belowB LL) s)) (List.getElem_mem hlt') hh);have HMx := hid (HAll.out _ (List.getElem_mem hlt'));generalize LL[k] = X at *;have HXl := hid hx1;have hnx : nx ≤ 1000 := by have := mkX_len HMx.out; omega
     have hnx0 : 0 < nx := by have := mkX_len HMx.out; omega
     have hxp : (nx : Int) = N.pl := by have := mkX_len HMx.out; omega
     clear hlt' hx1 hpa;obtain ⟨go, rfl⟩ : ∃ go, go = gk := ⟨_, rfl⟩;go_wp2_with fail;clear q9 b0 b1 b2 b3;go_loopg [29] (n) (fun g iv wr => ∃ j : Nat, j + g = n ∧ iv = .int .i64 (j : Int) ∧ (N.tr.take j).all (okX (belowB LL) X) = true ∧ LLB wr lb0 (some al) nl cl LL ∧ Below w0.heap.size w0 wr);case atStart => exact ⟨0, by omega, rfl, by simp, HSt.out, HBr.out⟩
     case round =>
      clear HSt HBr HLr;obtain ⟨j, hj, rfl, hp, hSt, hB⟩ := hrel;have HJ := hid hj;have HPj := hid hp;have HSt := hid hSt;have HBr := hid hB;have HInr := hid (HIn.out.below hB);have HZx := hid (HZx0.out.below hB);have hjl : j ≤ n := by omega
      clear hj hp hB hSt;by_cases hjt : j < n
      · have hjt' : j < N.tr.length := by rw [HNl.out]; exact hjt
        obtain ⟨ad, rfl, hpt, t0, ⟨u1, t1, s1⟩, u2, t2, s2⟩ := HInr.out.1 j hjt';have HTj := hid (all_step (okX (belowB LL) X) hjt');have HNj := hid (fun hh => all_false (f := okX (belowB LL) X) (List.getElem_mem hjt') hh);have HInK := hid (nt_inM HV.out hxp _ (List.getElem_mem hjt'));have HTm := hid (List.getElem_mem hjt');generalize N.tr[j] = T at *;obtain ⟨Ai, ni, ci, rfl, zi, hi1, hi2, hi3⟩ := s1;obtain ⟨Ao, no, co, rfl, zo, ho1, ho2, ho3⟩ := s2;have hli : T.i.length ≤ 1000 := by have := pls_len (netOk_of HV.out (m := nx) hxp |> fun h => (trOk_mem h HTm.out).1); omega
        have hlo : T.o.length ≤ 1000 := by have := pls_len (netOk_of HV.out (m := nx) hxp |> fun h => (trOk_mem h HTm.out).2); omega
        have HA := hid (below_alloc wr (.cells #[.string T.lb, .slice Ai ni ci, .slice Ao no co] 79));have HTB := hid (TB.new wr T.lb Ai ni ci Ao no co);have HC := hid (enabled_verdict T.lb Ai Ao Ax ni ci no co nx cx T.i T.o X _ (zi.below HA.out) hi1 (by omega) (HZx.out.below HA.out) HXl.out HInK.out.1);have HZi := hid (zi.below HA.out);have HZo := hid (zo.below HA.out);have Hi1 := hid hi1;have Ho1 := hid ho1;have HBa := hid (HBr.out.trans (HA.out.mono HBr.out.size));have HSta := hid (HSt.out.below HA.out);have HZxa := hid (HZx.out.below HA.out);have hTe : (⟨T.lb, T.i, T.o⟩ : Tr) = T := rfl;rw [hTe] at HC;clear zi zo hi1 ho1 hjt' hTe HBr HSt HZx HInr;cases hcan : canT T X with
        | false =>
         rw [hcan] at HC;have HV2 := hid (show (N.tr.take (j + 1)).all (okX (belowB LL) X) = true by rw [HTj.out, HPj.out, okX_no hcan]; rfl);clear hcan;go_wp2_with fail;((with_reducible refine HC.out.mono ?_); rintro e w2 ⟨rfl, hb2⟩)
         have HB2 := hid (below_then HBa.out hb2);have HSt2 := hid (HSta.out.below hb2);clear hb2;go_wp2_with fail;go_roundg (gk - 1);case measure => have := HJ.out; omega
         case rel => exact ⟨j + 1, by have := HJ.out; omega, by go_num, HV2.out, HSt2.out, HB2.out⟩
        | true =>
         rw [hcan] at HC;go_wp2_with fail;((with_reducible refine HC.out.mono ?_); rintro e w2 ⟨rfl, hb2⟩)
         have HB2 := hid (below_then HBa.out hb2);have HSt2 := hid (HSta.out.below hb2);obtain ⟨tc0, tc1, tc2⟩ := HTB.out.below hb2;have hfi := vfire_any T.lb Ai Ao Ax ni ci no co nx cx T.i T.o X w2 (HZi.out.below hb2) Hi1.out (by have := Hi1.out; omega) (HZo.out.below hb2) Ho1.out (by have := Ho1.out; omega) (HZxa.out.below hb2) HXl.out hnx0 (by omega) HInK.out.1 HInK.out.2 (mkX_bnd HMx.out);rw [show (⟨T.lb, T.i, T.o⟩ : Tr) = T from rfl] at hfi;have HFi := hid hfi;clear hb2 HC HTB hfi HBa HSta HZxa HZi HZo;cases hbig : bigM (fireT T X) with
         | true =>
          rw [hbig] at HFi;have HV2 := hid (show dblB (belowB LL) N LL = false from HNo.out (HNj.out (okX_big hcan hbig)));clear hcan hbig;generalize fireT T X = Y at *;go_wp2_with fail;((with_reducible refine HFi.out.mono ?_); rintro e w3 ⟨v3, rfl, hS3⟩)
          obtain ⟨Av, cv, rfl⟩ := hS3.slice;have HB3 := hid (HB2.out.trans (hS3.2.mono HB2.out.size));clear hS3 tc0 tc1 tc2;go_wp2_with fail;go_ret;exact ⟨ret_bool (by rw [HVt.out, HV2.out]), HB.out.trans (HB3.out.mono HB.out.size)⟩
         | false =>
          rw [hbig] at HFi;have HLs := hid (show ∀ s ∈ LL, (fireT T X).length ≤ s.length from fun s hs => by rw [fireT_len]; have h1 := mkX_len HMx.out; have h2 := mkX_len (HAll.out s hs); omega);have HQ := hid (okX_yes (q := (belowB LL)) hcan hbig);clear hcan hbig;generalize fireT T X = Y at *;go_wp2_with fail;((with_reducible refine HFi.out.mono ?_); rintro e w3 ⟨v3, rfl, hS3⟩)
          obtain ⟨Av, cv, rfl⟩ := hS3.slice;have HB3 := hid (HB2.out.trans (hS3.2.mono HB2.out.size));have HSt3 := hid (HSt2.out.below hS3.2);have HZy := hid (show ZIn w3 Av Y by obtain ⟨A', c', e, hz, _⟩ := hS3.zin; cases e; exact hz);clear hS3 HFi tc0 tc1 tc2;cases hq : (belowB LL) Y with
          | true =>
           have HV2 := hid (show (N.tr.take (j + 1)).all (okX (belowB LL) X) = true by rw [HTj.out, HPj.out, HQ.out, hq]; rfl);have HKy := hid (vcov1_any Av Y.length cv Y lb0 (some al) nl cl LL w3 HZy.out rfl HSt3.out hnl2 HLs.out);rw [hq] at HKy;go_wp2_with fail;((with_reducible refine HKy.out.mono ?_); rintro e w4 ⟨rfl, hb4⟩)
           have HB4 := hid (below_then HB3.out hb4);have HSt4 := hid (HSt3.out.below hb4);clear hq hb4;go_wp2_with fail;go_roundg (gk - 1);case measure => have := HJ.out; omega
           case rel => exact ⟨j + 1, by have := HJ.out; omega, by go_num, HV2.out, HSt4.out, HB4.out⟩
          | false =>
           have HV2 := hid (show dblB (belowB LL) N LL = false from HNo.out (HNj.out (by rw [HQ.out, hq])));have HKy := hid (vcov1_any Av Y.length cv Y lb0 (some al) nl cl LL w3 HZy.out rfl HSt3.out hnl2 HLs.out);rw [hq] at HKy;go_wp2_with fail;((with_reducible refine HKy.out.mono ?_); rintro e w4 ⟨rfl, hb4⟩)
           have HB4 := hid (below_then HB3.out hb4);have HSt4 := hid (HSt3.out.below hb4);clear hq hb4;go_wp2_with fail;go_ret;exact ⟨ret_bool (by rw [HVt.out, HV2.out]), HB.out.trans (HB4.out.mono HB.out.size)⟩
      · have HV2 := hid (show (LL.take (k + 1)).all (fun s => N.tr.all (okX (belowB LL) s)) = true by
         rw [HTk.out, HP.out];have h1 := HPj.out;rw [List.take_of_length_le (by rw [HNl.out]; omega)] at h1;rw [h1]; rfl)
        go_wp2_with fail;go_roundg (go - 1);case measure => have := HK.out; omega
        case rel => exact ⟨k + 1, by have := HK.out; omega, by go_num, HV2.out, HSt.out, HBr.out⟩
   · have HV2 := hid (show dblB (belowB LL) N LL = true by
      have h1 := HP.out;rw [List.take_of_length_le (by rw [HLl.out]; omega)] at h1;exact h1)
     go_wp2_with fail;go_ret;exact ⟨ret_bool (by rw [HVt.out, HV2.out]), HB.out.trans (HBr.out.mono HB.out.size)⟩
end Go.Proofs.YtkhmngljpfibcaaGreatDoor
