/- run of sound: what a call returns. gather of sound: what a call returns. proper, covered of sound: what a call returns. covered of sound: what a call returns. Reason of sound: what a call returns. -/
import Derived.Test.YtkhmngljpfibcaaGreatDoorPBo
import Derived.Test.YtkhmngljpfibcaaGreatDoorPBw
namespace Go.Proofs.YtkhmngljpfibcaaGreatDoor
set_option maxRecDepth 100000
set_option maxHeartbeats 12800000
open Go.Lib (hid)
section
open Go.RowKit

theorem wrun_any (w : World) (b : Nat) (N : Nt) (LL : List (List Int)) (MV : List Mv) (fl : Bool) (A : Option Addr) (n c : Nat) (As : Option Addr) (cs : Nat) (Av : Option Addr) (cv : Nat) (Af : Option Addr) (cf : Nat) (Ag : Option Addr) (cg : Nat) (k : Nat) (h : WdI w b N LL MV fl A n c As cs Av cv Af cf Ag cg) (hmo : mvOk MV LL.length) (hk : k < LL.length) (hl : Lead MV k 0) (hl2 : LL.length ≤ 1000000) (hv2 : MV.length ≤ 20000) :
 Calls Tryz.prog 49 #[.pointer (some ⟨b, 0, none⟩), .int .i64 (k : Int)] w fun e w' => ∃ v l, e = .returned v ∧ NS w w' v l ∧ WayL MV k 0 l ∧ l.length < LL.length := by
 have HW := hid h;have HDi := hid (wdist_any w b N LL MV fl A n c As cs Av cv Af cf Ag cg k h hmo hk hl2 hv2);have HMo := hid hmo;have HLe := hid hl;have hn0 : 0 < LL.length := by omega
 clear h hmo hl;go_enter Tryz.func49, Tryz.ntmps49;go_wp2_with fail;((with_reducible refine HDi.out.mono ?_); rintro e w1 ⟨v1, F, rfl, hS, hD⟩)
 obtain ⟨A1, c1, rfl, hz, _⟩ := hS.zin;have hfl := hD.len;rw [hfl];have hf0 := (lead_far HMo.out hD hn0).1 HLe.out;have htop := hD.top 0 hn0;have HWy := hid (wway_any w1 b N LL MV fl A n c As cs Av cv Af cf Ag cg 0 k A1 c1 F (HW.out.below hS.2) HMo.out hz hD hn0 hf0 hl2 hv2);rw [show ((0 : Nat) : Int) = 0 from rfl] at HWy htop;have HB1 := hid hS.2;clear HDi hS hz hf0 hD hfl;go_wp2_with fail;((with_reducible refine HWy.out.mono ?_); rintro e w2 ⟨v2, l, rfl, hS2, hw, hll⟩)
 have HS2 := hid (NS.up HB1.out hS2);have HWl := hid (And.intro hw hll);clear hS2 hw hll;go_wp2_with fail;go_ret;exact ⟨_, l, rfl, HS2.out, HWl.out.1, by have := HWl.out.2; omega⟩
end
section
open Go.RowKit

theorem gather_any (N : Nt) (A : Option Addr) (ntr c : Nat) (As : Option Addr) (cs : Nat) (LL : List (List Int)) (Av : Option Addr) (cv : Nat) (MV : List Mv) (fl : Bool) (w : World) (h : NtIn w A N) (hn : N.tr.length = ntr) (hn2 : ntr ≤ 9223372036854775807) (hv : ntB N = true) (hS : LIn w As LL) (hM : Rd mvC 3 w Av MV) (hmo : mvOk MV LL.length) (hl2 : LL.length ≤ 1000000) (hv2 : MV.length ≤ 20000) :
 Calls Tryz.prog 118 #[.agg #[.int .i64 N.pl, .slice A ntr c, .int .i64 N.src, .int .i64 N.snk], .agg #[.slice As LL.length cs, .slice Av MV.length cv, .bool fl]] w fun e w' => ∃ b Af cf Ag cg, e = .returned (.pointer (some ⟨b, 0, none⟩)) ∧ WdI w' b N LL MV fl A ntr c As cs Av cv Af cf Ag cg ∧ Below w.heap.size w w' := by
 obtain ⟨n, hnl⟩ : ∃ n, n = LL.length := ⟨_, rfl⟩;obtain ⟨nm, hnm⟩ : ∃ nm, nm = MV.length := ⟨_, rfl⟩;rw [← hnl] at hl2 hmo ⊢;rw [← hnm] at hv2 ⊢;have HB0 := hid (two_boxes w (.cells #[.int .i64 N.pl, .slice A ntr c, .int .i64 N.src, .int .i64 N.snk] 24) (.cells #[.slice As n cs, .slice Av nm cv, .bool fl] 41));have HNb0 := hid ((NB.new w N.pl A ntr c N.src N.snk).below (below_alloc _ (.cells #[.slice As n cs, .slice Av nm cv, .bool fl] 41)));have hsb := heap_alloc_new (w.alloc (.cells #[.int .i64 N.pl, .slice A ntr c, .int .i64 N.src, .int .i64 N.snk] 24)) (.cells #[.slice As n cs, .slice Av nm cv, .bool fl] 41);rw [World.size_alloc] at hsb;have HSb0 := hid (show SpB _ (w.heap.size + 1) (.slice As n cs) (.slice Av nm cv) fl from hsb);have HIn0 := hid (h.below HB0.out);have HSt0 := hid (hS.below HB0.out);have HMv0 := hid (hM.below HB0.out);have HNl := hid hn;have HLl := hid hnl.symm;have HMl := hid hnm.symm;have HMo := hid hmo;have hmk : ∀ w : World, (Instr.makeSlice 108 (.int .i64 (n : Int)) (.int .i64 (n : Int))).run Tryz.prog w = .ok (.slice (some ⟨w.heap.size, 0, none⟩) n n) (w.alloc (.cells (madeCells #[.slice none 0 0] n) 29)) := fun w => run_make_row' 108 29 (.slice none 0 0) 24 Tryz.underlying108 (by kernel_rfl) rfl .i64 .i64 n (by omega) (by omega) w
 obtain ⟨i0, hi, hz0, hz1, hz2⟩ := info_parts moveInfo;have HI := hid (And.intro hi (And.intro hz0 (And.intro hz1 hz2)));clear hi hz0 hz1 hz2 h hn hS hM hmo hsb hnl hnm;go_enter Tryz.func118, Tryz.ntmps118;go_wp2_with fail;generalize (w.alloc (.cells #[.int .i64 N.pl, .slice A ntr c, .int .i64 N.src, .int .i64 N.snk] 24)).alloc (.cells #[.slice As n cs, .slice Av nm cv, .bool fl] 41) = w0 at *;generalize hsbe : w.heap.size + 1 = sb at *;obtain ⟨b0, b1, b2, b3⟩ := HNb0.out.cells;have HFi := hid (pfin_any N A ntr c w0 HIn0.out HNl.out hn2 hv);((with_reducible refine HFi.out.mono ?_); rintro e w1 ⟨vf, rfl, hSf⟩)
 obtain ⟨Af, cf, rfl, hzf, _⟩ := hSf.zin;have hb1 := hSf.2;have HB1 := hid (below_then HB0.out hb1);have HNb1 := hid (HNb0.out.below hb1);have HSb1 := hid (HSb0.out.below hb1);have HIn1 := hid (HIn0.out.below hb1);have HSt1 := hid (HSt0.out.below hb1);have HMv1 := hid (HMv0.out.below hb1);have HZf1 := hid hzf;clear b0 b1 b2 b3 HFi hSf hb1 hzf HB0 HNb0 HSb0 HIn0 HSt0 HMv0;obtain ⟨b0, b1, b2, b3⟩ := HNb1.out.cells;obtain ⟨d0, d1, d2⟩ := HSb1.out.cells;go_wp2_with fail;have hbd : Below w1.heap.size w1 w1.drew := (Below.refl _ _).drew;have g0 := cell_stays hbd b0;have g1 := cell_stays hbd b1;have g2 := cell_stays hbd b2;have g3 := cell_stays hbd b3;have g4 := cell_stays hbd d0;have g5 := cell_stays hbd d1;have g6 := cell_stays hbd d2
 go_region_held3 (fun w' => w'.cell? ⟨w.heap.size, 0, none⟩ = some (.int .i64 N.pl) ∧ w'.cell? ⟨w.heap.size, 1, none⟩ = some (.slice A ntr c) ∧ w'.cell? ⟨w.heap.size, 2, none⟩ = some (.int .i64 N.src) ∧ w'.cell? ⟨w.heap.size, 3, none⟩ = some (.int .i64 N.snk) ∧ w'.cell? ⟨sb, 0, none⟩ = some (.slice As n cs) ∧ w'.cell? ⟨sb, 1, none⟩ = some (.slice Av nm cv) ∧ w'.cell? ⟨sb, 2, none⟩ = some (.bool fl))
  (first | exact ⟨by assumption, by assumption, by assumption, by assumption, by assumption, by assumption, by assumption⟩ | exact ⟨cell_stays (by repeat (first | exact Below.refl _ _ | refine Below.drew ?_ | refine Below.setCell ?_ (by simp; try omega) _ | refine Below.alloc ?_ (by simp; try omega) _)) b0, cell_stays (by repeat (first | exact Below.refl _ _ | refine Below.drew ?_ | refine Below.setCell ?_ (by simp; try omega) _ | refine Below.alloc ?_ (by simp; try omega) _)) b1, cell_stays (by repeat (first | exact Below.refl _ _ | refine Below.drew ?_ | refine Below.setCell ?_ (by simp; try omega) _ | refine Below.alloc ?_ (by simp; try omega) _)) b2, cell_stays (by repeat (first | exact Below.refl _ _ | refine Below.drew ?_ | refine Below.setCell ?_ (by simp; try omega) _ | refine Below.alloc ?_ (by simp; try omega) _)) b3, cell_stays (by repeat (first | exact Below.refl _ _ | refine Below.drew ?_ | refine Below.setCell ?_ (by simp; try omega) _ | refine Below.alloc ?_ (by simp; try omega) _)) d0, cell_stays (by repeat (first | exact Below.refl _ _ | refine Below.drew ?_ | refine Below.setCell ?_ (by simp; try omega) _ | refine Below.alloc ?_ (by simp; try omega) _)) d1, cell_stays (by repeat (first | exact Below.refl _ _ | refine Below.drew ?_ | refine Below.setCell ?_ (by simp; try omega) _ | refine Below.alloc ?_ (by simp; try omega) _)) d2⟩)
  (fail)
 go_wp2_with fail;have hal1 := below_alloc w1 (.cells (madeCells #[.slice none 0 0] n) 29);have hal2 := below_alloc (w1.alloc (.cells (madeCells #[.slice none 0 0] n) 29)) (.cells #[.int .i64 N.pl, .slice A ntr c, .int .i64 N.src, .int .i64 N.snk, .slice As n cs, .slice Av nm cv, .bool fl, .slice Af (finM N).length cf, .slice (some ⟨w1.heap.size, 0, none⟩) n n] 110);have hal3 : Below ((w1.alloc (.cells (madeCells #[.slice none 0 0] n) 29)).alloc (.cells #[.int .i64 N.pl, .slice A ntr c, .int .i64 N.src, .int .i64 N.snk, .slice As n cs, .slice Av nm cv, .bool fl, .slice Af (finM N).length cf, .slice (some ⟨w1.heap.size, 0, none⟩) n n] 110)).heap.size ((w1.alloc (.cells (madeCells #[.slice none 0 0] n) 29)).alloc (.cells #[.int .i64 N.pl, .slice A ntr c, .int .i64 N.src, .int .i64 N.snk, .slice As n cs, .slice Av nm cv, .bool fl, .slice Af (finM N).length cf, .slice (some ⟨w1.heap.size, 0, none⟩) n n] 110)) ((w1.alloc (.cells (madeCells #[.slice none 0 0] n) 29)).alloc (.cells #[.int .i64 N.pl, .slice A ntr c, .int .i64 N.src, .int .i64 N.snk, .slice As n cs, .slice Av nm cv, .bool fl, .slice Af (finM N).length cf, .slice (some ⟨w1.heap.size, 0, none⟩) n n] 110)).drew := (Below.refl _ _).drew;have HM2 := hid (((BM.start (B := w1.heap.size) (w := w1) (n := n) (Nat.le_refl _) (by omega)).below hal2).below hal3);have hwn := heap_alloc_new (w1.alloc (.cells (madeCells #[.slice none 0 0] n) 29)) (.cells #[.int .i64 N.pl, .slice A ntr c, .int .i64 N.src, .int .i64 N.snk, .slice As n cs, .slice Av nm cv, .bool fl, .slice Af (finM N).length cf, .slice (some ⟨w1.heap.size, 0, none⟩) n n] 110);rw [World.size_alloc] at hwn;have HW2 := hid ((show WdB _ (w1.heap.size + 1) N.pl A ntr c N.src N.snk As n cs Av nm cv fl Af (finM N).length cf (.slice (some ⟨w1.heap.size, 0, none⟩) n n) from hwn).below hal3);have HBl2 := hid (below_then (below_then hal1 hal2) hal3);clear hal1 hal2 hal3 hwn hbd g0 g1 g2 g3 g4 g5 g6 b0 b1 b2 b3 d0 d1 d2 hmk;generalize ((w1.alloc (.cells (madeCells #[.slice none 0 0] n) 29)).alloc (.cells #[.int .i64 N.pl, .slice A ntr c, .int .i64 N.src, .int .i64 N.snk, .slice As n cs, .slice Av nm cv, .bool fl, .slice Af (finM N).length cf, .slice (some ⟨w1.heap.size, 0, none⟩) n n] 110)).drew = w2 at *;obtain ⟨gb, hgb⟩ : ∃ gb, w1.heap.size = gb := ⟨_, rfl⟩;rw [hgb] at HM2 HW2 ⊢;obtain ⟨wb, hwb⟩ : ∃ wb, gb + 1 = wb := ⟨_, rfl⟩;rw [hwb] at HW2 ⊢;go_loopg [27] (nm) (fun g iv wr => ∃ (k : Nat) (SL : List Value), k + g = nm ∧ iv = .int .i64 (k : Int) ∧ BM gb wr (.slice (some ⟨gb, 0, none⟩) n n) SL (outL (MV.take k) n) ∧ WdB wr wb N.pl A ntr c N.src N.snk As n cs Av nm cv fl Af (finM N).length cf (.slice (some ⟨gb, 0, none⟩) n n) ∧ Below w1.heap.size w1 wr);case atStart => exact ⟨0, _, by omega, rfl, by rw [List.take_zero, outL_nil]; exact HM2.out, HW2.out, HBl2.out⟩
 case round =>
  clear HM2 HW2 HBl2;obtain ⟨k, SLb, hkg, rfl, hbk, hwd, hB⟩ := hrel;have HK := hid hkg;have HBk := hid hbk;have HWd := hid hwd;have HBx := hid hB;have hle : k ≤ nm := by omega
  have HRx := hid (HMv1.out.below hB);clear hkg hbk hB hwd;by_cases hlt : k < nm
  · have hlt' : k < MV.length := by rw [HMl.out]; exact hlt
    obtain ⟨am, rfl, hpa, m0, m1, m2⟩ := mv_cells HRx.out hlt';obtain ⟨ff, hff⟩ := Int.eq_ofNat_of_zero_le (HMo.out _ (List.getElem_mem hlt')).1;have hfn : ff < n := by have := (HMo.out _ (List.getElem_mem hlt')).2.1; omega
    obtain ⟨s, hs⟩ : ∃ s, (outL (MV.take k) n)[ff]? = some s := ⟨_, List.getElem?_eq_getElem (by rw [outL_len]; exact hfn)⟩;have HBT := hid (outL_take MV n k ff hlt' hff hfn hs);have hsl : s.length ≤ 20000 := by have := outL_short _ n ff hs; rw [List.length_take] at this; omega
    obtain ⟨u, hu, hgl, c0, c1, hue⟩ := HBk.out.at_ rfl hs;have HU := hid (And.intro hu hs);have hfi : (ff : Int) < (n : Int) := by omega
    have HX := hid (show MV[k] = ⟨(ff : Int), MV[k].t, MV[k].s⟩ by rw [← hff]);rw [hff] at m0;generalize MV[k] = x at *;obtain ⟨xf, tt, sy⟩ := x;simp only at m0 m1 m2 HX hff;subst hff;clear HX hlt' hu hs hue c1;go_wp2_with fail;have HX0 := hid (heap_alloc_new wr (.cells #[.int .i64 (ff : Int), .int .i64 tt, .int .i64 sy] 113));have HAx := hid (below_alloc wr (.cells #[.int .i64 (ff : Int), .int .i64 tt, .int .i64 sy] 113));have hxg : gb ≠ wr.heap.size := by omega
    generalize hxe : wr.heap.size = xb at *;generalize wr.alloc _ = w6 at *;rw [← hxe] at HAx;have hbd : Below w6.heap.size w6 w6.drew := (Below.refl _ _).drew;have HBd := hid ((HBk.out.below HAx.out).below hbd);have HWx := hid ((HWd.out.below HAx.out).below hbd);have HXd := hid (show w6.drew.heap[xb]? = some (.cells #[.int .i64 (ff : Int), .int .i64 tt, .int .i64 sy] 113 (0, 0)) by rw [hbd.block xb (Array.getElem?_eq_some_iff.1 HX0.out).1]; exact HX0.out);have HBw := hid (below_then HBx.out (below_then HAx.out hbd));obtain ⟨u', hu', hgl', c0', c1', hue'⟩ := HBd.out.at_ rfl HU.out.2;obtain rfl : u = u' := Option.some.inj (HU.out.1.symm.trans hu');obtain ⟨x0, x1, x2⟩ := mvb_cells9 HXd.out;have g8 := HWx.out.c8;have hS0 := And.intro x0 (And.intro x1 (And.intro x2 (And.intro g8 c0')));have HUe := hid hue';refine re5 18 hS0 (fun hHeld => ?_);clear hS0 x0 x1 x2 g8 c0 c0' c1' hue' hu' hbd HX0 HAx m0 m1 m2 hgl hgl';generalize w6.drew = wd at *;refine tkE 0 [1, 2, 3, 17, 18] ?_;(try go_simp);refine tkE 1 [2, 3, 17, 18] ?_;(try go_simp);refine tkE 2 [3, 17, 18] ?_;(try go_simp);refine tkE 3 [17, 18] ?_;(try go_simp);refine tkE 4 [5, 17, 18] ?_;(try go_simp);refine tkE 5 [17, 18] ?_;(try go_simp);refine tkE 6 [7, 8, 9, 12, 13, 16, 18] ?_;(try go_simp);refine tkE 7 [8, 9, 12, 13, 16, 18] ?_;(try go_simp);refine tkE 8 [9, 12, 13, 16, 18] ?_;(try go_simp);refine tkE 9 [12, 13, 16, 18] ?_;(try go_simp);refine tkE 10 [11, 12, 13, 16, 18] ?_;(try go_simp);refine tkE 11 [12, 13, 16, 18] ?_;(try go_simp);refine tkE 12 [13, 16, 18] ?_;(try go_simp);refine tkE 13 [16, 18] ?_;(try go_simp);refine tkE 14 [15, 16, 18] ?_;(try go_simp);have hS0 := hHeld;refine wpAnyE_one (i := 15) (by kernel_rfl) rfl (fun K hK => ?_);go_simp;skip;refine hK.out _ _ (fun _ => ⟨cell_stays (below_alloc _ _) hS0.1, cell_stays (below_alloc _ _) hS0.2.1, cell_stays (below_alloc _ _) hS0.2.2.1, cell_stays (below_alloc _ _) hS0.2.2.2.1, cell_stays (below_alloc _ _) hS0.2.2.2.2⟩) (fun hH => ?_);have hHeld := hH (by decide);clear hH hK K;try go_simp
    refine wpAnyE_one (i := 16) (by kernel_rfl) rfl (fun K hK => ?_);refine step_append_at rfl _ _ 29 rfl gb 113 i0 (.agg #[.int .i64 0, .int .i64 0, .int .i64 0]) 3 24 Tryz.underlying29 HI.out.1 HI.out.2.1 HI.out.2.2.1 HI.out.2.2.2 rfl (by decide) u _ _ rfl (HUe.out.alloc _) ⟨wd.heap.size, 0, none⟩ 1 1 [.int .i64 (ff : Int), .int .i64 tt, .int .i64 sy] rfl rfl ?c1 ?c2 ?c3 ?c4 ?c5 ?_;case c1 => exact news_blk (heap_alloc_new wd (.cells #[.int .i64 (ff : Int), .int .i64 tt, .int .i64 sy] 113))
    case c2 => intro u hu; simp at hu; rcases hu with rfl | rfl | rfl <;> rfl
    case c3 => unfold maxLen; omega
    case c4 => omega
    case c5 => have := HBw.out.size; simp; omega
    intro v5 w7 hown7 hgrow7 hat7;obtain ⟨A5, c5, rfl, _⟩ := row_slice hown7;have hal := below_alloc wd (.cells #[.int .i64 (ff : Int), .int .i64 tt, .int .i64 sy] 113);obtain ⟨cur, hcur⟩ := own_kind HBd.out.row rfl;have hcur2 : (wd.alloc (.cells #[.int .i64 (ff : Int), .int .i64 tt, .int .i64 sy] 113)).heap[gb]? = some (.cells cur 29 (0, 0)) := by rw [hal.block gb (Array.getElem?_eq_some_iff.1 hcur).1]; exact hcur
    have hng := row_block (HUe.out.alloc (.cells #[.int .i64 (ff : Int), .int .i64 tt, .int .i64 sy] 113)) hcur2 (by decide);have hcur3 : w7.heap[gb]? = some (.cells cur 29 (0, 0)) := by rw [hgrow7.block gb (Array.getElem?_eq_some_iff.1 hcur2).1 hng]; exact hcur2
    have HWa := HWx.out.below hal;have hnw := row_block (HUe.out.alloc (.cells #[.int .i64 (ff : Int), .int .i64 tt, .int .i64 sy] 113)) HWa (by decide);have HW7 := HWa.kept hgrow7 hnw;have hX2 : (wd.alloc (.cells #[.int .i64 (ff : Int), .int .i64 tt, .int .i64 sy] 113)).heap[xb]? = some (.cells #[.int .i64 (ff : Int), .int .i64 tt, .int .i64 sy] 113 (0, 0)) := by rw [hal.block xb (Array.getElem?_eq_some_iff.1 HXd.out).1]; exact HXd.out
    have HB7 := hid (HBd.out.push (x := ⟨(ff : Int), tt, sy⟩) HU.out.1 HU.out.2 hown7 hgrow7 hat7);have hset : w7.grownBy (w7.setCell ⟨gb, ff, none⟩ (.slice A5 (s.length + 1) c5)) (some gb) := Lib.grownBy_setB (grown_refl w7 (some gb)) ff _;have HW8 := hid (HW7.kept hset (fun e => by have := Option.some.inj e; omega));have HBe := hid (((HBw.out.alloc (by have := HBw.out.size; omega) (.cells #[.int .i64 (ff : Int), .int .i64 tt, .int .i64 sy] 113)).grown hgrow7 (by have := HBw.out.size; simp; omega) (fun k hk => by have := (HUe.out.lt k hk).1; omega)).setCell (p := ⟨gb, ff, none⟩) (by show w1.heap.size ≤ gb; omega) (.slice A5 (s.length + 1) c5));have xf : w7.frozen? ⟨gb, ff, none⟩ = false := by simp [World.frozen?, hcur3]
    have y4 := hgrow7.cell (cell_stays hal hS0.2.2.2.2) hng;have y3 := HW7.c8;have hnx : some xb ≠ u.ownBlock := fun e9 => by have h9 := (HBk.out.lt.2 ff u xb HU.out.1 e9.symm).2; omega
    have y0 := hgrow7.cell (cell_stays hal hS0.1) hnx;have y1 := hgrow7.cell (cell_stays hal hS0.2.1) hnx;have y2 := hgrow7.cell (cell_stays hal hS0.2.2.1) hnx;clear hnx;refine hK.out _ _ (fun _ => ⟨y0, y1, y2, y3, y4⟩) (fun hH => ?_);have hHeld := hH (by decide);clear hH hK K y0 y1 y2 y3 y4 hcur hcur2 hcur3 hX2 hng hal hown7 hgrow7 hat7 hset HWa hnw HW7;try go_simp
    refine tkE 17 [18] ?_;(try go_simp);refine wpAnyE_one (i := 18) (by kernel_rfl) rfl (fun K hK => ?_);go_simp;skip;refine hK.out _ _ (fun h => absurd rfl h) (fun _ => ?_);clear hK K;try go_simp
    refine wpAnyE_done (by kernel_rfl) ?_ _;clear hHeld hS0 xf HXd HBd HUe HBw HU HWx;generalize w7.setCell ⟨gb, ff, none⟩ _ = w8 at *;go_wp2_with fail;go_roundg (gk - 1);case measure => have := HK.out; omega
    case rel => exact ⟨k + 1, _, by have := HK.out; omega, by go_num, by rw [HBT.out]; exact HB7.out, HW8.out, HBe.out⟩
  · have HE := hid (show MV.take k = MV from List.take_of_length_le (by rw [HMl.out]; omega));rw [HE.out] at HBk;go_wp2_with fail;go_ret;obtain ⟨Ag, cg, e, hlm⟩ := HBk.out.lmv;rw [outL_len] at e;cases e;exact ⟨wb, Af, cf, _, _, rfl, ⟨by rw [HLl.out, HMl.out]; exact HWd.out, HIn1.out.below HBx.out, HNl.out, HSt1.out.below HBx.out, HRx.out, HZf1.out.below HBx.out, by rw [HLl.out]; exact hlm⟩, HB1.out.trans (HBx.out.mono HB1.out.size)⟩
end
section
open Go.RowKit

def FltK (N : Nt) (work : Bool) (most k : Int) : Prop :=
 (ntB N = false ∧ k = 1) ∨ (ntB N = true ∧ work = true ∧ ¬ wfP N ∧ k = 19) ∨ (ntB N = true ∧ (work = true → wfP N) ∧ ¬ (1 ≤ most ∧ most ≤ 500) ∧ k = 2) ∨ (ntB N = true ∧ (work = true → wfP N) ∧ (1 ≤ most ∧ most ≤ 500) ∧ k = 0)
theorem FltK.ok {N : Nt} {work : Bool} {most : Int} (h : FltK N work most 0) : ntB N = true ∧ (work = true → wfP N) ∧ 1 ≤ most ∧ most ≤ 500 := by
 unfold FltK at h;rcases h with ⟨_, h2⟩ | ⟨_, _, _, h4⟩ | ⟨_, _, _, h4⟩ | ⟨h1, h2, h3, _⟩
 · omega
 · omega
 · omega
 · exact ⟨h1, h2, h3.1, h3.2⟩
def PrPo (N : Nt) (work : Bool) (most : Int) (w : World) (e : Ending) (w' : World) : Prop :=
 (∃ k : Int, e = .returned (.tuple #[.slice none 0 0, .int .i64 k]) ∧ FltK N work most k ∧ k ≠ 0 ∧ Below w.heap.size w w') ∨ (FltK N work most 0 ∧ ∃ v, e = .returned (.tuple #[v, .int .i64 0]) ∧ NS w w' v (iniM N))
theorem proper_any (N : Nt) (A : Option Addr) (n c : Nat) (work : Bool) (most : Int) (w : World) (h : NtIn w A N) (hn : N.tr.length = n) (hn2 : n ≤ 9223372036854775806) :
 Calls Tryz.prog 66 #[.agg #[.int .i64 N.pl, .slice A n c, .int .i64 N.src, .int .i64 N.snk], .bool work, .int .i64 most] w (PrPo N work most w) := by
 have HB0 := hid (below_alloc w (.cells #[.int .i64 N.pl, .slice A n c, .int .i64 N.src, .int .i64 N.snk] 24));have HNb0 := hid (NB.new w N.pl A n c N.src N.snk);have HIn0 := hid (h.below HB0.out);have HNl := hid hn;have hn3 : n ≤ 9223372036854775807 := by omega
 clear h hn;go_enter Tryz.func66, Tryz.ntmps66;go_wp2_with fail;generalize w.alloc _ = w0 at *;obtain ⟨b0, b1, b2, b3⟩ := HNb0.out.cells;have HV := hid (pvalid_any N A n c w0 HIn0.out HNl.out hn3);((with_reducible refine HV.out.mono ?_); rintro e w1 ⟨rfl, hb1⟩)
 have HB1 := hid (below_then HB0.out hb1);have HNb1 := hid (HNb0.out.below hb1);have HIn1 := hid (HIn0.out.below hb1);clear HV hb1 b0 b1 b2 b3 HB0 HNb0 HIn0;cases hv : ntB N with
 | false =>
  have HF := hid (show FltK N work most 1 from .inl ⟨hv, rfl⟩);clear hv;go_wp2_with fail;go_ret2;exact .inl ⟨1, rfl, HF.out, by decide, HB1.out⟩
 | true =>
  have HVt := hid hv;clear hv;obtain ⟨b0, b1, b2, b3⟩ := HNb1.out.cells;by_cases hbad : ¬ (1 ≤ most ∧ most ≤ 500)
  · skip;cases work with
    | false =>
     have HF := hid (show FltK N false most 2 from .inr (.inr (.inl ⟨HVt.out, (fun h => by cases h), hbad, rfl⟩)));by_cases h1 : most < 1
     · have hq1 : decide (most < 1) = true := by simp; omega
       clear hbad;go_wp2_with fail;go_ret2;exact .inl ⟨2, rfl, HF.out, by decide, HB1.out⟩
     · have hq1 : decide (most < 1) = false := by simp; omega
       have hq2 : decide (most > 500) = true := by simp; omega
       clear hbad;go_wp2_with fail;go_ret2;exact .inl ⟨2, rfl, HF.out, by decide, HB1.out⟩
    | true =>
     have HWk := hid (pwork_any N A n c w1 HIn1.out HNl.out hn2);go_wp2_with fail;((with_reducible refine HWk.out.mono ?_); rintro e w2 ⟨⟨q, rfl, hq⟩, hb2⟩)
     have HB2 := hid (below_then HB1.out hb2);have HNb2 := hid (HNb1.out.below hb2);have HIn2 := hid (HIn1.out.below hb2);clear HWk hb2 b0 b1 b2 b3 HB1 HNb1 HIn1;obtain ⟨b0, b1, b2, b3⟩ := HNb2.out.cells;cases q with
     | false =>
      have HF := hid (show FltK N true most 19 from .inr (.inl ⟨HVt.out, rfl, (fun hw => by have h9 := hq.2 ⟨HVt.out, hw⟩; cases h9), rfl⟩));clear hq;go_wp2_with fail;go_ret2;exact .inl ⟨19, rfl, HF.out, by decide, HB2.out⟩
     | true =>
      have HWf := hid (hq.1 (by trivial)).2;clear hq;have HF := hid (show FltK N true most 2 from .inr (.inr (.inl ⟨HVt.out, (fun _ => HWf.out), hbad, rfl⟩)));by_cases h1 : most < 1
      · have hq1 : decide (most < 1) = true := by simp; omega
        clear hbad;go_wp2_with fail;go_ret2;exact .inl ⟨2, rfl, HF.out, by decide, HB2.out⟩
      · have hq1 : decide (most < 1) = false := by simp; omega
        have hq2 : decide (most > 500) = true := by simp; omega
        clear hbad;go_wp2_with fail;go_ret2;exact .inl ⟨2, rfl, HF.out, by decide, HB2.out⟩
  have hq1 : decide (most < 1) = false := by simp; omega
  have hq2 : decide (most > 500) = false := by simp; omega
  have hm1 : 1 ≤ most ∧ most ≤ 500 := by omega
  cases work with
  | false =>
   have HI1 := hid (pini_any N A n c w1 HIn1.out HNl.out hn3 HVt.out);have HF := hid (show FltK N false most 0 from .inr (.inr (.inr ⟨HVt.out, (fun h => by cases h), hm1, rfl⟩)));go_wp2_with fail;((with_reducible refine HI1.out.mono ?_); rintro e w9 ⟨v, rfl, hS⟩)
   have HS := hid (NS.up HB1.out hS);clear hS;go_wp2_with fail;go_ret2;exact .inr ⟨HF.out, v, rfl, HS.out⟩
  | true =>
   have HWk := hid (pwork_any N A n c w1 HIn1.out HNl.out hn2);go_wp2_with fail;((with_reducible refine HWk.out.mono ?_); rintro e w2 ⟨⟨q, rfl, hq⟩, hb2⟩)
   have HB2 := hid (below_then HB1.out hb2);have HNb2 := hid (HNb1.out.below hb2);have HIn2 := hid (HIn1.out.below hb2);clear HWk hb2 b0 b1 b2 b3 HB1 HNb1 HIn1;obtain ⟨b0, b1, b2, b3⟩ := HNb2.out.cells;cases q with
   | false =>
    have HF := hid (show FltK N true most 19 from .inr (.inl ⟨HVt.out, rfl, (fun hw => by have h9 := hq.2 ⟨HVt.out, hw⟩; cases h9), rfl⟩));clear hq;go_wp2_with fail;go_ret2;exact .inl ⟨19, rfl, HF.out, by decide, HB2.out⟩
   | true =>
    have HWf := hid (hq.1 (by trivial)).2;clear hq;have HI2 := hid (pini_any N A n c w2 HIn2.out HNl.out hn3 HVt.out);have HF := hid (show FltK N true most 0 from .inr (.inr (.inr ⟨HVt.out, (fun _ => HWf.out), hm1, rfl⟩)));go_wp2_with fail;((with_reducible refine HI2.out.mono ?_); rintro e w9 ⟨v, rfl, hS⟩)
    have HS := hid (NS.up HB2.out hS);clear hS;go_wp2_with fail;go_ret2;exact .inr ⟨HF.out, v, rfl, HS.out⟩
end
section
open Go.RowKit

def CvdPo (N : Nt) (A : Option Addr) (n c : Nat) (work : Bool) (most : Int) (w : World) (e : Ending) (w' : World) : Prop :=
 (∃ k : Int, e = .returned (.tuple #[.pointer none, .int .i64 k]) ∧ k ≠ 0 ∧ (FltK N work most k ∨ (FltK N work most 0 ∧ growT N (iniM N) most.toNat = none ∧ k = 13)) ∧ Below w.heap.size w w') ∨
 (FltK N work most 0 ∧ ∃ (T : TS) (b : Nat) (As : Option Addr) (cs : Nat) (Av : Option Addr) (cv : Nat) (Af : Option Addr) (cf : Nat) (Ag : Option Addr) (cg : Nat), growT N (iniM N) most.toNat = some T ∧ e = .returned (.tuple #[.pointer (some ⟨b, 0, none⟩), .int .i64 0]) ∧ WdI w' b N T.states (movesOf T) true A n c As cs Av cv Af cf Ag cg ∧ Below w.heap.size w w')
theorem beR_ini {N : Nt} {most : Int} (hv : ntB N = true) (h1 : 1 ≤ most) (h2 : most ≤ 500) : beR N [iniM N] 0 most = match growT N (iniM N) most.toNat with | some T => .inr T | none => .inl 13 := by
 have hm := one_mk hv N.src.toNat;have hp := nt_small hv;have hb : badR N 0 most = false := by unfold badR; simp; omega
 have ha : [iniM N].all (mkB N) = true := by simp; exact hm
 unfold beR;rw [if_pos ha, hb];rfl
theorem covered_any (N : Nt) (A : Option Addr) (n c : Nat) (work : Bool) (most : Int) (w : World) (h : NtIn w A N) (hn : N.tr.length = n) (hn2 : n ≤ 9223372036854775806) (ht : Tb w) :
 Calls Tryz.prog 47 #[.agg #[.int .i64 N.pl, .slice A n c, .int .i64 N.src, .int .i64 N.snk], .bool work, .int .i64 most] w (CvdPo N A n c work most w) := by
 have HB0 := hid (below_alloc w (.cells #[.int .i64 N.pl, .slice A n c, .int .i64 N.src, .int .i64 N.snk] 24));have HNb0 := hid (NB.new w N.pl A n c N.src N.snk);have HIn0 := hid (h.below HB0.out);have HT0 := hid (ht.below HB0.out);have HNl := hid hn;have hn3 : n ≤ 9223372036854775807 := by omega
 clear h hn ht;go_enter Tryz.func47, Tryz.ntmps47;go_wp2_with fail;generalize w.alloc _ = w0 at *;obtain ⟨b0, b1, b2, b3⟩ := HNb0.out.cells;have HP := hid (proper_any N A n c work most w0 HIn0.out HNl.out hn2);((with_reducible refine HP.out.mono ?_); rintro e w1 hpr)
 rcases hpr with ⟨k, rfl, hf, hk0, hb1⟩ | ⟨hf, v1, rfl, hS⟩
 · have HF := hid hf;have HB1 := hid (below_then HB0.out hb1);have q1 : (k != 0) = true := by rw [bne_iff_ne]; exact hk0
   have HK0 := hid hk0;clear hf hb1 hk0 HP b0 b1 b2 b3;go_wp2_with fail;go_ret2;exact .inl ⟨k, rfl, HK0.out, .inl HF.out, HB1.out⟩
 · have HF := hid hf;obtain ⟨hv, hwf, hm1, hm2⟩ := hf.ok;have HV := hid hv;have hb1 := hS.2;have HB1 := hid (below_then HB0.out hb1);have HNb1 := hid (HNb0.out.below hb1);have HIn1 := hid (HIn0.out.below hb1);have HT1 := hid (HT0.out.below hb1);obtain ⟨A1, c1, rfl, hz, hz1, hz2⟩ := hS.zin;have HG := hid (graph_any N A n c A1 (iniM N).length c1 (iniM N) most w1 HIn1.out HNl.out hn3 hz rfl hz1 hz2 HT1.out);have HBe := hid (beR_ini hv hm1 hm2);clear hf hv hwf hS hb1 hz hz1 hz2 HP b0 b1 b2 b3 HB0 HNb0 HIn0 HT0;obtain ⟨b0, b1, b2, b3⟩ := HNb1.out.cells;go_wp2_with fail;((with_reducible refine HG.out.mono ?_); rintro e w2 ⟨hb2, hg⟩)
   rw [HBe.out] at hg;have HB2 := hid (below_then HB1.out hb2);have HNb2 := hid (HNb1.out.below hb2);have HIn2 := hid (HIn1.out.below hb2);clear HG HBe b0 b1 b2 b3 hb2 HB1 HNb1 HIn1 HT1;cases hgr : growT N (iniM N) most.toNat with
   | none =>
    rw [hgr] at hg;simp only at hg;subst hg;have HGr := hid hgr;clear hgr;go_wp2_with fail;go_ret2;exact .inl ⟨13, rfl, by decide, .inr ⟨HF.out, HGr.out, rfl⟩, HB2.out.alloc HB2.out.size _⟩
   | some T =>
    rw [hgr] at hg;simp only at hg;obtain ⟨vS, vM, rfl, hO, hM⟩ := hg;obtain ⟨As, cs, rfl, hl, _, _⟩ := hO.lin;obtain ⟨Av, cv, rfl, _, _, _, hr, _⟩ := own_rd mvC_len (by decide) hM.1;obtain ⟨hI, _⟩ := growT_inv hgr;obtain ⟨hmo, _⟩ := moves_ok hI;have hcnt := hI.cnt;have hlen := hI.len;have hml : (movesOf T).length ≤ 20000 := by rw [movesOf_len]; omega
    have HGr := hid hgr;have HL := hid hl;have HR := hid hr;have HMo := hid hmo;clear hgr hl hr hO hM hI hmo;have HA := hid (below_alloc w2 (.cells #[.slice As T.states.length cs, .slice Av (movesOf T).length cv, .bool true] 41));obtain ⟨b0, b1, b2, b3⟩ := (HNb2.out.below HA.out).cells;have d0 := heap_alloc_new w2 (.cells #[.slice As T.states.length cs, .slice Av (movesOf T).length cv, .bool true] 41);obtain ⟨e0, e1, e2⟩ := (show SpB _ w2.heap.size (.slice As T.states.length cs) (.slice Av (movesOf T).length cv) true from d0).cells;have HGa := hid (gather_any N A n c As cs T.states Av cv (movesOf T) true _ (HIn2.out.below HA.out) HNl.out hn3 HV.out (HL.out.below HA.out) (HR.out.below HA.out) HMo.out (by omega) hml);have HB3 := hid (HB2.out.trans (HA.out.mono HB2.out.size));clear d0;go_wp2_with fail;((with_reducible refine HGa.out.mono ?_); rintro e w4 ⟨b, Af, cf, Ag, cg, rfl, hW, hb4⟩)
    have HW := hid hW;have HB4 := hid (below_then HB3.out hb4);clear hW hb4 HGa b0 b1 b2 b3 e0 e1 e2;go_wp2_with fail;go_ret2;exact .inr ⟨HF.out, T, b, As, cs, Av, cv, Af, cf, Ag, cg, HGr.out, rfl, HW.out, HB4.out⟩
end
section
open Go.RowKit

def CovE (N : Nt) (work : Bool) (most k : Int) : Prop := k ≠ 0 ∧ (FltK N work most k ∨ (FltK N work most 0 ∧ growT N (iniM N) most.toNat = none ∧ k = 13))
def CovT (N : Nt) (work : Bool) (most : Int) (T : TS) : Prop := FltK N work most 0 ∧ growT N (iniM N) most.toNat = some T
structure GrF (N : Nt) (T : TS) : Prop where
 gr : Gr N T
 all : ∀ s ∈ T.states, (s.length : Int) = N.pl
 nod : ∀ (i j : Nat) (s : List Int), T.states[i]? = some s → T.states[j]? = some s → i = j
 mo : mvOk (movesOf T) T.states.length
 l0 : 0 < T.states.length
 l2 : T.states.length ≤ 20001
 v2 : (movesOf T).length ≤ 20000
 ld : ∀ k, k < T.states.length → Lead (movesOf T) k 0
theorem CovT.grf {N : Nt} {work : Bool} {most : Int} {T : TS} (h : CovT N work most T) : GrF N T := by
 obtain ⟨hf, hg⟩ := h;have hv := hf.ok.1;have hG := Gr.of hv hg;have hmo := (moves_ok hG.i).1;have h1 := (List.getElem?_eq_some_iff.1 hG.i.one).1;have hc := hG.i.cnt;have hl := hG.i.len;exact ⟨hG, fun s hs => hG.slen hs, hG.i.nod, hmo, h1, by omega, by rw [movesOf_len]; omega, root_lead hmo (fun j h0 hj => mv_tree hG.i hj h0)⟩
end
end Go.Proofs.YtkhmngljpfibcaaGreatDoor
