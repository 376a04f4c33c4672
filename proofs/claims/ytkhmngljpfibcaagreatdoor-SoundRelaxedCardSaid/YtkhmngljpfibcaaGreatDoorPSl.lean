/- Relaxed of reference 28: what a call returns. proves of the statements of chapter 28: what a call returns. proves of the statements of chapter 28 at the claims of relaxed soundness; Explore of reference 22 as values: what calls return. -/
import Derived.Test.YtkhmngljpfibcaaGreatDoorPUu
import Derived.Test.YtkhmngljpfibcaaGreatDoorPTy
import Derived.Test.YtkhmngljpfibcaaGreatDoorPAd
import Derived.Test.YtkhmngljpfibcaaGreatDoorPAx
import Derived.Test.YtkhmngljpfibcaaGreatDoorPYj
import Derived.Test.YtkhmngljpfibcaaGreatDoorPYm
namespace Go.Proofs.YtkhmngljpfibcaaGreatDoor
set_option maxRecDepth 100000
set_option maxHeartbeats 12800000
open Go.Lib (hid)
section
open Go.RowKit

def RxI (N : Nt) (LL : List (List Int)) (MV : List Mv) (w3 : World) (nm t g : Nat) (fv iv : Value) (wr : World) : Prop :=
 ∃ (j : Nat) (fb : Bool), j + g = nm ∧ iv = .int .i64 (j : Int) ∧ fv = .bool fb ∧ (fb = true ↔ ∃ x ∈ MV.take j, x.s = (t : Int) ∧ Leads N LL MV x.t.toNat) ∧ w3 = wr
theorem rx_yes {N : Nt} {LL : List (List Int)} {MV : List Mv} {t j : Nat} {x : Mv} {fb : Bool} (hT : MV.take (j + 1) = MV.take j ++ [x]) (h : fb = true ↔ ∃ x ∈ MV.take j, x.s = (t : Int) ∧ Leads N LL MV x.t.toNat) (hx : fb = true ∨ (x.s = (t : Int) ∧ Leads N LL MV x.t.toNat)) : (true = true ↔ ∃ x ∈ MV.take (j + 1), x.s = (t : Int) ∧ Leads N LL MV x.t.toNat) := by
 refine ⟨fun _ => ?_, fun _ => rfl⟩;rw [hT];rcases hx with hx | hx
 · obtain ⟨y, hy, h2⟩ := h.1 hx;exact ⟨y, List.mem_append.2 (.inl hy), h2⟩
 · exact ⟨x, List.mem_append.2 (.inr (by simp)), hx⟩
theorem rx_no {N : Nt} {LL : List (List Int)} {MV : List Mv} {t j : Nat} {x : Mv} (hT : MV.take (j + 1) = MV.take j ++ [x]) (h : false = true ↔ ∃ x ∈ MV.take j, x.s = (t : Int) ∧ Leads N LL MV x.t.toNat) (hx : ¬ (x.s = (t : Int) ∧ Leads N LL MV x.t.toNat)) : (false = true ↔ ∃ x ∈ MV.take (j + 1), x.s = (t : Int) ∧ Leads N LL MV x.t.toNat) := by
 refine ⟨fun h => (by cases h), fun ⟨y, hy, h2⟩ => ?_⟩;rw [hT] at hy;rcases List.mem_append.1 hy with e | e
 · exact h.2 ⟨y, e, h2⟩
 · simp at e; subst e; exact absurd h2 hx
theorem relx28_any (N : Nt) (A : Option Addr) (n c : Nat) (As : Option Addr) (cs : Nat) (LL : List (List Int)) (Av : Option Addr) (cv : Nat) (MV : List Mv) (fl : Bool) (w : World) (_h : NtIn w A N) (hn : N.tr.length = n) (hv : ntB N = true) (hS : LIn w As LL) (hM : Rd mvC 3 w Av MV) (hl2 : LL.length ≤ 1000000) (hv2 : MV.length ≤ 20000) (hnod : ∀ (i j : Nat) (s : List Int), LL[i]? = some s → LL[j]? = some s → i = j) (hmo : mvOk MV LL.length) :
 Calls Tryz.prog 25 #[.agg #[.int .i64 N.pl, .slice A n c, .int .i64 N.src, .int .i64 N.snk], .agg #[.slice As LL.length cs, .slice Av MV.length cv, .bool fl]] w fun e w' => ∃ q : Bool, e = .returned (.bool q) ∧ (q = true ↔ RlxP N LL MV) ∧ Below w.heap.size w w' := by
 obtain ⟨ns, hnl⟩ : ∃ ns, ns = LL.length := ⟨_, rfl⟩;obtain ⟨nm, hnm⟩ : ∃ nm, nm = MV.length := ⟨_, rfl⟩;have HLl := hid hnl.symm;have HMl := hid hnm.symm;rw [← hnl, ← hnm];rw [← hnl] at hl2 hmo;rw [← hnm] at hv2;have HV := hid hv;have HNl := hid hn;have hps := nt_small hv;have hn60 : n ≤ 60 := by rw [← hn]; omega
 have hz : w.heap.size + 1 = (w.alloc (.cells #[.int .i64 N.pl, .slice A n c, .int .i64 N.src, .int .i64 N.snk] 24)).heap.size := by simp
 have HB0 := hid (two_boxes w (.cells #[.int .i64 N.pl, .slice A n c, .int .i64 N.src, .int .i64 N.snk] 24) (.cells #[.slice As ns cs, .slice Av nm cv, .bool fl] 41));have HNb0 := hid ((NB.new w N.pl A n c N.src N.snk).below (below_alloc _ (.cells #[.slice As ns cs, .slice Av nm cv, .bool fl] 41)));have HSb0 := hid (show SpB ((w.alloc (.cells #[.int .i64 N.pl, .slice A n c, .int .i64 N.src, .int .i64 N.snk] 24)).alloc (.cells #[.slice As ns cs, .slice Av nm cv, .bool fl] 41)) (w.heap.size + 1) (.slice As ns cs) (.slice Av nm cv) fl by rw [hz]; exact heap_alloc_new _ _);have HSt0 := hid (hS.below HB0.out);have HMv0 := hid (hM.below HB0.out);have HNod := hid hnod;have HMo := hid hmo;clear hn hv hS hM hps hnl hnm hz hnod hmo;go_enter Tryz.func25, Tryz.ntmps25
 go_upto_region 1 with (fail)
 generalize World.alloc _ _ = w0 at *;have hbd : Below w0.heap.size w0 w0.drew := (Below.refl _ _).drew;have HNb := hid (HNb0.out.below hbd);have HSb := hid (HSb0.out.below hbd);have HSt := hid (HSt0.out.below hbd);have HMv := hid (HMv0.out.below hbd);have HB := hid (below_then HB0.out hbd);have hS0 : w0.drew.cell? ⟨w.heap.size, 0, none⟩ = some (.int .i64 N.pl) ∧ w0.drew.cell? ⟨w.heap.size, 1, none⟩ = some (.slice A n c) ∧ w0.drew.cell? ⟨w.heap.size, 2, none⟩ = some (.int .i64 N.src) ∧ w0.drew.cell? ⟨w.heap.size, 3, none⟩ = some (.int .i64 N.snk) ∧ w0.drew.cell? ⟨w.heap.size + 1, 0, none⟩ = some (.slice As ns cs) ∧ w0.drew.cell? ⟨w.heap.size + 1, 1, none⟩ = some (.slice Av nm cv) ∧ w0.drew.cell? ⟨w.heap.size + 1, 2, none⟩ = some (.bool fl) := ⟨HNb.out.cells.1, HNb.out.cells.2.1, HNb.out.cells.2.2.1, HNb.out.cells.2.2.2, HSb.out.cells.1, HSb.out.cells.2.1, HSb.out.cells.2.2⟩;refine rh7 hS0 (fun hHeld => ?_);clear hS0 hbd HNb0 HSb0 HSt0 HMv0 HB0;generalize w0.drew = wd at *;refine tkH 0 ?_;(try go_simp);refine tkH 1 ?_;(try go_simp);have hS9 := hHeld;have HFn := hid (fin28_any N A n c HV.out wd);refine tkR 2 (fun K hK => ?_);go_simp;((refine (HFn.out).mono ?_); rintro e w1 ⟨vf, rfl, hSf⟩; obtain ⟨Af, cf, rfl⟩ := hSf.slice)
 refine hK.out _ _ (⟨cell_stays hSf.2 hS9.1, cell_stays hSf.2 hS9.2.1, cell_stays hSf.2 hS9.2.2.1, cell_stays hSf.2 hS9.2.2.2.1, cell_stays hSf.2 hS9.2.2.2.2.1, cell_stays hSf.2 hS9.2.2.2.2.2.1, cell_stays hSf.2 hS9.2.2.2.2.2.2⟩) (fun hHeld => ?_);clear hK K;try go_simp
 have hS8 := hHeld;have HCo := hid (comp28_any As cs LL Av cv MV fl Af (finM N).length cf (finM N) w1 (HSt.out.below hSf.2) (HMv.out.below hSf.2) (by rw [HLl.out]; exact HMo.out) (ns_zin2 hSf) rfl (by rw [HLl.out]; exact hl2) (by rw [HMl.out]; exact hv2));rw [HLl.out, HMl.out] at HCo;refine tkR 3 (fun K hK => ?_);go_simp;((refine (HCo.out).mono ?_); rintro e w3 ⟨gb, B, goal, rfl, hbl, hBl, hb3, hgo, hgi⟩)
 refine hK.out _ _ (⟨cell_stays hb3 hS8.1, cell_stays hb3 hS8.2.1, cell_stays hb3 hS8.2.2.1, cell_stays hb3 hS8.2.2.2.1, cell_stays hb3 hS8.2.2.2.2.1, cell_stays hb3 hS8.2.2.2.2.2.1, cell_stays hb3 hS8.2.2.2.2.2.2⟩) (fun hHeld => ?_);clear hK K;try go_simp
 refine tkH 4 ?_;(try go_simp);refine wpAnyH_done (by kernel_rfl) ?_ _;clear hHeld hS8 hS9;have hb13 := below_then hSf.2 hb3;have HNb3 := hid (HNb.out.below hb13);have HSb3 := hid (HSb.out.below hb13);have HMv3 := hid (HMv.out.below hb13);have HB3 := hid (below_then HB.out hb13);have HBL := hid hbl;have HBn := hid (hBl.trans HLl.out.symm);have HLd := hid (show ∀ k, B.getD k false = true ↔ Leads N LL MV k from fun k => (hgi k).trans (comp_leads hgo HNod.out k));clear hbl hBl hb3 hgo hgi HCo hSf HFn hb13 HNb HSb HSt HMv HB;obtain ⟨b0, b1, b2, b3⟩ := HNb3.out.cells;obtain ⟨d0, d1, d2⟩ := HSb3.out.cells;go_wp2_with fail;go_loopg [6] (n) (fun g iv wr => ∃ t : Nat, t + g = n ∧ iv = .int .i64 (t : Int) ∧ (∀ i, i < t → ∃ x ∈ MV, x.s = (i : Int) ∧ Leads N LL MV x.t.toNat) ∧ w3 = wr);case atStart => exact ⟨0, by omega, rfl, fun i hi => by omega, rfl⟩
 case round =>
  obtain ⟨t, htg, rfl, hgd, rfl⟩ := hrel;have HTg := hid htg;have HGd := hid hgd;have htle : t ≤ n := by omega
  clear htg hgd;by_cases hlt : t < n
  · have hti : (t : Int) < (n : Int) := by omega
    go_wp2_with fail;obtain ⟨go, rfl⟩ : ∃ go, go = gk := ⟨_, rfl⟩;go_loopg [7, 8] (nm) (fun g fv iv wr => RxI N LL MV w3 nm t g fv iv wr);case atStart => exact ⟨0, false, by omega, rfl, rfl, ⟨fun h => (by cases h), fun ⟨x, hx, _⟩ => by simp at hx⟩, rfl⟩
    case round =>
     obtain ⟨j, fb, hj, rfl, rfl, hfb, rfl⟩ := hrel;have HJ := hid hj;have HFb := hid hfb;have hjle : j ≤ nm := by omega
     clear hj hfb;by_cases hlj : j < nm
     · have hlj' : j < MV.length := by rw [HMl.out]; exact hlj
       have HTk := hid (List.take_succ_eq_append_getElem hlj');obtain ⟨am, hAv, hpa, m0, m1, m2⟩ := mv_cells HMv3.out hlj';obtain ⟨u0, hu0e⟩ := Int.eq_ofNat_of_zero_le (HMo.out _ (List.getElem_mem hlj')).2.2.1;have hu0 : u0 < LL.length := by have := (HMo.out _ (List.getElem_mem hlj')).2.2.2; rw [HLl.out]; omega
       generalize MV[j] = x at *;obtain ⟨xf, xt, xs⟩ := x;simp only at m0 m1 m2 hu0e;subst hu0e hAv;have hjn : (j : Int) < (nm : Int) := by omega
       clear hpa hlj';cases fb with
       | true =>
        have HN := hid (rx_yes HTk.out HFb.out (.inl rfl));go_wp2_with fail;go_roundg (gk - 1);case measure => have := HJ.out; omega
        case rel => exact ⟨j + 1, true, by have := HJ.out; omega, by go_num, by first | rfl | simp, by first | exact HN.out | simpa using HN.out, rfl⟩
       | false =>
        by_cases hxs : xs = (t : Int)
        · have q0 : (xs == (t : Int)) = true := by simp [hxs]
          obtain ⟨bk, y1, hgt⟩ : ∃ bk : Bool, w3.cell? ⟨gb, u0, none⟩ = some (.bool bk) ∧ B.getD u0 false = bk := ⟨_, HBL.out.cell (by rw [HBn.out]; exact hu0), by simp [show u0 < B.length by rw [HBn.out]; exact hu0]⟩;have HGt := hid hgt;have hui : (u0 : Int) < (ns : Int) := by rw [HLl.out] at hu0; omega
          clear hgt;cases bk with
          | true =>
           have HN := hid (rx_yes HTk.out HFb.out (.inr ⟨hxs, by rw [Int.toNat_natCast]; exact (HLd.out u0).1 HGt.out⟩));go_wp2_with fail;go_roundg (gk - 1);case measure => have := HJ.out; omega
           case rel => exact ⟨j + 1, true, by have := HJ.out; omega, by go_num, by first | rfl | simp, by first | exact HN.out | simpa using HN.out, rfl⟩
          | false =>
           have HN := hid (rx_no HTk.out HFb.out (fun h => by have h2 := h.2; rw [Int.toNat_natCast] at h2; have h3 := (HLd.out u0).2 h2; rw [HGt.out] at h3; cases h3));go_wp2_with fail;go_roundg (gk - 1);case measure => have := HJ.out; omega
           case rel => exact ⟨j + 1, false, by have := HJ.out; omega, by go_num, by first | rfl | simp, by first | exact HN.out | simpa using HN.out, rfl⟩
        · have q0 : (xs == (t : Int)) = false := by simp [hxs]
          have HN := hid (rx_no HTk.out HFb.out (fun h => hxs h.1));go_wp2_with fail;go_roundg (gk - 1);case measure => have := HJ.out; omega
          case rel => exact ⟨j + 1, false, by have := HJ.out; omega, by go_num, by first | rfl | simp, by first | exact HN.out | simpa using HN.out, rfl⟩
     · have hjn : nm = j := by omega
       subst hjn;have hMt : MV.take nm = MV := List.take_of_length_le (by rw [HMl.out]; omega);rw [hMt] at HFb;clear hMt;cases fb with
       | true =>
        have HN := hid (HFb.out.1 rfl);go_wp2_with fail;go_roundg (go - 1);case measure => have := HTg.out; omega
        case rel => exact ⟨t + 1, by have := HTg.out; omega, by go_num, fun i hi => by
         rcases Nat.lt_or_ge i t with h9 | h9
         · exact HGd.out i h9
         · rw [show i = t by omega]; exact HN.out, rfl⟩
       | false =>
        have HN := hid (show ¬ RlxP N LL MV from fun h => by
         have h9 := HFb.out.2 (h t (by rw [HNl.out]; exact hlt));cases h9)
        go_wp2_with fail;go_ret;exact ⟨false, rfl, ⟨fun h => (by cases h), fun h => absurd h HN.out⟩, HB3.out⟩
  · have htn : t = n := by omega
    have HRx := hid (show RlxP N LL MV from fun i hi => HGd.out i (by rw [HNl.out] at hi; omega));go_wp2_with fail;go_ret;exact ⟨true, rfl, ⟨fun _ => HRx.out, fun _ => rfl⟩, HB3.out⟩
end
section
open Go.RowKit

def wideM (s : List Int) : Bool := decide (1000 < s.length)
theorem wide1_any (Ax : Option Addr) (nx cx : Nat) (X : List Int) (w : World) (hl : X.length = nx) : Calls Tryz.prog 62 #[.slice Ax nx cx] w fun e w' => e = .returned (.bool (wideM X)) ∧ Below w.heap.size w w' := by
 have HV := hid (show decide ((1000 : Int) < (nx : Int)) = wideM X by unfold wideM; rw [hl, Bool.eq_iff_iff]; simp; omega);clear hl;go_enter Tryz.func62, Tryz.ntmps62;go_wp2_with fail;go_ret;exact ⟨ret_bool HV.out, Below.refl _ _⟩
theorem wide_no {L : List (List Int)} (h : ∀ l ∈ L, l.length ≤ 1000) : L.any wideM = false := List.any_eq_false.2 fun l hl => by
 have := h l hl;unfold wideM; simp; omega
theorem lindex_pv (A : Option Addr) (n cap : Nat) (L : List (List Int)) (w : World) (h : LIn w A L) (hn : L.length = n) (hn4 : n ≤ 9223372036854775806) :
 Calls Tryz.prog 132 #[.slice A n cap, .func (.func 62) #[] #[]] w fun e w' => e = .returned (.int .i64 (lidx wideM L)) ∧ Below w.heap.size w w' := by
 have H0 := hid h; clear h;have HN := hid hn; clear hn;skip;go_enter Tryz.func132, Tryz.ntmps132;go_wp2_with fail;go_loopg [8] (n) (fun g i wr => ∃ k : Nat, k + g = n ∧ i = .int .i64 k ∧ (∀ s ∈ L.take k, wideM s = false) ∧ Below w.heap.size w wr);case atStart => exact ⟨0, by omega, rfl, by simp, Below.refl _ _⟩
 case round =>
  obtain ⟨k, hk, rfl, hno, hB⟩ := hrel;have HK := hid hk;have HNo := hid hno;have HB := hid hB;have HT := hid (H0.out.below hB);have hle : k ≤ n := by omega
  clear hk hno hB;by_cases hlt : k < n
  · have hlt' : k < L.length := by rw [HN.out]; exact hlt
    obtain ⟨ad, rfl, hp, u, c0, Ax, nx, cx, rfl, zx, hxl, hxc, hxd⟩ := HT.out k hlt';have HTk := hid (List.take_succ_eq_append_getElem hlt');have HAt := hid (lidx_at (p := wideM) hlt');have hXm := List.getElem_mem hlt';generalize L[k] = X at *;have HX := hid (wide1_any Ax nx cx X wr hxl);clear hlt' zx hxl hXm;cases hv : wideM X with
    | true =>
     rw [hv] at HX;have HV := hid (HAt.out hv HNo.out); clear hv;go_wp2_with fail;((with_reducible refine HX.out.mono ?_); rintro e w1 ⟨rfl, hb1⟩)
     have HB1 := hid (below_then HB.out hb1);go_wp2_with fail;go_ret;exact ⟨ret_int HV.out.symm, HB1.out⟩
    | false =>
     rw [hv] at HX;have HV := hid hv; clear hv HAt;go_wp2_with fail;((with_reducible refine HX.out.mono ?_); rintro e w1 ⟨rfl, hb1⟩)
     have HB1 := hid (below_then HB.out hb1);clear hb1;go_wp2_with fail;go_roundg (gk - 1);case measure => have := HK.out; omega
     case rel => exact ⟨k + 1, by have := HK.out; omega, by go_num, by
      rw [HTk.out]; intro s hs;rcases List.mem_append.1 hs with h1 | h1
      · exact HNo.out s h1
      · have : s = X := by simpa using h1
        rw [this]; exact HV.out, HB1.out⟩
  · have HV := hid (show lidx wideM L = -1 from lidx_no (by have := HNo.out; rwa [List.take_of_length_le (by rw [HN.out]; omega)] at this));go_wp2_with fail;go_ret;exact ⟨ret_int HV.out.symm, HB.out⟩
theorem lcont_pv (A : Option Addr) (n cap : Nat) (L : List (List Int)) (w : World) (h : LIn w A L) (hn : L.length = n) (hn4 : n ≤ 9223372036854775806) :
 Calls Tryz.prog 63 #[.slice A n cap, .func (.func 62) #[] #[]] w fun e w' => e = .returned (.bool (L.any wideM)) ∧ Below w.heap.size w w' := by
 have HI := hid (lindex_pv A n cap L w h hn hn4);have HE := hid (lidx_any wideM L);clear h hn;generalize lidx wideM L = r at HI HE;go_enter Tryz.func63, Tryz.ntmps63;go_wp2_with fail;((with_reducible refine HI.out.mono ?_); rintro e w1 ⟨rfl, hb1⟩)
 have HB1 := hid hb1;go_wp2_with fail;go_ret;exact ⟨ret_bool HE.out, HB1.out⟩
end
section
open Go.RowKit

theorem proves34_any (N : Nt) (A : Option Addr) (n c : Nat) (cl cn : Int) (Ar : Option Addr) (nr cr : Nat) (R : List Int) (Ap : Option Addr) (np cp : Nat) (P : List Int) (Ak : Option Addr) (nk ck : Nat) (K : List (List Int)) (Av : Option Addr) (nv cv : Nat) (V : List Mv) (As : Option Addr) (ns cs : Nat) (S : List (List Int)) (Aw : Option Addr) (nw cw : Nat) (X : List (List Int)) (w : World) (h : NtIn w A N) (hn : N.tr.length = n) (hv : ntB N = true) (hC : CfL w Ar nr R Ap np P Ak nk K Av nv V As ns S Aw nw X) (h1 : nr ≤ 1000) (h2 : np ≤ 1000) (h3 : nk ≤ 200) (h4 : nv ≤ 200) (h5 : ns ≤ 200) (h6 : nw ≤ 2) (hwK : ∀ l ∈ K, l.length ≤ 1000) (hwS : ∀ l ∈ S, l.length ≤ 1000) (hwX : ∀ l ∈ X, l.length ≤ 1000) (hc34 : cl = 3 ∨ cl = 4) (hq : ClmP N cl cn R P K V S X) :
 Calls Tryz.prog 18 #[.agg #[.int .i64 N.pl, .slice A n c, .int .i64 N.src, .int .i64 N.snk], .agg #[.int .i64 cl, .int .i64 cn, .slice Ar nr cr, .slice Ap np cp, .slice Ak nk ck, .slice Av nv cv, .slice As ns cs, .slice Aw nw cw], .int .i64 cl] w fun e w' => e = .returned (.bool true) ∧ Below w.heap.size w w' := by
 have HB0 := hid (two_boxes w (.cells #[.int .i64 N.pl, .slice A n c, .int .i64 N.src, .int .i64 N.snk] 24) (.cells #[.int .i64 cl, .int .i64 cn, .slice Ar nr cr, .slice Ap np cp, .slice Ak nk ck, .slice Av nv cv, .slice As ns cs, .slice Aw nw cw] 31));have HNb0 := hid ((NB.new w N.pl A n c N.src N.snk).below (below_alloc _ (.cells #[.int .i64 cl, .int .i64 cn, .slice Ar nr cr, .slice Ap np cp, .slice Ak nk ck, .slice Av nv cv, .slice As ns cs, .slice Aw nw cw] 31)));have hcb := heap_alloc_new (w.alloc (.cells #[.int .i64 N.pl, .slice A n c, .int .i64 N.src, .int .i64 N.snk] 24)) (.cells #[.int .i64 cl, .int .i64 cn, .slice Ar nr cr, .slice Ap np cp, .slice Ak nk ck, .slice Av nv cv, .slice As ns cs, .slice Aw nw cw] 31);rw [World.size_alloc] at hcb;have HCb0 := hid (show CtB _ (w.heap.size + 1) #[.int .i64 cl, .int .i64 cn, .slice Ar nr cr, .slice Ap np cp, .slice Ak nk ck, .slice Av nv cv, .slice As ns cs, .slice Aw nw cw] from hcb);have HIn0 := hid (h.below HB0.out);have HC0 := hid (hC.below HB0.out);have HNl := hid hn;have HV := hid hv;have HQ := hid hq;have HS34 := hid (show ∀ I ∈ S, ∀ ni : Nat, I.length = ni → ni ≤ 1000 from fun I hI ni h => h ▸ hwS I hI);have HK := hid (wide_no hwK);have HS := hid (wide_no hwS);have HX := hid (wide_no hwX);have q0 : (cl != cl) = false := by simp
 have q1 : decide ((200 : Int) < (nk : Int)) = false := by simp; omega
 have q2 : decide ((1000 : Int) < (nr : Int)) = false := by simp; omega
 have q3 : decide ((1000 : Int) < (np : Int)) = false := by simp; omega
 have q4 : decide ((200 : Int) < (nv : Int)) = false := by simp; omega
 have q5 : decide ((200 : Int) < (ns : Int)) = false := by simp; omega
 have q6 : decide ((2 : Int) < (nw : Int)) = false := by simp; omega
 obtain ⟨d0, d1, d2, d3, d4, d5, d6, d7⟩ := HCb0.out.cells;obtain ⟨b0, b1, b2, b3⟩ := HNb0.out.cells;clear h hn hv hC hcb hq hwK hwS hwX;go_enter Tryz.func18, Tryz.ntmps18
 go_upto_region 4 with (fail)
 generalize (w.alloc (.cells #[.int .i64 N.pl, .slice A n c, .int .i64 N.src, .int .i64 N.snk] 24)).alloc (.cells #[.int .i64 cl, .int .i64 cn, .slice Ar nr cr, .slice Ap np cp, .slice Ak nk ck, .slice Av nv cv, .slice As ns cs, .slice Aw nw cw] 31) = w0 at *;generalize w.heap.size + 1 = cb at *;clear d0 d1 d2 d3 d4 d5 d6 d7 b0 b1 b2 b3 q0 q1 q2 q3 q4 q5 q6;have HL1 := hid (lcont_pv Ak nk ck K w0 HC0.out.k HC0.out.kl (by omega));rw [HK.out] at HL1;obtain ⟨d0, d1, d2, d3, d4, d5, d6, d7⟩ := HCb0.out.cells;obtain ⟨b0, b1, b2, b3⟩ := HNb0.out.cells;go_wp2_with fail;((with_reducible refine (HL1.out).mono ?_); rintro e w1 ⟨rfl, hb1⟩)
 have HB1 := hid (HB0.out.trans (hb1.mono HB0.out.size));have HNb1 := hid (HNb0.out.below hb1);have HCb1 := hid (HCb0.out.below hb1);have HIn1 := hid (HIn0.out.below hb1);have HC1 := hid (HC0.out.below hb1);clear HB0 HNb0 HCb0 HIn0 HC0 hb1 d0 d1 d2 d3 d4 d5 d6 d7 b0 b1 b2 b3;have HL2 := hid (lcont_pv As ns cs S w1 HC1.out.s HC1.out.sl (by omega));rw [HS.out] at HL2;obtain ⟨d0, d1, d2, d3, d4, d5, d6, d7⟩ := HCb1.out.cells;obtain ⟨b0, b1, b2, b3⟩ := HNb1.out.cells;go_wp2_with fail;((with_reducible refine (HL2.out).mono ?_); rintro e w2 ⟨rfl, hb2⟩)
 have HB2 := hid (HB1.out.trans (hb2.mono HB1.out.size));have HNb2 := hid (HNb1.out.below hb2);have HCb2 := hid (HCb1.out.below hb2);have HIn2 := hid (HIn1.out.below hb2);have HC2 := hid (HC1.out.below hb2);clear HB1 HNb1 HCb1 HIn1 HC1 hb2 d0 d1 d2 d3 d4 d5 d6 d7 b0 b1 b2 b3;have HL3 := hid (lcont_pv Aw nw cw X w2 HC2.out.x HC2.out.xl (by omega));rw [HX.out] at HL3;obtain ⟨d0, d1, d2, d3, d4, d5, d6, d7⟩ := HCb2.out.cells;obtain ⟨b0, b1, b2, b3⟩ := HNb2.out.cells;go_wp2_with fail;((with_reducible refine (HL3.out).mono ?_); rintro e w3 ⟨rfl, hb3⟩)
 have HB3 := hid (HB2.out.trans (hb3.mono HB2.out.size));have HNb3 := hid (HNb2.out.below hb3);have HCb3 := hid (HCb2.out.below hb3);have HIn3 := hid (HIn2.out.below hb3);have HC3 := hid (HC2.out.below hb3);clear HB2 HNb2 HCb2 HIn2 HC2 hb3 d0 d1 d2 d3 d4 d5 d6 d7 b0 b1 b2 b3;have HCk := hid (check34_any N A n c cl cn Ar nr cr R Ap np cp P Ak nk ck K Av nv cv V As ns cs S Aw nw cw X w3 HIn3.out HNl.out HV.out (HC3.out.m (by omega) (by omega) (by omega) (by omega) (by omega) (by omega)) (by omega) HS34.out hc34);obtain ⟨d0, d1, d2, d3, d4, d5, d6, d7⟩ := HCb3.out.cells;obtain ⟨b0, b1, b2, b3⟩ := HNb3.out.cells;go_wp2_with fail;((with_reducible refine HCk.out.mono ?_); rintro e w4 ⟨⟨q, rfl, hq⟩, hb4⟩)
 obtain rfl : q = true := hq.2 HQ.out;have HB4 := hid (HB3.out.trans (hb4.mono HB3.out.size));clear hq hb4;go_wp2_with fail;go_ret;exact ⟨rfl, HB4.out⟩
def X22 (w0 : World) (N : Nt) (M : List Int) (mn : Nat) (As : Option Addr) (ns cs : Nat) (Av : Option Addr) (nm cv : Nat) (fl : Bool) (k : Int) (w' : World) : Prop :=
 (exT N M mn = none ∧ k = 13 ∧ fl = false) ∨ ∃ E : ExS, exT N M mn = some E ∧ k = 0 ∧ fl = E.fl ∧ ns = E.SL.length ∧ nm = E.MV.length ∧ OLL w0 w' (.slice As ns cs) E.SL ∧ OMv w0 w' (.slice Av nm cv) E.MV
section
variable {w0 : World} {N : Nt} {M : List Int} {mn : Nat} {As : Option Addr} {ns cs : Nat} {Av : Option Addr} {nm cv : Nat} {fl : Bool} {k : Int} {w w' : World}
theorem X22.below (h : X22 w0 N M mn As ns cs Av nm cv fl k w) (hb : Below w.heap.size w w') : X22 w0 N M mn As ns cs Av nm cv fl k w' := by
 rcases h with h | ⟨E, h1, h2, h3, h4, h5, h6, h7⟩
 · exact .inl h
 · exact .inr ⟨E, h1, h2, h3, h4, h5, h6.below hb, h7.below hb⟩
theorem X22.up {w1 : World} (hb : Below w1.heap.size w1 w0) (h : X22 w0 N M mn As ns cs Av nm cv fl k w) : X22 w1 N M mn As ns cs Av nm cv fl k w := by
 rcases h with h | ⟨E, h1, h2, h3, h4, h5, h6, h7⟩
 · exact .inl h
 · exact .inr ⟨E, h1, h2, h3, h4, h5, OLL.up hb h6, OMv.up hb h7⟩
theorem X22.other (h : X22 w0 N M mn As ns cs Av nm cv fl k w) {b : Nat} {a0 a1 : Value} {x : Bool} (hb : SpB w b a0 a1 x) (hl : w0.heap.size ≤ b) (hg : w.grownBy w' (some b)) : X22 w0 N M mn As ns cs Av nm cv fl k w' := by
 rcases h with h | ⟨E, h1, h2, h3, h4, h5, h6, h7⟩
 · exact .inl h
 · exact .inr ⟨E, h1, h2, h3, h4, h5, h6.kept hb (by decide) (by decide) hl hg, ⟨h7.1.kept hg (own_other h7.1 hb (by decide)), h7.2.grown hg h7.2.size (fun k hk => by cases hk; exact hl)⟩⟩
end
theorem x22_any (N : Nt) (A : Option Addr) (n c : Nat) (Am : Option Addr) (m cm : Nat) (M : List Int) (most : Nat) (w : World) (h : NtIn w A N) (hn : N.tr.length = n) (hM : ZIn w Am M) (hm : M.length = m) (hmk : mkB N M = true) (h1 : 1 ≤ most) (h2 : most ≤ 2000) :
 Calls Tryz.prog 23 #[.agg #[.int .i64 N.pl, .slice A n c, .int .i64 N.src, .int .i64 N.snk], .slice Am m cm, .int .i64 (most : Int)] w fun e w' => ∃ (As : Option Addr) (ns cs : Nat) (Av : Option Addr) (nm cv : Nat) (fl : Bool) (k : Int), e = .returned (.tuple #[.agg #[.slice As ns cs, .slice Av nm cv, .bool fl], .int .i64 k]) ∧ X22 w N M most As ns cs Av nm cv fl k w' ∧ Below w.heap.size w w' := by
 refine (r22explore_any N A n c Am m cm M most w h hn hM hm hmk h1 h2).mono fun e w' hE => ?_
 cases hR : exT N M most with
 | none =>
  rw [hR] at hE;unfold ExPo at hE;simp only at hE;obtain ⟨hb, rfl⟩ := hE;exact ⟨none, 0, 0, none, 0, 0, false, 13, rfl, .inl ⟨hR, rfl, rfl⟩, hb⟩
 | some E =>
  rw [hR] at hE;unfold ExPo at hE;simp only at hE;obtain ⟨hb, vS, vM, rfl, hOl, hOm⟩ := hE;obtain ⟨As, cs, rfl⟩ := hOl.slice;obtain ⟨Av, cv, rfl⟩ := hOm.slice;exact ⟨As, _, cs, Av, _, cv, E.fl, 0, rfl, .inr ⟨E, hR, rfl, rfl, rfl, rfl, hOl, hOm⟩, hb⟩
end
end Go.Proofs.YtkhmngljpfibcaaGreatDoor
