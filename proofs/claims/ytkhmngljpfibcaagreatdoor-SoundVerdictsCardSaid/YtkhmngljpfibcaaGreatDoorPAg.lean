/- Check of reference 28 for the claims 1 and 2: what a call returns. proves of the statements of chapter 28: what a call returns. -/
import Derived.Test.YtkhmngljpfibcaaGreatDoorPYm
import Derived.Test.YtkhmngljpfibcaaGreatDoorPYj
import Derived.Test.YtkhmngljpfibcaaGreatDoorPAc
namespace Go.Proofs.YtkhmngljpfibcaaGreatDoor
set_option maxRecDepth 100000
set_option maxHeartbeats 25600000
open Go.Lib (hid)
section
open Go.RowKit

theorem mks_len12 {N : Nt} {K : List (List Int)} {nk : Nat} (h : K.length = nk) (h2 : nk ≤ 2000) (ext : Bool) : (decide (K.length ≤ 2000) && mksX N.pl ext K) = mksX N.pl ext K := by
 rw [decide_eq_true (show K.length ≤ 2000 by omega), Bool.true_and]
theorem snd_mk12 {N : Nt} {K : List (List Int)} {V : List Mv} {X : List (List Int)} (h : mksX N.pl false K = false) : sndB N K V X = false := by
 unfold sndB; rw [h]; simp
theorem check12_any (N : Nt) (A : Option Addr) (n c : Nat) (cl cn : Int) (Ar : Option Addr) (nr cr : Nat) (R : List Int) (Ap : Option Addr) (np cp : Nat) (P : List Int) (Ak : Option Addr) (nk ck : Nat) (K : List (List Int)) (Av : Option Addr) (nv cv : Nat) (V : List Mv) (As : Option Addr) (ns cs : Nat) (S : List (List Int)) (Aw : Option Addr) (nw cw : Nat) (X : List (List Int)) (w : World) (h : NtIn w A N) (hn : N.tr.length = n) (hv : ntB N = true) (hC : CfM w Ar nr R Ap np P Ak nk K Av nv V As ns S Aw nw X) (hk2 : nk ≤ 2000) (hc12 : cl = 1 ∨ cl = 2) :
 Calls Tryz.prog 64 #[.agg #[.int .i64 N.pl, .slice A n c, .int .i64 N.src, .int .i64 N.snk], .agg #[.int .i64 cl, .int .i64 cn, .slice Ar nr cr, .slice Ap np cp, .slice Ak nk ck, .slice Av nv cv, .slice As ns cs, .slice Aw nw cw]] w (VcPo (ClmP N cl cn R P K V S X) w) := by
 have HB0 := hid (two_boxes w (.cells #[.int .i64 N.pl, .slice A n c, .int .i64 N.src, .int .i64 N.snk] 24) (.cells #[.int .i64 cl, .int .i64 cn, .slice Ar nr cr, .slice Ap np cp, .slice Ak nk ck, .slice Av nv cv, .slice As ns cs, .slice Aw nw cw] 31));have HNb0 := hid ((NB.new w N.pl A n c N.src N.snk).below (below_alloc _ (.cells #[.int .i64 cl, .int .i64 cn, .slice Ar nr cr, .slice Ap np cp, .slice Ak nk ck, .slice Av nv cv, .slice As ns cs, .slice Aw nw cw] 31)));have hcb := heap_alloc_new (w.alloc (.cells #[.int .i64 N.pl, .slice A n c, .int .i64 N.src, .int .i64 N.snk] 24)) (.cells #[.int .i64 cl, .int .i64 cn, .slice Ar nr cr, .slice Ap np cp, .slice Ak nk ck, .slice Av nv cv, .slice As ns cs, .slice Aw nw cw] 31);rw [World.size_alloc] at hcb;have HCb0 := hid (show CtB _ (w.heap.size + 1) #[.int .i64 cl, .int .i64 cn, .slice Ar nr cr, .slice Ap np cp, .slice Ak nk ck, .slice Av nv cv, .slice As ns cs, .slice Aw nw cw] from hcb);have HIn0 := hid (h.below HB0.out);have HC0 := hid (hC.below HB0.out);have HNl := hid hn;have HV := hid hv;have hps := nt_small hv;have hn60 : n ≤ 60 := by omega
 have HWk := hid (workflow21_any N A n c _ HIn0.out hn (by omega));have hpl1 : 1 ≤ N.pl := hps.1;have hpl40 : N.pl ≤ 40 := hps.2.1;clear h hn hv hC hps hcb;go_enter Tryz.func64, Tryz.ntmps64;go_wp2_with fail;generalize (w.alloc (.cells #[.int .i64 N.pl, .slice A n c, .int .i64 N.src, .int .i64 N.snk] 24)).alloc (.cells #[.int .i64 cl, .int .i64 cn, .slice Ar nr cr, .slice Ap np cp, .slice Ak nk ck, .slice Av nv cv, .slice As ns cs, .slice Aw nw cw] 31) = w0 at *;generalize w.heap.size + 1 = cb at *;((with_reducible refine HWk.out.mono ?_); rintro e w1 ⟨⟨q, rfl, hq⟩, hb1⟩)
 have HB1 := hid (HB0.out.trans (hb1.mono HB0.out.size));have HNb1 := hid (HNb0.out.below hb1);have HCb1 := hid (HCb0.out.below hb1);have HIn1 := hid (HIn0.out.below hb1);have HC1 := hid (HC0.out.below hb1);clear HB0 HNb0 HCb0 HIn0 HC0;have HQ := hid (show q = true ↔ wfP N from hq.trans ⟨fun hh => hh.2, fun hh => ⟨HV.out, hh⟩⟩);clear hq hb1 HWk;by_cases hc1 : cl = 1
 · subst hc1;cases q with
   | false =>
    have HN := hid (clm_no (cn := cn) (R := R) (P := P) (K := K) (V := V) (S := S) (X := X) (fun hh => by have := HQ.out.2 hh; cases this) (show (1 : Int) ≤ 1 by omega) (show (1 : Int) ≤ 4 by omega));obtain ⟨b0, b1, b2, b3⟩ := HNb1.out.cells;obtain ⟨d0, d1, d2, d3, d4, d5, d6, d7⟩ := HCb1.out.cells;go_wp2_with fail;go_ret;exact VcPo.no HN.out HB1.out
   | true =>
    have HWf := hid (HQ.out.1 rfl);have HMs := hid (mks28_any N A n c Ak nk ck K false w1 hpl1 (by omega) HC1.out.k HC1.out.kl HC1.out.kb);rw [mks_len12 HC1.out.kl hk2 false] at HMs;cases hm : mksX N.pl false K with
    | false =>
     rw [hm] at HMs;have HN := hid (show ¬ ClmP N 1 cn R P K V S X by rw [(clm_at (cn := cn) (R := R) (P := P) (K := K) (V := V) (S := S) (X := X) HWf.out).1, snd_mk12 hm]; simp);clear hm;obtain ⟨b0, b1, b2, b3⟩ := HNb1.out.cells;obtain ⟨d0, d1, d2, d3, d4, d5, d6, d7⟩ := HCb1.out.cells;go_wp2_with fail;((with_reducible refine (HMs.out).mono ?_); rintro e w2 ⟨rfl, hb2⟩)
     have HB2 := hid (HB1.out.trans (hb2.mono HB1.out.size));have HNb2 := hid (HNb1.out.below hb2);have HCb2 := hid (HCb1.out.below hb2);have HIn2 := hid (HIn1.out.below hb2);have HC2 := hid (HC1.out.below hb2);clear HB1 HNb1 HCb1 HIn1 HC1;clear hb2 b0 b1 b2 b3 d0 d1 d2 d3 d4 d5 d6 d7;obtain ⟨b0, b1, b2, b3⟩ := HNb2.out.cells;obtain ⟨d0, d1, d2, d3, d4, d5, d6, d7⟩ := HCb2.out.cells;go_wp2_with fail;go_ret;exact VcPo.no HN.out HB2.out
    | true =>
     rw [hm] at HMs;have HMk := hid hm;have HEq := hid (snd_eq (V := V) (X := X) hm);clear hm;obtain ⟨b0, b1, b2, b3⟩ := HNb1.out.cells;obtain ⟨d0, d1, d2, d3, d4, d5, d6, d7⟩ := HCb1.out.cells;go_wp2_with fail;((with_reducible refine (HMs.out).mono ?_); rintro e w2 ⟨rfl, hb2⟩)
     have HB2 := hid (HB1.out.trans (hb2.mono HB1.out.size));have HNb2 := hid (HNb1.out.below hb2);have HCb2 := hid (HCb1.out.below hb2);have HIn2 := hid (HIn1.out.below hb2);have HC2 := hid (HC1.out.below hb2);clear HB1 HNb1 HCb1 HIn1 HC1;clear hb2 b0 b1 b2 b3 d0 d1 d2 d3 d4 d5 d6 d7;have HSn := hid (sound28_any N A n c 1 cn Ar nr cr R Ap np cp P Ak nk ck K Av nv cv V As ns cs S Aw nw cw X w2 HIn2.out HNl.out HV.out HC2.out HMk.out);rw [HEq.out] at HSn;obtain ⟨b0, b1, b2, b3⟩ := HNb2.out.cells;obtain ⟨d0, d1, d2, d3, d4, d5, d6, d7⟩ := HCb2.out.cells;go_wp2_with fail;((with_reducible refine (HSn.out).mono ?_); rintro e w3 ⟨rfl, hb3⟩)
     have HB3 := hid (HB2.out.trans (hb3.mono HB2.out.size));clear hb3 b0 b1 b2 b3 d0 d1 d2 d3 d4 d5 d6 d7;go_wp2_with fail;go_ret;exact VcPo.is ((clm_at (cn := cn) (R := R) (P := P) (K := K) (V := V) (S := S) (X := X) HWf.out).1.symm) HB3.out
 have q1 : (cl == 1) = false := by rw [beq_eq_false_iff_ne]; exact hc1
 by_cases hc2 : cl = 2
 · subst hc2;cases q with
   | false =>
    have HN := hid (clm_no (cn := cn) (R := R) (P := P) (K := K) (V := V) (S := S) (X := X) (fun hh => by have := HQ.out.2 hh; cases this) (show (1 : Int) ≤ 2 by omega) (show (2 : Int) ≤ 4 by omega));obtain ⟨b0, b1, b2, b3⟩ := HNb1.out.cells;obtain ⟨d0, d1, d2, d3, d4, d5, d6, d7⟩ := HCb1.out.cells;go_wp2_with fail;go_ret;exact VcPo.no HN.out HB1.out
   | true =>
    have HWf := hid (HQ.out.1 rfl);have HX := hid (unsound28_any N A n c 2 cn Ar nr cr R Ap np cp P Ak nk ck K Av nv cv V As ns cs S Aw nw cw X w1 HIn1.out HNl.out HV.out HC1.out hk2);rw [uns_eq] at HX;obtain ⟨b0, b1, b2, b3⟩ := HNb1.out.cells;obtain ⟨d0, d1, d2, d3, d4, d5, d6, d7⟩ := HCb1.out.cells;go_wp2_with fail;((with_reducible refine (HX.out).mono ?_); rintro e w2 ⟨rfl, hb2⟩)
    have HB2 := hid (HB1.out.trans (hb2.mono HB1.out.size));clear hb2 b0 b1 b2 b3 d0 d1 d2 d3 d4 d5 d6 d7;go_wp2_with fail;go_ret;exact VcPo.is ((clm_at (cn := cn) (R := R) (P := P) (K := K) (V := V) (S := S) (X := X) HWf.out).2.1.symm) HB2.out
 have q2 : (cl == 2) = false := by rw [beq_eq_false_iff_ne]; exact hc2
 omega
end
section
open Go.RowKit

def wideM (s : List Int) : Bool := decide (1000 < s.length)
theorem wide1_any (Ax : Option Addr) (nx cx : Nat) (X : List Int) (w : World) (hl : X.length = nx) : Calls Tryz.prog 62 #[.slice Ax nx cx] w fun e w' => e = .returned (.bool (wideM X)) ∧ Below w.heap.size w w' := by
 have HV := hid (show decide ((1000 : Int) < (nx : Int)) = wideM X by unfold wideM; rw [hl, Bool.eq_iff_iff]; simp; omega);clear hl;go_enter Tryz.func62, Tryz.ntmps62;go_wp2_with fail;go_ret;exact ⟨ret_bool HV.out, Below.refl _ _⟩
theorem wide_no {L : List (List Int)} (h : ∀ l ∈ L, l.length ≤ 1000) : L.any wideM = false := List.any_eq_false.2 fun l hl => by
 have := h l hl;unfold wideM; simp; omega
theorem lindex_pv (A : Option Addr) (n cap : Nat) (L : List (List Int)) (w : World) (h : LIn w A L) (hn : L.length = n) (hn4 : n ≤ 9223372036854775806) :
 Calls Tryz.prog 132 #[.slice A n cap, .func (.func 62) #[] #[]] w fun e w' => e = .returned (.int .i64 (lidx wideM L)) ∧ Below w.heap.size w w' := by
 have H0 := hid h; clear h;have HN := hid hn; clear hn;skip;go_enter Tryz.func132, Tryz.ntmps132;go_wp2_with fail;go_loopg [8] (n) (fun g i wr => ∃ k : Nat, k + g = n ∧ i = .int .i64 k ∧ (∀ s ∈ L.take k, wideM s = false) ∧ Below w.heap.size w wr);case atStart => exact ⟨0, by omega, rfl, by simp, Below.refl _ _⟩
 case round =>
  obtain ⟨k, hk, rfl, hno, hB⟩ := hrel;have HK := hid hk;have HNo := hid hno;have HB := hid hB;have HT := hid (H0.out.below hB);have hle : k ≤ n := by omega
  clear hk hno hB;by_cases hlt : k < n
  · have hlt' : k < L.length := by rw [HN.out]; exact hlt
    obtain ⟨ad, rfl, hp, u, c0, Ax, nx, cx, rfl, zx, hxl, hxc, hxd⟩ := HT.out k hlt';have HTk := hid (List.take_succ_eq_append_getElem hlt');have HAt := hid (lidx_at (p := wideM) hlt');have hXm := List.getElem_mem hlt';generalize L[k] = X at *;have HX := hid (wide1_any Ax nx cx X wr hxl);clear hlt' zx hxl hXm;cases hv : wideM X with
    | true =>
     rw [hv] at HX;have HV := hid (HAt.out hv HNo.out); clear hv;go_wp2_with fail;((with_reducible refine HX.out.mono ?_); rintro e w1 ⟨rfl, hb1⟩)
     have HB1 := hid (below_then HB.out hb1);go_wp2_with fail;go_ret;exact ⟨ret_int HV.out.symm, HB1.out⟩
    | false =>
     rw [hv] at HX;have HV := hid hv; clear hv HAt;go_wp2_with fail;((with_reducible refine HX.out.mono ?_); rintro e w1 ⟨rfl, hb1⟩)
     have HB1 := hid (below_then HB.out hb1);clear hb1;go_wp2_with fail;go_roundg (gk - 1);case measure => have := HK.out; omega
     case rel => exact ⟨k + 1, by have := HK.out; omega, by go_num, by
      rw [HTk.out]; intro s hs;rcases List.mem_append.1 hs with h1 | h1
      · exact HNo.out s h1
      · have : s = X := by simpa using h1
        rw [this]; exact HV.out, HB1.out⟩
  · have HV := hid (show lidx wideM L = -1 from lidx_no (by have := HNo.out; rwa [List.take_of_length_le (by rw [HN.out]; omega)] at this));go_wp2_with fail;go_ret;exact ⟨ret_int HV.out.symm, HB.out⟩
theorem lcont_pv (A : Option Addr) (n cap : Nat) (L : List (List Int)) (w : World) (h : LIn w A L) (hn : L.length = n) (hn4 : n ≤ 9223372036854775806) :
 Calls Tryz.prog 63 #[.slice A n cap, .func (.func 62) #[] #[]] w fun e w' => e = .returned (.bool (L.any wideM)) ∧ Below w.heap.size w w' := by
 have HI := hid (lindex_pv A n cap L w h hn hn4);have HE := hid (lidx_any wideM L);clear h hn;generalize lidx wideM L = r at HI HE;go_enter Tryz.func63, Tryz.ntmps63;go_wp2_with fail;((with_reducible refine HI.out.mono ?_); rintro e w1 ⟨rfl, hb1⟩)
 have HB1 := hid hb1;go_wp2_with fail;go_ret;exact ⟨ret_bool HE.out, HB1.out⟩
theorem proves28_any (N : Nt) (A : Option Addr) (n c : Nat) (cl cn : Int) (Ar : Option Addr) (nr cr : Nat) (R : List Int) (Ap : Option Addr) (np cp : Nat) (P : List Int) (Ak : Option Addr) (nk ck : Nat) (K : List (List Int)) (Av : Option Addr) (nv cv : Nat) (V : List Mv) (As : Option Addr) (ns cs : Nat) (S : List (List Int)) (Aw : Option Addr) (nw cw : Nat) (X : List (List Int)) (w : World) (h : NtIn w A N) (hn : N.tr.length = n) (hv : ntB N = true) (hC : CfL w Ar nr R Ap np P Ak nk K Av nv V As ns S Aw nw X) (h1 : nr ≤ 1000) (h2 : np ≤ 1000) (h3 : nk ≤ 200) (h4 : nv ≤ 200) (h5 : ns ≤ 200) (h6 : nw ≤ 2) (hwK : ∀ l ∈ K, l.length ≤ 1000) (hwS : ∀ l ∈ S, l.length ≤ 1000) (hwX : ∀ l ∈ X, l.length ≤ 1000) (hc12 : cl = 1 ∨ cl = 2) (hq : ClmP N cl cn R P K V S X) :
 Calls Tryz.prog 18 #[.agg #[.int .i64 N.pl, .slice A n c, .int .i64 N.src, .int .i64 N.snk], .agg #[.int .i64 cl, .int .i64 cn, .slice Ar nr cr, .slice Ap np cp, .slice Ak nk ck, .slice Av nv cv, .slice As ns cs, .slice Aw nw cw], .int .i64 cl] w fun e w' => e = .returned (.bool true) ∧ Below w.heap.size w w' := by
 have HB0 := hid (two_boxes w (.cells #[.int .i64 N.pl, .slice A n c, .int .i64 N.src, .int .i64 N.snk] 24) (.cells #[.int .i64 cl, .int .i64 cn, .slice Ar nr cr, .slice Ap np cp, .slice Ak nk ck, .slice Av nv cv, .slice As ns cs, .slice Aw nw cw] 31));have HNb0 := hid ((NB.new w N.pl A n c N.src N.snk).below (below_alloc _ (.cells #[.int .i64 cl, .int .i64 cn, .slice Ar nr cr, .slice Ap np cp, .slice Ak nk ck, .slice Av nv cv, .slice As ns cs, .slice Aw nw cw] 31)));have hcb := heap_alloc_new (w.alloc (.cells #[.int .i64 N.pl, .slice A n c, .int .i64 N.src, .int .i64 N.snk] 24)) (.cells #[.int .i64 cl, .int .i64 cn, .slice Ar nr cr, .slice Ap np cp, .slice Ak nk ck, .slice Av nv cv, .slice As ns cs, .slice Aw nw cw] 31);rw [World.size_alloc] at hcb;have HCb0 := hid (show CtB _ (w.heap.size + 1) #[.int .i64 cl, .int .i64 cn, .slice Ar nr cr, .slice Ap np cp, .slice Ak nk ck, .slice Av nv cv, .slice As ns cs, .slice Aw nw cw] from hcb);have HIn0 := hid (h.below HB0.out);have HC0 := hid (hC.below HB0.out);have HNl := hid hn;have HV := hid hv;have HQ := hid hq;have HK := hid (wide_no hwK);have HS := hid (wide_no hwS);have HX := hid (wide_no hwX);have q0 : (cl != cl) = false := by simp
 have q1 : decide ((200 : Int) < (nk : Int)) = false := by simp; omega
 have q2 : decide ((1000 : Int) < (nr : Int)) = false := by simp; omega
 have q3 : decide ((1000 : Int) < (np : Int)) = false := by simp; omega
 have q4 : decide ((200 : Int) < (nv : Int)) = false := by simp; omega
 have q5 : decide ((200 : Int) < (ns : Int)) = false := by simp; omega
 have q6 : decide ((2 : Int) < (nw : Int)) = false := by simp; omega
 obtain ⟨d0, d1, d2, d3, d4, d5, d6, d7⟩ := HCb0.out.cells;obtain ⟨b0, b1, b2, b3⟩ := HNb0.out.cells;clear h hn hv hC hcb hq hwK hwS hwX;go_enter Tryz.func18, Tryz.ntmps18
 go_upto_region 4 with (fail)
 generalize (w.alloc (.cells #[.int .i64 N.pl, .slice A n c, .int .i64 N.src, .int .i64 N.snk] 24)).alloc (.cells #[.int .i64 cl, .int .i64 cn, .slice Ar nr cr, .slice Ap np cp, .slice Ak nk ck, .slice Av nv cv, .slice As ns cs, .slice Aw nw cw] 31) = w0 at *;generalize w.heap.size + 1 = cb at *;clear d0 d1 d2 d3 d4 d5 d6 d7 b0 b1 b2 b3 q0 q1 q2 q3 q4 q5 q6;have HL1 := hid (lcont_pv Ak nk ck K w0 HC0.out.k HC0.out.kl (by omega));rw [HK.out] at HL1;obtain ⟨d0, d1, d2, d3, d4, d5, d6, d7⟩ := HCb0.out.cells;obtain ⟨b0, b1, b2, b3⟩ := HNb0.out.cells;go_wp2_with fail;((with_reducible refine (HL1.out).mono ?_); rintro e w1 ⟨rfl, hb1⟩)
 have HB1 := hid (HB0.out.trans (hb1.mono HB0.out.size));have HNb1 := hid (HNb0.out.below hb1);have HCb1 := hid (HCb0.out.below hb1);have HIn1 := hid (HIn0.out.below hb1);have HC1 := hid (HC0.out.below hb1);clear HB0 HNb0 HCb0 HIn0 HC0 hb1 d0 d1 d2 d3 d4 d5 d6 d7 b0 b1 b2 b3;have HL2 := hid (lcont_pv As ns cs S w1 HC1.out.s HC1.out.sl (by omega));rw [HS.out] at HL2;obtain ⟨d0, d1, d2, d3, d4, d5, d6, d7⟩ := HCb1.out.cells;obtain ⟨b0, b1, b2, b3⟩ := HNb1.out.cells;go_wp2_with fail;((with_reducible refine (HL2.out).mono ?_); rintro e w2 ⟨rfl, hb2⟩)
 have HB2 := hid (HB1.out.trans (hb2.mono HB1.out.size));have HNb2 := hid (HNb1.out.below hb2);have HCb2 := hid (HCb1.out.below hb2);have HIn2 := hid (HIn1.out.below hb2);have HC2 := hid (HC1.out.below hb2);clear HB1 HNb1 HCb1 HIn1 HC1 hb2 d0 d1 d2 d3 d4 d5 d6 d7 b0 b1 b2 b3;have HL3 := hid (lcont_pv Aw nw cw X w2 HC2.out.x HC2.out.xl (by omega));rw [HX.out] at HL3;obtain ⟨d0, d1, d2, d3, d4, d5, d6, d7⟩ := HCb2.out.cells;obtain ⟨b0, b1, b2, b3⟩ := HNb2.out.cells;go_wp2_with fail;((with_reducible refine (HL3.out).mono ?_); rintro e w3 ⟨rfl, hb3⟩)
 have HB3 := hid (HB2.out.trans (hb3.mono HB2.out.size));have HNb3 := hid (HNb2.out.below hb3);have HCb3 := hid (HCb2.out.below hb3);have HIn3 := hid (HIn2.out.below hb3);have HC3 := hid (HC2.out.below hb3);clear HB2 HNb2 HCb2 HIn2 HC2 hb3 d0 d1 d2 d3 d4 d5 d6 d7 b0 b1 b2 b3;have HCk := hid (check12_any N A n c cl cn Ar nr cr R Ap np cp P Ak nk ck K Av nv cv V As ns cs S Aw nw cw X w3 HIn3.out HNl.out HV.out (HC3.out.m (by omega) (by omega) (by omega) (by omega) (by omega) (by omega)) (by omega) hc12);obtain ⟨d0, d1, d2, d3, d4, d5, d6, d7⟩ := HCb3.out.cells;obtain ⟨b0, b1, b2, b3⟩ := HNb3.out.cells;go_wp2_with fail;((with_reducible refine HCk.out.mono ?_); rintro e w4 ⟨⟨q, rfl, hq⟩, hb4⟩)
 obtain rfl : q = true := hq.2 HQ.out;have HB4 := hid (HB3.out.trans (hb4.mono HB3.out.size));clear hq hb4;go_wp2_with fail;go_ret;exact ⟨rfl, HB4.out⟩
end
end Go.Proofs.YtkhmngljpfibcaaGreatDoor
