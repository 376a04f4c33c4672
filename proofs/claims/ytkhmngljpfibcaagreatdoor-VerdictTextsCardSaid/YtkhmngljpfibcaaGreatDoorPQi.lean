/- verdict: relaxed: what a call returns. -/
import Derived.Test.YtkhmngljpfibcaaGreatDoorPUu
import Derived.Test.YtkhmngljpfibcaaGreatDoorPQh
namespace Go.Proofs.YtkhmngljpfibcaaGreatDoor
set_option maxRecDepth 100000
set_option maxHeartbeats 12800000
open Go.Lib (hid)
open Go.RowKit

def hasB (Z : List Int) (x : Int) : Bool := Z.any fun y => decide (y = x)
theorem contains_any (A : Option Addr) (n c : Nat) (Z : List Int) (x : Int) (w : World) (h : ZIn w A Z) (hn : Z.length = n) (hb : n ≤ 9223372036854775807) :
 Calls Tryz.prog 157 #[.slice A n c, .int .i64 x] w fun e w' => e = .returned (.bool (hasB Z x)) ∧ Below w.heap.size w w' := by
 rcases Nat.eq_zero_or_pos n with h0 | h0
 · subst h0;have e1 : Z = [] := List.eq_nil_of_length_eq_zero hn;subst e1;exact (Tryz.slices_Contains_int_empty A c x w).mono fun e w' ⟨h1, h2⟩ => ⟨h1, by subst h2; exact Below.refl _ _⟩
 · obtain ⟨b, off, rfl, _, hc⟩ := zin_plain h (by omega);refine (Tryz.slices_Contains_int b off n c Z x w (by omega) hb hc).mono fun e w' ⟨h1, h2⟩ => ⟨?_, by subst h2; exact Below.refl _ _⟩
   rw [h1, List.take_of_length_le (by omega)];refine ret_bool ?_;unfold hasB;rw [List.contains_eq_any_beq]
   congr 1
   funext y
   rw [Bool.eq_iff_iff]; simp; omega
def relAt (N : Nt) (S : List (List Int)) (t : Nat) : Bool := match S[t]? with
 | some l => decide ((runI N l).2.2 = 0) && (decide ((runI N l).1 = finM N) && hasB l (t : Int))
 | none => true
def relB (N : Nt) (S : List (List Int)) : Bool := decide (S.length = N.tr.length) && (List.range S.length).all (relAt N S)
theorem relAt_get {N : Nt} {S : List (List Int)} {t : Nat} (h : t < S.length) : relAt N S t = (decide ((runI N S[t]).2.2 = 0) && (decide ((runI N S[t]).1 = finM N) && hasB S[t] (t : Int))) := by
 unfold relAt; rw [List.getElem?_eq_getElem h]
theorem range_step (f : Nat → Bool) (k : Nat) : (List.range (k + 1)).all f = ((List.range k).all f && f k) := by
 rw [List.range_succ, List.all_append]; simp
theorem range_no (f : Nat → Bool) {k n : Nat} (hk : k < n) (h : f k = false) : (List.range n).all f = false := by
 rw [List.all_eq_false]; exact ⟨k, List.mem_range.2 hk, by simp [h]⟩
theorem vrelaxed_any (N : Nt) (A : Option Addr) (n c : Nat) (cl cn : Int) (Ar : Option Addr) (nr cr : Nat) (R : List Int) (Ap : Option Addr) (np cp : Nat) (P : List Int) (Ak : Option Addr) (nk ck : Nat) (K : List (List Int)) (Av : Option Addr) (nv cv : Nat) (V : List Mv) (As : Option Addr) (ns cs : Nat) (S : List (List Int)) (Aw : Option Addr) (nw cw : Nat) (X : List (List Int)) (w : World) (h : NtIn w A N) (hn : N.tr.length = n) (hv : ntB N = true) (hC : CfM w Ar nr R Ap np P Ak nk K Av nv V As ns S Aw nw X) :
 Calls Tryz.prog 95 #[.agg #[.int .i64 N.pl, .slice A n c, .int .i64 N.src, .int .i64 N.snk], .agg #[.int .i64 cl, .int .i64 cn, .slice Ar nr cr, .slice Ap np cp, .slice Ak nk ck, .slice Av nv cv, .slice As ns cs, .slice Aw nw cw]] w fun e w' => e = .returned (.bool (relB N S)) ∧ Below w.heap.size w w' := by
 have HB0 := hid (two_boxes w (.cells #[.int .i64 N.pl, .slice A n c, .int .i64 N.src, .int .i64 N.snk] 24) (.cells #[.int .i64 cl, .int .i64 cn, .slice Ar nr cr, .slice Ap np cp, .slice Ak nk ck, .slice Av nv cv, .slice As ns cs, .slice Aw nw cw] 31));have HNb0 := hid ((NB.new w N.pl A n c N.src N.snk).below (below_alloc _ (.cells #[.int .i64 cl, .int .i64 cn, .slice Ar nr cr, .slice Ap np cp, .slice Ak nk ck, .slice Av nv cv, .slice As ns cs, .slice Aw nw cw] 31)));have hcb := heap_alloc_new (w.alloc (.cells #[.int .i64 N.pl, .slice A n c, .int .i64 N.src, .int .i64 N.snk] 24)) (.cells #[.int .i64 cl, .int .i64 cn, .slice Ar nr cr, .slice Ap np cp, .slice Ak nk ck, .slice Av nv cv, .slice As ns cs, .slice Aw nw cw] 31);rw [World.size_alloc] at hcb;have HCb0 := hid (show CtB _ (w.heap.size + 1) #[.int .i64 cl, .int .i64 cn, .slice Ar nr cr, .slice Ap np cp, .slice Ak nk ck, .slice Av nv cv, .slice As ns cs, .slice Aw nw cw] from hcb);have HIn0 := hid (h.below HB0.out);have HC0 := hid (hC.below HB0.out);have HNl := hid hn;have HV := hid hv;have hps := nt_small hv;have hn60 : n ≤ 60 := by omega
 have HQ := hid (show relB N S = (decide (S.length = N.tr.length) && (List.range S.length).all (relAt N S)) from rfl);have hpls := nt_src hv;have hpl40 : N.pl ≤ 40 := hps.2.1;clear h hn hv hC hps hcb;by_cases hsn : ns = n;rotate_left
 · have HV2 := hid (show relB N S = false by rw [HQ.out, HC0.out.sl, HNl.out, decide_eq_false hsn]; rfl);have q1 : ((ns : Int) != (n : Int)) = true := by rw [bne_iff_ne]; omega
   clear hsn;go_enter Tryz.func95, Tryz.ntmps95;go_wp2_with fail;go_ret;exact ⟨ret_bool HV2.out.symm, HB0.out⟩
 have q1 : ((ns : Int) != (n : Int)) = false := by simp; omega
 have HSn := hid hsn;have hns : ns ≤ 60 := by omega
 clear hsn;go_enter Tryz.func95, Tryz.ntmps95;go_wp2_with fail;generalize (w.alloc (.cells #[.int .i64 N.pl, .slice A n c, .int .i64 N.src, .int .i64 N.snk] 24)).alloc (.cells #[.int .i64 cl, .int .i64 cn, .slice Ar nr cr, .slice Ap np cp, .slice Ak nk ck, .slice Av nv cv, .slice As ns cs, .slice Aw nw cw] 31) = w0 at *;generalize w.heap.size + 1 = cb at *;go_loopg [19] (ns) (fun g iv wr => ∃ k : Nat, k + g = ns ∧ iv = .int .i64 (k : Int) ∧ (List.range k).all (relAt N S) = true ∧ Below w0.heap.size w0 wr);case atStart => exact ⟨0, by omega, rfl, rfl, Below.refl _ _⟩
 case round =>
  obtain ⟨k, hk, rfl, hp, hB⟩ := hrel;have HK := hid hk;have HPk := hid hp;have hle : k ≤ ns := by omega
  have HBw0 := hid hB;have HB1 := hid (below_then HB0.out hB);have HNb1 := hid (HNb0.out.below hB);have HCb1 := hid (HCb0.out.below hB);have HIn1 := hid (HIn0.out.below hB);have HC1 := hid (HC0.out.below hB);obtain ⟨w1, rfl⟩ : ∃ w1, w1 = wr := ⟨_, rfl⟩;clear hk hp hB;by_cases hlt : k < ns
  · have hlt' : k < S.length := by rw [HC1.out.sl]; exact hlt
    obtain ⟨al, hal, hpa, u, q0, Ax, nx, cx, rfl, zx, hx1, hx2, hx3⟩ := HC1.out.s k hlt';subst hal;have HSt := hid (range_step (relAt N S) k);have HNo := hid (fun hh => range_no (relAt N S) (n := S.length) hlt' hh);have HRa := hid (relAt_get (N := N) hlt');generalize S[k] = L at *;have HZl1 := hid zx;have HLl := hid hx1;have HRn := hid (vrun_any N A n c Ax nx cx L w1 HIn1.out HNl.out HV.out zx hx1);clear hlt' zx hx1 hpa;obtain ⟨b0, b1, b2, b3⟩ := HNb1.out.cells;obtain ⟨d0, d1, d2, d3, d4, d5, d6, d7⟩ := HCb1.out.cells;by_cases hr : (runI N L).2.2 = 0;rotate_left
    · have HV2 := hid (show relB N S = false by rw [HQ.out, HNo.out (by rw [HRa.out, decide_eq_false hr]; rfl)]; simp);have HR1 := hid (vr_no HRn.out hr);clear HRn hr;go_wp2_with fail;((with_reducible refine HR1.out.mono ?_); rintro e w2 ⟨rfl, hb2⟩)
      have HB2 := hid (below_then HB1.out hb2);clear b0 b1 b2 b3 d0 d1 d2 d3 d4 d5 d6 d7;go_wp2_with fail;go_ret;exact ⟨ret_bool HV2.out.symm, HB2.out⟩
    rw [decide_eq_true hr] at HRa;have HR1 := hid (vr_yes HRn.out hr);have HMx := hid (show mkB N (runI N L).1 = true from run21_mk hr);clear HRn hr;generalize (runI N L).1 = Y at *;have hyl : Y.length ≤ 40 := by have := mk_len HMx.out; omega
    go_wp2_with fail;((with_reducible refine HR1.out.mono ?_); rintro e w2 ⟨v1, rfl, hS1⟩)
    obtain ⟨A1, c1, rfl⟩ := hS1.slice;have hb2 := hS1.2;have HZ2 := hid (show ZIn w2 A1 Y by obtain ⟨A', c', e, hz, _⟩ := hS1.zin; cases e; exact hz);have HBw2 := hid (below_then HBw0.out hb2);have HB2 := hid (below_then HB1.out hb2);have HNb2 := hid (HNb1.out.below hb2);have HCb2 := hid (HCb1.out.below hb2);have HIn2 := hid (HIn1.out.below hb2);have HC2 := hid (HC1.out.below hb2);have HZl2 := hid (HZl1.out.below hb2);clear HB1 HNb1 HCb1 HIn1 HC1 HZl1;clear hS1 hb2 HR1 b0 b1 b2 b3 d0 d1 d2 d3 d4 d5 d6 d7 q0;obtain ⟨b0, b1, b2, b3⟩ := HNb2.out.cells;obtain ⟨d0, d1, d2, d3, d4, d5, d6, d7⟩ := HCb2.out.cells;have HOn := hid (vsnk_any N A n c HV.out w2);go_wp2_with fail;((with_reducible refine HOn.out.mono ?_); rintro e w3 ⟨v2, rfl, hS2⟩)
    obtain ⟨A2, c2, rfl⟩ := hS2.slice;have hb3 := hS2.2;have HF3 := hid (show ZIn w3 A2 (finM N) by obtain ⟨A', c', e, hz, _⟩ := hS2.zin; cases e; exact hz);have HBw3 := hid (below_then HBw2.out hb3);have HB3 := hid (below_then HB2.out hb3);have HNb3 := hid (HNb2.out.below hb3);have HCb3 := hid (HCb2.out.below hb3);have HIn3 := hid (HIn2.out.below hb3);have HC3 := hid (HC2.out.below hb3);have HZ3 := hid (HZ2.out.below hb3);have HZl3 := hid (HZl2.out.below hb3);clear HB2 HNb2 HCb2 HIn2 HC2 HZ2 HZl2;clear hS2 hb3 HOn b0 b1 b2 b3 d0 d1 d2 d3 d4 d5 d6 d7;have hfl : (finM N).length ≤ 40 := by have := fin_len HV.out; omega
    generalize finM N = F at *;have HEq := hid (equal_any A1 Y.length c1 A2 F.length c2 Y F w3 HZ3.out rfl HF3.out rfl (by omega) (by omega));by_cases hyf : Y = F;rotate_left
    · have HV2 := hid (show relB N S = false by rw [HQ.out, HNo.out (by rw [HRa.out, decide_eq_false hyf]; rfl)]; simp);rw [decide_eq_false hyf] at HEq;clear hyf;go_wp2_with fail;((with_reducible refine HEq.out.mono ?_); rintro e w4 ⟨rfl, hb4⟩)
      have HB4 := hid (below_then HB3.out hb4);go_wp2_with fail;go_ret;exact ⟨ret_bool HV2.out.symm, HB4.out⟩
    rw [decide_eq_true hyf] at HEq HRa;clear hyf;go_wp2_with fail;((with_reducible refine HEq.out.mono ?_); rintro e w4 ⟨rfl, hb4⟩)
    have HBw4 := hid (below_then HBw3.out hb4);have HB4 := hid (below_then HB3.out hb4);have HCo := hid (contains_any Ax nx cx L (k : Int) w4 (HZl3.out.below hb4) HLl.out (by omega));clear hb4 HEq;cases hh : hasB L (k : Int) with
    | false =>
     have HV2 := hid (show relB N S = false by rw [HQ.out, HNo.out (by rw [HRa.out, hh]; rfl)]; simp);rw [hh] at HCo;clear hh;go_wp2_with fail;((with_reducible refine HCo.out.mono ?_); rintro e w5 ⟨rfl, hb5⟩)
     have HB5 := hid (below_then HB4.out hb5);go_wp2_with fail;go_ret;exact ⟨ret_bool HV2.out.symm, HB5.out⟩
    | true =>
     have HV2 := hid (show (List.range (k + 1)).all (relAt N S) = true by rw [HSt.out, HPk.out, HRa.out, hh]; rfl);rw [hh] at HCo;clear hh;go_wp2_with fail;((with_reducible refine HCo.out.mono ?_); rintro e w5 ⟨rfl, hb5⟩)
     have HBw5 := hid (below_then HBw4.out hb5);clear hb5;go_wp2_with fail;go_roundg (gk - 1);case measure => have := HK.out; omega
     case rel => exact ⟨k + 1, by have := HK.out; omega, by go_num, HV2.out, HBw5.out⟩
  · have HV2 := hid (show relB N S = true by
     rw [HQ.out, HC0.out.sl, HNl.out, decide_eq_true HSn.out];have h1 := HPk.out;rw [show k = ns by omega] at h1;rw [h1]; rfl)
    go_wp2_with fail;go_ret;exact ⟨ret_bool HV2.out.symm, HB1.out⟩
end Go.Proofs.YtkhmngljpfibcaaGreatDoor
