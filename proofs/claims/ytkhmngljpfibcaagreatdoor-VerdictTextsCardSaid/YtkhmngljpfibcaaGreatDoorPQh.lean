/- verdict: unsound, relaxed: what a call returns. -/
import Derived.Test.YtkhmngljpfibcaaGreatDoorPUu
import Derived.Test.YtkhmngljpfibcaaGreatDoorPQg
namespace Go.Proofs.YtkhmngljpfibcaaGreatDoor
set_option maxRecDepth 100000
set_option maxHeartbeats 12800000
open Go.Lib (hid)
open Go.RowKit

def memB (K : List (List Int)) (m : List Int) : Bool := K.any (isL m)
def unsB (N : Nt) (cn : Int) (R P : List Int) (K : List (List Int)) : Bool :=
 if P.isEmpty then (if R.isEmpty && deadB N cn K then true else if (runI N R).2.2 = 0 then (if K.isEmpty then decide (0 < (runI N R).1.getD N.snk.toNat 0) && !(decide ((runI N R).1 = finM N)) else mksX N.pl false K && (memB K (runI N R).1 && (!(memB K (finM N)) && closX N K))) else false) else vpumB N R P
theorem emp_yes {α : Type} {L : List α} {n : Nat} (hl : L.length = n) (h : n = 0) : L.isEmpty = true := by rw [List.isEmpty_iff]; exact List.eq_nil_of_length_eq_zero (by omega)
theorem emp_no {α : Type} {L : List α} {n : Nat} (hl : L.length = n) (h : n ≠ 0) : L.isEmpty = false := by
 cases L with
 | nil => exact absurd hl.symm h
 | cons => rfl
theorem lidx_mem (m : List Int) (K : List (List Int)) : decide (0 ≤ lidx (isL m) K) = memB K m := lidx_any _ _
theorem lidx_mem' (m : List Int) (K : List (List Int)) : decide (lidx (isL m) K < 0) = !(memB K m) := by
 rw [← lidx_mem, Bool.eq_iff_iff]; simp
theorem vunsound_any (N : Nt) (A : Option Addr) (n c : Nat) (cl cn : Int) (Ar : Option Addr) (nr cr : Nat) (R : List Int) (Ap : Option Addr) (np cp : Nat) (P : List Int) (Ak : Option Addr) (nk ck : Nat) (K : List (List Int)) (Av : Option Addr) (nv cv : Nat) (V : List Mv) (As : Option Addr) (ns cs : Nat) (S : List (List Int)) (Aw : Option Addr) (nw cw : Nat) (X : List (List Int)) (w : World) (h : NtIn w A N) (hn : N.tr.length = n) (hv : ntB N = true) (hC : CfM w Ar nr R Ap np P Ak nk K Av nv V As ns S Aw nw X) :
 Calls Tryz.prog 94 #[.agg #[.int .i64 N.pl, .slice A n c, .int .i64 N.src, .int .i64 N.snk], .agg #[.int .i64 cl, .int .i64 cn, .slice Ar nr cr, .slice Ap np cp, .slice Ak nk ck, .slice Av nv cv, .slice As ns cs, .slice Aw nw cw]] w fun e w' => e = .returned (.bool (unsB N cn R P K)) ∧ Below w.heap.size w w' := by
 have HB0 := hid (two_boxes w (.cells #[.int .i64 N.pl, .slice A n c, .int .i64 N.src, .int .i64 N.snk] 24) (.cells #[.int .i64 cl, .int .i64 cn, .slice Ar nr cr, .slice Ap np cp, .slice Ak nk ck, .slice Av nv cv, .slice As ns cs, .slice Aw nw cw] 31));have HNb0 := hid ((NB.new w N.pl A n c N.src N.snk).below (below_alloc _ (.cells #[.int .i64 cl, .int .i64 cn, .slice Ar nr cr, .slice Ap np cp, .slice Ak nk ck, .slice Av nv cv, .slice As ns cs, .slice Aw nw cw] 31)));have hcb := heap_alloc_new (w.alloc (.cells #[.int .i64 N.pl, .slice A n c, .int .i64 N.src, .int .i64 N.snk] 24)) (.cells #[.int .i64 cl, .int .i64 cn, .slice Ar nr cr, .slice Ap np cp, .slice Ak nk ck, .slice Av nv cv, .slice As ns cs, .slice Aw nw cw] 31);rw [World.size_alloc] at hcb;have HCb0 := hid (show CtB _ (w.heap.size + 1) #[.int .i64 cl, .int .i64 cn, .slice Ar nr cr, .slice Ap np cp, .slice Ak nk ck, .slice Av nv cv, .slice As ns cs, .slice Aw nw cw] from hcb);have HIn0 := hid (h.below HB0.out);have HC0 := hid (hC.below HB0.out);have HNl := hid hn;have HV := hid hv;have hps := nt_small hv;have hn60 : n ≤ 60 := by omega
 have HQ := hid (show unsB N cn R P K = (if P.isEmpty then (if R.isEmpty && deadB N cn K then true else if (runI N R).2.2 = 0 then (if K.isEmpty then decide (0 < (runI N R).1.getD N.snk.toNat 0) && !(decide ((runI N R).1 = finM N)) else mksX N.pl false K && (memB K (runI N R).1 && (!(memB K (finM N)) && closX N K))) else false) else vpumB N R P) from rfl);generalize unsB N cn R P K = Q at *;have hpls := nt_src hv;have hpl40 : N.pl ≤ 40 := hps.2.1;clear h hn hv hC hps hcb;by_cases hp0 : np = 0;rotate_left
 · rw [emp_no HC0.out.pl hp0] at HQ;have q1 : decide ((0 : Int) < (np : Int)) = true := by simp; omega
   have q2 : 0 < np := by omega
   have HPu := hid (vpumps_any N A n c Ar nr cr R Ap np cp P _ HIn0.out HNl.out HV.out HC0.out.r HC0.out.rl HC0.out.p HC0.out.pl);clear hp0;go_enter Tryz.func94, Tryz.ntmps94;go_wp2_with fail;generalize (w.alloc (.cells #[.int .i64 N.pl, .slice A n c, .int .i64 N.src, .int .i64 N.snk] 24)).alloc (.cells #[.int .i64 cl, .int .i64 cn, .slice Ar nr cr, .slice Ap np cp, .slice Ak nk ck, .slice Av nv cv, .slice As ns cs, .slice Aw nw cw] 31) = w0 at *;generalize w.heap.size + 1 = cb at *;((with_reducible refine HPu.out.mono ?_); rintro e w1 ⟨rfl, hb1⟩)
   have HB1 := hid (below_then HB0.out hb1);go_wp2_with fail;go_ret;exact ⟨ret_bool HQ.out.symm, HB1.out⟩
 rw [emp_yes HC0.out.pl hp0, if_pos rfl] at HQ;have q1 : decide ((0 : Int) < (np : Int)) = false := by simp; omega
 have q2 : ¬ 0 < np := by omega
 clear hp0;by_cases hr0 : nr = 0
 · rw [emp_yes HC0.out.rl hr0] at HQ;have q7 : ((nr : Int) == 0) = true := by simp [hr0]
   clear hr0;have HDe := hid (vdead_any N A n c cl cn Ar nr cr R Ap np cp P Ak nk ck K Av nv cv V As ns cs S Aw nw cw X _ HIn0.out HNl.out HV.out HC0.out);go_enter Tryz.func94, Tryz.ntmps94;go_wp2_with fail;generalize (w.alloc (.cells #[.int .i64 N.pl, .slice A n c, .int .i64 N.src, .int .i64 N.snk] 24)).alloc (.cells #[.int .i64 cl, .int .i64 cn, .slice Ar nr cr, .slice Ap np cp, .slice Ak nk ck, .slice Av nv cv, .slice As ns cs, .slice Aw nw cw] 31) = w0 at *;generalize w.heap.size + 1 = cb at *;((with_reducible refine HDe.out.mono ?_); rintro e w1 ⟨rfl, hb1⟩)
   have HB1 := hid (below_then HB0.out hb1);have HNb1 := hid (HNb0.out.below hb1);have HCb1 := hid (HCb0.out.below hb1);have HIn1 := hid (HIn0.out.below hb1);have HC1 := hid (HC0.out.below hb1);clear HB0 HNb0 HCb0 HIn0 HC0;clear hb1 HDe;cases hd : deadB N cn K with
   | true =>
    rw [hd] at HQ;go_wp2_with fail;go_ret;exact ⟨ret_bool (by rw [HQ.out]; rfl), HB1.out⟩
   | false =>
    rw [hd, if_neg (by simp)] at HQ;clear hd;have HRn := hid (vrun_any N A n c Ar nr cr R w1 HIn1.out HNl.out HV.out HC1.out.r HC1.out.rl);obtain ⟨b0, b1, b2, b3⟩ := HNb1.out.cells;obtain ⟨d0, d1, d2, d3, d4, d5, d6, d7⟩ := HCb1.out.cells;by_cases hr : (runI N R).2.2 = 0;rotate_left
    · rw [if_neg hr] at HQ;have HR1 := hid (vr_no HRn.out hr);clear HRn hr;go_wp2_with fail;((with_reducible refine HR1.out.mono ?_); rintro e w2 ⟨rfl, hb2⟩)
      have HB2 := hid (below_then HB1.out hb2);clear b0 b1 b2 b3 d0 d1 d2 d3 d4 d5 d6 d7;go_wp2_with fail;go_ret;exact ⟨ret_bool HQ.out.symm, HB2.out⟩
    rw [if_pos hr] at HQ;have HR1 := hid (vr_yes HRn.out hr);have HMx := hid (show mkB N (runI N R).1 = true from run21_mk hr);clear HRn hr;generalize (runI N R).1 = Y at *;have hyl : Y.length ≤ 40 := by have := mk_len HMx.out; omega
    have hyp := mk_len HMx.out;have HYp := hid hyp;clear hyp;go_wp2_with fail;((with_reducible refine HR1.out.mono ?_); rintro e w2 ⟨v1, rfl, hS1⟩)
    obtain ⟨A1, c1, rfl⟩ := hS1.slice;have hb2 := hS1.2;have HZ2 := hid (show ZIn w2 A1 Y by obtain ⟨A', c', e, hz, _⟩ := hS1.zin; cases e; exact hz);have HB2 := hid (below_then HB1.out hb2);have HNb2 := hid (HNb1.out.below hb2);have HCb2 := hid (HCb1.out.below hb2);have HIn2 := hid (HIn1.out.below hb2);have HC2 := hid (HC1.out.below hb2);clear HB1 HNb1 HCb1 HIn1 HC1;clear hS1 hb2 HR1 b0 b1 b2 b3 d0 d1 d2 d3 d4 d5 d6 d7;obtain ⟨b0, b1, b2, b3⟩ := HNb2.out.cells;obtain ⟨d0, d1, d2, d3, d4, d5, d6, d7⟩ := HCb2.out.cells;have HOn := hid (vsnk_any N A n c HV.out w2);go_wp2_with fail;((with_reducible refine HOn.out.mono ?_); rintro e w3 ⟨v2, rfl, hS2⟩)
    obtain ⟨A2, c2, rfl⟩ := hS2.slice;have hb3 := hS2.2;have HF3 := hid (show ZIn w3 A2 (finM N) by obtain ⟨A', c', e, hz, _⟩ := hS2.zin; cases e; exact hz);have HB3 := hid (below_then HB2.out hb3);have HNb3 := hid (HNb2.out.below hb3);have HCb3 := hid (HCb2.out.below hb3);have HIn3 := hid (HIn2.out.below hb3);have HC3 := hid (HC2.out.below hb3);have HZ3 := hid (HZ2.out.below hb3);clear HB2 HNb2 HCb2 HIn2 HC2 HZ2;clear hS2 hb3 HOn b0 b1 b2 b3 d0 d1 d2 d3 d4 d5 d6 d7;have hfl : (finM N).length ≤ 40 := by have := fin_len HV.out; omega
    generalize finM N = F at *;obtain ⟨b0, b1, b2, b3⟩ := HNb3.out.cells;obtain ⟨d0, d1, d2, d3, d4, d5, d6, d7⟩ := HCb3.out.cells;by_cases hk0 : nk = 0
    · rw [emp_yes HC3.out.kl hk0, if_pos rfl] at HQ;have q3 : ((nk : Int) == 0) = true := by simp [hk0]
      obtain ⟨sk, hsk⟩ := Int.eq_ofNat_of_zero_le hpls.2.2.1;rw [hsk] at HQ b3;rw [Int.toNat_natCast] at HQ;have hsl : sk < Y.length := by have := HYp.out; omega
      obtain ⟨ay, rfl, hpy, y0⟩ := HZ3.out sk hsl;have hgy : Y.getD sk 0 = Y[sk] := by simp [hsl]
      rw [hgy] at HQ;have HEq := hid (equal_any (some ay) Y.length c1 A2 F.length c2 Y F w3 HZ3.out rfl HF3.out rfl (by omega) (by omega));generalize Y[sk] = y at *;generalize decide (Y = F) = eq at *;have hsk0 : (0 : Int) ≤ (sk : Int) := by omega
      have hsk1 : (sk : Int) < (Y.length : Int) := by omega
      clear hgy hk0 hsk;by_cases hy : 0 < y
      · have q4 : decide (0 < y) = true := by simpa using hy
        rw [q4] at HQ;clear hy;go_wp2_with fail;((with_reducible refine HEq.out.mono ?_); rintro e w4 ⟨rfl, hb4⟩)
        have HB4 := hid (below_then HB3.out hb4);clear b0 b1 b2 b3 d0 d1 d2 d3 d4 d5 d6 d7;go_wp2_with fail;go_ret;exact ⟨ret_bool (by rw [HQ.out]; rfl), HB4.out⟩
      · have q4 : decide (0 < y) = false := by simpa using hy
        rw [q4] at HQ;clear hy;go_wp2_with fail;go_ret;exact ⟨ret_bool (by rw [HQ.out]; rfl), HB3.out⟩
    rw [emp_no HC3.out.kl hk0, if_neg (by simp)] at HQ;have q3 : ((nk : Int) == 0) = false := by rw [beq_eq_false_iff_ne]; omega
    clear hk0;have HMs := hid (vmarkings_any N.pl A n c N.src N.snk Ak nk ck K false w3 HC3.out.k HC3.out.kl HC3.out.kb);go_wp2_with fail;((with_reducible refine (HMs.out).mono ?_); rintro e w4 ⟨rfl, hb4⟩)
    have HB4 := hid (below_then HB3.out hb4);have HNb4 := hid (HNb3.out.below hb4);have HCb4 := hid (HCb3.out.below hb4);have HIn4 := hid (HIn3.out.below hb4);have HC4 := hid (HC3.out.below hb4);clear HB3 HNb3 HCb3 HIn3 HC3;have HZ4 := hid (HZ3.out.below hb4);have HF4 := hid (HF3.out.below hb4);clear hb4 HMs HZ3 HF3 b0 b1 b2 b3 d0 d1 d2 d3 d4 d5 d6 d7;cases hm : mksX N.pl false K with
    | false =>
     rw [hm] at HQ;go_wp2_with fail;go_ret;exact ⟨ret_bool (by rw [HQ.out]; rfl), HB4.out⟩
    | true =>
     rw [hm] at HQ;have HAll := hid (show ∀ s ∈ K, mkX N.pl false s = true from List.all_eq_true.1 hm);have HIx := hid (vindex_any Ak nk ck K A1 Y.length c1 Y w4 HC4.out.k HC4.out.kl HC4.out.kb HZ4.out rfl (by omega));have HLe := hid (lidx_mem Y K);generalize lidx (isL Y) K = ix at *;clear hm;obtain ⟨b0, b1, b2, b3⟩ := HNb4.out.cells;obtain ⟨d0, d1, d2, d3, d4, d5, d6, d7⟩ := HCb4.out.cells;go_wp2_with fail;((with_reducible refine (HIx.out).mono ?_); rintro e w5 ⟨rfl, hb5⟩)
     have HB5 := hid (below_then HB4.out hb5);have HNb5 := hid (HNb4.out.below hb5);have HCb5 := hid (HCb4.out.below hb5);have HIn5 := hid (HIn4.out.below hb5);have HC5 := hid (HC4.out.below hb5);clear HB4 HNb4 HCb4 HIn4 HC4;have HF5 := hid (HF4.out.below hb5);clear hb5 HIx HF4 b0 b1 b2 b3 d0 d1 d2 d3 d4 d5 d6 d7;cases hm : memB K Y with
     | false =>
      rw [hm] at HQ HLe;have q5 : decide (0 ≤ ix) = false := HLe.out;clear hm;go_wp2_with fail;go_ret;exact ⟨ret_bool (by rw [HQ.out]; rfl), HB5.out⟩
     | true =>
      rw [hm] at HQ HLe;have q5 : decide (0 ≤ ix) = true := HLe.out;clear hm;have HIy := hid (vindex_any Ak nk ck K A2 F.length c2 F w5 HC5.out.k HC5.out.kl HC5.out.kb HF5.out rfl (by omega));have HLf := hid (lidx_mem' F K);generalize lidx (isL F) K = iy at *;obtain ⟨b0, b1, b2, b3⟩ := HNb5.out.cells;obtain ⟨d0, d1, d2, d3, d4, d5, d6, d7⟩ := HCb5.out.cells;go_wp2_with fail;((with_reducible refine (HIy.out).mono ?_); rintro e w6 ⟨rfl, hb6⟩)
      have HB6 := hid (below_then HB5.out hb6);have HNb6 := hid (HNb5.out.below hb6);have HCb6 := hid (HCb5.out.below hb6);have HIn6 := hid (HIn5.out.below hb6);have HC6 := hid (HC5.out.below hb6);clear HB5 HNb5 HCb5 HIn5 HC5;clear hb6 HIy b0 b1 b2 b3 d0 d1 d2 d3 d4 d5 d6 d7;cases hm : memB K F with
      | true =>
       rw [hm] at HQ HLf;have q6 : decide (iy < 0) = false := HLf.out;clear hm;go_wp2_with fail;go_ret;exact ⟨ret_bool (by rw [HQ.out]; rfl), HB6.out⟩
      | false =>
       rw [hm] at HQ HLf;have q6 : decide (iy < 0) = true := HLf.out;clear hm;have HCl := hid (vclosed_any N A n c Ak nk ck K w6 HIn6.out HNl.out HV.out HC6.out.k HC6.out.kl HC6.out.kb HAll.out);generalize closX N K = cx at *;obtain ⟨b0, b1, b2, b3⟩ := HNb6.out.cells;obtain ⟨d0, d1, d2, d3, d4, d5, d6, d7⟩ := HCb6.out.cells;go_wp2_with fail;((with_reducible refine HCl.out.mono ?_); rintro e w7 ⟨rfl, hb7⟩)
       have HB7 := hid (below_then HB6.out hb7);clear b0 b1 b2 b3 d0 d1 d2 d3 d4 d5 d6 d7;go_wp2_with fail;go_ret;exact ⟨ret_bool (by rw [HQ.out]; rfl), HB7.out⟩
 · rw [emp_no HC0.out.rl hr0, if_neg (by simp)] at HQ;have q7 : ((nr : Int) == 0) = false := by rw [beq_eq_false_iff_ne]; omega
   clear hr0;go_enter Tryz.func94, Tryz.ntmps94;go_wp2_with fail;generalize (w.alloc (.cells #[.int .i64 N.pl, .slice A n c, .int .i64 N.src, .int .i64 N.snk] 24)).alloc (.cells #[.int .i64 cl, .int .i64 cn, .slice Ar nr cr, .slice Ap np cp, .slice Ak nk ck, .slice Av nv cv, .slice As ns cs, .slice Aw nw cw] 31) = w0 at *;generalize w.heap.size + 1 = cb at *;have HRn := hid (vrun_any N A n c Ar nr cr R w0 HIn0.out HNl.out HV.out HC0.out.r HC0.out.rl);obtain ⟨b0, b1, b2, b3⟩ := HNb0.out.cells;obtain ⟨d0, d1, d2, d3, d4, d5, d6, d7⟩ := HCb0.out.cells;by_cases hr : (runI N R).2.2 = 0;rotate_left
   · rw [if_neg hr] at HQ;have HR1 := hid (vr_no HRn.out hr);clear HRn hr;go_wp2_with fail;((with_reducible refine HR1.out.mono ?_); rintro e w1 ⟨rfl, hb1⟩)
     have HB1 := hid (below_then HB0.out hb1);clear b0 b1 b2 b3 d0 d1 d2 d3 d4 d5 d6 d7;go_wp2_with fail;go_ret;exact ⟨ret_bool HQ.out.symm, HB1.out⟩
   rw [if_pos hr] at HQ;have HR1 := hid (vr_yes HRn.out hr);have HMx := hid (show mkB N (runI N R).1 = true from run21_mk hr);clear HRn hr;generalize (runI N R).1 = Y at *;have hyl : Y.length ≤ 40 := by have := mk_len HMx.out; omega
   have hyp := mk_len HMx.out;have HYp := hid hyp;clear hyp;go_wp2_with fail;((with_reducible refine HR1.out.mono ?_); rintro e w1 ⟨v1, rfl, hS1⟩)
   obtain ⟨A1, c1, rfl⟩ := hS1.slice;have hb1 := hS1.2;have HZ1 := hid (show ZIn w1 A1 Y by obtain ⟨A', c', e, hz, _⟩ := hS1.zin; cases e; exact hz);have HB1 := hid (below_then HB0.out hb1);have HNb1 := hid (HNb0.out.below hb1);have HCb1 := hid (HCb0.out.below hb1);have HIn1 := hid (HIn0.out.below hb1);have HC1 := hid (HC0.out.below hb1);clear HB0 HNb0 HCb0 HIn0 HC0;clear hS1 hb1 HR1 b0 b1 b2 b3 d0 d1 d2 d3 d4 d5 d6 d7;obtain ⟨b0, b1, b2, b3⟩ := HNb1.out.cells;obtain ⟨d0, d1, d2, d3, d4, d5, d6, d7⟩ := HCb1.out.cells;have HOn := hid (vsnk_any N A n c HV.out w1);go_wp2_with fail;((with_reducible refine HOn.out.mono ?_); rintro e w2 ⟨v2, rfl, hS2⟩)
   obtain ⟨A2, c2, rfl⟩ := hS2.slice;have hb2 := hS2.2;have HF2 := hid (show ZIn w2 A2 (finM N) by obtain ⟨A', c', e, hz, _⟩ := hS2.zin; cases e; exact hz);have HB2 := hid (below_then HB1.out hb2);have HNb2 := hid (HNb1.out.below hb2);have HCb2 := hid (HCb1.out.below hb2);have HIn2 := hid (HIn1.out.below hb2);have HC2 := hid (HC1.out.below hb2);have HZ2 := hid (HZ1.out.below hb2);clear HB1 HNb1 HCb1 HIn1 HC1 HZ1;clear hS2 hb2 HOn b0 b1 b2 b3 d0 d1 d2 d3 d4 d5 d6 d7;have hfl : (finM N).length ≤ 40 := by have := fin_len HV.out; omega
   generalize finM N = F at *;obtain ⟨b0, b1, b2, b3⟩ := HNb2.out.cells;obtain ⟨d0, d1, d2, d3, d4, d5, d6, d7⟩ := HCb2.out.cells;by_cases hk0 : nk = 0
   · rw [emp_yes HC2.out.kl hk0, if_pos rfl] at HQ;have q3 : ((nk : Int) == 0) = true := by simp [hk0]
     obtain ⟨sk, hsk⟩ := Int.eq_ofNat_of_zero_le hpls.2.2.1;rw [hsk] at HQ b3;rw [Int.toNat_natCast] at HQ;have hsl : sk < Y.length := by have := HYp.out; omega
     obtain ⟨ay, rfl, hpy, y0⟩ := HZ2.out sk hsl;have hgy : Y.getD sk 0 = Y[sk] := by simp [hsl]
     rw [hgy] at HQ;have HEq := hid (equal_any (some ay) Y.length c1 A2 F.length c2 Y F w2 HZ2.out rfl HF2.out rfl (by omega) (by omega));generalize Y[sk] = y at *;generalize decide (Y = F) = eq at *;have hsk0 : (0 : Int) ≤ (sk : Int) := by omega
     have hsk1 : (sk : Int) < (Y.length : Int) := by omega
     clear hgy hk0 hsk;by_cases hy : 0 < y
     · have q4 : decide (0 < y) = true := by simpa using hy
       rw [q4] at HQ;clear hy;go_wp2_with fail;((with_reducible refine HEq.out.mono ?_); rintro e w3 ⟨rfl, hb3⟩)
       have HB3 := hid (below_then HB2.out hb3);clear b0 b1 b2 b3 d0 d1 d2 d3 d4 d5 d6 d7;go_wp2_with fail;go_ret;exact ⟨ret_bool (by rw [HQ.out]; rfl), HB3.out⟩
     · have q4 : decide (0 < y) = false := by simpa using hy
       rw [q4] at HQ;clear hy;go_wp2_with fail;go_ret;exact ⟨ret_bool (by rw [HQ.out]; rfl), HB2.out⟩
   rw [emp_no HC2.out.kl hk0, if_neg (by simp)] at HQ;have q3 : ((nk : Int) == 0) = false := by rw [beq_eq_false_iff_ne]; omega
   clear hk0;have HMs := hid (vmarkings_any N.pl A n c N.src N.snk Ak nk ck K false w2 HC2.out.k HC2.out.kl HC2.out.kb);go_wp2_with fail;((with_reducible refine (HMs.out).mono ?_); rintro e w3 ⟨rfl, hb3⟩)
   have HB3 := hid (below_then HB2.out hb3);have HNb3 := hid (HNb2.out.below hb3);have HCb3 := hid (HCb2.out.below hb3);have HIn3 := hid (HIn2.out.below hb3);have HC3 := hid (HC2.out.below hb3);clear HB2 HNb2 HCb2 HIn2 HC2;have HZ3 := hid (HZ2.out.below hb3);have HF3 := hid (HF2.out.below hb3);clear hb3 HMs HZ2 HF2 b0 b1 b2 b3 d0 d1 d2 d3 d4 d5 d6 d7;cases hm : mksX N.pl false K with
   | false =>
    rw [hm] at HQ;go_wp2_with fail;go_ret;exact ⟨ret_bool (by rw [HQ.out]; rfl), HB3.out⟩
   | true =>
    rw [hm] at HQ;have HAll := hid (show ∀ s ∈ K, mkX N.pl false s = true from List.all_eq_true.1 hm);have HIx := hid (vindex_any Ak nk ck K A1 Y.length c1 Y w3 HC3.out.k HC3.out.kl HC3.out.kb HZ3.out rfl (by omega));have HLe := hid (lidx_mem Y K);generalize lidx (isL Y) K = ix at *;clear hm;obtain ⟨b0, b1, b2, b3⟩ := HNb3.out.cells;obtain ⟨d0, d1, d2, d3, d4, d5, d6, d7⟩ := HCb3.out.cells;go_wp2_with fail;((with_reducible refine (HIx.out).mono ?_); rintro e w4 ⟨rfl, hb4⟩)
    have HB4 := hid (below_then HB3.out hb4);have HNb4 := hid (HNb3.out.below hb4);have HCb4 := hid (HCb3.out.below hb4);have HIn4 := hid (HIn3.out.below hb4);have HC4 := hid (HC3.out.below hb4);clear HB3 HNb3 HCb3 HIn3 HC3;have HF4 := hid (HF3.out.below hb4);clear hb4 HIx HF3 b0 b1 b2 b3 d0 d1 d2 d3 d4 d5 d6 d7;cases hm : memB K Y with
    | false =>
     rw [hm] at HQ HLe;have q5 : decide (0 ≤ ix) = false := HLe.out;clear hm;go_wp2_with fail;go_ret;exact ⟨ret_bool (by rw [HQ.out]; rfl), HB4.out⟩
    | true =>
     rw [hm] at HQ HLe;have q5 : decide (0 ≤ ix) = true := HLe.out;clear hm;have HIy := hid (vindex_any Ak nk ck K A2 F.length c2 F w4 HC4.out.k HC4.out.kl HC4.out.kb HF4.out rfl (by omega));have HLf := hid (lidx_mem' F K);generalize lidx (isL F) K = iy at *;obtain ⟨b0, b1, b2, b3⟩ := HNb4.out.cells;obtain ⟨d0, d1, d2, d3, d4, d5, d6, d7⟩ := HCb4.out.cells;go_wp2_with fail;((with_reducible refine (HIy.out).mono ?_); rintro e w5 ⟨rfl, hb5⟩)
     have HB5 := hid (below_then HB4.out hb5);have HNb5 := hid (HNb4.out.below hb5);have HCb5 := hid (HCb4.out.below hb5);have HIn5 := hid (HIn4.out.below hb5);have HC5 := hid (HC4.out.below hb5);clear HB4 HNb4 HCb4 HIn4 HC4;clear hb5 HIy b0 b1 b2 b3 d0 d1 d2 d3 d4 d5 d6 d7;cases hm : memB K F with
     | true =>
      rw [hm] at HQ HLf;have q6 : decide (iy < 0) = false := HLf.out;clear hm;go_wp2_with fail;go_ret;exact ⟨ret_bool (by rw [HQ.out]; rfl), HB5.out⟩
     | false =>
      rw [hm] at HQ HLf;have q6 : decide (iy < 0) = true := HLf.out;clear hm;have HCl := hid (vclosed_any N A n c Ak nk ck K w5 HIn5.out HNl.out HV.out HC5.out.k HC5.out.kl HC5.out.kb HAll.out);generalize closX N K = cx at *;obtain ⟨b0, b1, b2, b3⟩ := HNb5.out.cells;obtain ⟨d0, d1, d2, d3, d4, d5, d6, d7⟩ := HCb5.out.cells;go_wp2_with fail;((with_reducible refine HCl.out.mono ?_); rintro e w6 ⟨rfl, hb6⟩)
      have HB6 := hid (below_then HB5.out hb6);clear b0 b1 b2 b3 d0 d1 d2 d3 d4 d5 d6 d7;go_wp2_with fail;go_ret;exact ⟨ret_bool (by rw [HQ.out]; rfl), HB6.out⟩
end Go.Proofs.YtkhmngljpfibcaaGreatDoor
