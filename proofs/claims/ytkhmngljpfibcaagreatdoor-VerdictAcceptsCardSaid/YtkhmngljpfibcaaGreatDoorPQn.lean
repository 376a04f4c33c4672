/- verdict: relaxed: what a call returns. Rows of truth values: a block of one's own; slices.Contains of false. verdict: sound: what a call returns, plain; the facts that its walk uses. -/
import Derived.Test.YtkhmngljpfibcaaGreatDoorPQh
namespace Go.Proofs.YtkhmngljpfibcaaGreatDoor
set_option maxRecDepth 100000
set_option maxHeartbeats 12800000
open Go.Lib (hid)
section
open Go.RowKit

def hasB (Z : List Int) (x : Int) : Bool := Z.any fun y => decide (y = x)
theorem contains_any (A : Option Addr) (n c : Nat) (Z : List Int) (x : Int) (w : World) (h : ZIn w A Z) (hn : Z.length = n) (hb : n ≤ 9223372036854775807) :
 Calls Tryz.prog 157 #[.slice A n c, .int .i64 x] w fun e w' => e = .returned (.bool (hasB Z x)) ∧ Below w.heap.size w w' := by
 rcases Nat.eq_zero_or_pos n with h0 | h0
 · subst h0;have e1 : Z = [] := List.eq_nil_of_length_eq_zero hn;subst e1;exact (Tryz.slices_Contains_int_empty A c x w).mono fun e w' ⟨h1, h2⟩ => ⟨h1, by subst h2; exact Below.refl _ _⟩
 · obtain ⟨b, off, rfl, _, hc⟩ := zin_plain h (by omega);refine (Tryz.slices_Contains_int b off n c Z x w (by omega) hb hc).mono fun e w' ⟨h1, h2⟩ => ⟨?_, by subst h2; exact Below.refl _ _⟩
   rw [h1, List.take_of_length_le (by omega)];refine ret_bool ?_;unfold hasB;rw [List.contains_eq_any_beq]
   congr 1
   funext y
   rw [Bool.eq_iff_iff]; simp; omega
def relAt (N : Nt) (S : List (List Int)) (t : Nat) : Bool := match S[t]? with
 | some l => decide ((runI N l).2.2 = 0) && (decide ((runI N l).1 = finM N) && hasB l (t : Int))
 | none => true
def relB (N : Nt) (S : List (List Int)) : Bool := decide (S.length = N.tr.length) && (List.range S.length).all (relAt N S)
theorem relAt_get {N : Nt} {S : List (List Int)} {t : Nat} (h : t < S.length) : relAt N S t = (decide ((runI N S[t]).2.2 = 0) && (decide ((runI N S[t]).1 = finM N) && hasB S[t] (t : Int))) := by
 unfold relAt; rw [List.getElem?_eq_getElem h]
theorem range_step (f : Nat → Bool) (k : Nat) : (List.range (k + 1)).all f = ((List.range k).all f && f k) := by
 rw [List.range_succ, List.all_append]; simp
theorem range_no (f : Nat → Bool) {k n : Nat} (hk : k < n) (h : f k = false) : (List.range n).all f = false := by
 rw [List.all_eq_false]; exact ⟨k, List.mem_range.2 hk, by simp [h]⟩
theorem vrelaxed_any (N : Nt) (A : Option Addr) (n c : Nat) (cl cn : Int) (Ar : Option Addr) (nr cr : Nat) (R : List Int) (Ap : Option Addr) (np cp : Nat) (P : List Int) (Ak : Option Addr) (nk ck : Nat) (K : List (List Int)) (Av : Option Addr) (nv cv : Nat) (V : List Mv) (As : Option Addr) (ns cs : Nat) (S : List (List Int)) (Aw : Option Addr) (nw cw : Nat) (X : List (List Int)) (w : World) (h : NtIn w A N) (hn : N.tr.length = n) (hv : ntB N = true) (hC : CfM w Ar nr R Ap np P Ak nk K Av nv V As ns S Aw nw X) :
 Calls Tryz.prog 95 #[.agg #[.int .i64 N.pl, .slice A n c, .int .i64 N.src, .int .i64 N.snk], .agg #[.int .i64 cl, .int .i64 cn, .slice Ar nr cr, .slice Ap np cp, .slice Ak nk ck, .slice Av nv cv, .slice As ns cs, .slice Aw nw cw]] w fun e w' => e = .returned (.bool (relB N S)) ∧ Below w.heap.size w w' := by
 have HB0 := hid (two_boxes w (.cells #[.int .i64 N.pl, .slice A n c, .int .i64 N.src, .int .i64 N.snk] 24) (.cells #[.int .i64 cl, .int .i64 cn, .slice Ar nr cr, .slice Ap np cp, .slice Ak nk ck, .slice Av nv cv, .slice As ns cs, .slice Aw nw cw] 31));have HNb0 := hid ((NB.new w N.pl A n c N.src N.snk).below (below_alloc _ (.cells #[.int .i64 cl, .int .i64 cn, .slice Ar nr cr, .slice Ap np cp, .slice Ak nk ck, .slice Av nv cv, .slice As ns cs, .slice Aw nw cw] 31)));have hcb := heap_alloc_new (w.alloc (.cells #[.int .i64 N.pl, .slice A n c, .int .i64 N.src, .int .i64 N.snk] 24)) (.cells #[.int .i64 cl, .int .i64 cn, .slice Ar nr cr, .slice Ap np cp, .slice Ak nk ck, .slice Av nv cv, .slice As ns cs, .slice Aw nw cw] 31);rw [World.size_alloc] at hcb;have HCb0 := hid (show CtB _ (w.heap.size + 1) #[.int .i64 cl, .int .i64 cn, .slice Ar nr cr, .slice Ap np cp, .slice Ak nk ck, .slice Av nv cv, .slice As ns cs, .slice Aw nw cw] from hcb);have HIn0 := hid (h.below HB0.out);have HC0 := hid (hC.below HB0.out);have HNl := hid hn;have HV := hid hv;have hps := nt_small hv;have hn60 : n ≤ 60 := by omega
 have HQ := hid (show relB N S = (decide (S.length = N.tr.length) && (List.range S.length).all (relAt N S)) from rfl);have hpls := nt_src hv;have hpl40 : N.pl ≤ 40 := hps.2.1;clear h hn hv hC hps hcb;by_cases hsn : ns = n;rotate_left
 · have HV2 := hid (show relB N S = false by rw [HQ.out, HC0.out.sl, HNl.out, decide_eq_false hsn]; rfl);have q1 : ((ns : Int) != (n : Int)) = true := by rw [bne_iff_ne]; omega
   clear hsn;go_enter Tryz.func95, Tryz.ntmps95;go_wp2_with fail;go_ret;exact ⟨ret_bool HV2.out.symm, HB0.out⟩
 have q1 : ((ns : Int) != (n : Int)) = false := by simp; omega
 have HSn := hid hsn;have hns : ns ≤ 60 := by omega
 clear hsn;go_enter Tryz.func95, Tryz.ntmps95;go_wp2_with fail;generalize (w.alloc (.cells #[.int .i64 N.pl, .slice A n c, .int .i64 N.src, .int .i64 N.snk] 24)).alloc (.cells #[.int .i64 cl, .int .i64 cn, .slice Ar nr cr, .slice Ap np cp, .slice Ak nk ck, .slice Av nv cv, .slice As ns cs, .slice Aw nw cw] 31) = w0 at *;generalize w.heap.size + 1 = cb at *;go_loopg [19] (ns) (fun g iv wr => ∃ k : Nat, k + g = ns ∧ iv = .int .i64 (k : Int) ∧ (List.range k).all (relAt N S) = true ∧ Below w0.heap.size w0 wr);case atStart => exact ⟨0, by omega, rfl, rfl, Below.refl _ _⟩
 case round =>
  obtain ⟨k, hk, rfl, hp, hB⟩ := hrel;have HK := hid hk;have HPk := hid hp;have hle : k ≤ ns := by omega
  have HBw0 := hid hB;have HB1 := hid (below_then HB0.out hB);have HNb1 := hid (HNb0.out.below hB);have HCb1 := hid (HCb0.out.below hB);have HIn1 := hid (HIn0.out.below hB);have HC1 := hid (HC0.out.below hB);obtain ⟨w1, rfl⟩ : ∃ w1, w1 = wr := ⟨_, rfl⟩;clear hk hp hB;by_cases hlt : k < ns
  · have hlt' : k < S.length := by rw [HC1.out.sl]; exact hlt
    obtain ⟨al, hal, hpa, u, q0, Ax, nx, cx, rfl, zx, hx1, hx2, hx3⟩ := HC1.out.s k hlt';subst hal;have HSt := hid (range_step (relAt N S) k);have HNo := hid (fun hh => range_no (relAt N S) (n := S.length) hlt' hh);have HRa := hid (relAt_get (N := N) hlt');generalize S[k] = L at *;have HZl1 := hid zx;have HLl := hid hx1;have HRn := hid (vrun_any N A n c Ax nx cx L w1 HIn1.out HNl.out HV.out zx hx1);clear hlt' zx hx1 hpa;obtain ⟨b0, b1, b2, b3⟩ := HNb1.out.cells;obtain ⟨d0, d1, d2, d3, d4, d5, d6, d7⟩ := HCb1.out.cells;by_cases hr : (runI N L).2.2 = 0;rotate_left
    · have HV2 := hid (show relB N S = false by rw [HQ.out, HNo.out (by rw [HRa.out, decide_eq_false hr]; rfl)]; simp);have HR1 := hid (vr_no HRn.out hr);clear HRn hr;go_wp2_with fail;((with_reducible refine HR1.out.mono ?_); rintro e w2 ⟨rfl, hb2⟩)
      have HB2 := hid (below_then HB1.out hb2);clear b0 b1 b2 b3 d0 d1 d2 d3 d4 d5 d6 d7;go_wp2_with fail;go_ret;exact ⟨ret_bool HV2.out.symm, HB2.out⟩
    rw [decide_eq_true hr] at HRa;have HR1 := hid (vr_yes HRn.out hr);have HMx := hid (show mkB N (runI N L).1 = true from run21_mk hr);clear HRn hr;generalize (runI N L).1 = Y at *;have hyl : Y.length ≤ 40 := by have := mk_len HMx.out; omega
    go_wp2_with fail;((with_reducible refine HR1.out.mono ?_); rintro e w2 ⟨v1, rfl, hS1⟩)
    obtain ⟨A1, c1, rfl⟩ := hS1.slice;have hb2 := hS1.2;have HZ2 := hid (show ZIn w2 A1 Y by obtain ⟨A', c', e, hz, _⟩ := hS1.zin; cases e; exact hz);have HBw2 := hid (below_then HBw0.out hb2);have HB2 := hid (below_then HB1.out hb2);have HNb2 := hid (HNb1.out.below hb2);have HCb2 := hid (HCb1.out.below hb2);have HIn2 := hid (HIn1.out.below hb2);have HC2 := hid (HC1.out.below hb2);have HZl2 := hid (HZl1.out.below hb2);clear HB1 HNb1 HCb1 HIn1 HC1 HZl1;clear hS1 hb2 HR1 b0 b1 b2 b3 d0 d1 d2 d3 d4 d5 d6 d7 q0;obtain ⟨b0, b1, b2, b3⟩ := HNb2.out.cells;obtain ⟨d0, d1, d2, d3, d4, d5, d6, d7⟩ := HCb2.out.cells;have HOn := hid (vsnk_any N A n c HV.out w2);go_wp2_with fail;((with_reducible refine HOn.out.mono ?_); rintro e w3 ⟨v2, rfl, hS2⟩)
    obtain ⟨A2, c2, rfl⟩ := hS2.slice;have hb3 := hS2.2;have HF3 := hid (show ZIn w3 A2 (finM N) by obtain ⟨A', c', e, hz, _⟩ := hS2.zin; cases e; exact hz);have HBw3 := hid (below_then HBw2.out hb3);have HB3 := hid (below_then HB2.out hb3);have HNb3 := hid (HNb2.out.below hb3);have HCb3 := hid (HCb2.out.below hb3);have HIn3 := hid (HIn2.out.below hb3);have HC3 := hid (HC2.out.below hb3);have HZ3 := hid (HZ2.out.below hb3);have HZl3 := hid (HZl2.out.below hb3);clear HB2 HNb2 HCb2 HIn2 HC2 HZ2 HZl2;clear hS2 hb3 HOn b0 b1 b2 b3 d0 d1 d2 d3 d4 d5 d6 d7;have hfl : (finM N).length ≤ 40 := by have := fin_len HV.out; omega
    generalize finM N = F at *;have HEq := hid (equal_any A1 Y.length c1 A2 F.length c2 Y F w3 HZ3.out rfl HF3.out rfl (by omega) (by omega));by_cases hyf : Y = F;rotate_left
    · have HV2 := hid (show relB N S = false by rw [HQ.out, HNo.out (by rw [HRa.out, decide_eq_false hyf]; rfl)]; simp);rw [decide_eq_false hyf] at HEq;clear hyf;go_wp2_with fail;((with_reducible refine HEq.out.mono ?_); rintro e w4 ⟨rfl, hb4⟩)
      have HB4 := hid (below_then HB3.out hb4);go_wp2_with fail;go_ret;exact ⟨ret_bool HV2.out.symm, HB4.out⟩
    rw [decide_eq_true hyf] at HEq HRa;clear hyf;go_wp2_with fail;((with_reducible refine HEq.out.mono ?_); rintro e w4 ⟨rfl, hb4⟩)
    have HBw4 := hid (below_then HBw3.out hb4);have HB4 := hid (below_then HB3.out hb4);have HCo := hid (contains_any Ax nx cx L (k : Int) w4 (HZl3.out.below hb4) HLl.out (by omega));clear hb4 HEq;cases hh : hasB L (k : Int) with
    | false =>
     have HV2 := hid (show relB N S = false by rw [HQ.out, HNo.out (by rw [HRa.out, hh]; rfl)]; simp);rw [hh] at HCo;clear hh;go_wp2_with fail;((with_reducible refine HCo.out.mono ?_); rintro e w5 ⟨rfl, hb5⟩)
     have HB5 := hid (below_then HB4.out hb5);go_wp2_with fail;go_ret;exact ⟨ret_bool HV2.out.symm, HB5.out⟩
    | true =>
     have HV2 := hid (show (List.range (k + 1)).all (relAt N S) = true by rw [HSt.out, HPk.out, HRa.out, hh]; rfl);rw [hh] at HCo;clear hh;go_wp2_with fail;((with_reducible refine HCo.out.mono ?_); rintro e w5 ⟨rfl, hb5⟩)
     have HBw5 := hid (below_then HBw4.out hb5);clear hb5;go_wp2_with fail;go_roundg (gk - 1);case measure => have := HK.out; omega
     case rel => exact ⟨k + 1, by have := HK.out; omega, by go_num, HV2.out, HBw5.out⟩
  · have HV2 := hid (show relB N S = true by
     rw [HQ.out, HC0.out.sl, HNl.out, decide_eq_true HSn.out];have h1 := HPk.out;rw [show k = ns by omega] at h1;rw [h1]; rfl)
    go_wp2_with fail;go_ret;exact ⟨ret_bool HV2.out.symm, HB1.out⟩
end
section
open Go.RowKit

theorem boolInfo : (Tryz.prog.info? 4).map (fun i => (i.zero, i.size, i.bytes)) = some (some (.bool false), 1, 1) := by kernel_rfl
def BL (w : World) (g : Nat) (F : List Bool) : Prop := w.heap[g]? = some (.cells (F.map Value.bool).toArray 4 (0, 0))
theorem BL.lt {w : World} {g : Nat} {F : List Bool} (h : BL w g F) : g < w.heap.size := (Array.getElem?_eq_some_iff.1 h).1
theorem BL.below {w w' : World} {g : Nat} {F : List Bool} (h : BL w g F) (hb : Below w.heap.size w w') : BL w' g F := by
 unfold BL; rw [hb.block g h.lt]; exact h
theorem BL.cell {w : World} {g : Nat} {F : List Bool} (h : BL w g F) {i : Nat} (hi : i < F.length) : w.cell? ⟨g, i, none⟩ = some (.bool F[i]) := by
 have h' : w.heap[g]? = _ := h;simp [World.cell?, h', hi]
theorem BL.soft {w : World} {g : Nat} {F : List Bool} (h : BL w g F) (o : Nat) : w.frozen? ⟨g, o, none⟩ = false := by
 have h' : w.heap[g]? = _ := h;simp [World.frozen?, h']
theorem BL.set {w : World} {g : Nat} {F : List Bool} (h : BL w g F) (i : Nat) (b : Bool) : BL (w.setCell ⟨g, i, none⟩ (.bool b)) g (F.set i b) := by
 unfold BL;rw [heap_set2 h]
 congr 2
 rw [List.map_set, List.setIfInBounds_toArray]
theorem BL.other {w : World} {g b o : Nat} {F : List Bool} (h : BL w g F) (hb : b ≠ g) (u : Value) : BL (w.setCell ⟨b, o, none⟩ u) g F := by
 unfold BL;have hg : w.grownBy (w.setCell ⟨b, o, none⟩ u) (some b) := Lib.grownBy_setB (grown_refl w (some b)) o u;rw [hg.block g h.lt (fun e => hb (by cases e; rfl))];exact h
theorem mk_bools (n : Nat) (hn : n ≤ 1000000) (w : World) : (Instr.makeSlice 94 (.int .i64 (n : Int)) (.int .i64 (n : Int))).run Tryz.prog w = .ok (.slice (some ⟨w.heap.size, 0, none⟩) n n) (w.alloc (.cells (madeCells #[.bool false] n) 4)) := run_make_row' 94 4 (.bool false) 1 Tryz.underlying94 boolInfo rfl .i64 .i64 n (by omega) (by omega) w
theorem made_bools (n : Nat) : madeCells #[Value.bool false] n = ((List.replicate n false).map Value.bool).toArray := by
 apply Array.ext';rw [toList_madeCells_one, List.map_replicate]
theorem BL.made (w : World) (n : Nat) : BL (w.alloc (.cells (madeCells #[.bool false] n) 4)) w.heap.size (List.replicate n false) := by
 unfold BL;rw [← made_bools];exact heap_alloc_new w _
def noF (F : List Bool) : Bool := F.all fun b => b
theorem noF_step (F : List Bool) (k : Nat) (h : k < F.length) : noF (F.take (k + 1)) = (noF (F.take k) && F[k]) := by
 unfold noF;rw [List.take_succ_eq_append_getElem h, List.all_append]; simp
theorem bidx_any (g n c : Nat) (F : List Bool) (w : World) (h : BL w g F) (hn : F.length = n) (hb : n ≤ 9223372036854775806) :
 Calls Tryz.prog 203 #[.slice (some ⟨g, 0, none⟩) n c, .bool false] w fun e w' => (∃ r : Int, e = .returned (.int .i64 r) ∧ decide (0 ≤ r) = !(noF F)) ∧ Below w.heap.size w w' := by
 have HF := hid h;have HN := hid hn;clear h hn;go_enter Tryz.func203, Tryz.ntmps203;go_wp2_with fail;go_loopg [8] (n) (fun gh iv wr => ∃ k : Nat, k + gh = n ∧ iv = .int .i64 k ∧ noF (F.take k) = true ∧ Below w.heap.size w wr);case atStart => exact ⟨0, by omega, rfl, rfl, Below.refl _ _⟩
 case round =>
  obtain ⟨k, hk, rfl, hp, hB⟩ := hrel;have HK := hid hk;have HP := hid hp;have HBr := hid hB;clear hk hp hB;by_cases hlt : k < n
  · have hlt' : k < F.length := by rw [HN.out]; exact hlt
    have c0 := (HF.out.below HBr.out).cell hlt';have HS := hid (noF_step F k hlt');have HNo := hid (fun (hh : F[k] = false) => show noF F = false by unfold noF; rw [List.all_eq_false]; exact ⟨F[k], List.getElem_mem hlt', by simp [hh]⟩);generalize F[k] = b at *;clear hlt';cases b with
    | false =>
     have HV := hid (HNo.out rfl);clear HS HNo;go_wp2_with fail;go_ret;exact ⟨⟨_, rfl, by rw [HV.out]; simp⟩, HBr.out⟩
    | true =>
     have HV := hid (show noF (F.take (k + 1)) = true by rw [HS.out, HP.out]; rfl);clear HS HNo;go_wp2_with fail;go_roundg (gk - 1);case measure => have := HK.out; omega
     case rel => exact ⟨k + 1, by have := HK.out; omega, by go_num, HV.out, HBr.out⟩
  · have hE : noF F = true := by
     have := HP.out;rwa [List.take_of_length_le (by rw [HN.out]; omega)] at this
    have HE := hid hE;clear hE;go_wp2_with fail;go_ret;exact ⟨⟨_, rfl, by rw [HE.out]; decide⟩, HBr.out⟩
theorem bhas_any (g n c : Nat) (F : List Bool) (w : World) (h : BL w g F) (hn : F.length = n) (hb : n ≤ 9223372036854775806) :
 Calls Tryz.prog 159 #[.slice (some ⟨g, 0, none⟩) n c, .bool false] w fun e w' => e = .returned (.bool (!(noF F))) ∧ Below w.heap.size w w' := by
 have HI := hid (bidx_any g n c F w h hn hb);generalize noF F = q at *;clear h hn hb;go_enter Tryz.func159, Tryz.ntmps159;go_wp2_with fail;((with_reducible refine HI.out.mono ?_); rintro e w1 ⟨⟨r, rfl, hr⟩, hb1⟩)
 have HR := hid hr;have HB1 := hid hb1;clear hr hb1 HI;go_wp2_with fail;go_ret;exact ⟨ret_bool HR.out, HB1.out⟩
theorem mv_at {w : World} {A : Option Addr} {V : List Mv} (h : Rd mvC 3 w A V) {i : Nat} (hi : i < V.length) : ∃ ad, A = some ad ∧ (ad.add (i * 3)).block < w.heap.size ∧ w.cell? (ad.add (i * 3)) = some (.int .i64 V[i].f) ∧ w.cell? ⟨(ad.add (i * 3)).block, (ad.add (i * 3)).off + 1, none⟩ = some (.int .i64 V[i].t) ∧ w.cell? ⟨(ad.add (i * 3)).block, (ad.add (i * 3)).off + 1 + 1, none⟩ = some (.int .i64 V[i].s) := by
 obtain ⟨ad, e, h1, hc⟩ := h i hi;refine ⟨ad, e, h1, hc 0 _ (by omega) rfl, ?_, ?_⟩
 · have := hc 1 _ (by omega) rfl; rw [add_at _ _ _ (by omega)] at this; exact this
 · have := hc 2 _ (by omega) rfl; rw [add_at _ _ _ (by omega)] at this; exact this
end
section
open Go.RowKit

def mvT (N : Nt) (K : List (List Int)) (i : Nat) (f t s : Int) : Bool := decide (t = (i : Int) + 1) && (decide (0 ≤ f) && (decide (f ≤ (i : Int)) && (decide ((fireV N (K.getD f.toNat []) s).2 = 0) && decide ((fireV N (K.getD f.toNat []) s).1 = K.getD (i + 1) []))))
def mvOkAt (N : Nt) (K : List (List Int)) (V : List Mv) (i : Nat) : Bool := match V[i]? with
 | some x => mvT N K i x.f x.t x.s
 | none => true
theorem mvOk_get {N : Nt} {K : List (List Int)} {V : List Mv} {i : Nat} (h : i < V.length) : mvOkAt N K V i = mvT N K i V[i].f V[i].t V[i].s := by
 unfold mvOkAt; rw [List.getElem?_eq_getElem h]
def MvB (w : World) (b : Nat) (f t s : Int) : Prop := w.heap[b]? = some (.cells #[.int .i64 f, .int .i64 t, .int .i64 s] 113 (0, 0))
theorem MvB.below {w w' : World} {b : Nat} {f t s : Int} (h : MvB w b f t s) (hb : Below w.heap.size w w') : MvB w' b f t s := by
 unfold MvB; rw [hb.block b (Array.getElem?_eq_some_iff.1 h).1]; exact h
theorem MvB.cells {w : World} {b : Nat} {f t s : Int} (h : MvB w b f t s) : w.cell? ⟨b, 0, none⟩ = some (.int .i64 f) ∧ w.cell? ⟨b, 2, none⟩ = some (.int .i64 s) := by
 have h' : w.heap[b]? = _ := h;exact ⟨by simp [World.cell?, h'], by simp [World.cell?, h']⟩
def CA (w : World) (a : Addr) (v : Value) : Prop := w.cell? a = some v
theorem CA.below {w w' : World} {a : Addr} {v : Value} (h : CA w a v) (hb : Below w.heap.size w w') : CA w' a v := cell_stays hb h
theorem lin_at {w : World} {ak : Addr} {LL : List (List Int)} (h : LIn w (some ak) LL) {i : Nat} (hi : i < LL.length) : ∃ A n c, CA w (ak.add i) (.slice A n c) ∧ ZIn w A LL[i] ∧ LL[i].length = n ∧ n ≤ c ∧ c ≤ 9223372036854775807 := by
 obtain ⟨ad, e, _, u, k0, A, n, c, hu, h1, h2, h3, h4⟩ := h i hi;cases e;subst hu;exact ⟨A, n, c, k0, h1, h2, h3, h4⟩
def rowV (Z : List Int) (i : Nat) : Int := Z.getD i 0
def nearT (K : List (List Int)) (Z : List Int) (i : Nat) (t : Tr) : Bool := canT t (K.getD i []) && decide (rowV Z (lidx (isL (fireT t (K.getD i []))) K).toNat < rowV Z i)
def mrkOk (N : Nt) (K : List (List Int)) (Z : List Int) (i : Nat) : Bool := decide (lidx (isL (K.getD i [])) K = (i : Int)) && ((decide (K.getD i [] = finM N) == decide (rowV Z i = 0)) && (decide (K.getD i [] = finM N) || (N.tr.any (nearT K Z i) && !(decide (0 < (K.getD i []).getD N.snk.toNat 0)))))
def firedB (K : List (List Int)) (t : Tr) : Bool := K.any (canT t)
def sndB (N : Nt) (K : List (List Int)) (V : List Mv) (X : List (List Int)) : Bool :=
 !(K.isEmpty) && (mksX N.pl false K && (decide (K.getD 0 [] = iniM N) && (decide (V.length + 1 = K.length) && (decide (X.length = 1) && (decide ((X.headD []).length = K.length) && ((List.range V.length).all (mvOkAt N K V) && (closX N K && ((List.range K.length).all (mrkOk N K (X.headD [])) && N.tr.all (firedB K)))))))))
theorem any_step {α : Type} (f : α → Bool) {L : List α} {k : Nat} (h : k < L.length) : (L.take (k + 1)).any f = ((L.take k).any f || f L[k]) := by
 rw [List.take_succ_eq_append_getElem h, List.any_append]; simp
theorem lidx_lt (p : List Int → Bool) (K : List (List Int)) (h : 0 ≤ lidx p K) : ∃ i : Nat, lidx p K = (i : Int) ∧ i < K.length := by
 unfold lidx at h ⊢;split at h
 · omega
 · rename_i hne;rw [if_neg hne];exact ⟨_, rfl, by have := List.findIdx_le_length (p := p) (xs := K); omega⟩
theorem clos_mem {N : Nt} {K : List (List Int)} (h : closX N K = true) {s : List Int} (hs : s ∈ K) {t : Tr} (ht : t ∈ N.tr) (hc : canT t s = true) : bigM (fireT t s) = false ∧ 0 ≤ lidx (isL (fireT t s)) K := by
 unfold closX dblB at h;have h1 := List.all_eq_true.1 (List.all_eq_true.1 h s hs) t ht;unfold okX at h1;rw [hc] at h1;simp only [Bool.not_true, Bool.false_or, Bool.and_eq_true, Bool.not_eq_true'] at h1;refine ⟨h1.1, ?_⟩;have h2 := h1.2;unfold inB at h2;have := lidx_mem (fireT t s) K;unfold memB at this;have h3 : K.any (isL (fireT t s)) = true := by rw [List.any_eq_true]; exact ⟨fireT t s, by simpa using h2, by simp [isL]⟩
 rw [h3] at this;simpa using this
theorem tb_set {w : World} {b fb o : Nat} {lb : ByteArray} {Ai : Option Addr} {ni ci : Nat} {Ao : Option Addr} {no co : Nat} (h : TB w b lb Ai ni ci Ao no co) (hne : b ≠ fb) (u : Value) : TB (w.setCell ⟨fb, o, none⟩ u) b lb Ai ni ci Ao no co := by
 have hg : w.grownBy (w.setCell ⟨fb, o, none⟩ u) (some fb) := Lib.grownBy_setB (grown_refl w (some fb)) o u;have hn : some b ≠ some fb := fun e => hne (by cases e; rfl)
 exact ⟨hg.cell h.1 hn, hg.cell h.2.1 hn, hg.cell h.2.2 hn⟩
def trD : Tr := ⟨⟨#[]⟩, [], []⟩
def frd (N : Nt) (K : List (List Int)) (i j t : Nat) : Bool := (K.take i).any (canT (N.tr.getD t trD)) || (decide (t < j) && canT (N.tr.getD t trD) (K.getD i []))
def frL (N : Nt) (K : List (List Int)) (i j : Nat) : List Bool := (List.range N.tr.length).map (frd N K i j)
theorem frL_len (N : Nt) (K : List (List Int)) (i j : Nat) : (frL N K i j).length = N.tr.length := by simp [frL]
theorem frL_zero (N : Nt) (K : List (List Int)) : frL N K 0 0 = List.replicate N.tr.length false := by
 apply List.ext_getElem
 · simp [frL]
 · intro t h1 h2; simp [frL, frd]
theorem frL_no {N : Nt} {K : List (List Int)} {i j : Nat} (h : j < N.tr.length) (hc : canT N.tr[j] (K.getD i []) = false) : frL N K i (j + 1) = frL N K i j := by
 apply List.ext_getElem
 · simp [frL]
 · intro t h1 h2;simp only [frL, List.getElem_map, List.getElem_range, frd];by_cases ht : t = j
   · subst ht;have : N.tr.getD t trD = N.tr[t] := by simp [h]
     rw [this, hc]; simp
   · have : decide (t < j + 1) = decide (t < j) := by rw [Bool.eq_iff_iff]; simp; omega
     rw [this]
theorem frL_yes {N : Nt} {K : List (List Int)} {i j : Nat} (h : j < N.tr.length) (hc : canT N.tr[j] (K.getD i []) = true) : frL N K i (j + 1) = (frL N K i j).set j true := by
 apply List.ext_getElem
 · simp [frL]
 · intro t h1 h2;rw [List.getElem_set];simp only [frL, List.getElem_map, List.getElem_range, frd];by_cases ht : j = t
   · subst ht;have : N.tr.getD j trD = N.tr[j] := by simp [h]
     rw [this, hc]; simp
   · have : decide (t < j + 1) = decide (t < j) := by rw [Bool.eq_iff_iff]; simp; omega
     rw [this, if_neg ht]
theorem frL_next {N : Nt} {K : List (List Int)} {i : Nat} (h : i < K.length) : frL N K i N.tr.length = frL N K (i + 1) 0 := by
 apply List.ext_getElem
 · simp [frL]
 · intro t h1 h2;have ht : t < N.tr.length := by rw [frL_len] at h1; exact h1
   simp only [frL, List.getElem_map, List.getElem_range, frd];rw [any_step _ h];have : K.getD i [] = K[i] := by simp [h]
   rw [this, decide_eq_true ht]; simp
theorem frL_end (N : Nt) (K : List (List Int)) : noF (frL N K K.length 0) = N.tr.all (firedB K) := by
 rw [Bool.eq_iff_iff];unfold noF;rw [List.all_eq_true, List.all_eq_true];constructor
 · intro h t ht;obtain ⟨k, hk, rfl⟩ := List.getElem_of_mem ht;have := h (frd N K K.length 0 k) (List.mem_map.2 ⟨k, List.mem_range.2 hk, rfl⟩);have e : N.tr.getD k trD = N.tr[k] := by simp [hk]
   unfold frd at this;rw [e] at this;simpa [firedB] using this
 · intro h b hb;obtain ⟨k, hk, rfl⟩ := List.mem_map.1 hb;have hk' := List.mem_range.1 hk;have e : N.tr.getD k trD = N.tr[k] := by simp [hk']
   unfold frd;rw [e];have := h _ (List.getElem_mem hk');simpa [firedB] using this
theorem mrk_get {N : Nt} {K : List (List Int)} {Z : List Int} {i : Nat} (h : i < K.length) (hz : i < Z.length) : mrkOk N K Z i = (decide (lidx (isL K[i]) K = (i : Int)) && ((decide (K[i] = finM N) == decide (Z[i] = 0)) && (decide (K[i] = finM N) || (N.tr.any (nearT K Z i) && !(decide (0 < K[i].getD N.snk.toNat 0)))))) := by
 have e1 : K.getD i [] = K[i] := by simp [h]
 have e2 : rowV Z i = Z[i] := by simp [rowV, hz]
 unfold mrkOk;rw [e1, e2]
theorem near_get {K : List (List Int)} {Z : List Int} {i x : Nat} (h : i < K.length) (hz : i < Z.length) {t : Tr} (hx : lidx (isL (fireT t K[i])) K = (x : Int)) (hx2 : x < Z.length) (hc : canT t K[i] = true) : nearT K Z i t = decide (Z[x] < Z[i]) := by
 have e1 : K.getD i [] = K[i] := by simp [h]
 have e2 : rowV Z i = Z[i] := by simp [rowV, hz]
 have e3 : rowV Z x = Z[x] := by simp [rowV, hx2]
 unfold nearT;rw [e1, hc, hx, Int.toNat_natCast, e2, e3]; rfl
theorem near_no {K : List (List Int)} {Z : List Int} {i : Nat} (h : i < K.length) {t : Tr} (hc : canT t K[i] = false) : nearT K Z i t = false := by
 have e1 : K.getD i [] = K[i] := by simp [h]
 unfold nearT;rw [e1, hc]; rfl
end
end Go.Proofs.YtkhmngljpfibcaaGreatDoor
