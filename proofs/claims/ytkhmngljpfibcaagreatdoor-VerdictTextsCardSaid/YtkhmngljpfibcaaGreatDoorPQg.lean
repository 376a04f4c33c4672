/- verdict: pumps, dead: what a call returns. -/
import Derived.Test.YtkhmngljpfibcaaGreatDoorPUu
import Derived.Test.YtkhmngljpfibcaaGreatDoorPQf
namespace Go.Proofs.YtkhmngljpfibcaaGreatDoor
set_option maxRecDepth 100000
set_option maxHeartbeats 6400000
open Go.Lib (hid)
open Go.RowKit

def vpumB (N : Nt) (l p : List Int) : Bool := decide ((runI N l).2.2 = 0) && (!(p.isEmpty) && (decide ((run21 N (runI N l).1 p).2.2 = 0) && (atMost (runI N l).1 (run21 N (runI N l).1 p).1 && !(decide ((runI N l).1 = (run21 N (runI N l).1 p).1)))))
theorem vpumps_any (N : Nt) (A : Option Addr) (n c : Nat) (Al : Option Addr) (nl cl : Nat) (l : List Int) (Ap : Option Addr) (np cp : Nat) (P : List Int) (w : World) (h : NtIn w A N) (hn : N.tr.length = n) (hv : ntB N = true) (hL : ZIn w Al l) (hl : l.length = nl) (hP : ZIn w Ap P) (hp : P.length = np) :
 Calls Tryz.prog 165 #[.agg #[.int .i64 N.pl, .slice A n c, .int .i64 N.src, .int .i64 N.snk], .slice Al nl cl, .slice Ap np cp] w fun e w' => e = .returned (.bool (vpumB N l P)) ∧ Below w.heap.size w w' := by
 have HB0 := hid (below_alloc w (.cells #[.int .i64 N.pl, .slice A n c, .int .i64 N.src, .int .i64 N.snk] 24));have HNb0 := hid (NB.new w N.pl A n c N.src N.snk);have HIn0 := hid (h.below HB0.out);have HP0 := hid (hP.below HB0.out);have HPl := hid hp;have HNl := hid hn;have HV := hid hv;have hps := nt_small hv;have hn60 : n ≤ 60 := by omega
 have HRn := hid (vrun_any N A n c Al nl cl l (w.alloc (.cells #[.int .i64 N.pl, .slice A n c, .int .i64 N.src, .int .i64 N.snk] 24)) (h.below HB0.out) hn hv (hL.below HB0.out) hl);have HQ := hid (show vpumB N l P = (decide ((runI N l).2.2 = 0) && (!(P.isEmpty) && (decide ((run21 N (runI N l).1 P).2.2 = 0) && (atMost (runI N l).1 (run21 N (runI N l).1 P).1 && !(decide ((runI N l).1 = (run21 N (runI N l).1 P).1)))))) from rfl);have HMk := hid (fun (hh : (runI N l).2.2 = 0) => run21_mk hh);generalize vpumB N l P = Q at *;clear h hn hv hL hl hP hp hps;go_enter Tryz.func165, Tryz.ntmps165;go_wp2_with fail;generalize w.alloc _ = w0 at *;by_cases h0 : (runI N l).2.2 = 0
 · have HR1 := hid (vr_yes HRn.out h0);have HMx := hid (HMk.out h0);rw [decide_eq_true h0] at HQ;clear HRn HMk h0
   change Hid (mkB N (runI N l).1 = true) at HMx
   generalize (runI N l).1 = X at *;have hxl : X.length ≤ 40 := by have := mk_len HMx.out; have := nt_small HV.out; omega
   ((with_reducible refine HR1.out.mono ?_); rintro e w1 ⟨v1, rfl, hS1⟩)
   obtain ⟨A1, c1, rfl⟩ := hS1.slice;have hb1 := hS1.2;have HX1 := hid (show ZIn w1 A1 X by obtain ⟨A', c', e, hz, _⟩ := hS1.zin; cases e; exact hz);have HB1 := hid (below_then HB0.out hb1);have HNb1 := hid (HNb0.out.below hb1);have HIn1 := hid (HIn0.out.below hb1);have HP1 := hid (HP0.out.below hb1);clear HB0 HNb0 HIn0 HP0;clear hS1 hb1 HR1;by_cases hp0 : np = 0
   · have HE := hid (show P.isEmpty = true by rw [List.isEmpty_iff]; exact List.eq_nil_of_length_eq_zero (by rw [HPl.out]; exact hp0));rw [HE.out] at HQ;have q1 : ((np : Int) == 0) = true := by simp [hp0]
     clear hp0;go_wp2_with fail;go_ret;exact ⟨ret_bool (by rw [HQ.out]; rfl), HB1.out⟩
   · have HE := hid (show P.isEmpty = false by
      cases P with
      | nil => exact absurd HPl.out.symm (by simpa using hp0)
      | cons => rfl)
     rw [HE.out] at HQ;have q1 : ((np : Int) == 0) = false := by rw [beq_eq_false_iff_ne]; omega
     clear hp0;have HR2 := hid (pRun_any N A n c A1 X.length c1 X Ap np cp P w1 HIn1.out HNl.out (by omega) HX1.out rfl (by omega) HP1.out HPl.out);obtain ⟨b0, b1, b2, b3⟩ := HNb1.out.cells;by_cases h2 : (run21 N X P).2.2 = 0
     · have HR3 := hid (rv_yes HR2.out h2);have HMy := hid (run21_mk h2);rw [decide_eq_true h2] at HQ;clear HR2 h2;generalize (run21 N X P).1 = Y at *;generalize (run21 N X P).2.1 = ri at *;have hyl : Y.length ≤ 40 := by have := mk_len HMy.out; have := nt_small HV.out; omega
       have hxy : X.length ≤ Y.length := by have := mk_len HMy.out; have := mk_len HMx.out; omega
       go_wp2_with fail;((with_reducible refine HR3.out.mono ?_); rintro e w2 ⟨v2, rfl, hS2⟩)
       obtain ⟨A2, c2, rfl⟩ := hS2.slice;have hb2 := hS2.2;have HB2 := hid (below_then HB1.out hb2);have HY2 := hid (show ZIn w2 A2 Y by obtain ⟨A', c', e, hz, _⟩ := hS2.zin; cases e; exact hz);have HX2 := hid (HX1.out.below hb2);have HMo := hid (vmost_any A1 X.length c1 A2 Y.length c2 X Y w2 HX2.out rfl HY2.out rfl (by omega) (by omega));clear hS2 hb2 HR3 b0 b1 b2 b3;cases ha : atMost X Y with
       | false =>
        rw [ha] at HMo HQ;clear ha;go_wp2_with fail;((with_reducible refine HMo.out.mono ?_); rintro e w3 ⟨rfl, hb3⟩)
        have HB3 := hid (below_then HB2.out hb3);go_wp2_with fail;go_ret;exact ⟨ret_bool (by rw [HQ.out]; rfl), HB3.out⟩
       | true =>
        rw [ha] at HMo HQ;clear ha;go_wp2_with fail;((with_reducible refine HMo.out.mono ?_); rintro e w3 ⟨rfl, hb3⟩)
        have HB3 := hid (below_then HB2.out hb3);have HEq := hid (equal_any A1 X.length c1 A2 Y.length c2 X Y w3 (HX2.out.below hb3) rfl (HY2.out.below hb3) rfl (by omega) (by omega));generalize decide (X = Y) = eq at *;clear hb3;go_wp2_with fail;((with_reducible refine HEq.out.mono ?_); rintro e w4 ⟨rfl, hb4⟩)
        have HB4 := hid (below_then HB3.out hb4);go_wp2_with fail;go_ret;exact ⟨ret_bool (by rw [HQ.out]; rfl), HB4.out⟩
     · have HR3 := hid (rv_no HR2.out h2);rw [decide_eq_false h2] at HQ;have q2 : ((run21 N X P).2.2 == 0) = false := by rw [beq_eq_false_iff_ne]; exact h2
       clear HR2 h2;generalize (run21 N X P).2.2 = er at *;generalize (run21 N X P).2.1 = ri at *;go_wp2_with fail;((with_reducible refine HR3.out.mono ?_); rintro e w2 ⟨rfl, hb2⟩)
       have HB2 := hid (below_then HB1.out hb2);go_wp2_with fail;go_ret;exact ⟨ret_bool (by rw [HQ.out]; rfl), HB2.out⟩
 · have HR1 := hid (vr_no HRn.out h0);rw [decide_eq_false h0] at HQ;clear HRn HMk h0;((with_reducible refine HR1.out.mono ?_); rintro e w1 ⟨rfl, hb1⟩)
   have HB1 := hid (below_then HB0.out hb1);go_wp2_with fail;go_ret;exact ⟨ret_bool (by rw [HQ.out]; rfl), HB1.out⟩
def enAt (N : Nt) (k : Int) (s : List Int) : Bool := match N.tr[k.toNat]? with | some t => canT t s | none => false
def deadB (N : Nt) (k : Int) (K : List (List Int)) : Bool := trnB N k && (mksX N.pl true K && (covX N K && !(K.any (enAt N k))))
def DdS (w : World) (nb cb : Nat) (N : Nt) (A : Option Addr) (n c : Nat) (a0 : Value) (cn : Int) (a2 a3 a4 a5 a6 a7 : Value) : Prop := NB w nb N.pl A n c N.src N.snk ∧ CtB w cb #[a0, .int .i64 cn, a2, a3, a4, a5, a6, a7] ∧ NtIn w A N
theorem DdS.below {w w' : World} {nb cb : Nat} {N : Nt} {A : Option Addr} {n c : Nat} {a0 : Value} {cn : Int} {a2 a3 a4 a5 a6 a7 : Value} (h : DdS w nb cb N A n c a0 cn a2 a3 a4 a5 a6 a7) (hb : Below w.heap.size w w') : DdS w' nb cb N A n c a0 cn a2 a3 a4 a5 a6 a7 := ⟨h.1.below hb, h.2.1.below hb, h.2.2.below hb⟩
theorem vdead1_any (Ax : Option Addr) (nx cx : Nat) (X : List Int) (nb cb : Nat) (N : Nt) (A : Option Addr) (n c : Nat) (a0 : Value) (cn : Int) (a2 a3 a4 a5 a6 a7 : Value) (w : World) (hx : ZIn w Ax X) (hl : X.length = nx) (h : DdS w nb cb N A n c a0 cn a2 a3 a4 a5 a6 a7) (hn : N.tr.length = n) (hv : ntB N = true) (hp : (nx : Int) = N.pl) (hk : trnB N cn = true) :
 Calls Tryz.prog 171 #[.slice Ax nx cx, .pointer (some ⟨nb, 0, none⟩), .pointer (some ⟨cb, 0, none⟩)] w fun e w' => e = .returned (.bool (enAt N cn X)) ∧ Below w.heap.size w w' := by
 unfold trnB at hk;simp only [Bool.and_eq_true, decide_eq_true_eq] at hk;obtain ⟨k, rfl⟩ := Int.eq_ofNat_of_zero_le hk.1;have hk1 : k < N.tr.length := by omega
 obtain ⟨b0, b1, b2, b3⟩ := h.1.cells;obtain ⟨d0, d1, d2, d3, d4, d5, d6, d7⟩ := h.2.1.cells;obtain ⟨ad, rfl, hpt, t0, ⟨u1, t1, s1⟩, u2, t2, s2⟩ := h.2.2.1 k hk1;have HInK := hid (nt_inM hv hp _ (List.getElem_mem hk1));have HE := hid (show enAt N (k : Int) X = canT N.tr[k] X by unfold enAt; rw [Int.toNat_natCast, List.getElem?_eq_getElem hk1]);have hkn : k < n := by omega
 have hps := nt_small hv;generalize N.tr[k] = T at *;obtain ⟨lb, li, lo⟩ := T;obtain ⟨Ai, ni, ci, rfl, zi, hi1, hi2, hi3⟩ := s1;obtain ⟨Ao, no, co, rfl, zo, ho1, ho2, ho3⟩ := s2;simp only at t0 zi hi1 zo ho1 HInK;have HC := hid (enabled_verdict lb Ai Ao Ax ni ci no co nx cx li lo X w zi hi1 (by omega) hx hl HInK.out.1);have hk0 : (0 : Int) ≤ (k : Int) := by omega
 have hk2 : (k : Int) < (n : Int) := by omega
 clear hx hl h hn hv hp hk hk1 zi hi1 zo ho1 hps HInK;go_enter Tryz.func171, Tryz.ntmps171;go_wp2_with fail;((with_reducible refine HC.out.mono ?_); rintro e w1 ⟨rfl, hb1⟩)
 have HB1 := hid hb1;go_wp2_with fail;go_ret;exact ⟨ret_bool HE.out.symm, HB1.out⟩
theorem lindex_vd (A : Option Addr) (n cap : Nat) (L : List (List Int)) (w : World) (h : LIn w A L) (hn : L.length = n) (hn4 : n ≤ 9223372036854775806) (nb cb : Nat) (N : Nt) (At : Option Addr) (nt ct : Nat) (a0 : Value) (cn : Int) (a2 a3 a4 a5 a6 a7 : Value) (hnt : N.tr.length = nt) (hv : ntB N = true) (hk : trnB N cn = true) (hS : DdS w nb cb N At nt ct a0 cn a2 a3 a4 a5 a6 a7 ∧ ∀ s ∈ L, (s.length : Int) = N.pl) :
 Calls Tryz.prog 132 #[.slice A n cap, .func (.func 171) #[] #[.pointer (some ⟨nb, 0, none⟩), .pointer (some ⟨cb, 0, none⟩)]] w fun e w' => e = .returned (.int .i64 (lidx (enAt N cn) L)) ∧ Below w.heap.size w w' := by
 have H0 := hid h; clear h;have HN := hid hn; clear hn;have HSt := hid hS; clear hS;go_enter Tryz.func132, Tryz.ntmps132;go_wp2_with fail;go_loopg [8] (n) (fun g i wr => ∃ k : Nat, k + g = n ∧ i = .int .i64 k ∧ (∀ s ∈ L.take k, (enAt N cn) s = false) ∧ Below w.heap.size w wr);case atStart => exact ⟨0, by omega, rfl, by simp, Below.refl _ _⟩
 case round =>
  obtain ⟨k, hk, rfl, hno, hB⟩ := hrel;have HK := hid hk;have HNo := hid hno;have HB := hid hB;have HT := hid (H0.out.below hB);have hle : k ≤ n := by omega
  clear hk hno hB;by_cases hlt : k < n
  · have hlt' : k < L.length := by rw [HN.out]; exact hlt
    obtain ⟨ad, rfl, hp, u, c0, Ax, nx, cx, rfl, zx, hxl, hxc, hxd⟩ := HT.out k hlt';have HTk := hid (List.take_succ_eq_append_getElem hlt');have HAt := hid (lidx_at (p := (enAt N cn)) hlt');have hXm := List.getElem_mem hlt';generalize L[k] = X at *;have HX := hid (vdead1_any Ax nx cx X nb cb N At nt ct a0 cn a2 a3 a4 a5 a6 a7 wr zx hxl (HSt.out.1.below HB.out) hnt hv (by rw [← hxl]; exact HSt.out.2 X hXm) hk);clear hlt' zx hxl hXm;cases hv : (enAt N cn) X with
    | true =>
     rw [hv] at HX;have HV := hid (HAt.out hv HNo.out); clear hv;go_wp2_with fail;((with_reducible refine HX.out.mono ?_); rintro e w1 ⟨rfl, hb1⟩)
     have HB1 := hid (below_then HB.out hb1);go_wp2_with fail;go_ret;exact ⟨ret_int HV.out.symm, HB1.out⟩
    | false =>
     rw [hv] at HX;have HV := hid hv; clear hv HAt;go_wp2_with fail;((with_reducible refine HX.out.mono ?_); rintro e w1 ⟨rfl, hb1⟩)
     have HB1 := hid (below_then HB.out hb1);clear hb1;go_wp2_with fail;go_roundg (gk - 1);case measure => have := HK.out; omega
     case rel => exact ⟨k + 1, by have := HK.out; omega, by go_num, by
      rw [HTk.out]; intro s hs;rcases List.mem_append.1 hs with h1 | h1
      · exact HNo.out s h1
      · have : s = X := by simpa using h1
        rw [this]; exact HV.out, HB1.out⟩
  · have HV := hid (show lidx (enAt N cn) L = -1 from lidx_no (by have := HNo.out; rwa [List.take_of_length_le (by rw [HN.out]; omega)] at this));go_wp2_with fail;go_ret;exact ⟨ret_int HV.out.symm, HB.out⟩
theorem lcont_vd (A : Option Addr) (n cap : Nat) (L : List (List Int)) (w : World) (h : LIn w A L) (hn : L.length = n) (hn4 : n ≤ 9223372036854775806) (nb cb : Nat) (N : Nt) (At : Option Addr) (nt ct : Nat) (a0 : Value) (cn : Int) (a2 a3 a4 a5 a6 a7 : Value) (hnt : N.tr.length = nt) (hv : ntB N = true) (hk : trnB N cn = true) (hS : DdS w nb cb N At nt ct a0 cn a2 a3 a4 a5 a6 a7 ∧ ∀ s ∈ L, (s.length : Int) = N.pl) :
 Calls Tryz.prog 63 #[.slice A n cap, .func (.func 171) #[] #[.pointer (some ⟨nb, 0, none⟩), .pointer (some ⟨cb, 0, none⟩)]] w fun e w' => e = .returned (.bool (L.any (enAt N cn))) ∧ Below w.heap.size w w' := by
 have HI := hid (lindex_vd A n cap L w h hn hn4 nb cb N At nt ct a0 cn a2 a3 a4 a5 a6 a7 hnt hv hk hS);have HE := hid (lidx_any (enAt N cn) L);clear h hn hS;generalize lidx (enAt N cn) L = r at HI HE;go_enter Tryz.func63, Tryz.ntmps63;go_wp2_with fail;((with_reducible refine HI.out.mono ?_); rintro e w1 ⟨rfl, hb1⟩)
 have HB1 := hid hb1;go_wp2_with fail;go_ret;exact ⟨ret_bool HE.out, HB1.out⟩
theorem vdead_any (N : Nt) (A : Option Addr) (n c : Nat) (cl cn : Int) (Ar : Option Addr) (nr cr : Nat) (R : List Int) (Ap : Option Addr) (np cp : Nat) (P : List Int) (Ak : Option Addr) (nk ck : Nat) (K : List (List Int)) (Av : Option Addr) (nv cv : Nat) (V : List Mv) (As : Option Addr) (ns cs : Nat) (S : List (List Int)) (Aw : Option Addr) (nw cw : Nat) (X : List (List Int)) (w : World) (h : NtIn w A N) (hn : N.tr.length = n) (hv : ntB N = true) (hC : CfM w Ar nr R Ap np P Ak nk K Av nv V As ns S Aw nw X) :
 Calls Tryz.prog 99 #[.agg #[.int .i64 N.pl, .slice A n c, .int .i64 N.src, .int .i64 N.snk], .agg #[.int .i64 cl, .int .i64 cn, .slice Ar nr cr, .slice Ap np cp, .slice Ak nk ck, .slice Av nv cv, .slice As ns cs, .slice Aw nw cw]] w fun e w' => e = .returned (.bool (deadB N cn K)) ∧ Below w.heap.size w w' := by
 have HB0 := hid (two_boxes w (.cells #[.int .i64 N.pl, .slice A n c, .int .i64 N.src, .int .i64 N.snk] 24) (.cells #[.int .i64 cl, .int .i64 cn, .slice Ar nr cr, .slice Ap np cp, .slice Ak nk ck, .slice Av nv cv, .slice As ns cs, .slice Aw nw cw] 31));have HNb0 := hid ((NB.new w N.pl A n c N.src N.snk).below (below_alloc _ (.cells #[.int .i64 cl, .int .i64 cn, .slice Ar nr cr, .slice Ap np cp, .slice Ak nk ck, .slice Av nv cv, .slice As ns cs, .slice Aw nw cw] 31)));have hcb := heap_alloc_new (w.alloc (.cells #[.int .i64 N.pl, .slice A n c, .int .i64 N.src, .int .i64 N.snk] 24)) (.cells #[.int .i64 cl, .int .i64 cn, .slice Ar nr cr, .slice Ap np cp, .slice Ak nk ck, .slice Av nv cv, .slice As ns cs, .slice Aw nw cw] 31);rw [World.size_alloc] at hcb;have HCb0 := hid (show CtB _ (w.heap.size + 1) #[.int .i64 cl, .int .i64 cn, .slice Ar nr cr, .slice Ap np cp, .slice Ak nk ck, .slice Av nv cv, .slice As ns cs, .slice Aw nw cw] from hcb);have HIn0 := hid (h.below HB0.out);have HC0 := hid (hC.below HB0.out);have HNl := hid hn;have HV := hid hv;have hps := nt_small hv;have hn60 : n ≤ 60 := by omega
 have HQ := hid (show deadB N cn K = (trnB N cn && (mksX N.pl true K && (covX N K && !(K.any (enAt N cn))))) from rfl);generalize deadB N cn K = Q at *;clear h hn hv hC hps hcb;go_enter Tryz.func99, Tryz.ntmps99;go_wp2_with fail;generalize (w.alloc (.cells #[.int .i64 N.pl, .slice A n c, .int .i64 N.src, .int .i64 N.snk] 24)).alloc (.cells #[.int .i64 cl, .int .i64 cn, .slice Ar nr cr, .slice Ap np cp, .slice Ak nk ck, .slice Av nv cv, .slice As ns cs, .slice Aw nw cw] 31) = w0 at *;generalize w.heap.size + 1 = cb at *;obtain ⟨b0, b1, b2, b3⟩ := HNb0.out.cells;obtain ⟨d0, d1, d2, d3, d4, d5, d6, d7⟩ := HCb0.out.cells;have HTr := hid (vtrans_any N A n c cn w0 HNl.out);go_wp2_with fail;((with_reducible refine HTr.out.mono ?_); rintro e w1 ⟨rfl, hb1⟩)
 have HB1 := hid (below_then HB0.out hb1);have HNb1 := hid (HNb0.out.below hb1);have HCb1 := hid (HCb0.out.below hb1);have HIn1 := hid (HIn0.out.below hb1);have HC1 := hid (HC0.out.below hb1);clear HB0 HNb0 HCb0 HIn0 HC0;clear b0 b1 b2 b3 d0 d1 d2 d3 d4 d5 d6 d7;clear hb1 HTr;cases ht : trnB N cn with
 | false =>
  rw [ht] at HQ;go_wp2_with fail;go_ret;exact ⟨ret_bool (by rw [HQ.out]; rfl), HB1.out⟩
 | true =>
  rw [ht] at HQ;have HMs := hid (vmarkings_any N.pl A n c N.src N.snk Ak nk ck K true w1 HC1.out.k HC1.out.kl HC1.out.kb);obtain ⟨b0, b1, b2, b3⟩ := HNb1.out.cells;obtain ⟨d0, d1, d2, d3, d4, d5, d6, d7⟩ := HCb1.out.cells;go_wp2_with fail;((with_reducible refine HMs.out.mono ?_); rintro e w2 ⟨rfl, hb2⟩)
  have HB2 := hid (below_then HB1.out hb2);have HNb2 := hid (HNb1.out.below hb2);have HCb2 := hid (HCb1.out.below hb2);have HIn2 := hid (HIn1.out.below hb2);have HC2 := hid (HC1.out.below hb2);clear HB1 HNb1 HCb1 HIn1 HC1;clear b0 b1 b2 b3 d0 d1 d2 d3 d4 d5 d6 d7;clear hb2 HMs;cases hm : mksX N.pl true K with
  | false =>
   rw [hm] at HQ;go_wp2_with fail;go_ret;exact ⟨ret_bool (by rw [HQ.out]; rfl), HB2.out⟩
  | true =>
   rw [hm] at HQ;have HAll := hid (show ∀ s ∈ K, mkX N.pl true s = true from List.all_eq_true.1 hm);have HCv := hid (vcovers_any N A n c Ak nk ck K w2 HIn2.out HNl.out HV.out HC2.out.k HC2.out.kl HC2.out.kb HAll.out);obtain ⟨b0, b1, b2, b3⟩ := HNb2.out.cells;obtain ⟨d0, d1, d2, d3, d4, d5, d6, d7⟩ := HCb2.out.cells;go_wp2_with fail;((with_reducible refine HCv.out.mono ?_); rintro e w3 ⟨rfl, hb3⟩)
   have HB3 := hid (below_then HB2.out hb3);have HNb3 := hid (HNb2.out.below hb3);have HCb3 := hid (HCb2.out.below hb3);have HIn3 := hid (HIn2.out.below hb3);have HC3 := hid (HC2.out.below hb3);clear HB2 HNb2 HCb2 HIn2 HC2;clear b0 b1 b2 b3 d0 d1 d2 d3 d4 d5 d6 d7;clear hb3 HCv;cases hc : covX N K with
   | false =>
    rw [hc] at HQ;go_wp2_with fail;go_ret;exact ⟨ret_bool (by rw [HQ.out]; rfl), HB3.out⟩
   | true =>
    rw [hc] at HQ;have HCt := hid (lcont_vd Ak nk ck K w3 HC3.out.k HC3.out.kl HC3.out.kb w.heap.size cb N A n c _ cn _ _ _ _ _ _ HNl.out HV.out ht ⟨⟨HNb3.out, HCb3.out, HIn3.out⟩, fun s hs => mkX_len (HAll.out s hs)⟩);clear ht hm hc;generalize K.any (enAt N cn) = an at *;obtain ⟨b0, b1, b2, b3⟩ := HNb3.out.cells;obtain ⟨d0, d1, d2, d3, d4, d5, d6, d7⟩ := HCb3.out.cells;go_wp2_with fail;((with_reducible refine HCt.out.mono ?_); rintro e w4 ⟨rfl, hb4⟩)
    have HB4 := hid (below_then HB3.out hb4);clear b0 b1 b2 b3 d0 d1 d2 d3 d4 d5 d6 d7;go_wp2_with fail;go_ret;exact ⟨ret_bool (by rw [HQ.out]; rfl), HB4.out⟩
end Go.Proofs.YtkhmngljpfibcaaGreatDoor
