/- Check of references 28 and 29: what a call returns. -/
import Derived.Test.YtpnhcimmlnjfaaaGreatDoorUt
import Derived.Test.YtpnhcimmlnjfaaaGreatDoorYl
import Derived.Test.YtpnhcimmlnjfaaaGreatDoorYj
namespace Go.Proofs.YtpnhcimmlnjfaaaGreatDoor
open Go.Lib (hid)
open Go.RowKit

theorem mks_len {N : Nt} {K : List (List Int)} {nk : Nat} (h : K.length = nk) (h2 : nk ≤ 2000) (ext : Bool) : (decide (K.length ≤ 2000) && mksX N.pl ext K) = mksX N.pl ext K := by
 rw [decide_eq_true (show K.length ≤ 2000 by omega), Bool.true_and]
theorem snd_mk {N : Nt} {K : List (List Int)} {V : List Mv} {X : List (List Int)} (h : mksX N.pl false K = false) : sndB N K V X = false := by
 unfold sndB; rw [h]; simp
set_option maxHeartbeats 25600000 in
set_option maxRecDepth 100000 in
theorem check28_any (N : Nt) (A : Option Addr) (n c : Nat) (cl cn : Int) (Ar : Option Addr) (nr cr : Nat) (R : List Int) (Ap : Option Addr) (np cp : Nat) (P : List Int) (Ak : Option Addr) (nk ck : Nat) (K : List (List Int)) (Av : Option Addr) (nv cv : Nat) (V : List Mv) (As : Option Addr) (ns cs : Nat) (S : List (List Int)) (Aw : Option Addr) (nw cw : Nat) (X : List (List Int)) (w : World) (h : NtIn w A N) (hn : N.tr.length = n) (hv : ntB N = true) (hC : CfM w Ar nr R Ap np P Ak nk K Av nv V As ns S Aw nw X) (hk2 : nk ≤ 2000) (hI6' : ∀ I ∈ S, ∀ ni : Nat, I.length = ni → ni ≤ 1000) (hc56 : cl ≠ 5 ∧ cl ≠ 6) :
 Calls Tryz.prog 33 #[.agg #[.int .i64 N.pl, .slice A n c, .int .i64 N.src, .int .i64 N.snk], .agg #[.int .i64 cl, .int .i64 cn, .slice Ar nr cr, .slice Ap np cp, .slice Ak nk ck, .slice Av nv cv, .slice As ns cs, .slice Aw nw cw]] w (VcPo (ClmP N cl cn R P K V S X) w) := by
 have HB0 := hid (two_boxes w (.cells #[.int .i64 N.pl, .slice A n c, .int .i64 N.src, .int .i64 N.snk] 24) (.cells #[.int .i64 cl, .int .i64 cn, .slice Ar nr cr, .slice Ap np cp, .slice Ak nk ck, .slice Av nv cv, .slice As ns cs, .slice Aw nw cw] 29))
 have HNb0 := hid ((NB.new w N.pl A n c N.src N.snk).below (below_alloc _ (.cells #[.int .i64 cl, .int .i64 cn, .slice Ar nr cr, .slice Ap np cp, .slice Ak nk ck, .slice Av nv cv, .slice As ns cs, .slice Aw nw cw] 29)))
 have hcb := heap_alloc_new (w.alloc (.cells #[.int .i64 N.pl, .slice A n c, .int .i64 N.src, .int .i64 N.snk] 24)) (.cells #[.int .i64 cl, .int .i64 cn, .slice Ar nr cr, .slice Ap np cp, .slice Ak nk ck, .slice Av nv cv, .slice As ns cs, .slice Aw nw cw] 29)
 rw [World.size_alloc] at hcb
 have HCb0 := hid (show CtB _ (w.heap.size + 1) #[.int .i64 cl, .int .i64 cn, .slice Ar nr cr, .slice Ap np cp, .slice Ak nk ck, .slice Av nv cv, .slice As ns cs, .slice Aw nw cw] from hcb)
 have HIn0 := hid (h.below HB0.out)
 have HC0 := hid (hC.below HB0.out)
 have HNl := hid hn
 have HV := hid hv
 have hps := nt_small hv
 have hn60 : n ≤ 60 := by omega
 have hI6 := hid hI6'
 have HWk := hid (workflow21_any N A n c _ HIn0.out hn (by omega))
 have hpl1 : 1 ≤ N.pl := hps.1
 have hpl40 : N.pl ≤ 40 := hps.2.1
 clear h hn hv hC hps hcb hI6'
 go_enter Tryz.func33, Tryz.ntmps33
 go_wp2_with fail
 generalize (w.alloc (.cells #[.int .i64 N.pl, .slice A n c, .int .i64 N.src, .int .i64 N.snk] 24)).alloc (.cells #[.int .i64 cl, .int .i64 cn, .slice Ar nr cr, .slice Ap np cp, .slice Ak nk ck, .slice Av nv cv, .slice As ns cs, .slice Aw nw cw] 29) = w0 at *
 generalize w.heap.size + 1 = cb at *
 ((with_reducible refine HWk.out.mono ?_); rintro e w1 ⟨⟨q, rfl, hq⟩, hb1⟩)
 have HB1 := hid (HB0.out.trans (hb1.mono HB0.out.size))
 have HNb1 := hid (HNb0.out.below hb1)
 have HCb1 := hid (HCb0.out.below hb1)
 have HIn1 := hid (HIn0.out.below hb1)
 have HC1 := hid (HC0.out.below hb1)
 clear HB0 HNb0 HCb0 HIn0 HC0
 have HQ := hid (show q = true ↔ wfP N from hq.trans ⟨fun hh => hh.2, fun hh => ⟨HV.out, hh⟩⟩)
 clear hq hb1 HWk
 by_cases hc1 : cl = 1
 · subst hc1
   cases q with
   | false =>
    have HN := hid (clm_no (cn := cn) (R := R) (P := P) (K := K) (V := V) (S := S) (X := X) (fun hh => by have := HQ.out.2 hh; cases this) (show (1 : Int) ≤ 1 by omega) (show (1 : Int) ≤ 4 by omega))
    obtain ⟨b0, b1, b2, b3⟩ := HNb1.out.cells
    obtain ⟨d0, d1, d2, d3, d4, d5, d6, d7⟩ := HCb1.out.cells
    go_wp2_with fail
    go_ret
    exact VcPo.no HN.out HB1.out
   | true =>
    have HWf := hid (HQ.out.1 rfl)
    have HMs := hid (mks28_any N A n c Ak nk ck K false w1 hpl1 (by omega) HC1.out.k HC1.out.kl HC1.out.kb)
    rw [mks_len HC1.out.kl hk2 false] at HMs
    cases hm : mksX N.pl false K with
    | false =>
     rw [hm] at HMs
     have HN := hid (show ¬ ClmP N 1 cn R P K V S X by rw [(clm_at (cn := cn) (R := R) (P := P) (K := K) (V := V) (S := S) (X := X) HWf.out).1, snd_mk hm]; simp)
     clear hm
     obtain ⟨b0, b1, b2, b3⟩ := HNb1.out.cells
     obtain ⟨d0, d1, d2, d3, d4, d5, d6, d7⟩ := HCb1.out.cells
     go_wp2_with fail
     ((with_reducible refine (HMs.out).mono ?_); rintro e w2 ⟨rfl, hb2⟩)
     have HB2 := hid (HB1.out.trans (hb2.mono HB1.out.size))
     have HNb2 := hid (HNb1.out.below hb2)
     have HCb2 := hid (HCb1.out.below hb2)
     have HIn2 := hid (HIn1.out.below hb2)
     have HC2 := hid (HC1.out.below hb2)
     clear HB1 HNb1 HCb1 HIn1 HC1
     clear hb2 b0 b1 b2 b3 d0 d1 d2 d3 d4 d5 d6 d7
     obtain ⟨b0, b1, b2, b3⟩ := HNb2.out.cells
     obtain ⟨d0, d1, d2, d3, d4, d5, d6, d7⟩ := HCb2.out.cells
     go_wp2_with fail
     go_ret
     exact VcPo.no HN.out HB2.out
    | true =>
     rw [hm] at HMs
     have HMk := hid hm
     have HEq := hid (snd_eq (V := V) (X := X) hm)
     clear hm
     obtain ⟨b0, b1, b2, b3⟩ := HNb1.out.cells
     obtain ⟨d0, d1, d2, d3, d4, d5, d6, d7⟩ := HCb1.out.cells
     go_wp2_with fail
     ((with_reducible refine (HMs.out).mono ?_); rintro e w2 ⟨rfl, hb2⟩)
     have HB2 := hid (HB1.out.trans (hb2.mono HB1.out.size))
     have HNb2 := hid (HNb1.out.below hb2)
     have HCb2 := hid (HCb1.out.below hb2)
     have HIn2 := hid (HIn1.out.below hb2)
     have HC2 := hid (HC1.out.below hb2)
     clear HB1 HNb1 HCb1 HIn1 HC1
     clear hb2 b0 b1 b2 b3 d0 d1 d2 d3 d4 d5 d6 d7
     have HSn := hid (sound28_any N A n c 1 cn Ar nr cr R Ap np cp P Ak nk ck K Av nv cv V As ns cs S Aw nw cw X w2 HIn2.out HNl.out HV.out HC2.out HMk.out)
     rw [HEq.out] at HSn
     obtain ⟨b0, b1, b2, b3⟩ := HNb2.out.cells
     obtain ⟨d0, d1, d2, d3, d4, d5, d6, d7⟩ := HCb2.out.cells
     go_wp2_with fail
     ((with_reducible refine (HSn.out).mono ?_); rintro e w3 ⟨rfl, hb3⟩)
     have HB3 := hid (HB2.out.trans (hb3.mono HB2.out.size))
     clear hb3 b0 b1 b2 b3 d0 d1 d2 d3 d4 d5 d6 d7
     go_wp2_with fail
     go_ret
     exact VcPo.is ((clm_at (cn := cn) (R := R) (P := P) (K := K) (V := V) (S := S) (X := X) HWf.out).1.symm) HB3.out
 have q1 : (cl == 1) = false := by rw [beq_eq_false_iff_ne]; exact hc1
 by_cases hc2 : cl = 2
 · subst hc2
   cases q with
   | false =>
    have HN := hid (clm_no (cn := cn) (R := R) (P := P) (K := K) (V := V) (S := S) (X := X) (fun hh => by have := HQ.out.2 hh; cases this) (show (1 : Int) ≤ 2 by omega) (show (2 : Int) ≤ 4 by omega))
    obtain ⟨b0, b1, b2, b3⟩ := HNb1.out.cells
    obtain ⟨d0, d1, d2, d3, d4, d5, d6, d7⟩ := HCb1.out.cells
    go_wp2_with fail
    go_ret
    exact VcPo.no HN.out HB1.out
   | true =>
    have HWf := hid (HQ.out.1 rfl)
    have HX := hid (unsound28_any N A n c 2 cn Ar nr cr R Ap np cp P Ak nk ck K Av nv cv V As ns cs S Aw nw cw X w1 HIn1.out HNl.out HV.out HC1.out hk2)
    rw [uns_eq] at HX
    obtain ⟨b0, b1, b2, b3⟩ := HNb1.out.cells
    obtain ⟨d0, d1, d2, d3, d4, d5, d6, d7⟩ := HCb1.out.cells
    go_wp2_with fail
    ((with_reducible refine (HX.out).mono ?_); rintro e w2 ⟨rfl, hb2⟩)
    have HB2 := hid (HB1.out.trans (hb2.mono HB1.out.size))
    clear hb2 b0 b1 b2 b3 d0 d1 d2 d3 d4 d5 d6 d7
    go_wp2_with fail
    go_ret
    exact VcPo.is ((clm_at (cn := cn) (R := R) (P := P) (K := K) (V := V) (S := S) (X := X) HWf.out).2.1.symm) HB2.out
 have q2 : (cl == 2) = false := by rw [beq_eq_false_iff_ne]; exact hc2
 by_cases hc3 : cl = 3
 · subst hc3
   cases q with
   | false =>
    have HN := hid (clm_no (cn := cn) (R := R) (P := P) (K := K) (V := V) (S := S) (X := X) (fun hh => by have := HQ.out.2 hh; cases this) (show (1 : Int) ≤ 3 by omega) (show (3 : Int) ≤ 4 by omega))
    obtain ⟨b0, b1, b2, b3⟩ := HNb1.out.cells
    obtain ⟨d0, d1, d2, d3, d4, d5, d6, d7⟩ := HCb1.out.cells
    go_wp2_with fail
    go_ret
    exact VcPo.no HN.out HB1.out
   | true =>
    have HWf := hid (HQ.out.1 rfl)
    have HX := hid (relaxed28_any N A n c 3 cn Ar nr cr R Ap np cp P Ak nk ck K Av nv cv V As ns cs S Aw nw cw X w1 HIn1.out HNl.out HV.out HC1.out)
    obtain ⟨b0, b1, b2, b3⟩ := HNb1.out.cells
    obtain ⟨d0, d1, d2, d3, d4, d5, d6, d7⟩ := HCb1.out.cells
    go_wp2_with fail
    ((with_reducible refine (HX.out).mono ?_); rintro e w2 ⟨rfl, hb2⟩)
    have HB2 := hid (HB1.out.trans (hb2.mono HB1.out.size))
    clear hb2 b0 b1 b2 b3 d0 d1 d2 d3 d4 d5 d6 d7
    go_wp2_with fail
    go_ret
    exact VcPo.is ((clm_at (cn := cn) (R := R) (P := P) (K := K) (V := V) (S := S) (X := X) HWf.out).2.2.1.symm) HB2.out
 have q3 : (cl == 3) = false := by rw [beq_eq_false_iff_ne]; exact hc3
 by_cases hc4 : cl = 4
 · subst hc4
   cases q with
   | false =>
    have HN := hid (clm_no (cn := cn) (R := R) (P := P) (K := K) (V := V) (S := S) (X := X) (fun hh => by have := HQ.out.2 hh; cases this) (show (1 : Int) ≤ 4 by omega) (show (4 : Int) ≤ 4 by omega))
    obtain ⟨b0, b1, b2, b3⟩ := HNb1.out.cells
    obtain ⟨d0, d1, d2, d3, d4, d5, d6, d7⟩ := HCb1.out.cells
    go_wp2_with fail
    go_ret
    exact VcPo.no HN.out HB1.out
   | true =>
    have HWf := hid (HQ.out.1 rfl)
    have HX := hid (notRelaxed28_any N A n c 4 cn Ar nr cr R Ap np cp P Ak nk ck K Av nv cv V As ns cs S Aw nw cw X w1 HIn1.out HNl.out HV.out HC1.out hk2 hI6.out)
    rw [nrl_eq] at HX
    obtain ⟨b0, b1, b2, b3⟩ := HNb1.out.cells
    obtain ⟨d0, d1, d2, d3, d4, d5, d6, d7⟩ := HCb1.out.cells
    go_wp2_with fail
    ((with_reducible refine (HX.out).mono ?_); rintro e w2 ⟨rfl, hb2⟩)
    have HB2 := hid (HB1.out.trans (hb2.mono HB1.out.size))
    clear hb2 b0 b1 b2 b3 d0 d1 d2 d3 d4 d5 d6 d7
    go_wp2_with fail
    go_ret
    exact VcPo.is ((clm_at (cn := cn) (R := R) (P := P) (K := K) (V := V) (S := S) (X := X) HWf.out).2.2.2.symm) HB2.out
 have q4 : (cl == 4) = false := by rw [beq_eq_false_iff_ne]; exact hc4
 by_cases hc7 : cl = 7
 · subst hc7
   have HMs := hid (mks28_any N A n c Ak nk ck K true w1 hpl1 (by omega) HC1.out.k HC1.out.kl HC1.out.kb)
   rw [mks_len HC1.out.kl hk2 true] at HMs
   have HEq := hid (dead_eq N cn K)
   cases hm : mksX N.pl true K with
   | false =>
    rw [hm] at HMs HEq
    have HN := hid (show ¬ ClmP N 7 cn R P K V S X by rw [(clm_up (N := N) (cn := cn) (R := R) (P := P) (K := K) (V := V) (S := S) (X := X)).2.2.1, ← HEq.out]; simp)
    clear hm
    obtain ⟨b0, b1, b2, b3⟩ := HNb1.out.cells
    obtain ⟨d0, d1, d2, d3, d4, d5, d6, d7⟩ := HCb1.out.cells
    go_wp2_with fail
    ((with_reducible refine (HMs.out).mono ?_); rintro e w2 ⟨rfl, hb2⟩)
    have HB2 := hid (HB1.out.trans (hb2.mono HB1.out.size))
    have HNb2 := hid (HNb1.out.below hb2)
    have HCb2 := hid (HCb1.out.below hb2)
    have HIn2 := hid (HIn1.out.below hb2)
    have HC2 := hid (HC1.out.below hb2)
    clear HB1 HNb1 HCb1 HIn1 HC1
    clear hb2 b0 b1 b2 b3 d0 d1 d2 d3 d4 d5 d6 d7
    obtain ⟨b0, b1, b2, b3⟩ := HNb2.out.cells
    obtain ⟨d0, d1, d2, d3, d4, d5, d6, d7⟩ := HCb2.out.cells
    go_wp2_with fail
    go_ret
    exact VcPo.no HN.out HB2.out
   | true =>
    rw [hm] at HMs
    rw [hm, Bool.true_and] at HEq
    have HAl := hid (show ∀ s ∈ K, mkX N.pl true s = true from List.all_eq_true.1 hm)
    clear hm
    obtain ⟨b0, b1, b2, b3⟩ := HNb1.out.cells
    obtain ⟨d0, d1, d2, d3, d4, d5, d6, d7⟩ := HCb1.out.cells
    go_wp2_with fail
    ((with_reducible refine (HMs.out).mono ?_); rintro e w2 ⟨rfl, hb2⟩)
    have HB2 := hid (HB1.out.trans (hb2.mono HB1.out.size))
    have HNb2 := hid (HNb1.out.below hb2)
    have HCb2 := hid (HCb1.out.below hb2)
    have HIn2 := hid (HIn1.out.below hb2)
    have HC2 := hid (HC1.out.below hb2)
    clear HB1 HNb1 HCb1 HIn1 HC1
    clear hb2 b0 b1 b2 b3 d0 d1 d2 d3 d4 d5 d6 d7
    have HCv := hid (covers28_any N A n c Ak nk ck K w2 HIn2.out HNl.out HV.out HC2.out.k HC2.out.kl HC2.out.kb HAl.out)
    cases hcv : covX N K with
    | false =>
     rw [hcv] at HCv HEq
     have HN := hid (show ¬ ClmP N 7 cn R P K V S X by rw [(clm_up (N := N) (cn := cn) (R := R) (P := P) (K := K) (V := V) (S := S) (X := X)).2.2.1, ← HEq.out]; simp)
     clear hcv
     obtain ⟨b0, b1, b2, b3⟩ := HNb2.out.cells
     obtain ⟨d0, d1, d2, d3, d4, d5, d6, d7⟩ := HCb2.out.cells
     go_wp2_with fail
     ((with_reducible refine (HCv.out).mono ?_); rintro e w3 ⟨rfl, hb3⟩)
     have HB3 := hid (HB2.out.trans (hb3.mono HB2.out.size))
     have HNb3 := hid (HNb2.out.below hb3)
     have HCb3 := hid (HCb2.out.below hb3)
     have HIn3 := hid (HIn2.out.below hb3)
     have HC3 := hid (HC2.out.below hb3)
     clear HB2 HNb2 HCb2 HIn2 HC2
     clear hb3 b0 b1 b2 b3 d0 d1 d2 d3 d4 d5 d6 d7
     obtain ⟨b0, b1, b2, b3⟩ := HNb3.out.cells
     obtain ⟨d0, d1, d2, d3, d4, d5, d6, d7⟩ := HCb3.out.cells
     go_wp2_with fail
     go_ret
     exact VcPo.no HN.out HB3.out
    | true =>
     rw [hcv] at HCv
     rw [hcv, Bool.true_and] at HEq
     clear hcv
     obtain ⟨b0, b1, b2, b3⟩ := HNb2.out.cells
     obtain ⟨d0, d1, d2, d3, d4, d5, d6, d7⟩ := HCb2.out.cells
     go_wp2_with fail
     ((with_reducible refine (HCv.out).mono ?_); rintro e w3 ⟨rfl, hb3⟩)
     have HB3 := hid (HB2.out.trans (hb3.mono HB2.out.size))
     have HNb3 := hid (HNb2.out.below hb3)
     have HCb3 := hid (HCb2.out.below hb3)
     have HIn3 := hid (HIn2.out.below hb3)
     have HC3 := hid (HC2.out.below hb3)
     clear HB2 HNb2 HCb2 HIn2 HC2
     clear hb3 b0 b1 b2 b3 d0 d1 d2 d3 d4 d5 d6 d7
     have HNv := hid (never28_any N A n c Ak nk ck K cn w3 HIn3.out HNl.out HV.out HC3.out.k HC3.out.kl HC3.out.kb (fun s hs => mkX_len (HAl.out s hs)))
     rw [HEq.out] at HNv
     obtain ⟨b0, b1, b2, b3⟩ := HNb3.out.cells
     obtain ⟨d0, d1, d2, d3, d4, d5, d6, d7⟩ := HCb3.out.cells
     go_wp2_with fail
     ((with_reducible refine (HNv.out).mono ?_); rintro e w4 ⟨rfl, hb4⟩)
     have HB4 := hid (HB3.out.trans (hb4.mono HB3.out.size))
     clear hb4 b0 b1 b2 b3 d0 d1 d2 d3 d4 d5 d6 d7
     go_wp2_with fail
     go_ret
     exact VcPo.is ((clm_up (N := N) (cn := cn) (R := R) (P := P) (K := K) (V := V) (S := S) (X := X)).2.2.1.symm) HB4.out
 have q7 : (cl == 7) = false := by rw [beq_eq_false_iff_ne]; exact hc7
 by_cases hc8 : cl = 8
 · subst hc8
   by_cases hr : (runI N R).2.2 = 0
   rotate_left
   · have HNd := hid (show ndB N cn R = false by unfold ndB; rw [decide_eq_false hr]; rfl)
     obtain ⟨b0, b1, b2, b3⟩ := HNb1.out.cells
     obtain ⟨d0, d1, d2, d3, d4, d5, d6, d7⟩ := HCb1.out.cells
     go_wp2_with fail
     clear b0 b1 b2 b3 d0 d1 d2 d3 d4 d5 d6 d7
     obtain ⟨b0, b1, b2, b3⟩ := HNb1.out.cells
     obtain ⟨d0, d1, d2, d3, d4, d5, d6, d7⟩ := HCb1.out.cells
     have hbd : Below w1.heap.size w1 w1.drew := (Below.refl _ _).drew
     have HB2 := hid (HB1.out.trans (hbd.mono HB1.out.size))
     have HNb2 := hid (HNb1.out.below hbd)
     have HCb2 := hid (HCb1.out.below hbd)
     have HIn2 := hid (HIn1.out.below hbd)
     have HC2 := hid (HC1.out.below hbd)
     have hS0 := And.intro (cell_stays hbd b0) (And.intro (cell_stays hbd b1) (And.intro (cell_stays hbd b2) (And.intro (cell_stays hbd b3) (And.intro (cell_stays hbd d0) (And.intro (cell_stays hbd d1) (And.intro (cell_stays hbd d2) (And.intro (cell_stays hbd d3) (And.intro (cell_stays hbd d4) (And.intro (cell_stays hbd d5) (And.intro (cell_stays hbd d6) ((cell_stays hbd d7))))))))))))
     refine wp_region_held_drew (S := fun w' => w'.cell? ⟨w.heap.size, 0, none⟩ = some (.int .i64 N.pl) ∧ w'.cell? ⟨w.heap.size, 1, none⟩ = some (.slice A n c) ∧ w'.cell? ⟨w.heap.size, 2, none⟩ = some (.int .i64 N.src) ∧ w'.cell? ⟨w.heap.size, 3, none⟩ = some (.int .i64 N.snk) ∧ w'.cell? ⟨cb, 0, none⟩ = some (.int .i64 8) ∧ w'.cell? ⟨cb, 1, none⟩ = some (.int .i64 cn) ∧ w'.cell? ⟨cb, 2, none⟩ = some (.slice Ar nr cr) ∧ w'.cell? ⟨cb, 3, none⟩ = some (.slice Ap np cp) ∧ w'.cell? ⟨cb, 4, none⟩ = some (.slice Ak nk ck) ∧ w'.cell? ⟨cb, 5, none⟩ = some (.slice Av nv cv) ∧ w'.cell? ⟨cb, 6, none⟩ = some (.slice As ns cs) ∧ w'.cell? ⟨cb, 7, none⟩ = some (.slice Aw nw cw)) (by kernel_rfl) hS0 (fun hHeld => ?_)
     clear hS0 hbd b0 b1 b2 b3 d0 d1 d2 d3 d4 d5 d6 d7
     clear HB1 HNb1 HCb1 HIn1 HC1
     generalize w1.drew = w2 at *
     refine tkH 0 ?_; try go_simp
     refine tkH 1 ?_; try go_simp
     refine tkH 3 ?_; try go_simp
     refine tkH 4 ?_; try go_simp
     refine tkR 2 (fun K9 hK => ?_)
     go_simp
     ((refine (ini28_any N A n c HV.out w2).mono ?_); rintro e w3 ⟨v3, rfl, hS3⟩)
     obtain ⟨A3, c3, rfl⟩ := hS3.slice
     have hb3 := hS3.2
     have hS9 := hHeld
     refine hK.out _ _ ⟨cell_stays hb3 hS9.1, cell_stays hb3 hS9.2.1, cell_stays hb3 hS9.2.2.1, cell_stays hb3 hS9.2.2.2.1, cell_stays hb3 hS9.2.2.2.2.1, cell_stays hb3 hS9.2.2.2.2.2.1, cell_stays hb3 hS9.2.2.2.2.2.2.1, cell_stays hb3 hS9.2.2.2.2.2.2.2.1, cell_stays hb3 hS9.2.2.2.2.2.2.2.2.1, cell_stays hb3 hS9.2.2.2.2.2.2.2.2.2.1, cell_stays hb3 hS9.2.2.2.2.2.2.2.2.2.2.1, cell_stays hb3 hS9.2.2.2.2.2.2.2.2.2.2.2⟩ (fun hHeld => ?_)
     clear hK K9 hS9
     try go_simp
     have HB3 := hid (HB2.out.trans (hb3.mono HB2.out.size))
     have HNb3 := hid (HNb2.out.below hb3)
     have HCb3 := hid (HCb2.out.below hb3)
     have HIn3 := hid (HIn2.out.below hb3)
     have HC3 := hid (HC2.out.below hb3)
     clear HB2 HNb2 HCb2 HIn2 HC2
     have HI3 := hid (show ZIn w3 A3 (iniM N) by obtain ⟨A', c', e, hz, _⟩ := hS3.zin; cases e; exact hz)
     clear hS3 hb3
     refine tkR 5 (fun K9 hK => ?_)
     go_simp
     have HRn := hid (run28_any N A n c A3 (iniM N).length c3 (iniM N) Ar nr cr R w3 HIn3.out HNl.out (by omega) HI3.out rfl (by have := ini_len HV.out; omega) HC3.out.r HC3.out.rl)
     rw [show run21 N (iniM N) R = runI N R from rfl] at HRn
     ((refine (vr_no HRn.out hr).mono ?_); rintro e w4 ⟨rfl, hb4⟩)
     have hS9 := hHeld
     refine hK.out _ _ ⟨cell_stays hb4 hS9.1, cell_stays hb4 hS9.2.1, cell_stays hb4 hS9.2.2.1, cell_stays hb4 hS9.2.2.2.1, cell_stays hb4 hS9.2.2.2.2.1, cell_stays hb4 hS9.2.2.2.2.2.1, cell_stays hb4 hS9.2.2.2.2.2.2.1, cell_stays hb4 hS9.2.2.2.2.2.2.2.1, cell_stays hb4 hS9.2.2.2.2.2.2.2.2.1, cell_stays hb4 hS9.2.2.2.2.2.2.2.2.2.1, cell_stays hb4 hS9.2.2.2.2.2.2.2.2.2.2.1, cell_stays hb4 hS9.2.2.2.2.2.2.2.2.2.2.2⟩ (fun hHeld => ?_)
     clear hK K9 hS9
     try go_simp
     have HB4 := hid (HB3.out.trans (hb4.mono HB3.out.size))
     have HNb4 := hid (HNb3.out.below hb4)
     have HCb4 := hid (HCb3.out.below hb4)
     have HIn4 := hid (HIn3.out.below hb4)
     have HC4 := hid (HC3.out.below hb4)
     clear HB3 HNb3 HCb3 HIn3 HC3
     clear HRn
     clear hb4
     refine tkH 6 ?_; try go_simp
     refine tkH 7 ?_; try go_simp
     refine tkH 8 ?_; try go_simp
     refine tkH 9 ?_; try go_simp
     refine tkH 10 ?_; try go_simp
     refine wpAnyH_done (by kernel_rfl) ?_ _
     clear hHeld
     go_wp2_with fail
     obtain ⟨d0, d1, d2, d3, d4, d5, d6, d7⟩ := HCb4.out.cells
     clear d0 d3 d4 d5 d6 d7
     have hbd : Below w4.heap.size w4 w4.drew := (Below.refl _ _).drew
     have HB5 := hid (HB4.out.trans (hbd.mono HB4.out.size))
     have HCb5 := hid (HCb4.out.below hbd)
     have hS0 := And.intro (cell_stays hbd d1) ((cell_stays hbd d2))
     refine wp_region_held_drew (S := fun w' => w'.cell? ⟨cb, 1, none⟩ = some (.int .i64 cn) ∧ w'.cell? ⟨cb, 2, none⟩ = some (.slice Ar nr cr)) (by kernel_rfl) hS0 (fun hHeld => ?_)
     clear hS0 hbd d1 d2
     clear HB4 HCb4
     generalize w4.drew = w5 at *
     refine tkH 0 ?_; try go_simp
     refine tkH 1 ?_; try go_simp
     refine tkU 2 ?_; try go_simp
     refine tkU 3 ?_; try go_simp
     refine tkU 4 ?_; try go_simp
     refine tkU 5 ?_; try go_simp
     refine tkH 6 ?_; try go_simp
     refine tkH 7 ?_; try go_simp
     refine tkU 8 ?_; try go_simp
     refine tkU 9 ?_; try go_simp
     refine tkU 10 ?_; try go_simp
     refine tkU 11 ?_; try go_simp
     refine tkU 12 ?_; try go_simp
     refine tkU 13 ?_; try go_simp
     refine tkU 14 ?_; try go_simp
     refine tkU 15 ?_; try go_simp
     refine tkU 16 ?_; try go_simp
     refine tkU 17 ?_; try go_simp
     refine tkU 18 ?_; try go_simp
     refine tkH 19 ?_; try go_simp
     refine tkH 20 ?_; try go_simp
     refine wpAnyH_done (by kernel_rfl) ?_ _
     clear hHeld
     go_wp2_with fail
     go_ret
     exact VcPo.is ((show (false) = true ↔ ndB N cn R = true by rw [HNd.out]).trans (clm_up (N := N) (cn := cn) (R := R) (P := P) (K := K) (V := V) (S := S) (X := X)).2.2.2.symm) HB5.out
   have hrd := decide_eq_true hr
   obtain ⟨b0, b1, b2, b3⟩ := HNb1.out.cells
   obtain ⟨d0, d1, d2, d3, d4, d5, d6, d7⟩ := HCb1.out.cells
   go_wp2_with fail
   clear b0 b1 b2 b3 d0 d1 d2 d3 d4 d5 d6 d7
   obtain ⟨b0, b1, b2, b3⟩ := HNb1.out.cells
   obtain ⟨d0, d1, d2, d3, d4, d5, d6, d7⟩ := HCb1.out.cells
   have hbd : Below w1.heap.size w1 w1.drew := (Below.refl _ _).drew
   have HB2 := hid (HB1.out.trans (hbd.mono HB1.out.size))
   have HNb2 := hid (HNb1.out.below hbd)
   have HCb2 := hid (HCb1.out.below hbd)
   have HIn2 := hid (HIn1.out.below hbd)
   have HC2 := hid (HC1.out.below hbd)
   have hS0 := And.intro (cell_stays hbd b0) (And.intro (cell_stays hbd b1) (And.intro (cell_stays hbd b2) (And.intro (cell_stays hbd b3) (And.intro (cell_stays hbd d0) (And.intro (cell_stays hbd d1) (And.intro (cell_stays hbd d2) (And.intro (cell_stays hbd d3) (And.intro (cell_stays hbd d4) (And.intro (cell_stays hbd d5) (And.intro (cell_stays hbd d6) ((cell_stays hbd d7))))))))))))
   refine wp_region_held_drew (S := fun w' => w'.cell? ⟨w.heap.size, 0, none⟩ = some (.int .i64 N.pl) ∧ w'.cell? ⟨w.heap.size, 1, none⟩ = some (.slice A n c) ∧ w'.cell? ⟨w.heap.size, 2, none⟩ = some (.int .i64 N.src) ∧ w'.cell? ⟨w.heap.size, 3, none⟩ = some (.int .i64 N.snk) ∧ w'.cell? ⟨cb, 0, none⟩ = some (.int .i64 8) ∧ w'.cell? ⟨cb, 1, none⟩ = some (.int .i64 cn) ∧ w'.cell? ⟨cb, 2, none⟩ = some (.slice Ar nr cr) ∧ w'.cell? ⟨cb, 3, none⟩ = some (.slice Ap np cp) ∧ w'.cell? ⟨cb, 4, none⟩ = some (.slice Ak nk ck) ∧ w'.cell? ⟨cb, 5, none⟩ = some (.slice Av nv cv) ∧ w'.cell? ⟨cb, 6, none⟩ = some (.slice As ns cs) ∧ w'.cell? ⟨cb, 7, none⟩ = some (.slice Aw nw cw)) (by kernel_rfl) hS0 (fun hHeld => ?_)
   clear hS0 hbd b0 b1 b2 b3 d0 d1 d2 d3 d4 d5 d6 d7
   clear HB1 HNb1 HCb1 HIn1 HC1
   generalize w1.drew = w2 at *
   refine tkH 0 ?_; try go_simp
   refine tkH 1 ?_; try go_simp
   refine tkH 3 ?_; try go_simp
   refine tkH 4 ?_; try go_simp
   refine tkR 2 (fun K9 hK => ?_)
   go_simp
   ((refine (ini28_any N A n c HV.out w2).mono ?_); rintro e w3 ⟨v3, rfl, hS3⟩)
   obtain ⟨A3, c3, rfl⟩ := hS3.slice
   have hb3 := hS3.2
   have hS9 := hHeld
   refine hK.out _ _ ⟨cell_stays hb3 hS9.1, cell_stays hb3 hS9.2.1, cell_stays hb3 hS9.2.2.1, cell_stays hb3 hS9.2.2.2.1, cell_stays hb3 hS9.2.2.2.2.1, cell_stays hb3 hS9.2.2.2.2.2.1, cell_stays hb3 hS9.2.2.2.2.2.2.1, cell_stays hb3 hS9.2.2.2.2.2.2.2.1, cell_stays hb3 hS9.2.2.2.2.2.2.2.2.1, cell_stays hb3 hS9.2.2.2.2.2.2.2.2.2.1, cell_stays hb3 hS9.2.2.2.2.2.2.2.2.2.2.1, cell_stays hb3 hS9.2.2.2.2.2.2.2.2.2.2.2⟩ (fun hHeld => ?_)
   clear hK K9 hS9
   try go_simp
   have HB3 := hid (HB2.out.trans (hb3.mono HB2.out.size))
   have HNb3 := hid (HNb2.out.below hb3)
   have HCb3 := hid (HCb2.out.below hb3)
   have HIn3 := hid (HIn2.out.below hb3)
   have HC3 := hid (HC2.out.below hb3)
   clear HB2 HNb2 HCb2 HIn2 HC2
   have HI3 := hid (show ZIn w3 A3 (iniM N) by obtain ⟨A', c', e, hz, _⟩ := hS3.zin; cases e; exact hz)
   clear hS3 hb3
   refine tkR 5 (fun K9 hK => ?_)
   go_simp
   have HRn := hid (run28_any N A n c A3 (iniM N).length c3 (iniM N) Ar nr cr R w3 HIn3.out HNl.out (by omega) HI3.out rfl (by have := ini_len HV.out; omega) HC3.out.r HC3.out.rl)
   rw [show run21 N (iniM N) R = runI N R from rfl] at HRn
   ((refine (vr_yes HRn.out hr).mono ?_); rintro e w4 ⟨v4, rfl, hS4⟩)
   obtain ⟨A4, c4, rfl⟩ := hS4.slice
   have hb4 := hS4.2
   have hS9 := hHeld
   refine hK.out _ _ ⟨cell_stays hb4 hS9.1, cell_stays hb4 hS9.2.1, cell_stays hb4 hS9.2.2.1, cell_stays hb4 hS9.2.2.2.1, cell_stays hb4 hS9.2.2.2.2.1, cell_stays hb4 hS9.2.2.2.2.2.1, cell_stays hb4 hS9.2.2.2.2.2.2.1, cell_stays hb4 hS9.2.2.2.2.2.2.2.1, cell_stays hb4 hS9.2.2.2.2.2.2.2.2.1, cell_stays hb4 hS9.2.2.2.2.2.2.2.2.2.1, cell_stays hb4 hS9.2.2.2.2.2.2.2.2.2.2.1, cell_stays hb4 hS9.2.2.2.2.2.2.2.2.2.2.2⟩ (fun hHeld => ?_)
   clear hK K9 hS9
   try go_simp
   have HB4 := hid (HB3.out.trans (hb4.mono HB3.out.size))
   have HNb4 := hid (HNb3.out.below hb4)
   have HCb4 := hid (HCb3.out.below hb4)
   have HIn4 := hid (HIn3.out.below hb4)
   have HC4 := hid (HC3.out.below hb4)
   clear HB3 HNb3 HCb3 HIn3 HC3
   clear HRn
   clear hS4 hb4
   refine tkH 6 ?_; try go_simp
   refine tkH 7 ?_; try go_simp
   refine tkH 8 ?_; try go_simp
   refine tkH 9 ?_; try go_simp
   refine tkH 10 ?_; try go_simp
   refine wpAnyH_done (by kernel_rfl) ?_ _
   clear hHeld
   clear hr
   go_wp2_with fail
   by_cases hr0 : nr = 0
   · have HNd := hid (show ndB N cn R = false by unfold ndB; rw [hrd, HC4.out.rl, hr0]; rfl)
     have q1 : decide ((0 : Int) < (nr : Int)) = false := by simp; omega
     have q2 : ¬ 0 < nr := by omega
     have q3 : decide (0 < nr) = false := by simp; omega
     clear hr0 hrd
     obtain ⟨d0, d1, d2, d3, d4, d5, d6, d7⟩ := HCb4.out.cells
     clear d0 d3 d4 d5 d6 d7
     have hbd : Below w4.heap.size w4 w4.drew := (Below.refl _ _).drew
     have HB5 := hid (HB4.out.trans (hbd.mono HB4.out.size))
     have HCb5 := hid (HCb4.out.below hbd)
     have hS0 := And.intro (cell_stays hbd d1) ((cell_stays hbd d2))
     refine wp_region_held_drew (S := fun w' => w'.cell? ⟨cb, 1, none⟩ = some (.int .i64 cn) ∧ w'.cell? ⟨cb, 2, none⟩ = some (.slice Ar nr cr)) (by kernel_rfl) hS0 (fun hHeld => ?_)
     clear hS0 hbd d1 d2
     clear HB4 HCb4
     generalize w4.drew = w5 at *
     refine tkH 0 ?_; try go_simp
     refine tkH 1 ?_; try go_simp
     refine tkH 2 ?_; try go_simp
     refine tkH 3 ?_; try go_simp
     refine tkH 4 ?_; try go_simp
     refine tkH 5 ?_; try go_simp
     refine tkH 6 ?_; try go_simp
     refine tkH 7 ?_; try go_simp
     refine tkU 8 ?_; try go_simp
     refine tkU 9 ?_; try go_simp
     refine tkU 10 ?_; try go_simp
     refine tkU 11 ?_; try go_simp
     refine tkU 12 ?_; try go_simp
     refine tkU 13 ?_; try go_simp
     refine tkU 14 ?_; try go_simp
     refine tkU 15 ?_; try go_simp
     refine tkU 16 ?_; try go_simp
     refine tkU 17 ?_; try go_simp
     refine tkU 18 ?_; try go_simp
     refine tkH 19 ?_; try go_simp
     refine tkH 20 ?_; try go_simp
     refine wpAnyH_done (by kernel_rfl) ?_ _
     clear hHeld
     go_wp2_with fail
     go_ret
     exact VcPo.is ((show (false) = true ↔ ndB N cn R = true by rw [HNd.out]).trans (clm_up (N := N) (cn := cn) (R := R) (P := P) (K := K) (V := V) (S := S) (X := X)).2.2.2.symm) HB5.out
   have hr1 : 0 < nr := by omega
   have q1 : decide ((0 : Int) < (nr : Int)) = true := by simp; omega
   have q3 : decide (0 < nr) = true := by simp; omega
   obtain ⟨r, hr2⟩ : ∃ r : Nat, nr = r + 1 := ⟨nr - 1, by omega⟩
   have hrR : r < R.length := by rw [HC4.out.rl]; omega
   obtain ⟨ar, rfl, _, r0⟩ := HC4.out.r r hrR
   have hnd : ndB N cn R = decide (R[r] = cn) := by
    unfold ndB
    rw [hrd, HC4.out.rl, q3, show nr - 1 = r by omega]
    simp [hrR]
   have HNd := hid hnd
   generalize R[r] = rl at *
   have hri : (nr : Int) - 1 = (r : Int) := by omega
   have hkw : IntKind.i64.wrap (r : Int) = (r : Int) := IntWalk.i64_in _ (by have := HC4.out.rb; omega)
   have hr5 : (0 : Int) ≤ (r : Int) := by omega
   have hr6 : (r : Int) < (nr : Int) := by omega
   have hr7 : r < nr := by omega
   clear hr0 hr2 hrR hnd hrd
   by_cases hcn : rl = cn
   · have q4 : (rl == cn) = true := by simp [hcn]
     have hd : decide (rl = cn) = true := decide_eq_true hcn
     rw [hd] at HNd
     clear hcn hd
     obtain ⟨d0, d1, d2, d3, d4, d5, d6, d7⟩ := HCb4.out.cells
     clear d0 d3 d4 d5 d6 d7
     have hbd : Below w4.heap.size w4 w4.drew := (Below.refl _ _).drew
     have HB5 := hid (HB4.out.trans (hbd.mono HB4.out.size))
     have HCb5 := hid (HCb4.out.below hbd)
     have hS0 := And.intro (cell_stays hbd d1) (And.intro (cell_stays hbd d2) ((cell_stays hbd r0)))
     refine wp_region_held_drew (S := fun w' => w'.cell? ⟨cb, 1, none⟩ = some (.int .i64 cn) ∧ w'.cell? ⟨cb, 2, none⟩ = some (.slice (some ar) nr cr) ∧ w'.cell? (ar.add r) = some (.int .i64 rl)) (by kernel_rfl) hS0 (fun hHeld => ?_)
     clear hS0 hbd d1 d2 r0
     clear HB4 HCb4
     generalize w4.drew = w5 at *
     refine tkH 0 ?_; try go_simp
     refine tkH 1 ?_; try go_simp
     refine tkH 2 ?_; try go_simp
     refine tkH 3 ?_; try go_simp
     refine tkH 4 ?_; try go_simp
     refine tkH 5 ?_; try go_simp
     refine tkH 6 ?_; try go_simp
     refine tkH 7 ?_; try go_simp
     refine tkH 8 ?_; try go_simp
     refine tkH 9 ?_; try go_simp
     refine tkH 10 ?_; try go_simp
     refine tkH 11 ?_; try go_simp
     refine tkH 12 ?_; try go_simp
     refine tkH 13 ?_; try go_simp
     refine tkH 14 ?_; try go_simp
     refine tkH 15 ?_; try go_simp
     refine tkH 16 ?_; try go_simp
     refine tkH 17 ?_; try go_simp
     refine tkH 18 ?_; try go_simp
     refine tkH 19 ?_; try go_simp
     refine tkH 20 ?_; try go_simp
     refine wpAnyH_done (by kernel_rfl) ?_ _
     clear hHeld
     go_wp2_with fail
     go_ret
     exact VcPo.is ((show (true) = true ↔ ndB N cn R = true by rw [HNd.out]).trans (clm_up (N := N) (cn := cn) (R := R) (P := P) (K := K) (V := V) (S := S) (X := X)).2.2.2.symm) HB5.out
   · have q4 : (rl == cn) = false := by rw [beq_eq_false_iff_ne]; exact hcn
     have hd : decide (rl = cn) = false := decide_eq_false hcn
     rw [hd] at HNd
     clear hcn hd
     obtain ⟨d0, d1, d2, d3, d4, d5, d6, d7⟩ := HCb4.out.cells
     clear d0 d3 d4 d5 d6 d7
     have hbd : Below w4.heap.size w4 w4.drew := (Below.refl _ _).drew
     have HB5 := hid (HB4.out.trans (hbd.mono HB4.out.size))
     have HCb5 := hid (HCb4.out.below hbd)
     have hS0 := And.intro (cell_stays hbd d1) (And.intro (cell_stays hbd d2) ((cell_stays hbd r0)))
     refine wp_region_held_drew (S := fun w' => w'.cell? ⟨cb, 1, none⟩ = some (.int .i64 cn) ∧ w'.cell? ⟨cb, 2, none⟩ = some (.slice (some ar) nr cr) ∧ w'.cell? (ar.add r) = some (.int .i64 rl)) (by kernel_rfl) hS0 (fun hHeld => ?_)
     clear hS0 hbd d1 d2 r0
     clear HB4 HCb4
     generalize w4.drew = w5 at *
     refine tkH 0 ?_; try go_simp
     refine tkH 1 ?_; try go_simp
     refine tkH 2 ?_; try go_simp
     refine tkH 3 ?_; try go_simp
     refine tkH 4 ?_; try go_simp
     refine tkH 5 ?_; try go_simp
     refine tkH 6 ?_; try go_simp
     refine tkH 7 ?_; try go_simp
     refine tkH 8 ?_; try go_simp
     refine tkH 9 ?_; try go_simp
     refine tkH 10 ?_; try go_simp
     refine tkH 11 ?_; try go_simp
     refine tkH 12 ?_; try go_simp
     refine tkH 13 ?_; try go_simp
     refine tkH 14 ?_; try go_simp
     refine tkH 15 ?_; try go_simp
     refine tkH 16 ?_; try go_simp
     refine tkH 17 ?_; try go_simp
     refine tkH 18 ?_; try go_simp
     refine tkH 19 ?_; try go_simp
     refine tkH 20 ?_; try go_simp
     refine wpAnyH_done (by kernel_rfl) ?_ _
     clear hHeld
     go_wp2_with fail
     go_ret
     exact VcPo.is ((show (false) = true ↔ ndB N cn R = true by rw [HNd.out]).trans (clm_up (N := N) (cn := cn) (R := R) (P := P) (K := K) (V := V) (S := S) (X := X)).2.2.2.symm) HB5.out
 have q8 : (cl == 8) = false := by rw [beq_eq_false_iff_ne]; exact hc8
 have HN := hid (show ¬ ClmP N cl cn R P K V S X by unfold ClmP; omega)
 clear hc1 hc2 hc3 hc4 hc7 hc8
 obtain ⟨b0, b1, b2, b3⟩ := HNb1.out.cells
 obtain ⟨d0, d1, d2, d3, d4, d5, d6, d7⟩ := HCb1.out.cells
 go_wp2_with fail
 go_ret
 exact VcPo.no HN.out HB1.out
set_option maxHeartbeats 12800000 in
set_option maxRecDepth 100000 in
theorem check29_any (N : Nt) (A : Option Addr) (n c : Nat) (cl cn : Int) (Ar : Option Addr) (nr cr : Nat) (R : List Int) (Ap : Option Addr) (np cp : Nat) (P : List Int) (Ak : Option Addr) (nk ck : Nat) (K : List (List Int)) (Av : Option Addr) (nv cv : Nat) (V : List Mv) (As : Option Addr) (ns cs : Nat) (S : List (List Int)) (Aw : Option Addr) (nw cw : Nat) (X : List (List Int)) (w : World) (h : NtIn w A N) (hn : N.tr.length = n) (hn2 : n ≤ 9223372036854775806) (hC : CfM w Ar nr R Ap np P Ak nk K Av nv V As ns S Aw nw X) (hk2 : nk ≤ 2000) (hr2 : nr ≤ 1000) (hp2 : np ≤ 1000) (hI6' : ∀ I ∈ S, ∀ ni : Nat, I.length = ni → ni ≤ 1000) :
 Calls Tryz.prog 9 #[.agg #[.int .i64 N.pl, .slice A n c, .int .i64 N.src, .int .i64 N.snk], .agg #[.int .i64 cl, .int .i64 cn, .slice Ar nr cr, .slice Ap np cp, .slice Ak nk ck, .slice Av nv cv, .slice As ns cs, .slice Aw nw cw]] w (VcPo (ChkP N cl cn R P K V S X) w) := by
 have HB0 := hid (two_boxes w (.cells #[.int .i64 N.pl, .slice A n c, .int .i64 N.src, .int .i64 N.snk] 24) (.cells #[.int .i64 cl, .int .i64 cn, .slice Ar nr cr, .slice Ap np cp, .slice Ak nk ck, .slice Av nv cv, .slice As ns cs, .slice Aw nw cw] 29))
 have HNb0 := hid ((NB.new w N.pl A n c N.src N.snk).below (below_alloc _ (.cells #[.int .i64 cl, .int .i64 cn, .slice Ar nr cr, .slice Ap np cp, .slice Ak nk ck, .slice Av nv cv, .slice As ns cs, .slice Aw nw cw] 29)))
 have hcb := heap_alloc_new (w.alloc (.cells #[.int .i64 N.pl, .slice A n c, .int .i64 N.src, .int .i64 N.snk] 24)) (.cells #[.int .i64 cl, .int .i64 cn, .slice Ar nr cr, .slice Ap np cp, .slice Ak nk ck, .slice Av nv cv, .slice As ns cs, .slice Aw nw cw] 29)
 rw [World.size_alloc] at hcb
 have HCb0 := hid (show CtB _ (w.heap.size + 1) #[.int .i64 cl, .int .i64 cn, .slice Ar nr cr, .slice Ap np cp, .slice Ak nk ck, .slice Av nv cv, .slice As ns cs, .slice Aw nw cw] from hcb)
 have HIn0 := hid (h.below HB0.out)
 have HC0 := hid (hC.below HB0.out)
 have HNl := hid hn
 have hI6 := hid hI6'
 have HVa := hid (rvalid_any N A n c _ HIn0.out hn (by omega))
 have HCh := hid (show ChkP N cl cn R P K V S X ↔ (ntB N = true ∧ K.length ≤ 2000 ∧ R.length ≤ 1000 ∧ P.length ≤ 1000 ∧ ClmP N cl cn R P K V S X) from Iff.rfl)
 generalize ChkP N cl cn R P K V S X = Q at *
 clear h hn hC hcb hI6'
 go_enter Tryz.func9, Tryz.ntmps9
 go_wp2_with fail
 generalize (w.alloc (.cells #[.int .i64 N.pl, .slice A n c, .int .i64 N.src, .int .i64 N.snk] 24)).alloc (.cells #[.int .i64 cl, .int .i64 cn, .slice Ar nr cr, .slice Ap np cp, .slice Ak nk ck, .slice Av nv cv, .slice As ns cs, .slice Aw nw cw] 29) = w0 at *
 generalize w.heap.size + 1 = cb at *
 obtain ⟨b0, b1, b2, b3⟩ := HNb0.out.cells
 obtain ⟨d0, d1, d2, d3, d4, d5, d6, d7⟩ := HCb0.out.cells
 ((with_reducible refine HVa.out.mono ?_); rintro e w1 ⟨rfl, hb1⟩)
 have HB1 := hid (HB0.out.trans (hb1.mono HB0.out.size))
 have HNb1 := hid (HNb0.out.below hb1)
 have HCb1 := hid (HCb0.out.below hb1)
 have HIn1 := hid (HIn0.out.below hb1)
 have HC1 := hid (HC0.out.below hb1)
 clear HB0 HNb0 HCb0 HIn0 HC0
 clear b0 b1 b2 b3 d0 d1 d2 d3 d4 d5 d6 d7 hb1 HVa
 cases hv : ntB N with
 | false =>
  have HN := hid (show ¬ Q by rw [HCh.out, hv]; simp)
  clear hv
  obtain ⟨b0, b1, b2, b3⟩ := HNb1.out.cells
  obtain ⟨d0, d1, d2, d3, d4, d5, d6, d7⟩ := HCb1.out.cells
  go_wp2_with fail
  go_ret
  exact VcPo.no HN.out HB1.out
 | true =>
  have HV := hid hv
  have hps := nt_small hv
  have hn60 : n ≤ 60 := by have := HNl.out; omega
  replace HCh := hid (show Q ↔ ClmP N cl cn R P K V S X by
   rw [HCh.out, HC1.out.kl, HC1.out.rl, HC1.out.pl]
   exact ⟨fun h => h.2.2.2.2, fun h => ⟨HV.out, by omega, by omega, by omega, h⟩⟩)
  have hpl40 : N.pl ≤ 40 := hps.2.1
  clear hv hps
  by_cases hc5 : cl = 5
  · have q1 : (cl == 5) = true := by rw [hc5]; rfl
    have q2 : (cl == 6) = false := by rw [hc5]; rfl
    obtain ⟨b0, b1, b2, b3⟩ := HNb1.out.cells
    obtain ⟨d0, d1, d2, d3, d4, d5, d6, d7⟩ := HCb1.out.cells
    go_wp2_with fail
    clear b0 b1 b2 b3 d0 d1 d2 d3 d4 d5 d6 d7
    have HX := hid (show ClmP N cl cn R P K V S X ↔ chkB N (iniM N) ⟨cl, cn, R, P, K⟩ = true by rw [hc5]; exact (clm_up (N := N) (cn := cn) (R := R) (P := P) (K := K) (V := V) (S := S) (X := X)).1)
    clear hc5
    obtain ⟨b0, b1, b2, b3⟩ := HNb1.out.cells
    obtain ⟨d0, d1, d2, d3, d4, d5, d6, d7⟩ := HCb1.out.cells
    have hbd : Below w1.heap.size w1 w1.drew := (Below.refl _ _).drew
    have HB2 := hid (HB1.out.trans (hbd.mono HB1.out.size))
    have HNb2 := hid (HNb1.out.below hbd)
    have HCb2 := hid (HCb1.out.below hbd)
    have HIn2 := hid (HIn1.out.below hbd)
    have HC2 := hid (HC1.out.below hbd)
    have hS0 := And.intro (cell_stays hbd b0) (And.intro (cell_stays hbd b1) (And.intro (cell_stays hbd b2) (And.intro (cell_stays hbd b3) (And.intro (cell_stays hbd d0) (And.intro (cell_stays hbd d1) (And.intro (cell_stays hbd d2) (And.intro (cell_stays hbd d3) (And.intro (cell_stays hbd d4) (And.intro (cell_stays hbd d5) (And.intro (cell_stays hbd d6) ((cell_stays hbd d7))))))))))))
    refine wp_region_held_drew (S := fun w' => w'.cell? ⟨w.heap.size, 0, none⟩ = some (.int .i64 N.pl) ∧ w'.cell? ⟨w.heap.size, 1, none⟩ = some (.slice A n c) ∧ w'.cell? ⟨w.heap.size, 2, none⟩ = some (.int .i64 N.src) ∧ w'.cell? ⟨w.heap.size, 3, none⟩ = some (.int .i64 N.snk) ∧ w'.cell? ⟨cb, 0, none⟩ = some (.int .i64 cl) ∧ w'.cell? ⟨cb, 1, none⟩ = some (.int .i64 cn) ∧ w'.cell? ⟨cb, 2, none⟩ = some (.slice Ar nr cr) ∧ w'.cell? ⟨cb, 3, none⟩ = some (.slice Ap np cp) ∧ w'.cell? ⟨cb, 4, none⟩ = some (.slice Ak nk ck) ∧ w'.cell? ⟨cb, 5, none⟩ = some (.slice Av nv cv) ∧ w'.cell? ⟨cb, 6, none⟩ = some (.slice As ns cs) ∧ w'.cell? ⟨cb, 7, none⟩ = some (.slice Aw nw cw)) (by kernel_rfl) hS0 (fun hHeld => ?_)
    clear hS0 hbd b0 b1 b2 b3 d0 d1 d2 d3 d4 d5 d6 d7
    clear HB1 HNb1 HCb1 HIn1 HC1
    generalize w1.drew = w2 at *
    refine tkH 0 ?_; try go_simp
    refine tkH 1 ?_; try go_simp
    refine tkH 2 ?_; try go_simp
    refine tkH 3 ?_; try go_simp
    refine tkH 5 ?_; try go_simp
    refine tkR 4 (fun K9 hK => ?_)
    go_simp
    ((refine (rsrc_any N A n c HV.out w2).mono ?_); rintro e w3 ⟨v3, rfl, hS3⟩)
    obtain ⟨A3, c3, rfl⟩ := hS3.slice
    have hb3 := hS3.2
    have hS9 := hHeld
    refine hK.out _ _ ⟨cell_stays hb3 hS9.1, cell_stays hb3 hS9.2.1, cell_stays hb3 hS9.2.2.1, cell_stays hb3 hS9.2.2.2.1, cell_stays hb3 hS9.2.2.2.2.1, cell_stays hb3 hS9.2.2.2.2.2.1, cell_stays hb3 hS9.2.2.2.2.2.2.1, cell_stays hb3 hS9.2.2.2.2.2.2.2.1, cell_stays hb3 hS9.2.2.2.2.2.2.2.2.1, cell_stays hb3 hS9.2.2.2.2.2.2.2.2.2.1, cell_stays hb3 hS9.2.2.2.2.2.2.2.2.2.2.1, cell_stays hb3 hS9.2.2.2.2.2.2.2.2.2.2.2⟩ (fun hHeld => ?_)
    clear hK K9 hS9
    try go_simp
    have HB3 := hid (HB2.out.trans (hb3.mono HB2.out.size))
    have HNb3 := hid (HNb2.out.below hb3)
    have HCb3 := hid (HCb2.out.below hb3)
    have HIn3 := hid (HIn2.out.below hb3)
    have HC3 := hid (HC2.out.below hb3)
    clear HB2 HNb2 HCb2 HIn2 HC2
    have HI3 := hid (show ZIn w3 A3 (iniM N) by obtain ⟨A', c', e, hz, _⟩ := hS3.zin; cases e; exact hz)
    clear hS3 hb3
    refine tkR 6 (fun K9 hK => ?_)
    go_simp
    have hci : CtIn w3 (.agg #[.int .i64 cl, .int .i64 cn, .slice Ar nr cr, .slice Ap np cp, .slice Ak nk ck, .slice Av nv cv, .slice As ns cs, .slice Aw nw cw]) ⟨cl, cn, R, P, K⟩ := ⟨Ar, nr, cr, Ap, np, cp, Ak, nk, ck, Av, nv, cv, As, ns, cs, Aw, nw, cw, rfl, ⟨HC3.out.r, HC3.out.rl⟩, ⟨HC3.out.p, HC3.out.pl⟩, HC3.out.k, HC3.out.kl, HC3.out.kb⟩
    have HCa := rcheck_any N A n c A3 (iniM N).length c3 (iniM N) _ ⟨cl, cn, R, P, K⟩ w3 HIn3.out HNl.out (by omega) HI3.out rfl (by have := ini_len HV.out; omega) hci
    ((refine (HCa).mono ?_); rintro e w4 ⟨rfl, hb4⟩)
    have hS9 := hHeld
    refine hK.out _ _ ⟨cell_stays hb4 hS9.1, cell_stays hb4 hS9.2.1, cell_stays hb4 hS9.2.2.1, cell_stays hb4 hS9.2.2.2.1, cell_stays hb4 hS9.2.2.2.2.1, cell_stays hb4 hS9.2.2.2.2.2.1, cell_stays hb4 hS9.2.2.2.2.2.2.1, cell_stays hb4 hS9.2.2.2.2.2.2.2.1, cell_stays hb4 hS9.2.2.2.2.2.2.2.2.1, cell_stays hb4 hS9.2.2.2.2.2.2.2.2.2.1, cell_stays hb4 hS9.2.2.2.2.2.2.2.2.2.2.1, cell_stays hb4 hS9.2.2.2.2.2.2.2.2.2.2.2⟩ (fun hHeld => ?_)
    clear hK K9 hS9
    try go_simp
    have HB4 := hid (HB3.out.trans (hb4.mono HB3.out.size))
    have HNb4 := hid (HNb3.out.below hb4)
    have HCb4 := hid (HCb3.out.below hb4)
    have HIn4 := hid (HIn3.out.below hb4)
    have HC4 := hid (HC3.out.below hb4)
    clear HB3 HNb3 HCb3 HIn3 HC3
    clear hci HCa
    clear hb4
    refine tkH 7 ?_; try go_simp
    refine wpAnyH_done (by kernel_rfl) ?_ _
    clear hHeld
    go_wp2_with fail
    go_ret
    exact VcPo.is (HX.out.symm.trans HCh.out.symm) HB4.out
  by_cases hc6 : cl = 6
  · have q1 : (cl == 5) = false := by rw [hc6]; rfl
    have q2 : (cl == 6) = true := by rw [hc6]; rfl
    obtain ⟨b0, b1, b2, b3⟩ := HNb1.out.cells
    obtain ⟨d0, d1, d2, d3, d4, d5, d6, d7⟩ := HCb1.out.cells
    go_wp2_with fail
    clear b0 b1 b2 b3 d0 d1 d2 d3 d4 d5 d6 d7
    have HX := hid (show ClmP N cl cn R P K V S X ↔ chkB N (iniM N) ⟨cl, cn, R, P, K⟩ = true by rw [hc6]; exact (clm_up (N := N) (cn := cn) (R := R) (P := P) (K := K) (V := V) (S := S) (X := X)).2.1)
    clear hc6
    obtain ⟨b0, b1, b2, b3⟩ := HNb1.out.cells
    obtain ⟨d0, d1, d2, d3, d4, d5, d6, d7⟩ := HCb1.out.cells
    have hbd : Below w1.heap.size w1 w1.drew := (Below.refl _ _).drew
    have HB2 := hid (HB1.out.trans (hbd.mono HB1.out.size))
    have HNb2 := hid (HNb1.out.below hbd)
    have HCb2 := hid (HCb1.out.below hbd)
    have HIn2 := hid (HIn1.out.below hbd)
    have HC2 := hid (HC1.out.below hbd)
    have hS0 := And.intro (cell_stays hbd b0) (And.intro (cell_stays hbd b1) (And.intro (cell_stays hbd b2) (And.intro (cell_stays hbd b3) (And.intro (cell_stays hbd d0) (And.intro (cell_stays hbd d1) (And.intro (cell_stays hbd d2) (And.intro (cell_stays hbd d3) (And.intro (cell_stays hbd d4) (And.intro (cell_stays hbd d5) (And.intro (cell_stays hbd d6) ((cell_stays hbd d7))))))))))))
    refine wp_region_held_drew (S := fun w' => w'.cell? ⟨w.heap.size, 0, none⟩ = some (.int .i64 N.pl) ∧ w'.cell? ⟨w.heap.size, 1, none⟩ = some (.slice A n c) ∧ w'.cell? ⟨w.heap.size, 2, none⟩ = some (.int .i64 N.src) ∧ w'.cell? ⟨w.heap.size, 3, none⟩ = some (.int .i64 N.snk) ∧ w'.cell? ⟨cb, 0, none⟩ = some (.int .i64 cl) ∧ w'.cell? ⟨cb, 1, none⟩ = some (.int .i64 cn) ∧ w'.cell? ⟨cb, 2, none⟩ = some (.slice Ar nr cr) ∧ w'.cell? ⟨cb, 3, none⟩ = some (.slice Ap np cp) ∧ w'.cell? ⟨cb, 4, none⟩ = some (.slice Ak nk ck) ∧ w'.cell? ⟨cb, 5, none⟩ = some (.slice Av nv cv) ∧ w'.cell? ⟨cb, 6, none⟩ = some (.slice As ns cs) ∧ w'.cell? ⟨cb, 7, none⟩ = some (.slice Aw nw cw)) (by kernel_rfl) hS0 (fun hHeld => ?_)
    clear hS0 hbd b0 b1 b2 b3 d0 d1 d2 d3 d4 d5 d6 d7
    clear HB1 HNb1 HCb1 HIn1 HC1
    generalize w1.drew = w2 at *
    refine tkH 0 ?_; try go_simp
    refine tkH 1 ?_; try go_simp
    refine tkH 2 ?_; try go_simp
    refine tkH 3 ?_; try go_simp
    refine tkH 5 ?_; try go_simp
    refine tkR 4 (fun K9 hK => ?_)
    go_simp
    ((refine (rsrc_any N A n c HV.out w2).mono ?_); rintro e w3 ⟨v3, rfl, hS3⟩)
    obtain ⟨A3, c3, rfl⟩ := hS3.slice
    have hb3 := hS3.2
    have hS9 := hHeld
    refine hK.out _ _ ⟨cell_stays hb3 hS9.1, cell_stays hb3 hS9.2.1, cell_stays hb3 hS9.2.2.1, cell_stays hb3 hS9.2.2.2.1, cell_stays hb3 hS9.2.2.2.2.1, cell_stays hb3 hS9.2.2.2.2.2.1, cell_stays hb3 hS9.2.2.2.2.2.2.1, cell_stays hb3 hS9.2.2.2.2.2.2.2.1, cell_stays hb3 hS9.2.2.2.2.2.2.2.2.1, cell_stays hb3 hS9.2.2.2.2.2.2.2.2.2.1, cell_stays hb3 hS9.2.2.2.2.2.2.2.2.2.2.1, cell_stays hb3 hS9.2.2.2.2.2.2.2.2.2.2.2⟩ (fun hHeld => ?_)
    clear hK K9 hS9
    try go_simp
    have HB3 := hid (HB2.out.trans (hb3.mono HB2.out.size))
    have HNb3 := hid (HNb2.out.below hb3)
    have HCb3 := hid (HCb2.out.below hb3)
    have HIn3 := hid (HIn2.out.below hb3)
    have HC3 := hid (HC2.out.below hb3)
    clear HB2 HNb2 HCb2 HIn2 HC2
    have HI3 := hid (show ZIn w3 A3 (iniM N) by obtain ⟨A', c', e, hz, _⟩ := hS3.zin; cases e; exact hz)
    clear hS3 hb3
    refine tkR 6 (fun K9 hK => ?_)
    go_simp
    have hci : CtIn w3 (.agg #[.int .i64 cl, .int .i64 cn, .slice Ar nr cr, .slice Ap np cp, .slice Ak nk ck, .slice Av nv cv, .slice As ns cs, .slice Aw nw cw]) ⟨cl, cn, R, P, K⟩ := ⟨Ar, nr, cr, Ap, np, cp, Ak, nk, ck, Av, nv, cv, As, ns, cs, Aw, nw, cw, rfl, ⟨HC3.out.r, HC3.out.rl⟩, ⟨HC3.out.p, HC3.out.pl⟩, HC3.out.k, HC3.out.kl, HC3.out.kb⟩
    have HCa := rcheck_any N A n c A3 (iniM N).length c3 (iniM N) _ ⟨cl, cn, R, P, K⟩ w3 HIn3.out HNl.out (by omega) HI3.out rfl (by have := ini_len HV.out; omega) hci
    ((refine (HCa).mono ?_); rintro e w4 ⟨rfl, hb4⟩)
    have hS9 := hHeld
    refine hK.out _ _ ⟨cell_stays hb4 hS9.1, cell_stays hb4 hS9.2.1, cell_stays hb4 hS9.2.2.1, cell_stays hb4 hS9.2.2.2.1, cell_stays hb4 hS9.2.2.2.2.1, cell_stays hb4 hS9.2.2.2.2.2.1, cell_stays hb4 hS9.2.2.2.2.2.2.1, cell_stays hb4 hS9.2.2.2.2.2.2.2.1, cell_stays hb4 hS9.2.2.2.2.2.2.2.2.1, cell_stays hb4 hS9.2.2.2.2.2.2.2.2.2.1, cell_stays hb4 hS9.2.2.2.2.2.2.2.2.2.2.1, cell_stays hb4 hS9.2.2.2.2.2.2.2.2.2.2.2⟩ (fun hHeld => ?_)
    clear hK K9 hS9
    try go_simp
    have HB4 := hid (HB3.out.trans (hb4.mono HB3.out.size))
    have HNb4 := hid (HNb3.out.below hb4)
    have HCb4 := hid (HCb3.out.below hb4)
    have HIn4 := hid (HIn3.out.below hb4)
    have HC4 := hid (HC3.out.below hb4)
    clear HB3 HNb3 HCb3 HIn3 HC3
    clear hci HCa
    clear hb4
    refine tkH 7 ?_; try go_simp
    refine wpAnyH_done (by kernel_rfl) ?_ _
    clear hHeld
    go_wp2_with fail
    go_ret
    exact VcPo.is (HX.out.symm.trans HCh.out.symm) HB4.out
  have q1 : (cl == 5) = false := by rw [beq_eq_false_iff_ne]; exact hc5
  have q2 : (cl == 6) = false := by rw [beq_eq_false_iff_ne]; exact hc6
  by_cases h1 : cl < 1
  · have q3 : decide (cl < 1) = true := by simpa using h1
    have HN := hid (show ¬ Q by rw [HCh.out]; exact clm_out (Or.inl h1))
    clear h1 hc5 hc6
    obtain ⟨b0, b1, b2, b3⟩ := HNb1.out.cells
    obtain ⟨d0, d1, d2, d3, d4, d5, d6, d7⟩ := HCb1.out.cells
    go_wp2_with fail
    go_ret
    exact VcPo.no HN.out HB1.out
  have q3 : decide (cl < 1) = false := by simpa using h1
  by_cases h8 : 8 < cl
  · have q4 : decide (8 < cl) = true := by simpa using h8
    have HN := hid (show ¬ Q by rw [HCh.out]; exact clm_out (Or.inr h8))
    clear h1 h8 hc5 hc6
    obtain ⟨b0, b1, b2, b3⟩ := HNb1.out.cells
    obtain ⟨d0, d1, d2, d3, d4, d5, d6, d7⟩ := HCb1.out.cells
    go_wp2_with fail
    go_ret
    exact VcPo.no HN.out HB1.out
  have q4 : decide (8 < cl) = false := by simpa using h8
  have HX := hid (check28_any N A n c cl cn Ar nr cr R Ap np cp P Ak nk ck K Av nv cv V As ns cs S Aw nw cw X w1 HIn1.out HNl.out HV.out HC1.out hk2 hI6.out ⟨hc5, hc6⟩)
  clear h1 h8 hc5 hc6
  obtain ⟨b0, b1, b2, b3⟩ := HNb1.out.cells
  obtain ⟨d0, d1, d2, d3, d4, d5, d6, d7⟩ := HCb1.out.cells
  go_wp2_with fail
  ((with_reducible refine HX.out.mono ?_); rintro e w2 ⟨⟨q, rfl, hq⟩, hb2⟩)
  have HB2 := hid (HB1.out.trans (hb2.mono HB1.out.size))
  have HQ := hid (hq.trans HCh.out.symm)
  clear hb2 hq b0 b1 b2 b3 d0 d1 d2 d3 d4 d5 d6 d7
  go_wp2_with fail
  go_ret
  exact VcPo.is HQ.out HB2.out
end Go.Proofs.YtpnhcimmlnjfaaaGreatDoor
