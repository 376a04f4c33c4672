/- VerdictHonest: the walk through the statement. -/
import Derived.Test.YtpnhcimmlnjfaaaDoorYn
import Derived.Test.YtpnhcimmlnjfaaaDoorYp
import Derived.Test.YtpnhcimmlnjfaaaDoorQk
namespace Go.Proofs.YtpnhcimmlnjfaaaDoor
open Go.Lib (hid)
open Go.RowKit

set_option maxHeartbeats 25600000 in
set_option maxRecDepth 100000 in
theorem verdictHonest_walk (N : Nt) (A : Option Addr) (n c : Nat) (cl1 cn1 : Int) (Ar1 : Option Addr) (nr1 cr1 : Nat) (R1 : List Int) (Ap1 : Option Addr) (np1 cp1 : Nat) (P1 : List Int) (Ak1 : Option Addr) (nk1 ck1 : Nat) (K1 : List (List Int)) (Av1 : Option Addr) (nv1 cv1 : Nat) (V1 : List Mv) (As1 : Option Addr) (ns1 cs1 : Nat) (S1 : List (List Int)) (Aw1 : Option Addr) (nw1 cw1 : Nat) (X1 : List (List Int)) (cl2 cn2 : Int) (Ar2 : Option Addr) (nr2 cr2 : Nat) (R2 : List Int) (Ap2 : Option Addr) (np2 cp2 : Nat) (P2 : List Int) (Ak2 : Option Addr) (nk2 ck2 : Nat) (K2 : List (List Int)) (Av2 : Option Addr) (nv2 cv2 : Nat) (V2 : List Mv) (As2 : Option Addr) (ns2 cs2 : Nat) (S2 : List (List Int)) (Aw2 : Option Addr) (nw2 cw2 : Nat) (X2 : List (List Int)) (w : World) (ht : Tb w) (h : NtIn w A N) (hn : N.tr.length = n) (hn2 : n ≤ 9223372036854775807) (hC : CfL w Ar1 nr1 R1 Ap1 np1 P1 Ak1 nk1 K1 Av1 nv1 V1 As1 ns1 S1 Aw1 nw1 X1) (hD : CfL w Ar2 nr2 R2 Ap2 np2 P2 Ak2 nk2 K2 Av2 nv2 V2 As2 ns2 S2 Aw2 nw2 X2) :
 Calls Tryd.prog 4 #[.agg #[.int .i64 N.pl, .slice A n c, .int .i64 N.src, .int .i64 N.snk], .agg #[.int .i64 cl1, .int .i64 cn1, .slice Ar1 nr1 cr1, .slice Ap1 np1 cp1, .slice Ak1 nk1 ck1, .slice Av1 nv1 cv1, .slice As1 ns1 cs1, .slice Aw1 nw1 cw1], .agg #[.int .i64 cl2, .int .i64 cn2, .slice Ar2 nr2 cr2, .slice Ap2 np2 cp2, .slice Ak2 nk2 ck2, .slice Av2 nv2 cv2, .slice As2 ns2 cs2, .slice Aw2 nw2 cw2]] w fun e w' => e = .returned (.bool true) ∧ Below w.heap.size w w' := by
 have HB0 := hid (below_then (two_boxes w (.cells #[.int .i64 N.pl, .slice A n c, .int .i64 N.src, .int .i64 N.snk] 24) (.cells #[.int .i64 cl1, .int .i64 cn1, .slice Ar1 nr1 cr1, .slice Ap1 np1 cp1, .slice Ak1 nk1 ck1, .slice Av1 nv1 cv1, .slice As1 ns1 cs1, .slice Aw1 nw1 cw1] 29)) (below_alloc _ (.cells #[.int .i64 cl2, .int .i64 cn2, .slice Ar2 nr2 cr2, .slice Ap2 np2 cp2, .slice Ak2 nk2 ck2, .slice Av2 nv2 cv2, .slice As2 ns2 cs2, .slice Aw2 nw2 cw2] 29)))
 have HNb0 := hid (((NB.new w N.pl A n c N.src N.snk).below (below_alloc _ (.cells #[.int .i64 cl1, .int .i64 cn1, .slice Ar1 nr1 cr1, .slice Ap1 np1 cp1, .slice Ak1 nk1 ck1, .slice Av1 nv1 cv1, .slice As1 ns1 cs1, .slice Aw1 nw1 cw1] 29))).below (below_alloc _ (.cells #[.int .i64 cl2, .int .i64 cn2, .slice Ar2 nr2 cr2, .slice Ap2 np2 cp2, .slice Ak2 nk2 ck2, .slice Av2 nv2 cv2, .slice As2 ns2 cs2, .slice Aw2 nw2 cw2] 29)))
 have hcb := heap_alloc_new (w.alloc (.cells #[.int .i64 N.pl, .slice A n c, .int .i64 N.src, .int .i64 N.snk] 24)) (.cells #[.int .i64 cl1, .int .i64 cn1, .slice Ar1 nr1 cr1, .slice Ap1 np1 cp1, .slice Ak1 nk1 ck1, .slice Av1 nv1 cv1, .slice As1 ns1 cs1, .slice Aw1 nw1 cw1] 29)
 rw [World.size_alloc] at hcb
 have HCb0 := hid ((show CtB _ (w.heap.size + 1) #[.int .i64 cl1, .int .i64 cn1, .slice Ar1 nr1 cr1, .slice Ap1 np1 cp1, .slice Ak1 nk1 ck1, .slice Av1 nv1 cv1, .slice As1 ns1 cs1, .slice Aw1 nw1 cw1] from hcb).below (below_alloc _ (.cells #[.int .i64 cl2, .int .i64 cn2, .slice Ar2 nr2 cr2, .slice Ap2 np2 cp2, .slice Ak2 nk2 ck2, .slice Av2 nv2 cv2, .slice As2 ns2 cs2, .slice Aw2 nw2 cw2] 29)))
 have hdb := heap_alloc_new ((w.alloc (.cells #[.int .i64 N.pl, .slice A n c, .int .i64 N.src, .int .i64 N.snk] 24)).alloc (.cells #[.int .i64 cl1, .int .i64 cn1, .slice Ar1 nr1 cr1, .slice Ap1 np1 cp1, .slice Ak1 nk1 ck1, .slice Av1 nv1 cv1, .slice As1 ns1 cs1, .slice Aw1 nw1 cw1] 29)) (.cells #[.int .i64 cl2, .int .i64 cn2, .slice Ar2 nr2 cr2, .slice Ap2 np2 cp2, .slice Ak2 nk2 ck2, .slice Av2 nv2 cv2, .slice As2 ns2 cs2, .slice Aw2 nw2 cw2] 29)
 rw [World.size_alloc, World.size_alloc] at hdb
 have HDb0 := hid (show CtB _ (w.heap.size + 1 + 1) #[.int .i64 cl2, .int .i64 cn2, .slice Ar2 nr2 cr2, .slice Ap2 np2 cp2, .slice Ak2 nk2 ck2, .slice Av2 nv2 cv2, .slice As2 ns2 cs2, .slice Aw2 nw2 cw2] from hdb)
 have HIn0 := hid (h.below HB0.out)
 have HC0 := hid (hC.below HB0.out)
 have HD0 := hid (hD.below HB0.out)
 have HT0 := hid (ht.below HB0.out)
 have HNl := hid hn
 clear h hn hC hD hcb hdb ht
 go_enter Tryd.func4, Tryd.ntmps4
 go_wp2_with fail
 generalize ((w.alloc _).alloc _).alloc _ = w0 at *
 generalize hc1 : w.heap.size + 1 = cb at *
 generalize cb + 1 = db at *
 clear hc1
 have HA := hid (awake_any w0 HT0.out)
 ((with_reducible refine HA.out.mono ?_); rintro e w1 ⟨rfl, hb1⟩)
 clear HA
 have HB1 := hid (HB0.out.trans (hb1.mono HB0.out.size))
 have HNb1 := hid (HNb0.out.below hb1)
 have HCb1 := hid (HCb0.out.below hb1)
 have HDb1 := hid (HDb0.out.below hb1)
 have HIn1 := hid (HIn0.out.below hb1)
 have HC1 := hid (HC0.out.below hb1)
 have HD1 := hid (HD0.out.below hb1)
 have HT1 := hid (HT0.out.below hb1)
 clear HB0 HNb0 HCb0 HDb0 HIn0 HC0 HD0 HT0 hb1
 obtain ⟨b0, b1, b2, b3⟩ := HNb1.out.cells
 obtain ⟨d0, d1, d2, d3, d4, d5, d6, d7⟩ := HCb1.out.cells
 obtain ⟨e0, e1, e2, e3, e4, e5, e6, e7⟩ := HDb1.out.cells
 have HGr := hid (great_any N A n c w1 HIn1.out HNl.out hn2)
 go_wp2_with fail
 ((with_reducible refine HGr.out.mono ?_); rintro e w2 ⟨b, rfl, hbn, hb2⟩)
 clear HGr
 clear b0 b1 b2 b3 d0 d1 d2 d3 d4 d5 d6 d7 e0 e1 e2 e3 e4 e5 e6 e7
 have HB2 := hid (HB1.out.trans (hb2.mono HB1.out.size))
 have HNb2 := hid (HNb1.out.below hb2)
 have HCb2 := hid (HCb1.out.below hb2)
 have HDb2 := hid (HDb1.out.below hb2)
 have HIn2 := hid (HIn1.out.below hb2)
 have HC2 := hid (HC1.out.below hb2)
 have HD2 := hid (HD1.out.below hb2)
 have HT2 := hid (HT1.out.below hb2)
 clear HB1 HNb1 HCb1 HDb1 HIn1 HC1 HD1 HT1 hb2
 obtain ⟨b0, b1, b2, b3⟩ := HNb2.out.cells
 obtain ⟨d0, d1, d2, d3, d4, d5, d6, d7⟩ := HCb2.out.cells
 obtain ⟨e0, e1, e2, e3, e4, e5, e6, e7⟩ := HDb2.out.cells
 cases b with
 | true =>
  go_wp2_with fail
  go_ret
  exact ⟨rfl, HB2.out⟩
 | false =>
 have hn100 : n ≤ 100 := hbn rfl
 clear hbn
 have HG := hid (show Calls Tryd.prog 7 #[.agg #[.int .i64 cl1, .int .i64 cn1, .slice Ar1 nr1 cr1, .slice Ap1 np1 cp1, .slice Ak1 nk1 ck1, .slice Av1 nv1 cv1, .slice As1 ns1 cs1, .slice Aw1 nw1 cw1], .int .i64 60] w2 _ from great29_any cl1 cn1 Ar1 nr1 cr1 R1 Ap1 np1 cp1 P1 Ak1 nk1 ck1 K1 Av1 nv1 cv1 V1 As1 ns1 cs1 S1 Aw1 nw1 cw1 X1 60 w2 HC2.out (by omega))
 go_wp2_with fail
 ((with_reducible refine HG.out.mono ?_); rintro e w3 ⟨rfl, hb3⟩)
 clear HG
 clear b0 b1 b2 b3 d0 d1 d2 d3 d4 d5 d6 d7 e0 e1 e2 e3 e4 e5 e6 e7
 have HB3 := hid (HB2.out.trans (hb3.mono HB2.out.size))
 have HNb3 := hid (HNb2.out.below hb3)
 have HCb3 := hid (HCb2.out.below hb3)
 have HDb3 := hid (HDb2.out.below hb3)
 have HIn3 := hid (HIn2.out.below hb3)
 have HC3 := hid (HC2.out.below hb3)
 have HD3 := hid (HD2.out.below hb3)
 have HT3 := hid (HT2.out.below hb3)
 clear HB2 HNb2 HCb2 HDb2 HIn2 HC2 HD2 HT2 hb3
 obtain ⟨b0, b1, b2, b3⟩ := HNb3.out.cells
 obtain ⟨d0, d1, d2, d3, d4, d5, d6, d7⟩ := HCb3.out.cells
 obtain ⟨e0, e1, e2, e3, e4, e5, e6, e7⟩ := HDb3.out.cells
 cases hg1 : grtB 60 R1 P1 K1 V1 S1 X1 with
 | true =>
  clear hg1
  go_wp2_with fail
  go_ret
  exact ⟨rfl, HB3.out⟩
 | false =>
 have HG := hid (show Calls Tryd.prog 7 #[.agg #[.int .i64 cl2, .int .i64 cn2, .slice Ar2 nr2 cr2, .slice Ap2 np2 cp2, .slice Ak2 nk2 ck2, .slice Av2 nv2 cv2, .slice As2 ns2 cs2, .slice Aw2 nw2 cw2], .int .i64 60] w3 _ from great29_any cl2 cn2 Ar2 nr2 cr2 R2 Ap2 np2 cp2 P2 Ak2 nk2 ck2 K2 Av2 nv2 cv2 V2 As2 ns2 cs2 S2 Aw2 nw2 cw2 X2 60 w3 HD3.out (by omega))
 go_wp2_with fail
 ((with_reducible refine HG.out.mono ?_); rintro e w4 ⟨rfl, hb4⟩)
 clear HG
 clear b0 b1 b2 b3 d0 d1 d2 d3 d4 d5 d6 d7 e0 e1 e2 e3 e4 e5 e6 e7
 have HB4 := hid (HB3.out.trans (hb4.mono HB3.out.size))
 have HNb4 := hid (HNb3.out.below hb4)
 have HCb4 := hid (HCb3.out.below hb4)
 have HDb4 := hid (HDb3.out.below hb4)
 have HIn4 := hid (HIn3.out.below hb4)
 have HC4 := hid (HC3.out.below hb4)
 have HD4 := hid (HD3.out.below hb4)
 have HT4 := hid (HT3.out.below hb4)
 clear HB3 HNb3 HCb3 HDb3 HIn3 HC3 HD3 HT3 hb4
 obtain ⟨b0, b1, b2, b3⟩ := HNb4.out.cells
 obtain ⟨d0, d1, d2, d3, d4, d5, d6, d7⟩ := HCb4.out.cells
 obtain ⟨e0, e1, e2, e3, e4, e5, e6, e7⟩ := HDb4.out.cells
 cases hg2 : grtB 60 R2 P2 K2 V2 S2 X2 with
 | true =>
  clear hg1 hg2
  go_wp2_with fail
  go_ret
  exact ⟨rfl, HB4.out⟩
 | false =>
 obtain ⟨g1, g2, g3, g4, g5, g6, _, g8, _⟩ := grt_no hg1
 have HM1 := hid (HC4.out.m (by rw [← HC4.out.rl]; omega) (by rw [← HC4.out.pl]; omega) (by rw [← HC4.out.kl]; omega) (by rw [← HC4.out.vl]; omega) (by rw [← HC4.out.sl]; omega) (by rw [← HC4.out.xl]; omega))
 have HI1 := hid g8
 clear g1 g2 g3 g4 g5 g6 g8 hg1
 obtain ⟨g1, g2, g3, g4, g5, g6, _, g8, _⟩ := grt_no hg2
 have HM2 := hid (HD4.out.m (by rw [← HD4.out.rl]; omega) (by rw [← HD4.out.pl]; omega) (by rw [← HD4.out.kl]; omega) (by rw [← HD4.out.vl]; omega) (by rw [← HD4.out.sl]; omega) (by rw [← HD4.out.xl]; omega))
 have HI2 := hid g8
 clear g1 g2 g3 g4 g5 g6 g8 hg2
 have HO := hid (vopp_any cl1 w4)
 by_cases hr : 1 ≤ cl1 ∧ cl1 ≤ 10
 rotate_left
 · skip
   rw [show oppE cl1 = 2 from if_neg hr] at HO
   generalize oppV cl1 = o at *
   go_wp2_with fail
   ((with_reducible refine HO.out.mono ?_); rintro e w5 ⟨rfl, hb5⟩)
   clear b0 b1 b2 b3 d0 d1 d2 d3 d4 d5 d6 d7 e0 e1 e2 e3 e4 e5 e6 e7
   have HB5 := hid (HB4.out.trans (hb5.mono HB4.out.size))
   have HNb5 := hid (HNb4.out.below hb5)
   have HCb5 := hid (HCb4.out.below hb5)
   have HDb5 := hid (HDb4.out.below hb5)
   have HIn5 := hid (HIn4.out.below hb5)
   have HC5 := hid (HC4.out.below hb5)
   have HD5 := hid (HD4.out.below hb5)
   have HT5 := hid (HT4.out.below hb5)
   clear HB4 HNb4 HCb4 HDb4 HIn4 HC4 HD4 HT4 hb5
   obtain ⟨b0, b1, b2, b3⟩ := HNb5.out.cells
   obtain ⟨d0, d1, d2, d3, d4, d5, d6, d7⟩ := HCb5.out.cells
   obtain ⟨e0, e1, e2, e3, e4, e5, e6, e7⟩ := HDb5.out.cells
   go_wp2_with fail
   go_ret
   exact ⟨rfl, HB5.out⟩
 rw [show oppE cl1 = 0 from if_pos hr] at HO
 have HOv := hid (show oppV cl1 = if cl1 % 2 = 1 then cl1 + 1 else cl1 - 1 from if_pos hr)
 have HR := hid hr
 clear hr
 generalize oppV cl1 = o at *
 by_cases heq : o = cl2
 rotate_left
 · skip
   have q1 : (o != cl2) = true := by rw [bne_iff_ne]; exact heq
   clear heq
   go_wp2_with fail
   ((with_reducible refine HO.out.mono ?_); rintro e w5 ⟨rfl, hb5⟩)
   clear b0 b1 b2 b3 d0 d1 d2 d3 d4 d5 d6 d7 e0 e1 e2 e3 e4 e5 e6 e7
   have HB5 := hid (HB4.out.trans (hb5.mono HB4.out.size))
   have HNb5 := hid (HNb4.out.below hb5)
   have HCb5 := hid (HCb4.out.below hb5)
   have HDb5 := hid (HDb4.out.below hb5)
   have HIn5 := hid (HIn4.out.below hb5)
   have HC5 := hid (HC4.out.below hb5)
   have HD5 := hid (HD4.out.below hb5)
   have HT5 := hid (HT4.out.below hb5)
   clear HB4 HNb4 HCb4 HDb4 HIn4 HC4 HD4 HT4 hb5
   obtain ⟨b0, b1, b2, b3⟩ := HNb5.out.cells
   obtain ⟨d0, d1, d2, d3, d4, d5, d6, d7⟩ := HCb5.out.cells
   obtain ⟨e0, e1, e2, e3, e4, e5, e6, e7⟩ := HDb5.out.cells
   go_wp2_with fail
   go_ret
   exact ⟨rfl, HB5.out⟩
 subst heq
 have q1 : (o != o) = false := by simp
 go_wp2_with fail
 ((with_reducible refine HO.out.mono ?_); rintro e w5 ⟨rfl, hb5⟩)
 clear HO
 clear b0 b1 b2 b3 d0 d1 d2 d3 d4 d5 d6 d7 e0 e1 e2 e3 e4 e5 e6 e7
 have HM1b := hid (HM1.out.below hb5)
 have HM2b := hid (HM2.out.below hb5)
 clear HM1 HM2
 have HB5 := hid (HB4.out.trans (hb5.mono HB4.out.size))
 have HNb5 := hid (HNb4.out.below hb5)
 have HCb5 := hid (HCb4.out.below hb5)
 have HDb5 := hid (HDb4.out.below hb5)
 have HIn5 := hid (HIn4.out.below hb5)
 have HC5 := hid (HC4.out.below hb5)
 have HD5 := hid (HD4.out.below hb5)
 have HT5 := hid (HT4.out.below hb5)
 clear HB4 HNb4 HCb4 HDb4 HIn4 HC4 HD4 HT4 hb5
 obtain ⟨b0, b1, b2, b3⟩ := HNb5.out.cells
 obtain ⟨d0, d1, d2, d3, d4, d5, d6, d7⟩ := HCb5.out.cells
 obtain ⟨e0, e1, e2, e3, e4, e5, e6, e7⟩ := HDb5.out.cells
 have HK := hid (vcheck_any N A n c cl1 cn1 Ar1 nr1 cr1 R1 Ap1 np1 cp1 P1 Ak1 nk1 ck1 K1 Av1 nv1 cv1 V1 As1 ns1 cs1 S1 Aw1 nw1 cw1 X1 w5 HT5.out HIn5.out HNl.out (by omega) HM1b.out (fun I hI ni hni => by have := HI1.out I hI; omega))
 go_wp2_with fail
 ((with_reducible refine HK.out.mono ?_); rintro e w6 ⟨⟨qa, rfl, hqa⟩, hb6⟩)
 clear HK HM1b
 have HQa := hid hqa
 clear hqa
 have HM2c := hid (HM2b.out.below hb6)
 clear HM2b
 clear b0 b1 b2 b3 d0 d1 d2 d3 d4 d5 d6 d7 e0 e1 e2 e3 e4 e5 e6 e7
 have HB6 := hid (HB5.out.trans (hb6.mono HB5.out.size))
 have HNb6 := hid (HNb5.out.below hb6)
 have HCb6 := hid (HCb5.out.below hb6)
 have HDb6 := hid (HDb5.out.below hb6)
 have HIn6 := hid (HIn5.out.below hb6)
 have HC6 := hid (HC5.out.below hb6)
 have HD6 := hid (HD5.out.below hb6)
 have HT6 := hid (HT5.out.below hb6)
 clear HB5 HNb5 HCb5 HDb5 HIn5 HC5 HD5 HT5 hb6
 obtain ⟨b0, b1, b2, b3⟩ := HNb6.out.cells
 obtain ⟨d0, d1, d2, d3, d4, d5, d6, d7⟩ := HCb6.out.cells
 obtain ⟨e0, e1, e2, e3, e4, e5, e6, e7⟩ := HDb6.out.cells
 cases qa with
 | false =>
  go_wp2_with fail
  go_ret
  exact ⟨rfl, HB6.out⟩
 | true =>
 have HK := hid (vcheck_any N A n c o cn2 Ar2 nr2 cr2 R2 Ap2 np2 cp2 P2 Ak2 nk2 ck2 K2 Av2 nv2 cv2 V2 As2 ns2 cs2 S2 Aw2 nw2 cw2 X2 w6 HT6.out HIn6.out HNl.out (by omega) HM2c.out (fun I hI ni hni => by have := HI2.out I hI; omega))
 go_wp2_with fail
 ((with_reducible refine HK.out.mono ?_); rintro e w7 ⟨⟨qb, rfl, hqb⟩, hb7⟩)
 clear HK HM2c
 have HQb := hid hqb
 clear hqb
 clear b0 b1 b2 b3 d0 d1 d2 d3 d4 d5 d6 d7 e0 e1 e2 e3 e4 e5 e6 e7
 have HB7 := hid (HB6.out.trans (hb7.mono HB6.out.size))
 have HNb7 := hid (HNb6.out.below hb7)
 have HCb7 := hid (HCb6.out.below hb7)
 have HDb7 := hid (HDb6.out.below hb7)
 have HIn7 := hid (HIn6.out.below hb7)
 have HC7 := hid (HC6.out.below hb7)
 have HD7 := hid (HD6.out.below hb7)
 have HT7 := hid (HT6.out.below hb7)
 clear HB6 HNb6 HCb6 HDb6 HIn6 HC6 HD6 HT6 hb7
 obtain ⟨b0, b1, b2, b3⟩ := HNb7.out.cells
 obtain ⟨d0, d1, d2, d3, d4, d5, d6, d7⟩ := HCb7.out.cells
 obtain ⟨e0, e1, e2, e3, e4, e5, e6, e7⟩ := HDb7.out.cells
 cases qb with
 | false =>
  go_wp2_with fail
  go_ret
  exact ⟨rfl, HB7.out⟩
 | true =>
 obtain ⟨hs, hne⟩ := honest (HQa.out.1 (by trivial)) (HQb.out.1 (by trivial)) HR.out HOv.out
 have q9 : (cn1 != cn2) = true := by rw [bne_iff_ne]; exact hne
 rcases hs with hs | hs
 · have q5 : (cl1 == 7) = true := by rw [beq_iff_eq]; exact hs
   clear hs hne
   go_wp2_with fail
   go_ret
   exact ⟨rfl, HB7.out⟩
 · have q5 : (cl1 == 7) = false := by rw [beq_eq_false_iff_ne]; omega
   have q6 : (cl1 == 8) = true := by rw [beq_iff_eq]; exact hs
   clear hs hne
   go_wp2_with fail
   go_ret
   exact ⟨rfl, HB7.out⟩
end Go.Proofs.YtpnhcimmlnjfaaaDoor
