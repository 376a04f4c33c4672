/- Same of reference 29, where both certificates read the same: it is true. -/
import Derived.Test.YtkhmngljpfibcaaGreatDoorPOj
namespace Go.Proofs.YtkhmngljpfibcaaGreatDoor
set_option maxRecDepth 100000
set_option maxHeartbeats 6400000
open Go.Lib (hid)
open Go.RowKit

theorem same_row (Aa Ab : Option Addr) (n ca cb : Nat) (L : List Int) (w : World) (ha : ZIn w Aa L) (hb : ZIn w Ab L) (hn : L.length = n) (hn2 : n ≤ 9223372036854775807) :
 Calls Tryz.prog 107 #[.slice Aa n ca, .slice Ab n cb] w fun e w' => e = .returned (.bool true) ∧ Below w.heap.size w w' := by
 have HA := hid ha;have HB := hid hb;have HN := hid hn;have q0 : ((n : Int) != (n : Int)) = false := by simp
 clear ha hb hn;go_enter Tryz.func107, Tryz.ntmps107;go_wp2_with fail;go_loopg [5] (n) (fun g iv wr => ∃ k : Nat, k + g = n ∧ iv = .int .i64 (k : Int) ∧ Below w.heap.size w wr);case atStart => exact ⟨0, by omega, rfl, Below.refl _ _⟩
 case round =>
  obtain ⟨k, hk, rfl, hB⟩ := hrel;have HK := hid hk;have HBr := hid hB;have hle : k ≤ n := by omega
  clear hk hB;by_cases hlt : k < n
  · have hlt' : k < L.length := by rw [HN.out]; exact hlt
    obtain ⟨aa, rfl, hpa, a0⟩ := (HA.out.below HBr.out) k hlt';obtain ⟨ab, rfl, hpb, b0⟩ := (HB.out.below HBr.out) k hlt';generalize L[k] = x at *;have q1 : (x != x) = false := by simp
    clear hlt';go_wp2_with fail;go_quiet (fail);go_wp2_with fail;go_roundg (gk - 1);case measure => have := HK.out; omega
    case rel => exact ⟨k + 1, by have := HK.out; omega, by go_num, below_then HBr.out (below_drewN _ _)⟩
  · go_wp2_with fail;go_ret;exact ⟨rfl, HBr.out⟩
theorem same_rows (Aa Ab : Option Addr) (n ca cb : Nat) (LL : List (List Int)) (w : World) (ha : LIn w Aa LL) (hb : LIn w Ab LL) (hn : LL.length = n) (hn2 : n ≤ 9223372036854775806) :
 Calls Tryz.prog 108 #[.slice Aa n ca, .slice Ab n cb] w fun e w' => e = .returned (.bool true) ∧ Below w.heap.size w w' := by
 have HA := hid ha;have HB := hid hb;have HN := hid hn;have q0 : ((n : Int) != (n : Int)) = false := by simp
 clear ha hb hn;go_enter Tryz.func108, Tryz.ntmps108;go_wp2_with fail;go_loopg [5] (n) (fun g iv wr => ∃ k : Nat, k + g = n ∧ iv = .int .i64 (k : Int) ∧ Below w.heap.size w wr);case atStart => exact ⟨0, by omega, rfl, Below.refl _ _⟩
 case round =>
  obtain ⟨k, hk, rfl, hB⟩ := hrel;have HK := hid hk;have HBr := hid hB;have hle : k ≤ n := by omega
  clear hk hB;by_cases hlt : k < n
  · have hlt' : k < LL.length := by rw [HN.out]; exact hlt
    obtain ⟨aa, rfl, hpa, u, a0, Aua, nu, cua, rfl, za, z1, z2, z3⟩ := (HA.out.below HBr.out) k hlt';obtain ⟨ab, rfl, hpb, v, b0, Aub, nv, cub, rfl, zb, y1, y2, y3⟩ := (HB.out.below HBr.out) k hlt';obtain rfl : nu = nv := z1.symm.trans y1;have HR := hid (fun d os => same_row Aua Aub nu cua cub LL[k] _ (za.below (below_regrown wr d os)) (zb.below (below_regrown wr d os)) z1 (by omega));generalize LL[k] = l0 at *;clear hlt' za zb z1 y1;go_wp2_with fail;have g1 := fun d os => cell_regrown a0 d os
    have g2 := fun d os => cell_regrown b0 d os
    refine wp_region_quiet_below (by kernel_rfl) (by kernel_rfl) ?_;repeat (quiet_step (exact Calls.regrown_of (HR.out _ _)))
    refine wpQuiet_nil ?_;intro _ hw';obtain ⟨⟨dq, osq⟩, hw''⟩ := hw';subst hw'';have HB2 := hid (below_then HBr.out (below_regrown wr dq osq));clear g1 g2;go_wp2_with fail;go_roundg (gk - 1);case measure => have := HK.out; omega
    case rel => exact ⟨k + 1, by have := HK.out; omega, by go_num, HB2.out⟩
  · go_wp2_with fail;go_ret;exact ⟨rfl, HBr.out⟩
theorem same29_any (C : Ce) (Ar1 : Option Addr) (cr1 : Nat) (Ap1 : Option Addr) (cp1 : Nat) (Ak1 : Option Addr) (ck1 : Nat) (Av1 : Option Addr) (cv1 : Nat) (As1 : Option Addr) (cs1 : Nat) (Ax1 : Option Addr) (cx1 : Nat) (Ar2 : Option Addr) (cr2 : Nat) (Ap2 : Option Addr) (cp2 : Nat) (Ak2 : Option Addr) (ck2 : Nat) (Av2 : Option Addr) (cv2 : Nat) (As2 : Option Addr) (cs2 : Nat) (Ax2 : Option Addr) (cx2 : Nat) (w : World) (h1 : CfM w Ar1 C.r.length C.r Ap1 C.p.length C.p Ak1 C.k.length C.k Av1 C.v.length C.v As1 C.s.length C.s Ax1 C.x.length C.x) (h2 : CfM w Ar2 C.r.length C.r Ap2 C.p.length C.p Ak2 C.k.length C.k Av2 C.v.length C.v As2 C.s.length C.s Ax2 C.x.length C.x) :
 Calls Tryz.prog 42 #[.agg #[.int .i64 C.cl, .int .i64 C.cn, .slice Ar1 C.r.length cr1, .slice Ap1 C.p.length cp1, .slice Ak1 C.k.length ck1, .slice Av1 C.v.length cv1, .slice As1 C.s.length cs1, .slice Ax1 C.x.length cx1], .agg #[.int .i64 C.cl, .int .i64 C.cn, .slice Ar2 C.r.length cr2, .slice Ap2 C.p.length cp2, .slice Ak2 C.k.length ck2, .slice Av2 C.v.length cv2, .slice As2 C.s.length cs2, .slice Ax2 C.x.length cx2]] w fun e w' => e = .returned (.bool true) ∧ Below w.heap.size w w' := by
 have HB0 := hid (two_boxes w (.cells #[.int .i64 C.cl, .int .i64 C.cn, .slice Ar1 C.r.length cr1, .slice Ap1 C.p.length cp1, .slice Ak1 C.k.length ck1, .slice Av1 C.v.length cv1, .slice As1 C.s.length cs1, .slice Ax1 C.x.length cx1] 31) (.cells #[.int .i64 C.cl, .int .i64 C.cn, .slice Ar2 C.r.length cr2, .slice Ap2 C.p.length cp2, .slice Ak2 C.k.length ck2, .slice Av2 C.v.length cv2, .slice As2 C.s.length cs2, .slice Ax2 C.x.length cx2] 31));have HC1 := hid (show CtB _ w.heap.size #[.int .i64 C.cl, .int .i64 C.cn, .slice Ar1 C.r.length cr1, .slice Ap1 C.p.length cp1, .slice Ak1 C.k.length ck1, .slice Av1 C.v.length cv1, .slice As1 C.s.length cs1, .slice Ax1 C.x.length cx1] from CtB.below (heap_alloc_new w _) (below_alloc _ (.cells #[.int .i64 C.cl, .int .i64 C.cn, .slice Ar2 C.r.length cr2, .slice Ap2 C.p.length cp2, .slice Ak2 C.k.length ck2, .slice Av2 C.v.length cv2, .slice As2 C.s.length cs2, .slice Ax2 C.x.length cx2] 31)));have hc2 := heap_alloc_new (w.alloc (.cells #[.int .i64 C.cl, .int .i64 C.cn, .slice Ar1 C.r.length cr1, .slice Ap1 C.p.length cp1, .slice Ak1 C.k.length ck1, .slice Av1 C.v.length cv1, .slice As1 C.s.length cs1, .slice Ax1 C.x.length cx1] 31)) (.cells #[.int .i64 C.cl, .int .i64 C.cn, .slice Ar2 C.r.length cr2, .slice Ap2 C.p.length cp2, .slice Ak2 C.k.length ck2, .slice Av2 C.v.length cv2, .slice As2 C.s.length cs2, .slice Ax2 C.x.length cx2] 31);rw [World.size_alloc] at hc2;have HC2 := hid (show CtB _ (w.heap.size + 1) #[.int .i64 C.cl, .int .i64 C.cn, .slice Ar2 C.r.length cr2, .slice Ap2 C.p.length cp2, .slice Ak2 C.k.length ck2, .slice Av2 C.v.length cv2, .slice As2 C.s.length cs2, .slice Ax2 C.x.length cx2] from hc2);have H1 := hid (h1.below HB0.out);have H2 := hid (h2.below HB0.out);have q1 : (C.cl != C.cl) = false := by simp
 have q2 : (C.cn != C.cn) = false := by simp
 have q3 : ((C.v.length : Int) != (C.v.length : Int)) = false := by simp
 have hvb := h1.vb;clear h1 h2 hc2;go_enter Tryz.func42, Tryz.ntmps42;go_wp2_with fail;generalize ((w.alloc (.cells #[.int .i64 C.cl, .int .i64 C.cn, .slice Ar1 C.r.length cr1, .slice Ap1 C.p.length cp1, .slice Ak1 C.k.length ck1, .slice Av1 C.v.length cv1, .slice As1 C.s.length cs1, .slice Ax1 C.x.length cx1] 31)).alloc (.cells #[.int .i64 C.cl, .int .i64 C.cn, .slice Ar2 C.r.length cr2, .slice Ap2 C.p.length cp2, .slice Ak2 C.k.length ck2, .slice Av2 C.v.length cv2, .slice As2 C.s.length cs2, .slice Ax2 C.x.length cx2] 31)) = w1 at *;generalize w.heap.size + 1 = cb at *;obtain ⟨d0, d1, d2, d3, d4, d5, d6, d7⟩ := HC1.out.cells;obtain ⟨e0, e1, e2, e3, e4, e5, e6, e7⟩ := HC2.out.cells;((with_reducible refine (same_row Ar1 Ar2 C.r.length cr1 cr2 C.r w1 H1.out.r H2.out.r rfl (Nat.le_succ_of_le H1.out.rb)).mono ?_); rintro e w2 ⟨rfl, hb⟩)
 have HB2 := hid hb;obtain ⟨d0, d1, d2, d3, d4, d5, d6, d7⟩ := (HC1.out.below HB2.out).cells;obtain ⟨e0, e1, e2, e3, e4, e5, e6, e7⟩ := (HC2.out.below HB2.out).cells;clear hb;go_wp2_with fail;((with_reducible refine (same_row Ap1 Ap2 C.p.length cp1 cp2 C.p w2 (H1.out.p.below HB2.out) (H2.out.p.below HB2.out) rfl (Nat.le_succ_of_le H1.out.pb)).mono ?_); rintro e w3 ⟨rfl, hb⟩)
 have HB3 := hid (below_then HB2.out hb);obtain ⟨d0, d1, d2, d3, d4, d5, d6, d7⟩ := (HC1.out.below HB3.out).cells;obtain ⟨e0, e1, e2, e3, e4, e5, e6, e7⟩ := (HC2.out.below HB3.out).cells;clear hb;go_wp2_with fail;clear d0 d1 d2 d3 d4 d5 d6 d7 e0 e1 e2 e3 e4 e5 e6 e7;clear q1 q2 q3;have hvl : C.v.length = C.v.length := rfl;go_loopg [5] (C.v.length) (fun g iv wr => ∃ k : Nat, k + g = C.v.length ∧ iv = .int .i64 (k : Int) ∧ Below w1.heap.size w1 wr);case atStart => exact ⟨0, by omega, rfl, HB3.out⟩
 case round =>
  obtain ⟨k, hk, rfl, hB⟩ := hrel;have HK := hid hk;have HBr := hid hB;have hle : k ≤ C.v.length := by omega
  clear hk hB HB2 HB3;obtain ⟨d0, d1, d2, d3, d4, d5, d6, d7⟩ := (HC1.out.below HBr.out).cells;obtain ⟨e0, e1, e2, e3, e4, e5, e6, e7⟩ := (HC2.out.below HBr.out).cells;by_cases hlt : k < C.v.length
  · obtain ⟨av, rfl, hpv, m0', m1', m2'⟩ := mv_at H1.out.v hlt;obtain ⟨au, rfl, hpu, n0', n1', n2'⟩ := mv_at H2.out.v hlt;have m0 := cell_stays HBr.out m0';have m1 := cell_stays HBr.out m1';have m2 := cell_stays HBr.out m2';have n0 := cell_stays HBr.out n0';have n1 := cell_stays HBr.out n1';have n2 := cell_stays HBr.out n2';generalize C.v[k].f = xf at *;generalize C.v[k].t = xt at *;generalize C.v[k].s = xs at *;have q1 : (xf != xf) = false := by simp
    have q2 : (xt != xt) = false := by simp
    have q3 : (xs != xs) = false := by simp
    have p1 : (xf == xf) = true := by simp
    have p2 : (xt == xt) = true := by simp
    have p3 : (xs == xs) = true := by simp
    clear m0' m1' m2' n0' n1' n2' hpv hpu d0 d1 d2 d3 d4 d6 d7 e0 e1 e2 e3 e4 e6 e7;go_wp2_with fail;go_quiet (fail);go_wp2_with fail;go_roundg (gk - 1);case measure => have := HK.out; omega
    case rel => exact ⟨k + 1, by have := HK.out; omega, by go_num, below_then HBr.out (below_drewN _ _)⟩
  · clear hvl;go_wp2_with fail;((with_reducible refine (same_rows Ak1 Ak2 C.k.length ck1 ck2 C.k wr (H1.out.k.below HBr.out) (H2.out.k.below HBr.out) rfl H1.out.kb).mono ?_); rintro e w2 ⟨rfl, hb⟩)
    have HB2 := hid (below_then HBr.out hb);obtain ⟨d0, d1, d2, d3, d4, d5, d6, d7⟩ := (HC1.out.below HB2.out).cells;obtain ⟨e0, e1, e2, e3, e4, e5, e6, e7⟩ := (HC2.out.below HB2.out).cells;clear hb HBr;go_wp2_with fail;((with_reducible refine (same_rows As1 As2 C.s.length cs1 cs2 C.s w2 (H1.out.s.below HB2.out) (H2.out.s.below HB2.out) rfl H1.out.sb).mono ?_); rintro e w3 ⟨rfl, hb⟩)
    have HB3 := hid (below_then HB2.out hb);obtain ⟨d0, d1, d2, d3, d4, d5, d6, d7⟩ := (HC1.out.below HB3.out).cells;obtain ⟨e0, e1, e2, e3, e4, e5, e6, e7⟩ := (HC2.out.below HB3.out).cells;clear hb HB2;go_wp2_with fail;((with_reducible refine (same_rows Ax1 Ax2 C.x.length cx1 cx2 C.x w3 (H1.out.x.below HB3.out) (H2.out.x.below HB3.out) rfl H1.out.xb).mono ?_); rintro e w4 ⟨rfl, hb⟩)
    have HB4 := hid (below_then HB3.out hb);clear hb HB3;go_wp2_with fail;go_ret;exact ⟨rfl, HB0.out.trans (HB4.out.mono HB0.out.size)⟩
end Go.Proofs.YtkhmngljpfibcaaGreatDoor
