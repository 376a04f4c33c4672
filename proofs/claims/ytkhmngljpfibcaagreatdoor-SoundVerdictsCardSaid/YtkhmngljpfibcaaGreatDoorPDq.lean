/- Find and raise of reference 24: what a call returns. The tree of reference 24 in memory. -/
import Derived.Test.YtkhmngljpfibcaaGreatDoorPUu
import Derived.Test.YtkhmngljpfibcaaGreatDoorPDo
namespace Go.Proofs.YtkhmngljpfibcaaGreatDoor
set_option maxRecDepth 100000
set_option maxHeartbeats 12800000
open Go.Lib (hid)
section
open Go.RowKit

def findR (LL : List (List Int)) (m : List Int) : Int := if (LL.findIdx fun s => decide (s = m)) = LL.length then -1 else ((LL.findIdx fun s => decide (s = m) : Nat) : Int)
theorem find_no {LL : List (List Int)} {m : List Int} (h : ∀ s ∈ LL, s ≠ m) : findR LL m = -1 := by
 unfold findR;rw [if_pos];apply List.findIdx_eq_length_of_false;intro x hx;simp only [decide_eq_false_iff_not];exact h x hx
theorem find_at {LL : List (List Int)} {m : List Int} {k : Nat} (h : k < LL.length) (hm : LL[k] = m) (hno : ∀ s ∈ LL.take k, s ≠ m) : findR LL m = (k : Int) := by
 have e : (LL.findIdx fun s => decide (s = m)) = k := by
  rw [List.findIdx_eq h];refine ⟨by simpa using hm, fun j hj => ?_⟩;simp only [decide_eq_false_iff_not];exact hno _ (by rw [List.mem_take_iff_getElem]; exact ⟨j, by omega, rfl⟩)
 unfold findR;rw [e, if_neg (by omega)]
theorem find_neg {LL : List (List Int)} {m : List Int} : findR LL m < 0 ↔ m ∉ LL := by
 constructor
 · intro h hm;unfold findR at h;have := List.findIdx_lt_length_of_exists (xs := LL) (p := fun s => decide (s = m)) ⟨m, hm, by simp⟩;rw [if_neg (by omega)] at h; omega
 · intro h;rw [find_no (fun s hs e => h (by subst e; exact hs))]; omega
theorem find_any (A : Option Addr) (n c : Nat) (LL : List (List Int)) (Am : Option Addr) (m cm : Nat) (M : List Int) (w : World) (h : LIn w A LL) (hn : LL.length = n) (hn2 : n ≤ 9223372036854775806) (hM : ZIn w Am M) (hm : M.length = m) :
 Calls Tryz.prog 130 #[.slice A n c, .slice Am m cm] w fun e w' => e = .returned (.int .i64 (findR LL M)) ∧ Below w.heap.size w w' := by
 have HL := hid h;have HM := hid hM;have HN := hid hn;have HMl := hid hm;clear h hM hn hm;go_enter Tryz.func130, Tryz.ntmps130;go_wp2_with fail;go_loopg [5] (n) (fun g iv wr => ∃ k : Nat, k + g = n ∧ iv = .int .i64 k ∧ (∀ s ∈ LL.take k, s ≠ M) ∧ Below w.heap.size w wr);case atStart => exact ⟨0, by omega, rfl, by simp, Below.refl _ _⟩
 case round =>
  obtain ⟨k, hk, rfl, hp, hB⟩ := hrel;have HB := hid hB;have HK := hid hk;have HP := hid hp;have HLr := hid (HL.out.below hB);have HMr := hid (HM.out.below hB);have hle : k ≤ n := by omega
  clear hk hp hB;by_cases hlt : k < n
  · have hlt' : k < LL.length := by rw [HN.out]; exact hlt
    obtain ⟨ad, rfl, hpa, u, q0, Ax, nx, cx, rfl, zx, hx1, hx2, hx3⟩ := HLr.out k hlt';have HAt := hid (fun e => find_at hlt' e HP.out);have HTk := hid (List.take_succ_eq_append_getElem hlt');generalize LL[k] = X at *;have HS := hid (same_any Ax nx cx Am m cm X M wr zx hx1 HMr.out HMl.out (by omega));clear hlt' zx hx1;by_cases he : X = M
    · have HV := hid (HAt.out he);rw [decide_eq_true he] at HS;clear he HAt;go_wp2_with fail;((with_reducible refine HS.out.mono ?_); rintro e w1 ⟨rfl, hb1⟩)
      have HB1 := hid (below_then HB.out hb1);clear hb1;go_wp2_with fail;go_ret;exact ⟨ret_int HV.out.symm, HB1.out⟩
    · have HV := hid (show ∀ s ∈ LL.take (k + 1), s ≠ M by
       rw [HTk.out]; intro s hs;rcases List.mem_append.1 hs with h1 | h1
       · exact HP.out s h1
       · have : s = X := by simpa using h1
         subst this; exact he)
      rw [decide_eq_false he] at HS;clear he HAt;go_wp2_with fail;((with_reducible refine HS.out.mono ?_); rintro e w1 ⟨rfl, hb1⟩)
      have HB1 := hid (below_then HB.out hb1);clear hb1;go_wp2_with fail;go_roundg (gk - 1);case measure => have := HK.out; omega
      case rel => exact ⟨k + 1, by have := HK.out; omega, by go_num, HV.out, HB1.out⟩
  · have HV := hid (show findR LL M = -1 from find_no (by have := HP.out; rwa [List.take_of_length_le (by rw [HN.out]; omega)] at this));go_wp2_with fail;go_ret;exact ⟨ret_int HV.out.symm, HB.out⟩
structure Rv where
 d : Nd
 v : Value
def rdC (x : Rv) : List Value := [x.v, .int .i64 (x.d.st : Int), .int .i64 x.d.ab, .bool x.d.nw]
theorem rdC_len (x : Rv) : (rdC x).length = 4 := rfl
def RIn (w : World) (g : Nat) (NL : List Rv) : Prop := g < w.heap.size ∧ ∀ (i : Nat) (x : Rv), NL[i]? = some x → (∀ j u, (rdC x)[j]? = some u → w.cell? ⟨g, i * 4 + j, none⟩ = some u) ∧ SlIn w x.v x.d.ms
theorem RIn.below {w w' : World} {g : Nat} {NL : List Rv} (h : RIn w g NL) (hb : Below w.heap.size w w') : RIn w' g NL :=
 ⟨by have := hb.size; have := h.1; omega, fun i x hx => ⟨fun j u hu => by rw [hb.cell (p := ⟨g, i * 4 + j, none⟩) h.1]; exact (h.2 i x hx).1 j u hu, (h.2 i x hx).2.below hb⟩⟩
theorem less_ne {z y : List Int} (h : atMost z y = true) {p : Nat} (hz : p < z.length) (hy : p < y.length) : lessE y[p] z[p] = decide (z[p] = y[p]) := by
 have h1 := (atMost_iff z y).1 h p hz;rw [lessE_iff] at h1;simp only [List.getD_eq_getElem?_getD, List.getElem?_eq_getElem hz, List.getElem?_eq_getElem hy, Option.getD_some] at h1;rw [Bool.eq_iff_iff, lessE_iff, decide_eq_true_iff];omega
def RaI (T : TS) (i m : Nat) (w0 : World) (yg yc : Nat) (U : List Int) (g : Nat) (av : Value) (wr : World) : Prop :=
 ∃ (a : Int) (u : Up), av = .int .i64 a ∧ -1 ≤ a ∧ a < (g : Int) ∧ a ≤ (i : Int) ∧ (upAll T.nodes g a u).y = U ∧ u.y.length = m ∧ NS w0 wr (.slice (some ⟨yg, 0, none⟩) m yc) u.y
def RpI (z y : List Int) (m : Nat) (w0 : World) (yg yc : Nat) (g : Nat) (pv : Value) (wr : World) : Prop :=
 ∃ q : Nat, q + g = m ∧ pv = .int .i64 (q : Int) ∧ NS w0 wr (.slice (some ⟨yg, 0, none⟩) m yc) (zipTo z y q)
theorem raise_any (N : Nt) (M0 : List Int) (T : TS) (NL : List Rv) (gN : Nat) (nl cN : Nat) (i : Nat) (Ay : Option Addr) (m cy : Nat) (Y : List Int) (gr : Int) (om : Bool) (w : World) (h : RIn w gN NL) (hnl : NL.length = nl) (hnm : NL.map Rv.d = T.nodes) (hI : TInv N M0 T) (hml : ∀ d ∈ T.nodes, d.ms.length = m) (hi : i < nl) (hY : ZIn w Ay Y) (hy : Y.length = m) (hm0 : 0 < m) (hm2 : m ≤ 1000) (hnl2 : nl ≤ 100000) :
 Calls Tryz.prog 129 #[.slice (some ⟨gN, 0, none⟩) nl cN, .int .i64 i, .slice Ay m cy] w fun e w' => ∃ v, e = .returned v ∧ NS w w' v (upAll T.nodes (i + 1) i ⟨Y, gr, om⟩).y := by
 generalize hUg : (upAll T.nodes (i + 1) i ⟨Y, gr, om⟩).y = U;have HN := hid h;have HM := hid hy;have HNm := hid hnm;have HNl := hid hnl;have HTI := hid hI;have HMl := hid hml;have HOwn := hid (own_lit0 w);have HAl := hid (below_alloc w (.cells #[] 3));have HRd := hid (rd_of_z (hY.below HAl.out));clear h hy hnm hnl hI hml hY;obtain ⟨i0, hii, hz0, hz1, hz2⟩ := info_parts intInfo;have HI := hid (And.intro hii (And.intro hz0 (And.intro hz1 hz2)));clear hii hz0 hz1 hz2;go_enter Tryz.func129, Tryz.ntmps129;go_wp2_with (at_builtin; refine wpList_append_rd intC_len intC_one _ rfl _ _ 27 rfl w.heap.size 3 i0 (.int .i64 0) 8 Tryz.underlying27 HI.out.1 HI.out.2.1 HI.out.2.2.1 HI.out.2.2.2 rfl (by decide) (.slice (some ⟨w.heap.size, 0, none⟩) 0 0) 0 [] rfl HOwn.out Ay m cy Y rfl HRd.out HM.out ?c3 ?c4 ?c5 ?_);case c3 => unfold maxLen; omega
 case c4 => omega
 case c5 => exact HAl.out.size
 intro v' w1 hown1 hgrow1;have hS1 := NS.of_app (w := w) (L := []) (n := 0) HAl.out HOwn.out (by simpa using hown1) hgrow1 rfl HM.out;rw [List.nil_append] at hS1;clear hown1 hgrow1 HRd HOwn HAl;obtain ⟨yg, yc, rfl, hgb, hgl⟩ := hS1.row (by rw [HM.out]; exact hm0);rw [HM.out] at hS1 ⊢;have HS1 := hid hS1;clear hS1;go_wp2_with fail;go_loopg [8] (i + 1) (fun g av wr => RaI T i m w yg yc U g av wr);case atStart => exact ⟨i, ⟨Y, gr, om⟩, rfl, by omega, by omega, by omega, hUg, HM.out, HS1.out⟩
 case round =>
  clear hUg HS1;obtain ⟨a, u, rfl, ha1, hag, hai, hup, hul, hS⟩ := hrel;have HS := hid hS;have HUp := hid hup;have HUl := hid hul;have HNr := hid (HN.out.below hS.2);clear hS hup hul;by_cases ha0 : a < 0
  · rw [upAll_neg (by omega)] at HUp;rw [HUp.out] at HS;go_wp2_with fail;go_ret;exact ⟨_, rfl, HS.out⟩
  · obtain ⟨b, rfl⟩ := Int.eq_ofNat_of_zero_le (show 0 ≤ a by omega);have hbn : b < T.nodes.length := by rw [← HNm.out, List.length_map, HNl.out]; omega
    obtain ⟨z, hz⟩ : ∃ z, T.nodes[b]? = some z := ⟨_, List.getElem?_eq_getElem hbn⟩;obtain ⟨x, hx, hxz⟩ : ∃ x, NL[b]? = some x ∧ x.d = z := by
     have h1 := hz;rw [← HNm.out, List.getElem?_map] at h1;obtain ⟨x, h2, h3⟩ := Option.map_eq_some_iff.1 h1;exact ⟨x, h2, h3⟩
    obtain ⟨hc, Az, nz, cz, hv, zz, hz1, hz2, hz3⟩ := HN.out.2 b x hx;have HAb := hid (And.intro (HTI.out.ab_ge b z hz) (HTI.out.ab b z hz));have hlz : z.ms.length = m := HMl.out z (List.mem_of_getElem? hz);rw [hxz] at zz hz1;have z0 : w.cell? ⟨gN, b * 4, none⟩ = some x.v := hc 0 _ rfl;have z2 := hc 2 _ rfl;rw [hxz] at z2;obtain rfl : nz = m := by rw [← hz1, hlz]
    rw [hv] at z0;have HZz := hid zz;have HLz := hid hlz;rw [upAll_pos (by omega) hz] at HUp;have Z0 := hid z0;have Z2 := hid z2;clear hc hv zz hz1 hlz hz hx hxz z0 z2 hbn;have hb0 : (0 : Int) ≤ (b : Int) := by omega
    have hb1 : (b : Int) < (nl : Int) := by omega
    have z0 := cell_stays HS.out.2 Z0.out;have HZr := hid (HZz.out.below HS.out.2);have HZy := hid (show ZIn wr (some ⟨yg, 0, none⟩) u.y by obtain ⟨A', c', e, hz, _⟩ := HS.out.zin; cases e; exact hz);have HBe := hid (atmost_any Az nz cz (some ⟨yg, 0, none⟩) nz yc z.ms u.y wr HZr.out HLz.out HZy.out HUl.out (Nat.le_refl _) (by omega));cases hle : atMost z.ms u.y with
    | false =>
     rw [hle] at HBe;rw [upOne_no (by rw [hle]; rfl)] at HUp;clear hle;go_wp2_with fail;((with_reducible refine HBe.out.mono ?_); rintro e w7 ⟨rfl, hb7⟩)
     have HS7 := hid (HS.out.below hb7);clear hb7 z0;have z2n := cell_stays HS7.out.2 Z2.out;go_wp2_with fail;go_roundg (gk - 1);case measure => omega
     case rel => exact ⟨z.ab, u, rfl, by have := HAb.out; omega, by have := HAb.out; omega, by have := HAb.out; omega, HUp.out, HUl.out, HS7.out⟩
    | true =>
     rw [hle] at HBe;go_wp2_with fail;((with_reducible refine HBe.out.mono ?_); rintro e w7 ⟨rfl, hb7⟩)
     have HS7 := hid (HS.out.below hb7);have HEq := hid (same_any Az nz cz (some ⟨yg, 0, none⟩) nz yc z.ms u.y w7 (HZr.out.below hb7) HLz.out (HZy.out.below hb7) HUl.out (by omega));clear hb7 z0 HS HZr HZy HBe;by_cases heq : z.ms = u.y
     · rw [decide_eq_true heq] at HEq;rw [upOne_no (by simp [heq])] at HUp;clear heq hle;go_wp2_with fail;((with_reducible refine HEq.out.mono ?_); rintro e w9 ⟨rfl, hb9⟩)
       have HS9 := hid (HS7.out.below hb9);clear hb9;have z2n := cell_stays HS9.out.2 Z2.out;go_wp2_with fail;go_roundg (gk - 1);case measure => omega
       case rel => exact ⟨z.ab, u, rfl, by have := HAb.out; omega, by have := HAb.out; omega, by have := HAb.out; omega, HUp.out, HUl.out, HS9.out⟩
     · rw [decide_eq_false heq] at HEq;have HLe := hid hle;rw [upOne_yes (by rw [hle, Bool.true_and]; simpa using heq)] at HUp;clear heq hle;go_wp2_with fail;((with_reducible refine HEq.out.mono ?_); rintro e w9 ⟨rfl, hb9⟩)
       have HS9 := hid (HS7.out.below hb9);clear hb9 HS7 HEq;obtain ⟨ga, rfl⟩ : ∃ ga, ga = gk := ⟨_, rfl⟩;obtain ⟨wu, rfl⟩ : ∃ wu : World, wu = wr := ⟨_, rfl⟩;have HZl := hid (show z.ms.length = u.y.length by rw [HLz.out, HUl.out]);go_wp2_with fail;go_loopg [10] (nz) (fun g pv wx => RpI z.ms u.y nz w yg yc g pv wx);case atStart => exact ⟨0, by omega, rfl, by rw [zipTo_zero]; exact HS9.out⟩
       case round =>
        obtain ⟨q, hqg, rfl, hSx⟩ := hrel;have HKq := hid hqg;have HSx := hid hSx;have hqm : q ≤ nz := by omega
        clear hqg hSx HS9;by_cases hq : q < nz
        · obtain ⟨az, rfl, hpz, c5⟩ := (HZz.out.below HSx.out.2) q (by rw [HLz.out]; exact hq);obtain ⟨hql, e1, e2⟩ := zipTo_get HZl.out (q := q) (by rw [HUl.out]; exact hq);have HC := hid (HSx.out.cells q hql);rw [e1] at HC;have HE2 := hid e2;have hqz : q < z.ms.length := by rw [HLz.out]; exact hq
          have hqy : q < u.y.length := by rw [HUl.out]; exact hq
          have HLs := hid (less_ne HLe.out hqz hqy);generalize z.ms[q] = zq at *;generalize u.y[q] = yq at *;clear e1 e2 hql;obtain ⟨r0, r1⟩ := HC.out;have HL := hid (less_any yq zq);rw [HLs.out] at HL;by_cases hne : zq = yq
          · rw [if_neg (by simp [hne])] at HE2;rw [decide_eq_true hne] at HL;clear hne HLs;go_wp2_with fail;have a0 := fun d os => cell_regrown r0 d os
            have a5 := fun d os => cell_regrown c5 d os
            refine wp_region_quiet_below (by kernel_rfl) (by kernel_rfl) ?_;repeat (quiet_step (exact Calls.regrown_of (HL.out _)))
            refine wpQuiet_nil ?_;intro _ hw';obtain ⟨⟨dq, osq⟩, hw''⟩ := hw';subst hw'';clear a0 a5;go_wp2_with fail;go_roundg (gk - 1);case measure => have := HKq.out; omega
            case rel => exact ⟨q + 1, by have := HKq.out; omega, by go_num, by rw [HE2.out]; exact HSx.out.below (below_regrown _ dq osq)⟩
          · rw [if_pos hne] at HE2;rw [decide_eq_false hne] at HL;clear hne HLs;go_wp2_with fail;have a0 := fun d os => cell_regrown r0 d os
            have a5 := fun d os => cell_regrown c5 d os
            refine wp_region_quiet_below (by kernel_rfl) (by kernel_rfl) ?_;repeat (quiet_step (exact Calls.regrown_of (HL.out _)))
            refine wpQuiet_nil ?_;intro _ hw';obtain ⟨⟨dq, osq⟩, hw''⟩ := hw';subst hw'';clear a0 a5 r0 r1 c5 HC;have HSd := hid (HSx.out.below (below_regrown _ dq osq));generalize Sort.grow (redrawn wr dq) osq = wd at *;obtain ⟨s0, s1⟩ := HSd.out.cells q (by rw [zipTo_len HZl.out, HUl.out]; exact hq);have hyl : yg < wd.heap.size := (HSd.out.1.lt yg rfl).2;go_wp2_with fail;go_roundg (gk - 1);case measure => have := HKq.out; omega
            case rel => exact ⟨q + 1, by have := HKq.out; omega, by go_num, by rw [HE2.out]; exact HSd.out.set hgb q (-1)⟩
        · have HX2 := hid (zipTo_all HZl.out (q := q) (by rw [HUl.out]; omega));rw [HX2.out] at HSx;have z2n := cell_stays HSx.out.2 Z2.out;go_wp2_with fail;go_roundg (ga - 1);case measure => omega
          case rel => exact ⟨z.ab, ⟨_, _, _⟩, rfl, by have := HAb.out; omega, by have := HAb.out; omega, by have := HAb.out; omega, HUp.out, by rw [List.length_zipWith, HLz.out, HUl.out, Nat.min_self], HSx.out⟩
end
section
open Go.RowKit

theorem rnodeInfo : (Tryz.prog.info? 166).map (fun i => (i.zero, i.size, i.bytes)) = some (some (.agg #[.slice none 0 0, .int .i64 0, .int .i64 0, .bool false]), 4, 48) := by kernel_rfl
def XS (w0 wr : World) (v : Value) (L : List Int) : Prop := NS w0 wr v L ∨ (SlIn w0 v L ∧ Below w0.heap.size w0 wr)
section
variable {w0 wr w' : World} {v : Value} {L : List Int}
theorem XS.sl (h : XS w0 wr v L) : SlIn wr v L := by
 rcases h with h | ⟨h, hb⟩
 · exact h.sl
 · exact h.below hb
theorem XS.below (h : XS w0 wr v L) (hb : Below wr.heap.size wr w') : XS w0 w' v L := by
 rcases h with h | ⟨h, hb0⟩
 · exact .inl (h.below hb)
 · exact .inr ⟨h, below_then hb0 hb⟩
theorem XS.app (h : XS w0 wr v L) {o : Obj} {b k n : Nat} {e : TypeId} {x : Value} {xs : List Value} (hr : wr.ownsRow b e k x n xs) (h2 : 3 ≠ e) (hg : (wr.alloc o).grownBy w' x.ownBlock) (hbase : w0.heap.size ≤ b) : XS w0 w' v L := by
 have hb5 : ∀ k, x.ownBlock = some k → w0.heap.size ≤ k := fun k hk => Nat.le_trans hbase (hr.lt k hk).1
 rcases h with h | ⟨h, hb⟩
 · exact .inl ((h.below (below_alloc wr o)).kept hg (own_apart (h.below (below_alloc wr o)).1 (hr.alloc o) h2) hb5)
 · exact .inr ⟨h, (hb.alloc hb.size o).grown hg (by have := hb.size; simp; omega) hb5⟩
theorem XS.box (h : XS w0 wr v L) {b o : Nat} {cs : Array Value} {T : TypeId} (hb : wr.heap[b]? = some (.cells cs T (0, 0))) (h2 : 3 ≠ T) (h3 : w0.heap.size ≤ b) (u : Value) : XS w0 (wr.setCell ⟨b, o, none⟩ u) v L := by
 have h5 : ∀ k, some b = some k → w0.heap.size ≤ k := fun k hk => by cases hk; exact h3
 rcases h with h | ⟨h, hb0⟩
 · exact .inl (h.kept (Lib.grownBy_setB (grown_refl wr (some b)) o u) (own_other h.1 hb h2) h5)
 · exact .inr ⟨h, hb0.grown (Lib.grownBy_setB (grown_refl wr (some b)) o u) hb0.size h5⟩
end
theorem OMv.app {w0 wr w' : World} {v : Value} {MV : List Mv} (h : OMv w0 wr v MV) {o : Obj} {b k n : Nat} {e : TypeId} {x : Value} {xs : List Value} (hr : wr.ownsRow b e k x n xs) (h1 : 113 ≠ e) (hg : (wr.alloc o).grownBy w' x.ownBlock) (hbase : w0.heap.size ≤ b) : OMv w0 w' v MV :=
 ⟨(h.1.alloc o).kept hg (own_apart (h.1.alloc o) (hr.alloc o) h1), (h.2.alloc h.2.size o).grown hg (by have := h.2.size; simp; omega) (fun k hk => Nat.le_trans hbase (hr.lt k hk).1)⟩
structure RG (w0 wr : World) (sb : Nat) (vS vM vN : Value) (SL : List Value) (NL : List Rv) (ST : List (List Int)) (MV : List Mv) (ND : List Nd) : Prop where
 blk : SpB wr sb vS vM true
 sbb : w0.heap.size ≤ sb
 sts : wr.ownsRow w0.heap.size 27 1 vS SL.length SL
 stl : SL.length = ST.length
 str : ∀ (k : Nat) (v : Value) (s : List Int), SL[k]? = some v → ST[k]? = some s → XS w0 wr v s
 mvs : OMv w0 wr vM MV
 nds : wr.ownsRow w0.heap.size 166 4 vN NL.length (NL.flatMap rdC)
 ndm : NL.map Rv.d = ND
 ndr : ∀ x ∈ NL, XS w0 wr x.v x.d.ms
 bel : Below w0.heap.size w0 wr
section
variable {w0 wr w' : World} {sb : Nat} {vS vM vN : Value} {SL : List Value} {NL : List Rv} {ST : List (List Int)} {MV : List Mv} {ND : List Nd}
theorem RG.below (h : RG w0 wr sb vS vM vN SL NL ST MV ND) (hb : Below wr.heap.size wr w') : RG w0 w' sb vS vM vN SL NL ST MV ND :=
 ⟨h.blk.below hb, h.sbb, own_stays h.sts hb, h.stl, fun k v s hk hs => (h.str k v s hk hs).below hb, h.mvs.below hb, own_stays h.nds hb, h.ndm, fun x hx => (h.ndr x hx).below hb, below_then h.bel hb⟩
theorem RG.len (h : RG w0 wr sb vS vM vN SL NL ST MV ND) : NL.length = ND.length := by rw [← h.ndm, List.length_map]
theorem RG.lin (h : RG w0 wr sb vS vM vN SL NL ST MV ND) : ∃ A cap, vS = .slice A SL.length cap ∧ LIn wr A ST ∧ SL.length ≤ cap ∧ cap ≤ 9223372036854775807 := by
 rcases h.sts.2 with ⟨hv, hn⟩ | ⟨g, cap, cur, hv, hg, hh, hnc, hc, _⟩
 · refine ⟨none, 0, by rw [hv, hn], fun i hi => ?_, by omega, by omega⟩;have := h.stl; omega
 · have hgl : g < wr.heap.size := (Array.getElem?_eq_some_iff.1 hh).1;refine ⟨some ⟨g, 0, none⟩, cap, hv, fun i hi => ⟨_, rfl, by rw [add_block]; exact hgl, ?_⟩, hnc, hc⟩;have hi2 : i < SL.length := by have := h.stl; omega
   have hs := h.sts;rw [hv] at hs;refine ⟨SL[i], hs.cells (g := g) rfl i _ (List.getElem?_eq_getElem hi2), (h.str i _ _ (List.getElem?_eq_getElem hi2) (List.getElem?_eq_getElem hi)).sl⟩
theorem RG.rin (h : RG w0 wr sb vS vM vN SL NL ST MV ND) (h0 : 0 < NL.length) : ∃ g cap, vN = .slice (some ⟨g, 0, none⟩) NL.length cap ∧ w0.heap.size ≤ g ∧ NL.length ≤ cap ∧ RIn wr g NL := by
 obtain ⟨A, cap, hv, hA⟩ := row_slice h.nds;obtain ⟨g, rfl, h1, h2⟩ := hA h0;subst hv;refine ⟨g, cap, rfl, h1, row_cap h.nds, h2, fun i x hx => ⟨fun j u hu => ?_, (h.ndr x (List.mem_of_getElem? hx)).sl⟩⟩;have hj : j < 4 := by have := (List.getElem?_eq_some_iff.1 hu).1; rw [rdC_len] at this; exact this
 have hil := (List.getElem?_eq_some_iff.1 hx).1;have hq : (NL.flatMap rdC)[i * 4 + j]? = some u := by
  have e1 := drop_flat (c := rdC) (K := 4) rdC_len NL i;have e2 : (NL.flatMap rdC)[i * 4 + j]? = ((NL.flatMap rdC).drop (i * 4))[j]? := by rw [List.getElem?_drop]
  rw [e2, e1, List.drop_eq_getElem_cons hil, List.flatMap_cons, List.getElem?_append_left (by rw [rdC_len]; exact hj)];rw [List.getElem?_eq_getElem hil] at hx;rw [Option.some.inj hx]; exact hu
 have hc := h.nds.cells (g := g) rfl (i * 4 + j) u hq;have ha : (⟨g, 0, none⟩ : Addr).add (i * 4 + j) = ⟨g, i * 4 + j, none⟩ := by unfold Addr.add; split <;> simp_all
 rw [ha] at hc; exact hc
theorem RG.state (h : RG w0 wr sb vS vM vN SL NL ST MV ND) {o : Obj} {v vS' : Value} {s : List Int} (hv : XS w0 wr v s) (hN : NS w0 wr v s) (ho : w'.ownsRow w0.heap.size 27 1 vS' (SL.length + 1) (SL ++ [v])) (hg : (wr.alloc o).grownBy w' vS.ownBlock) :
 RG w0 (w'.setCell ⟨sb, 0, none⟩ vS') sb vS' vM vN (SL ++ [v]) NL (ST ++ [s]) MV ND ∧ XS w0 (w'.setCell ⟨sb, 0, none⟩ vS') v s ∧ NS w0 (w'.setCell ⟨sb, 0, none⟩ vS') v s := by
 have ha := below_alloc wr o;have hb5 : ∀ k, vS.ownBlock = some k → w0.heap.size ≤ k := fun k hk => (h.sts.lt k hk).1
 have hsp : SpB w' sb vS vM true := (h.blk.below ha).grown hg (row_block (h.sts.alloc o) (h.blk.below ha) (by decide));have hx : ∀ x L, XS w0 wr x L → XS w0 (w'.setCell ⟨sb, 0, none⟩ vS') x L := fun x L hx => (hx.app h.sts (by decide) hg (Nat.le_refl _)).box hsp (by decide) h.sbb vS'
 have hset : w'.grownBy (w'.setCell ⟨sb, 0, none⟩ vS') (some sb) := Lib.grownBy_setB (grown_refl w' (some sb)) 0 vS';have hns : NS w0 w' v s := (hN.below ha).kept hg (own_apart (hN.below ha).1 (h.sts.alloc o) (by decide)) hb5;refine ⟨⟨hsp.set0 vS', h.sbb, ?_, by rw [List.length_append, List.length_append, h.stl]; rfl, fun k x t hk ht => ?_, (h.mvs.app h.sts (by decide) hg (Nat.le_refl _)).box hsp (by decide) h.sbb vS', ?_, h.ndm, fun x hx' => hx _ _ (h.ndr x hx'), ?_⟩, hx v s hv, ns_box hns hsp (by decide) h.sbb vS'⟩
 · rw [List.length_append]; exact ho.kept hset (own_other ho hsp (by decide))
 · rcases Nat.lt_or_ge k SL.length with hl | hl
   · rw [List.getElem?_append_left hl] at hk;rw [List.getElem?_append_left (by rw [← h.stl]; exact hl)] at ht;exact hx _ _ (h.str k x t hk ht)
   · rw [List.getElem?_append_right hl] at hk;rw [List.getElem?_append_right (by rw [← h.stl]; exact hl)] at ht;rcases Nat.eq_zero_or_pos (k - SL.length) with h0 | h0
     · rw [h0] at hk;rw [← h.stl, h0] at ht;simp at hk ht;subst hk ht;exact hx _ _ hv
     · rw [List.getElem?_eq_none (by simp; omega)] at hk; cases hk
 · exact ((h.nds.alloc o).kept hg (own_apart (h.nds.alloc o) (h.sts.alloc o) (by decide))).kept hset (own_other ((h.nds.alloc o).kept hg (own_apart (h.nds.alloc o) (h.sts.alloc o) (by decide))) hsp (by decide))
 · exact ((h.bel.alloc h.bel.size o).grown hg (by have := h.bel.size; simp; omega) hb5).setCell (p := ⟨sb, 0, none⟩) h.sbb vS'
theorem RG.move (h : RG w0 wr sb vS vM vN SL NL ST MV ND) {o : Obj} {x : Mv} {vM' : Value} (ho : w'.ownsRow w0.heap.size 113 3 vM' (MV.length + 1) (MV.flatMap mvC ++ mvC x)) (hg : (wr.alloc o).grownBy w' vM.ownBlock) :
 RG w0 (w'.setCell ⟨sb, 1, none⟩ vM') sb vS vM' vN SL NL ST (MV ++ [x]) ND ∧ ∀ v s, NS w0 wr v s → NS w0 (w'.setCell ⟨sb, 1, none⟩ vM') v s := by
 have ha := below_alloc wr o;have hb5 : ∀ k, vM.ownBlock = some k → w0.heap.size ≤ k := fun k hk => (h.mvs.1.lt k hk).1
 have hsp : SpB w' sb vS vM true := (h.blk.below ha).grown hg (row_block (h.mvs.1.alloc o) (h.blk.below ha) (by decide));have hx : ∀ x L, XS w0 wr x L → XS w0 (w'.setCell ⟨sb, 1, none⟩ vM') x L := fun x L hx => (hx.app h.mvs.1 (by decide) hg (Nat.le_refl _)).box hsp (by decide) h.sbb vM'
 have hset : w'.grownBy (w'.setCell ⟨sb, 1, none⟩ vM') (some sb) := Lib.grownBy_setB (grown_refl w' (some sb)) 1 vM';have hns : ∀ v s, NS w0 wr v s → NS w0 w' v s := fun v s hN => (hN.below ha).kept hg (own_apart (hN.below ha).1 (h.mvs.1.alloc o) (by decide)) hb5
 have hs1 := (h.sts.alloc o).kept hg (own_apart (h.sts.alloc o) (h.mvs.1.alloc o) (by decide));have hn1 := (h.nds.alloc o).kept hg (own_apart (h.nds.alloc o) (h.mvs.1.alloc o) (by decide));exact ⟨⟨hsp.set1 vM', h.sbb, hs1.kept hset (own_other hs1 hsp (by decide)), h.stl, fun k x t hk ht => hx _ _ (h.str k x t hk ht), (h.mvs.push ho hg).box hsp (by decide) h.sbb vM', hn1.kept hset (own_other hn1 hsp (by decide)), h.ndm, fun x hx' => hx _ _ (h.ndr x hx'), ((h.bel.alloc h.bel.size o).grown hg (by have := h.bel.size; simp; omega) hb5).setCell (p := ⟨sb, 1, none⟩) h.sbb vM'⟩, fun v s hN => ns_box (hns v s hN) hsp (by decide) h.sbb vM'⟩
theorem RG.node (h : RG w0 wr sb vS vM vN SL NL ST MV ND) {o : Obj} {x : Rv} {vN' : Value} (hx : XS w0 wr x.v x.d.ms) (ho : w'.ownsRow w0.heap.size 166 4 vN' (NL.length + 1) (NL.flatMap rdC ++ rdC x)) (hg : (wr.alloc o).grownBy w' vN.ownBlock) :
 RG w0 w' sb vS vM vN' SL (NL ++ [x]) ST MV (ND ++ [x.d]) := by
 have ha := below_alloc wr o;have hb5 : ∀ k, vN.ownBlock = some k → w0.heap.size ≤ k := fun k hk => (h.nds.lt k hk).1
 have hsp : SpB w' sb vS vM true := (h.blk.below ha).grown hg (row_block (h.nds.alloc o) (h.blk.below ha) (by decide));have hxs : ∀ x L, XS w0 wr x L → XS w0 w' x L := fun x L hx => hx.app h.nds (by decide) hg (Nat.le_refl _)
 refine ⟨hsp, h.sbb, (h.sts.alloc o).kept hg (own_apart (h.sts.alloc o) (h.nds.alloc o) (by decide)), h.stl, fun k x t hk ht => hxs _ _ (h.str k x t hk ht), h.mvs.app h.nds (by decide) hg (Nat.le_refl _), ?_, by rw [List.map_append, h.ndm]; rfl, fun y hy => ?_, (h.bel.alloc h.bel.size o).grown hg (by have := h.bel.size; simp; omega) hb5⟩
 · rw [List.length_append, List.flatMap_append];have : [x].flatMap rdC = rdC x := by simp
   rw [this]; exact ho
 · rcases List.mem_append.1 hy with hy | hy
   · exact hxs _ _ (h.ndr y hy)
   · have : y = x := by simpa using hy
     subst this; exact hxs _ _ hx
end
end
end Go.Proofs.YtkhmngljpfibcaaGreatDoor
