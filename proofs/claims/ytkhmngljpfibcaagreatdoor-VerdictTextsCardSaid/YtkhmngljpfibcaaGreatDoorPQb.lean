/- verdict: fire, most, one, index: what a call returns. -/
import Derived.Test.YtkhmngljpfibcaaGreatDoorPUu
import Derived.Test.YtkhmngljpfibcaaGreatDoorPQa
import Derived.Test.YtkhmngljpfibcaaGreatDoorPCp
import Derived.Deep.OwnRows
namespace Go.Proofs.YtkhmngljpfibcaaGreatDoor
set_option maxRecDepth 100000
set_option maxHeartbeats 6400000
open Go.Lib (hid)
open Go.RowKit

theorem vfire_any (lb : ByteArray) (Ai Ao Am : Option Addr) (ni ci no co m cm : Nat) (li lo M : List Int) (w : World) (hi : ZIn w Ai li) (hni : li.length = ni) (hni2 : ni ≤ 1000) (ho : ZIn w Ao lo) (hno : lo.length = no) (hno2 : no ≤ 1000) (hM : ZIn w Am M) (hm : M.length = m) (hm0 : 0 < m) (hm2 : m ≤ 1000000) (hin : inM li m) (hon : inM lo m) (hbd : bnd 1000 M) :
 Calls Tryz.prog 164 #[.agg #[.string lb, .slice Ai ni ci, .slice Ao no co], .slice Am m cm] w (FPo (fireT ⟨lb, li, lo⟩ M) (!bigM (fireT ⟨lb, li, lo⟩ M)) w) := by
 have HB := hid (below_alloc w (.cells #[.string lb, .slice Ai ni ci, .slice Ao no co] 79));have HT0 := hid (TB.new w lb Ai ni ci Ao no co);have HCl := hid (clone_any Am m cm M _ (hM.below HB.out) hm (by omega));have HZi0 := hid (hi.below HB.out);have HZo0 := hid (ho.below HB.out);have HR := hid (show fireT ⟨lb, li, lo⟩ M = incs (decs M li) lo from rfl);generalize fireT ⟨lb, li, lo⟩ M = R at *;have Hli := hid hni;have Hlo := hid hno;have HInli := hid hin;have HInlo := hid hon;have HLp := hid hm;have HBd := hid hbd;clear hi ho hM hin hon hni hno hbd hm;go_enter Tryz.func164, Tryz.ntmps164;go_wp2_with fail;generalize w.alloc _ = w0 at *;((with_reducible refine HCl.out.mono ?_); rintro e w1 ⟨v, rfl, hS1⟩)
 obtain ⟨gb, cap, rfl, hgb, hgl⟩ := hS1.row (by rw [HLp.out]; exact hm0);rw [HLp.out] at hS1 ⊢;have HGb := hid hgb;have HGl := hid hgl;have HS1 := hid hS1;have HT := hid HT0.out;have HT1 := hid (HT0.out.below hS1.2);have HZi := hid HZi0.out;have HZo := hid HZo0.out;clear hS1 HCl HT0 HZi0 HZo0 hgb hgl;obtain ⟨tc0, tc1, tc2⟩ := HT1.out;go_wp2_with fail;clear HT1;go_loopg [16] (ni) (fun g iv wr => ∃ k : Nat, k + g = ni ∧ iv = .int .i64 k ∧ NS w0 wr (.slice (some ⟨gb, 0, none⟩) m cap) (decs M (li.take k)));case atStart => exact ⟨0, by omega, rfl, by rw [List.take_zero]; exact HS1.out⟩
 case round =>
  obtain ⟨k, hk, rfl, hS⟩ := hrel;have HK := hid hk;have HS := hid hS;have hle : k ≤ ni := by omega
  have HZr := hid (HZi.out.below hS.2);have HTr := hid (HT.out.below hS.2);have hgr : gb < wr.heap.size := (hS.1.lt gb rfl).2;clear hk hS;obtain ⟨tc0, tc1, tc2⟩ := HTr.out;by_cases hlt : k < ni
  · have hlt' : k < li.length := by rw [Hli.out]; exact hlt
    obtain ⟨ap, rfl, hpa, q0⟩ := HZr.out k hlt';obtain ⟨p, hp⟩ := Int.eq_ofNat_of_zero_le (HInli.out _ (List.getElem_mem hlt')).1;have hpm : p < m := by have := (HInli.out _ (List.getElem_mem hlt')).2; omega
    obtain ⟨hpl, hrd, hx1, hx2⟩ := decs_round M li k p hlt' hp (by rw [HLp.out]; exact hpm) 1000 (by omega) HBd.out;rw [hp] at q0;have HSelf := hid (fun (h : (decs M (li.take k))[p] = -1) => show decs M (li.take (k + 1)) = (decs M (li.take k)) by
     rw [hrd, show dec1 (decs M (li.take k))[p] = (decs M (li.take k))[p] by rw [h]; rfl]; exact List.set_getElem_self _)
    have HRd := hid (fun (h : ¬ (decs M (li.take k))[p] = -1) => show decs M (li.take (k + 1)) = (decs M (li.take k)).set p ((decs M (li.take k))[p] - 1) by
     rw [hrd, show dec1 (decs M (li.take k))[p] = (decs M (li.take k))[p] - 1 from if_neg h])
    have HC := hid (HS.out.cells p hpl);generalize (decs M (li.take k))[p] = x at *;generalize decs M (li.take k) = D at *;clear hrd hp hlt' hpl;obtain ⟨r0, r1⟩ := HC.out;have hp0 : (0 : Int) ≤ (p : Int) := by omega
    have hp9 : (p : Int) < (m : Int) := by omega
    by_cases hx : x = -1
    · have HV := hid (HSelf.out hx);have q1 : (x != -1) = false := by simp [hx]
      clear hx HSelf HRd;go_wp2_with fail;go_roundg (gk - 1);case measure => have := HK.out; omega
      case rel => exact ⟨k + 1, by have := HK.out; omega, by go_num, by rw [HV.out]; exact HS.out⟩
    · have HV := hid (HRd.out hx);have q1 : (x != -1) = true := by rw [bne_iff_ne]; exact hx
      clear hx HSelf HRd;go_wp2_with fail;go_roundg (gk - 1);case measure => have := HK.out; omega
      case rel => exact ⟨k + 1, by have := HK.out; omega, by go_num, by rw [HV.out]; exact HS.out.set HGb.out p _⟩
  · have HD := hid (show decs M (li.take k) = decs M li by rw [List.take_of_length_le (by rw [Hli.out]; omega)]);rw [HD.out] at HS;clear HD;have HLp1 := hid (show (decs M li).length = m by rw [decs_len]; exact HLp.out);have HBd1 := hid (show bnd (1000 + (ni : Int)) (decs M li) by have := decs_bnd li 1000 M (by omega) HBd.out; rw [Hli.out] at this; exact this);clear HLp HBd HK hle hgr HTr HZr;have HLp := hid HLp1.out;have HBd := hid HBd1.out;clear HLp1 HBd1;generalize decs M li = M1 at *;obtain ⟨go, rfl⟩ : ∃ go, go = gk := ⟨_, rfl⟩;go_wp2_with fail;go_loopg [35] (no) (fun g iv wr => ∃ k : Nat, k + g = no ∧ iv = .int .i64 k ∧ NS w0 wr (.slice (some ⟨gb, 0, none⟩) m cap) (incs M1 (lo.take k)));case atStart => exact ⟨0, by omega, rfl, by rw [List.take_zero]; exact HS.out⟩
    case round =>
     obtain ⟨k, hk, rfl, hS⟩ := hrel;have HK := hid hk;have HS := hid hS;have hle : k ≤ no := by omega
     have HZr := hid (HZo.out.below hS.2);have HTr := hid (HT.out.below hS.2);have hgr : gb < wr.heap.size := (hS.1.lt gb rfl).2;clear hk hS;obtain ⟨tc0, tc1, tc2⟩ := HTr.out;by_cases hlt : k < no
     · have hlt' : k < lo.length := by rw [Hlo.out]; exact hlt
       obtain ⟨ap, rfl, hpa, q0⟩ := HZr.out k hlt';obtain ⟨p, hp⟩ := Int.eq_ofNat_of_zero_le (HInlo.out _ (List.getElem_mem hlt')).1;have hpm : p < m := by have := (HInlo.out _ (List.getElem_mem hlt')).2; omega
       obtain ⟨hpl, hrd, hx1, hx2⟩ := incs_round M1 lo k p hlt' hp (by rw [HLp.out]; exact hpm) (1000 + ni) (by omega) HBd.out;rw [hp] at q0;have HSelf := hid (fun (h : (incs M1 (lo.take k))[p] = -1) => show incs M1 (lo.take (k + 1)) = (incs M1 (lo.take k)) by
        rw [hrd, show inc1 (incs M1 (lo.take k))[p] = (incs M1 (lo.take k))[p] by rw [h]; rfl]; exact List.set_getElem_self _)
       have HRd := hid (fun (h : ¬ (incs M1 (lo.take k))[p] = -1) => show incs M1 (lo.take (k + 1)) = (incs M1 (lo.take k)).set p ((incs M1 (lo.take k))[p] + 1) by
        rw [hrd, show inc1 (incs M1 (lo.take k))[p] = (incs M1 (lo.take k))[p] + 1 from if_neg h])
       have HC := hid (HS.out.cells p hpl);generalize (incs M1 (lo.take k))[p] = x at *;generalize incs M1 (lo.take k) = D at *;clear hrd hp hlt' hpl;obtain ⟨r0, r1⟩ := HC.out;have hp0 : (0 : Int) ≤ (p : Int) := by omega
       have hp9 : (p : Int) < (m : Int) := by omega
       by_cases hx : x = -1
       · have HV := hid (HSelf.out hx);have q1 : (x != -1) = false := by simp [hx]
         clear hx HSelf HRd;go_wp2_with fail;go_roundg (gk - 1);case measure => have := HK.out; omega
         case rel => exact ⟨k + 1, by have := HK.out; omega, by go_num, by rw [HV.out]; exact HS.out⟩
       · have HV := hid (HRd.out hx);have q1 : (x != -1) = true := by rw [bne_iff_ne]; exact hx
         clear hx HSelf HRd;go_wp2_with fail;go_roundg (gk - 1);case measure => have := HK.out; omega
         case rel => exact ⟨k + 1, by have := HK.out; omega, by go_num, by rw [HV.out]; exact HS.out.set HGb.out p _⟩
     · have HD := hid (show incs M1 (lo.take k) = incs M1 lo by rw [List.take_of_length_le (by rw [Hlo.out]; omega)]);rw [HD.out] at HS;clear HD;have HFin := hid (show incs M1 lo = R from HR.out.symm);rw [HFin.out] at HS;have HLr := hid (show R.length = m by rw [← HFin.out, incs_len]; exact HLp.out);obtain ⟨Af, cf, he, hz, _, _⟩ := HS.out.zin;cases he;have HMx := hid (max_any _ R.length cap R _ hz rfl (by rw [HLr.out]; exact hm0) (by rw [HLr.out]; omega));have hbig := max_big R (by rw [HLr.out]; exact hm0);have HBig := hid hbig;clear hz hbig;go_wp2_with fail;((with_reducible refine HMx.out.mono ?_); rintro e w3 ⟨rfl, hb3⟩)
       replace HS := hid (NS.below HS.out hb3);clear hb3;go_wp2_with fail;go_ret2;rw [HBig.out];exact ⟨_, rfl, NS.up HB.out HS.out⟩
theorem mk_ints (n : Nat) (hn : n ≤ 1000000) (w : World) : (Instr.makeSlice 27 (.int .i64 (n : Int)) (.int .i64 (n : Int))).run Tryz.prog w = .ok (.slice (some ⟨w.heap.size, 0, none⟩) n n) (w.alloc (.cells (madeCells #[.int .i64 0] n) 3)) := run_make_row' 27 3 (.int .i64 0) 8 Tryz.underlying27 intInfo rfl .i64 .i64 n (by omega) (by omega) w
def oneM (pl : Nat) (p : Nat) : List Int := (List.replicate pl (0 : Int)).set p 1
theorem oneM_len (pl p : Nat) : (oneM pl p).length = pl := by simp [oneM]
theorem NS.one1 (w : World) (n p : Nat) (hn : n ≤ 1000000) : NS w (w.alloc (.cells ((madeCells #[.int .i64 0] n).setIfInBounds p (.int .i64 1)) 3)) (.slice (some ⟨w.heap.size, 0, none⟩) n n) (oneM n p) := by
 have e : ((madeCells #[Value.int .i64 0] n).setIfInBounds p (.int .i64 1)).toList = (oneM n p).map (Value.int .i64) := by
  rw [Array.toList_setIfInBounds, toList_madeCells_one];unfold oneM;rw [List.map_set, List.map_replicate]
 have ho := World.ownsRow_lit (base := w.heap.size) (e := 3) (size := 1) w ((madeCells #[.int .i64 0] n).setIfInBounds p (.int .i64 1)) n (Nat.le_refl _) (by unfold maxLen; omega) (by simp [madeCells]);rw [e] at ho;exact ⟨by rw [oneM_len]; exact ho, below_alloc w _⟩
theorem vone_any (pl : Nat) (A : Option Addr) (n c : Nat) (src snk : Int) (p : Nat) (w : World) (hp : p < pl) (hpl : pl ≤ 1000) :
 Calls Tryz.prog 98 #[.agg #[.int .i64 (pl : Int), .slice A n c, .int .i64 src, .int .i64 snk], .int .i64 (p : Int)] w fun e w' => ∃ v, e = .returned v ∧ NS w w' v (oneM pl p) := by
 have HB := hid (below_alloc w (.cells #[.int .i64 (pl : Int), .slice A n c, .int .i64 src, .int .i64 snk] 24));have HN := hid (NB.new w (pl : Int) A n c src snk);have hmk := mk_ints pl (by omega);have hp0 : (0 : Int) ≤ (p : Int) := by omega
 have hp1 : (p : Int) < (pl : Int) := by omega
 have hpl0 : (0 : Int) ≤ (pl : Int) := by omega
 have hc0 : (madeCells #[Value.int .i64 0] pl)[p]? = some (.int .i64 0) := by rw [← Array.getElem?_toList, toList_madeCells_one]; simp [hp]
 have hs0 : (w.alloc (.cells #[.int .i64 (pl : Int), .slice A n c, .int .i64 src, .int .i64 snk] 24)).heap.size = w.heap.size + 1 := by simp
 go_enter Tryz.func98, Tryz.ntmps98;go_wp2_with fail;have h1 := NS.one1 (w.alloc (.cells #[.int .i64 (pl : Int), .slice A n c, .int .i64 src, .int .i64 snk] 24)) pl p (by omega);rw [hs0] at h1;go_ret;exact ⟨_, rfl, NS.up HB.out h1⟩
theorem vmost_any (Ax : Option Addr) (n cx : Nat) (Ay : Option Addr) (m cy : Nat) (X Y : List Int) (w : World) (hX : ZIn w Ax X) (hn : X.length = n) (hY : ZIn w Ay Y) (hm : Y.length = m) (hnm : n ≤ m) (hmb : m ≤ 9223372036854775807) :
 Calls Tryz.prog 209 #[.slice Ax n cx, .slice Ay m cy] w fun e w' => e = .returned (.bool (atMost X Y)) ∧ Below w.heap.size w w' := by
 have HX := hid hX;have HY := hid hY;have HN := hid hn;have HM := hid hm;clear hX hY hn hm;go_enter Tryz.func209, Tryz.ntmps209;go_wp2_with fail;go_loopg [8] (n) (fun g iv wr => ∃ k : Nat, k + g = n ∧ iv = .int .i64 k ∧ atMTo X Y k = true ∧ Below w.heap.size w wr);case atStart => exact ⟨0, by omega, rfl, rfl, Below.refl _ _⟩
 case round =>
  obtain ⟨k, hk, rfl, hp, hB⟩ := hrel;have HB := hid hB;have HXr := hid (HX.out.below hB);have HYr := hid (HY.out.below hB);have HK := hid hk;have HP := hid hp;have hle : k ≤ n := by omega
  clear hk hp hB;by_cases hlt : k < n
  · have h1 : k < X.length := by rw [HN.out]; exact hlt
    have h2 : k < Y.length := by rw [HM.out]; omega
    have hlt2 : k < m := by omega
    obtain ⟨ad, rfl, hpa, q0⟩ := HXr.out k h1;obtain ⟨ae, rfl, hpb, q5⟩ := HYr.out k h2;have HNo := hid (atMost_no X Y k h1);have HSu := hid (atMTo_succ X Y k);rw [atM_get h1 h2] at HNo HSu;generalize X[k] = x at *;generalize Y[k] = y at *;clear h1 h2;rcases less_parts x y with ⟨h, hv⟩ | ⟨⟨h, h2⟩, hv⟩ | ⟨⟨h, h2, h3⟩, hv⟩ | ⟨⟨h, h2, h3⟩, hv⟩
    · have q1 : (y != -1) = false := by rw [h]; rfl
      rw [hv, HP.out] at HSu;clear h hv HNo;go_wp2_with fail;go_quiet (fail);go_wp2_with fail;go_roundg (gk - 1);case measure => have := HK.out; omega
      case rel => exact ⟨k + 1, by have := HK.out; omega, by go_num, HSu.out, below_then HB.out (below_drewN _ _)⟩
    · have q1 : (y != -1) = true := by simpa using h
      have q2 : (x == -1) = true := by rw [h2]; rfl
      have HV := hid (HNo.out hv);clear h h2 hv HSu HNo;go_wp2_with fail;go_quiet (fail);go_wp2_with fail;go_ret;exact ⟨ret_bool HV.out.symm, below_then HB.out (below_drewN _ _)⟩
    · have q1 : (y != -1) = true := by simpa using h
      have q2 : (x == -1) = false := by rw [beq_eq_false_iff_ne]; exact h2
      have HV := hid (HNo.out hv);clear h h2 hv HSu HNo;go_wp2_with fail;go_quiet (fail);go_wp2_with fail;go_ret;exact ⟨ret_bool HV.out.symm, below_then HB.out (below_drewN _ _)⟩
    · have q1 : (y != -1) = true := by simpa using h
      have q2 : (x == -1) = false := by rw [beq_eq_false_iff_ne]; exact h2
      have q3 : decide (y < x) = false := by simpa using h3
      rw [hv, HP.out] at HSu;clear h h2 h3 hv HNo;go_wp2_with fail;go_quiet (fail);go_wp2_with fail;go_roundg (gk - 1);case measure => have := HK.out; omega
      case rel => exact ⟨k + 1, by have := HK.out; omega, by go_num, HSu.out, below_then HB.out (below_drewN _ _)⟩
  · have HV := hid (show atMost X Y = true by
     have := HP.out;unfold atMost;rwa [show k = X.length by rw [HN.out]; omega] at this)
    go_wp2_with fail;go_ret;exact ⟨ret_bool HV.out.symm, HB.out⟩
def isL (X s : List Int) : Bool := decide (s = X)
theorem vindex1_any (Ax : Option Addr) (nx cx : Nat) (X : List Int) (pb : Nat) (Ay : Option Addr) (ny cy : Nat) (Y : List Int) (w : World) (hx : ZIn w Ax X) (hl : X.length = nx) (hn : nx ≤ 9223372036854775807) (h : MB w pb Ay ny cy Y) (hy : ny ≤ 9223372036854775807) :
 Calls Tryz.prog 207 #[.slice Ax nx cx, .pointer (some ⟨pb, 0, none⟩)] w fun e w' => e = .returned (.bool (isL Y X)) ∧ Below w.heap.size w w' := by
 obtain ⟨h1, h2, h3⟩ := h;have c0 : w.cell? ⟨pb, 0, none⟩ = some (.slice Ay ny cy) := by simp [World.cell?, h1]
 have HE := hid (equal_any Ax nx cx Ay ny cy X Y w hx hl h2 h3 hn hy);clear h1 h2 h3 hx hl;go_enter Tryz.func207, Tryz.ntmps207;go_wp2_with fail;((with_reducible refine HE.out.mono ?_); rintro e w1 ⟨rfl, hb1⟩)
 have HB1 := hid hb1;go_wp2_with fail;go_ret;exact ⟨rfl, HB1.out⟩
theorem lindex_vi (A : Option Addr) (n cap : Nat) (L : List (List Int)) (w : World) (h : LIn w A L) (hn : L.length = n) (hn4 : n ≤ 9223372036854775806) (pb : Nat) (Ay : Option Addr) (ny cy : Nat) (Y : List Int) (hy : ny ≤ 9223372036854775807) (hS : MB w pb Ay ny cy Y) :
 Calls Tryz.prog 132 #[.slice A n cap, .func (.func 207) #[] #[.pointer (some ⟨pb, 0, none⟩)]] w fun e w' => e = .returned (.int .i64 (lidx (isL Y) L)) ∧ Below w.heap.size w w' := by
 have H0 := hid h; clear h;have HN := hid hn; clear hn;have HSt := hid hS; clear hS;go_enter Tryz.func132, Tryz.ntmps132;go_wp2_with fail;go_loopg [8] (n) (fun g i wr => ∃ k : Nat, k + g = n ∧ i = .int .i64 k ∧ (∀ s ∈ L.take k, (isL Y) s = false) ∧ Below w.heap.size w wr);case atStart => exact ⟨0, by omega, rfl, by simp, Below.refl _ _⟩
 case round =>
  obtain ⟨k, hk, rfl, hno, hB⟩ := hrel;have HK := hid hk;have HNo := hid hno;have HB := hid hB;have HT := hid (H0.out.below hB);have hle : k ≤ n := by omega
  clear hk hno hB;by_cases hlt : k < n
  · have hlt' : k < L.length := by rw [HN.out]; exact hlt
    obtain ⟨ad, rfl, hp, u, c0, Ax, nx, cx, rfl, zx, hxl, hxc, hxd⟩ := HT.out k hlt';have HTk := hid (List.take_succ_eq_append_getElem hlt');have HAt := hid (lidx_at (p := (isL Y)) hlt');have hXm := List.getElem_mem hlt';generalize L[k] = X at *;have HX := hid (vindex1_any Ax nx cx X pb Ay ny cy Y wr zx hxl (by omega) (HSt.out.below HB.out) hy);clear hlt' zx hxl hXm;cases hv : (isL Y) X with
    | true =>
     rw [hv] at HX;have HV := hid (HAt.out hv HNo.out); clear hv;go_wp2_with fail;((with_reducible refine HX.out.mono ?_); rintro e w1 ⟨rfl, hb1⟩)
     have HB1 := hid (below_then HB.out hb1);go_wp2_with fail;go_ret;exact ⟨ret_int HV.out.symm, HB1.out⟩
    | false =>
     rw [hv] at HX;have HV := hid hv; clear hv HAt;go_wp2_with fail;((with_reducible refine HX.out.mono ?_); rintro e w1 ⟨rfl, hb1⟩)
     have HB1 := hid (below_then HB.out hb1);clear hb1;go_wp2_with fail;go_roundg (gk - 1);case measure => have := HK.out; omega
     case rel => exact ⟨k + 1, by have := HK.out; omega, by go_num, by
      rw [HTk.out]; intro s hs;rcases List.mem_append.1 hs with h1 | h1
      · exact HNo.out s h1
      · have : s = X := by simpa using h1
        rw [this]; exact HV.out, HB1.out⟩
  · have HV := hid (show lidx (isL Y) L = -1 from lidx_no (by have := HNo.out; rwa [List.take_of_length_le (by rw [HN.out]; omega)] at this));go_wp2_with fail;go_ret;exact ⟨ret_int HV.out.symm, HB.out⟩
theorem vindex_any (Al : Option Addr) (nl cl : Nat) (LL : List (List Int)) (Am : Option Addr) (m cm : Nat) (M : List Int) (w : World) (hL : LIn w Al LL) (hl : LL.length = nl) (hl2 : nl ≤ 9223372036854775806) (hM : ZIn w Am M) (hm : M.length = m) (hm2 : m ≤ 9223372036854775807) :
 Calls Tryz.prog 162 #[.slice Al nl cl, .slice Am m cm] w fun e w' => e = .returned (.int .i64 (lidx (isL M) LL)) ∧ Below w.heap.size w w' := by
 have HB := hid (below_alloc w (.cells #[.slice Am m cm] 27));have HC := hid (lindex_vi Al nl cl LL _ (hL.below HB.out) hl hl2 w.heap.size Am m cm M hm2 ⟨heap_alloc_new w _, hM.below HB.out, hm⟩);clear hL hl hM hm;go_enter Tryz.func162, Tryz.ntmps162;go_wp2_with fail;((with_reducible refine HC.out.mono ?_); rintro e w2 ⟨rfl, hb2⟩)
 go_wp2_with fail;go_ret;exact ⟨rfl, below_then HB.out hb2⟩
end Go.Proofs.YtkhmngljpfibcaaGreatDoor
