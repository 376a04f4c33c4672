/- at, Initial, Final, below, markings, never, closed, covers of reference 28: what a call returns. -/
import Derived.Test.YtkhmngljpfibcaaGreatDoorPUu
import Derived.Test.YtkhmngljpfibcaaGreatDoorPYm
namespace Go.Proofs.YtkhmngljpfibcaaGreatDoor
set_option maxRecDepth 100000
set_option maxHeartbeats 12800000
open Go.Lib (hid)
open Go.RowKit

theorem rf_no {P : Program} {f : FuncId} {args : Array Value} {w : World} {L : List Int} (h : Calls P f args w (RFi L w)) (h0 : bigM L = true) : Calls P f args w fun e w' => e = .returned (.tuple #[.slice none 0 0, .bool false]) ∧ Below w.heap.size w w' :=
 h.mono fun e w' h1 => by unfold RFi at h1; rw [if_pos h0] at h1; exact h1
theorem rf_yes {P : Program} {f : FuncId} {args : Array Value} {w : World} {L : List Int} (h : Calls P f args w (RFi L w)) (h0 : bigM L = false) : Calls P f args w fun e w' => ∃ v, e = .returned (.tuple #[v, .bool true]) ∧ NS w w' v L :=
 h.mono fun e w' h1 => by unfold RFi at h1; rw [if_neg (by rw [h0]; decide)] at h1; exact h1
theorem one21_any (pl : Nat) (A : Option Addr) (n c : Nat) (src snk : Int) (p : Nat) (w : World) (hp : p < pl) (hpl : pl ≤ 1000) :
 Calls Tryz.prog 35 #[.agg #[.int .i64 (pl : Int), .slice A n c, .int .i64 src, .int .i64 snk], .int .i64 (p : Int)] w fun e w' => ∃ v, e = .returned v ∧ NS w w' v (oneM pl p) := by
 have HB := hid (below_alloc w (.cells #[.int .i64 (pl : Int), .slice A n c, .int .i64 src, .int .i64 snk] 24));have HN := hid (NB.new w (pl : Int) A n c src snk);have hmk := mk_ints pl (by omega);have hp0 : (0 : Int) ≤ (p : Int) := by omega
 have hp1 : (p : Int) < (pl : Int) := by omega
 have hpl0 : (0 : Int) ≤ (pl : Int) := by omega
 have hc0 : (madeCells #[Value.int .i64 0] pl)[p]? = some (.int .i64 0) := by rw [← Array.getElem?_toList, toList_madeCells_one]; simp [hp]
 have hs0 : (w.alloc (.cells #[.int .i64 (pl : Int), .slice A n c, .int .i64 src, .int .i64 snk] 24)).heap.size = w.heap.size + 1 := by simp
 go_enter Tryz.func35, Tryz.ntmps35;go_wp2_with fail;have h1 := NS.one1 (w.alloc (.cells #[.int .i64 (pl : Int), .slice A n c, .int .i64 src, .int .i64 snk] 24)) pl p (by omega);rw [hs0] at h1;go_ret;exact ⟨_, rfl, NS.up HB.out h1⟩
theorem rsrc_any (N : Nt) (A : Option Addr) (n c : Nat) (hv : ntB N = true) (w : World) : Calls Tryz.prog 35 #[.agg #[.int .i64 N.pl, .slice A n c, .int .i64 N.src, .int .i64 N.snk], .int .i64 N.src] w fun e w' => ∃ v, e = .returned v ∧ NS w w' v (iniM N) := by
 have h1 := nt_small hv;have h2 := nt_src hv;have h := one21_any N.pl.toNat A n c N.src N.snk N.src.toNat w (by omega) (by omega);rw [show ((N.pl.toNat : Nat) : Int) = N.pl by omega, show ((N.src.toNat : Nat) : Int) = N.src by omega] at h;exact h
theorem rsnk_any (N : Nt) (A : Option Addr) (n c : Nat) (hv : ntB N = true) (w : World) : Calls Tryz.prog 35 #[.agg #[.int .i64 N.pl, .slice A n c, .int .i64 N.src, .int .i64 N.snk], .int .i64 N.snk] w fun e w' => ∃ v, e = .returned v ∧ NS w w' v (finM N) := by
 have h1 := nt_small hv;have h2 := nt_src hv;have h := one21_any N.pl.toNat A n c N.src N.snk N.snk.toNat w (by omega) (by omega);rw [show ((N.pl.toNat : Nat) : Int) = N.pl by omega, show ((N.snk.toNat : Nat) : Int) = N.snk by omega] at h;exact h
theorem ini28_any (N : Nt) (A : Option Addr) (n c : Nat) (hv : ntB N = true) (w : World) : Calls Tryz.prog 24 #[.agg #[.int .i64 N.pl, .slice A n c, .int .i64 N.src, .int .i64 N.snk]] w fun e w' => ∃ v, e = .returned v ∧ NS w w' v (iniM N) := by
 have HB := hid (below_alloc w (.cells #[.int .i64 N.pl, .slice A n c, .int .i64 N.src, .int .i64 N.snk] 24));have HO := hid (rsrc_any N A n c hv (w.alloc (.cells #[.int .i64 N.pl, .slice A n c, .int .i64 N.src, .int .i64 N.snk] 24)));clear hv;go_enter Tryz.func24, Tryz.ntmps24;go_wp2_with fail;((with_reducible refine HO.out.mono ?_); rintro e w1 ⟨v, rfl, hS⟩)
 go_wp2_with fail;go_ret;exact ⟨_, rfl, NS.up HB.out hS⟩
theorem fin28_any (N : Nt) (A : Option Addr) (n c : Nat) (hv : ntB N = true) (w : World) : Calls Tryz.prog 58 #[.agg #[.int .i64 N.pl, .slice A n c, .int .i64 N.src, .int .i64 N.snk]] w fun e w' => ∃ v, e = .returned v ∧ NS w w' v (finM N) := by
 have HB := hid (below_alloc w (.cells #[.int .i64 N.pl, .slice A n c, .int .i64 N.src, .int .i64 N.snk] 24));have HO := hid (rsnk_any N A n c hv (w.alloc (.cells #[.int .i64 N.pl, .slice A n c, .int .i64 N.src, .int .i64 N.snk] 24)));clear hv;go_enter Tryz.func58, Tryz.ntmps58;go_wp2_with fail;((with_reducible refine HO.out.mono ?_); rintro e w1 ⟨v, rfl, hS⟩)
 go_wp2_with fail;go_ret;exact ⟨_, rfl, NS.up HB.out hS⟩
theorem at28_any (A : Option Addr) (n c : Nat) (LL : List (List Int)) (Am : Option Addr) (m cm : Nat) (M : List Int) (w : World) (h : LIn w A LL) (hn : LL.length = n) (hn2 : n ≤ 9223372036854775806) (hM : ZIn w Am M) (hm : M.length = m) :
 Calls Tryz.prog 70 #[.slice A n c, .slice Am m cm] w fun e w' => e = .returned (.int .i64 (findR LL M)) ∧ Below w.heap.size w w' := by
 have HF := hid (find_any A n c LL Am m cm M w h hn hn2 hM hm);clear h hn hM hm;go_enter Tryz.func70, Tryz.ntmps70;go_wp2_with fail;((with_reducible refine HF.out.mono ?_); rintro e w1 ⟨rfl, hb1⟩)
 go_wp2_with fail;go_ret;exact ⟨rfl, hb1⟩
theorem badX_cases (ext : Bool) (x : Int) : (badX ext x = false ∧ ¬ x < 0 ∧ ¬ 100 < x) ∨ (badX ext x = !(ext && decide (x = -1)) ∧ (x < 0 ∨ 100 < x)) := by
 by_cases h : x < 0 ∨ 100 < x
 · right;refine ⟨?_, h⟩;unfold badX;have : (decide (x < 0) || decide (100 < x)) = true := by simpa using h
   rw [this]; simp
 · left;refine ⟨?_, by omega, by omega⟩;unfold badX;have : (decide (x < 0) || decide (100 < x)) = false := by simp; omega
   rw [this]; rfl
theorem mks28_any (N : Nt) (A : Option Addr) (n c : Nat) (Al : Option Addr) (nl cl : Nat) (LL : List (List Int)) (ext : Bool) (w : World) (hp1 : 1 ≤ N.pl) (hp2 : N.pl ≤ 1000) (hL : LIn w Al LL) (hl : LL.length = nl) (hl2 : nl ≤ 9223372036854775806) :
 Calls Tryz.prog 133 #[.agg #[.int .i64 N.pl, .slice A n c, .int .i64 N.src, .int .i64 N.snk], .slice Al nl cl, .bool ext] w fun e w' => e = .returned (.bool (decide (LL.length ≤ 2000) && mksX N.pl ext LL)) ∧ Below w.heap.size w w' := by
 have HB := hid (below_alloc w (.cells #[.int .i64 N.pl, .slice A n c, .int .i64 N.src, .int .i64 N.snk] 24));have HNb := hid (NB.new w N.pl A n c N.src N.snk);have HL := hid (hL.below HB.out);have HLl := hid hl;have HP1 := hid hp1;have HP2 := hid hp2;have HQ := hid (show (decide (LL.length ≤ 2000) && mksX N.pl ext LL) = (decide (nl ≤ 2000) && LL.all (mkX N.pl ext)) by rw [hl]; rfl);generalize (decide (LL.length ≤ 2000) && mksX N.pl ext LL) = Q at *;clear hL hl hp1 hp2;by_cases hbig : 2000 < nl
 · have q1 : decide ((2000 : Int) < (nl : Int)) = true := by simp; omega
   have HV := hid (show Q = false by rw [HQ.out, decide_eq_false (by omega)]; rfl);go_enter Tryz.func133, Tryz.ntmps133;go_wp2_with fail;go_ret;exact ⟨ret_bool HV.out.symm, HB.out⟩
 have q1 : decide ((2000 : Int) < (nl : Int)) = false := by simp; omega
 rw [decide_eq_true (show nl ≤ 2000 by omega), Bool.true_and] at HQ;clear hbig;go_enter Tryz.func133, Tryz.ntmps133;go_wp2_with fail;generalize w.alloc _ = w0 at *;clear q1;go_loopg [7] (nl) (fun g iv wr => ∃ k : Nat, k + g = nl ∧ iv = .int .i64 k ∧ (LL.take k).all (mkX N.pl ext) = true ∧ Below w0.heap.size w0 wr);case atStart => exact ⟨0, by omega, rfl, by simp, Below.refl _ _⟩
 case round =>
  obtain ⟨k, hk, rfl, hp, hB⟩ := hrel;have HK := hid hk;have HP := hid hp;have HBr := hid hB;have HLr := hid (HL.out.below hB);have hle : k ≤ nl := by omega
  obtain ⟨b0, b1, b2, b3⟩ := (HNb.out.below hB).cells;clear hk hp hB;by_cases hlt : k < nl
  · have hlt' : k < LL.length := by rw [HLl.out]; exact hlt
    obtain ⟨al, hal, hpa, u, q0', Ax, nx, cx, hu, zx, hx1, hx2, hx3⟩ := HL.out k hlt';subst hal hu;have HQ0 := hid q0';have q0 := cell_stays HBr.out q0';have HTk := hid (all_step (mkX N.pl ext) hlt');have HNo := hid (fun hh => all_false (f := mkX N.pl ext) (List.getElem_mem hlt') hh);generalize LL[k] = X at *;have HZx := hid zx;have HXl := hid hx1;have HMe := hid (show mkX N.pl ext X = (decide ((nx : Int) = N.pl) && !(X.any (badX ext))) by unfold mkX; rw [hx1]);clear hlt' zx hx1 q0' HLr;obtain ⟨go, rfl⟩ : ∃ go, go = gk := ⟨_, rfl⟩;go_wp2_with fail;have a0 := fun d os => cell_regrown b0 d os
    have a1 := fun d os => cell_regrown q0 d os
    by_cases hne : (nx : Int) = N.pl;rotate_left
    · have q2 : ((nx : Int) != N.pl) = true := by rw [bne_iff_ne]; exact hne
      have HV := hid (show Q = false by rw [HQ.out]; exact HNo.out (by rw [HMe.out, decide_eq_false hne]; rfl));clear hne;refine wp_region_quiet_below (by kernel_rfl) (by kernel_rfl) ?_;repeat (quiet_step (fail))
      refine wpQuiet_nil ?_;intro _ hw';obtain ⟨⟨dq, osq⟩, hw''⟩ := hw';subst hw'';have HB2 := hid (below_then HBr.out (below_regrown wr dq osq));clear a0 a1;go_wp2_with fail;go_ret;exact ⟨ret_bool HV.out.symm, HB.out.trans (HB2.out.mono HB.out.size)⟩
    have q2 : ((nx : Int) != N.pl) = false := by rw [← hne]; simp
    rw [decide_eq_true hne, Bool.true_and] at HMe;refine wp_region_quiet_below (by kernel_rfl) (by kernel_rfl) ?_;repeat (quiet_step (fail))
    refine wpQuiet_nil ?_;intro _ hw';obtain ⟨⟨dq, osq⟩, hw''⟩ := hw';subst hw'';have HB2 := hid (below_then HBr.out (below_regrown wr dq osq));have HPn := hid hne;clear a0 a1 b0 b1 b2 b3 q0 q2 HBr hne;generalize Sort.grow (redrawn wr dq) osq = w3 at *;go_wp2_with fail;go_loopg [8] (nx) (fun g jv wy => ∃ j : Nat, j + g = nx ∧ jv = .int .i64 j ∧ (X.take j).any (badX ext) = false ∧ Below w0.heap.size w0 wy);case atStart => exact ⟨0, by omega, rfl, by simp, HB2.out⟩
    case round =>
     clear HB2;obtain ⟨j, hj, rfl, hp, hB⟩ := hrel;have HJ := hid hj;have HPj := hid hp;have HBr := hid hB;have hjl : j ≤ nx := by omega
     obtain ⟨b0, b1, b2, b3⟩ := (HNb.out.below hB).cells;rw [← HPn.out] at b0;have q0 := cell_stays hB HQ0.out;have HZr := hid (HZx.out.below hB);have hpn := HPn.out;have hp2 := HP2.out;clear hj hp hB;by_cases hjt : j < nx
     · have hjt' : j < X.length := by rw [HXl.out]; exact hjt
       obtain ⟨ax, rfl, hpx, r0⟩ := HZr.out j hjt';have HTj := hid (any_step (badX ext) hjt');have HYe := hid (fun (hh : badX ext X[j] = true) => show X.any (badX ext) = true from List.any_eq_true.2 ⟨_, List.getElem_mem hjt', hh⟩);generalize X[j] = x at *;clear hjt' hpx;rcases badX_cases ext x with ⟨hbx, h0, h1⟩ | ⟨hbx, h01⟩
       · have q3 : decide (x < 0) = false := by simpa using h0
         have q4 : decide (100 < x) = false := by simpa using h1
         have HV := hid (show (X.take (j + 1)).any (badX ext) = false by rw [HTj.out, HPj.out, hbx]; rfl);clear h0 h1 hbx;go_wp2_with fail;go_roundg (gk - 1);case measure => have := HJ.out; omega
         case rel => exact ⟨j + 1, by have := HJ.out; omega, by go_num, HV.out, HBr.out⟩
       · cases ext with
         | false =>
          have HV := hid (show Q = false by rw [HQ.out]; exact HNo.out (by rw [HMe.out, HYe.out (by rw [hbx]; rfl)]; rfl));clear hbx;rcases Classical.em (x < 0) with h0 | h0
          · have q3 : decide (x < 0) = true := by simpa using h0
            clear h0 h01;go_wp2_with fail;go_ret;exact ⟨ret_bool HV.out.symm, HB.out.trans (HBr.out.mono HB.out.size)⟩
          · have q3 : decide (x < 0) = false := by simpa using h0
            have q4 : decide (100 < x) = true := by simp; omega
            clear h0 h01;go_wp2_with fail;go_ret;exact ⟨ret_bool HV.out.symm, HB.out.trans (HBr.out.mono HB.out.size)⟩
         | true =>
          by_cases he : x = -1
          · have q3 : decide (x < 0) = true := by simp; omega
            have q5 : (x == -1) = true := by rw [he]; rfl
            have HV := hid (show (X.take (j + 1)).any (badX true) = false by rw [HTj.out, HPj.out, hbx, he]; rfl);clear h01 hbx he;go_wp2_with fail;go_roundg (gk - 1);case measure => have := HJ.out; omega
            case rel => exact ⟨j + 1, by have := HJ.out; omega, by go_num, HV.out, HBr.out⟩
          · have q5 : (x == -1) = false := by simpa using he
            have HV := hid (show Q = false by rw [HQ.out]; exact HNo.out (by rw [HMe.out, HYe.out (by rw [hbx, decide_eq_false he]; rfl)]; rfl));clear hbx he;rcases Classical.em (x < 0) with h0 | h0
            · have q3 : decide (x < 0) = true := by simpa using h0
              clear h0 h01;go_wp2_with fail;go_ret;exact ⟨ret_bool HV.out.symm, HB.out.trans (HBr.out.mono HB.out.size)⟩
            · have q3 : decide (x < 0) = false := by simpa using h0
              have q4 : decide (100 < x) = true := by simp; omega
              clear h0 h01;go_wp2_with fail;go_ret;exact ⟨ret_bool HV.out.symm, HB.out.trans (HBr.out.mono HB.out.size)⟩
     · have HV := hid (show (LL.take (k + 1)).all (mkX N.pl ext) = true by
        rw [HTk.out, HP.out, HMe.out];have := HPj.out;rw [List.take_of_length_le (by rw [HXl.out]; omega)] at this;rw [this]; rfl)
       go_wp2_with fail;go_roundg (go - 1);case measure => have := HK.out; omega
       case rel => exact ⟨k + 1, by have := HK.out; omega, by go_num, HV.out, HBr.out⟩
  · have HV := hid (show Q = true by
     rw [HQ.out];have h1 := HP.out;rwa [List.take_of_length_le (by rw [HLl.out]; omega)] at h1)
    go_wp2_with fail;go_ret;exact ⟨ret_bool HV.out.symm, HB.out.trans (HBr.out.mono HB.out.size)⟩
theorem mkX_le {pl : Int} {ext : Bool} {s : List Int} (h : mkX pl ext s = true) (p : Nat) : s.getD p 0 ≤ 100 := by
 rcases Nat.lt_or_ge p s.length with hp | hp
 · rw [List.getD_eq_getElem?_getD, List.getElem?_eq_getElem hp];exact (mkX_num h _ (List.getElem_mem hp)).2
 · rw [getD_out hp]; decide
theorem closed28_any (N : Nt) (A : Option Addr) (n c : Nat) (Al : Option Addr) (nl cl : Nat) (LL : List (List Int)) (w : World) (h : NtIn w A N) (hn : N.tr.length = n) (hv : ntB N = true) (hL : LIn w Al LL) (hl : LL.length = nl) (hl2 : nl ≤ 9223372036854775806) (hall : ∀ s ∈ LL, mkX N.pl false s = true) :
 Calls Tryz.prog 186 #[.agg #[.int .i64 N.pl, .slice A n c, .int .i64 N.src, .int .i64 N.snk], .slice Al nl cl] w fun e w' => e = .returned (.bool (closX N LL)) ∧ Below w.heap.size w w' := by
 have HB := hid (below_alloc w (.cells #[.int .i64 N.pl, .slice A n c, .int .i64 N.src, .int .i64 N.snk] 24));have HNb := hid (NB.new w N.pl A n c N.src N.snk);have HIn := hid (h.below HB.out);have HL := hid (hL.below HB.out);have HLl := hid hl;have HNl := hid hn;have HAll := hid hall;have HVt := hid hv;have hps := nt_small hv;have hn60 : n ≤ 60 := by omega
 have hpl1 : 1 ≤ N.pl := hps.1;have hpl40 : N.pl ≤ 40 := hps.2.1;have HQ := hid (show closX N LL = LL.all (fun s => N.tr.all (okX (inB LL) s)) from rfl);generalize closX N LL = Q at *;clear h hn hL hl hv hall hps;go_enter Tryz.func186, Tryz.ntmps186;go_wp2_with fail;generalize w.alloc _ = w0 at *;have HBs := hid (Below.refl w0.heap.size w0);go_loopg [5] (nl) (fun g iv wr => ∃ k : Nat, k + g = nl ∧ iv = .int .i64 (k : Int) ∧ (LL.take k).all (fun s => N.tr.all (okX (inB LL) s)) = true ∧ Below w0.heap.size w0 wr);case atStart => exact ⟨0, by omega, rfl, by simp, HBs.out⟩
 case round =>
  clear HBs;obtain ⟨k, hk, rfl, hp, hB⟩ := hrel;have HK := hid hk;have HP := hid hp;have HBr := hid hB;have hle : k ≤ nl := by omega
  clear hk hp hB;by_cases hlt : k < nl
  · have hlt' : k < LL.length := by rw [HLl.out]; exact hlt
    obtain ⟨al, hal, hpa, u, q0, Ax, nx, cx, hu, zx, hx1, hx2, hx3⟩ := HL.out k hlt';subst hal hu;have HQ0 := hid q0;have HTk := hid (all_step (fun s => N.tr.all (okX (inB LL) s)) hlt');have HNo := hid (fun hh => all_false (f := fun s => N.tr.all (okX (inB LL) s)) (List.getElem_mem hlt') hh);have HMx := hid (HAll.out _ (List.getElem_mem hlt'));generalize LL[k] = X at *;have HZx := hid zx;have HXl := hid hx1;have hxp : (nx : Int) = N.pl := by have := mkX_len HMx.out; omega
    have hnx : nx ≤ 1000 := by omega
    have hnx0 : 0 < nx := by omega
    have HOk := hid (netOk_of HVt.out hxp);have HInT := hid (nt_inM HVt.out (m := nx) hxp);have HBd := hid (mkX_bnd HMx.out);have HSp := hid (fun p => mkX_le HMx.out p);clear hlt' zx hx1 q0 hpa;obtain ⟨go, rfl⟩ : ∃ go, go = gk := ⟨_, rfl⟩;go_wp2_with fail;go_loopg [6] (n) (fun g jv wy => ∃ j : Nat, j + g = n ∧ jv = .int .i64 (j : Int) ∧ (N.tr.take j).all (okX (inB LL) X) = true ∧ Below w0.heap.size w0 wy);case atStart => exact ⟨0, by omega, rfl, by simp, HBr.out⟩
    case round =>
     clear HBr;obtain ⟨j, hj, rfl, hp, hB⟩ := hrel;have HJ := hid hj;have HPj := hid hp;have HBr := hid hB;have hjl : j ≤ n := by omega
     obtain ⟨b0, b1, b2, b3⟩ := (HNb.out.below hB).cells;have q0 := cell_stays hB HQ0.out;clear hj hp hB;by_cases hjt : j < n
     · have hjt' : j < N.tr.length := by rw [HNl.out]; exact hjt
       have HTl := hid hjt';clear hjt';have HTj := hid (all_step (okX (inB LL) X) HTl.out);have HNj := hid (fun hh => all_false (f := okX (inB LL) X) (List.getElem_mem HTl.out) hh);have HInr := hid (HIn.out.below HBr.out);have HZr := hid (HZx.out.below HBr.out);have HCan := hid (fun d os => can28_any N A n c Ax nx cx X j HTl.out _ (HInr.out.1.below (below_regrown wr d os)) HNl.out (HZr.out.below (below_regrown wr d os)) HXl.out (HInT.out _ (List.getElem_mem HTl.out)).1);go_wp2_with fail;have a0 := fun d os => cell_regrown b0 d os
       have a1 := fun d os => cell_regrown b1 d os
       have a2 := fun d os => cell_regrown b2 d os
       have a3 := fun d os => cell_regrown b3 d os
       have a4 := fun d os => cell_regrown q0 d os
       have HFt := hid (fun w1 (hw : Below w0.heap.size w0 w1) => fire28_any N A n c Ax nx cx X j HTl.out w1 (HIn.out.below hw).1 HNl.out (HZx.out.below hw) HXl.out hnx0 hnx (HOk.out j _ (List.getElem?_eq_getElem HTl.out)) HBd.out HSp.out);have HT := hid (show ∃ T, T = N.tr[j]'HTl.out from ⟨_, rfl⟩);cases hcan : canT (N.tr[j]'HTl.out) X with
       | false =>
        rw [hcan] at HCan;have HV := hid (show (N.tr.take (j + 1)).all (okX (inB LL) X) = true by rw [HTj.out, HPj.out, okX_no hcan]; rfl);clear hcan HFt;refine wp_region_quiet_below (by kernel_rfl) (by kernel_rfl) ?_;repeat (quiet_step (exact Calls.regrown_of (HCan.out _ _)))
        refine wpQuiet_nil ?_;intro _ hw';obtain ⟨⟨dq, osq⟩, hw''⟩ := hw';subst hw'';have HB2 := hid (below_then HBr.out (below_regrown wr dq osq));clear a0 a1 a2 a3 a4;go_wp2_with fail;go_roundg (gk - 1);case measure => have := HJ.out; omega
        case rel => exact ⟨j + 1, by have := HJ.out; omega, by go_num, HV.out, HB2.out⟩
       | true =>
        rw [hcan] at HCan;refine wp_region_quiet_below (by kernel_rfl) (by kernel_rfl) ?_;repeat (quiet_step (exact Calls.regrown_of (HCan.out _ _)))
        refine wpQuiet_nil ?_;intro _ hw';obtain ⟨⟨dq, osq⟩, hw''⟩ := hw';subst hw'';have HB2 := hid (below_then HBr.out (below_regrown wr dq osq));clear a0 a1 a2 a3 a4 b0 b1 b2 b3 q0 HInr HZr HBr;generalize Sort.grow (redrawn wr dq) osq = w3 at *;have hbd : Below w3.heap.size w3 w3.drew := (Below.refl _ _).drew;have HB3 := hid (below_then HB2.out hbd);have HNd := hid (HNb.out.below HB3.out);have HFi := hid (HFt.out _ HB3.out);have hS0 := And.intro HNd.out.cells.1 (And.intro HNd.out.cells.2.1 (And.intro HNd.out.cells.2.2.1 (And.intro HNd.out.cells.2.2.2 (cell_stays HB3.out HQ0.out))));clear hbd HCan HB2 HFt HNd;go_wp2_with fail;cases hbig : bigM (fireT (N.tr[j]'HTl.out) X) with
        | true =>
         have HFn := hid (rf_no HFi.out hbig);have HV := hid (show Q = false by rw [HQ.out]; exact HNo.out (HNj.out (okX_big hcan hbig)));clear HFi hcan hbig;refine rh5 hS0 (fun hHeld => ?_);clear hS0;generalize w3.drew = wd at *;refine tkH 0 ?_;(try go_simp);refine tkH 1 ?_;(try go_simp);refine tkH 2 ?_;(try go_simp);refine tkH 3 ?_;(try go_simp);refine tkH 4 ?_;(try go_simp);refine tkH 5 ?_;(try go_simp);refine tkR 6 (fun K9 hK => ?_);go_simp;((refine HFn.out.mono ?_); rintro e w4 ⟨rfl, hb4⟩)
         have hS9 := hHeld;refine hK.out _ _ (ks5 hb4 hS9) (fun hHeld => ?_);clear hK K9 hS9;try go_simp
         refine tkH 7 ?_;(try go_simp);refine tkH 8 ?_;(try go_simp);refine tkH 9 ?_;(try go_simp);refine tkH 10 ?_;(try go_simp);refine tkH 11 ?_;(try go_simp);refine wpAnyH_done (by kernel_rfl) ?_ _;clear hHeld;have HB4 := hid (below_then HB3.out hb4);go_wp2_with fail;go_ret;exact ⟨ret_bool HV.out.symm, HB.out.trans (HB4.out.mono HB.out.size)⟩
        | false =>
         have HFy := hid (rf_yes HFi.out hbig);have HOx := hid (okX_yes (q := inB LL) hcan hbig);have HYl := hid (show (fireT (N.tr[j]'HTl.out) X).length = nx by rw [fireT_len, HXl.out]);clear HFi hcan hbig;generalize fireT (N.tr[j]'HTl.out) X = Y at *;refine rh5 hS0 (fun hHeld => ?_);clear hS0;generalize w3.drew = wd at *;refine tkH 0 ?_;(try go_simp);refine tkH 1 ?_;(try go_simp);refine tkH 2 ?_;(try go_simp);refine tkH 3 ?_;(try go_simp);refine tkH 4 ?_;(try go_simp);refine tkH 5 ?_;(try go_simp);refine tkR 6 (fun K9 hK => ?_);go_simp;((refine HFy.out.mono ?_); rintro e w4 ⟨v4, rfl, hS4⟩; have hb4 := hS4.2; obtain ⟨A4, c4, rfl⟩ := hS4.slice)
         have hS9 := hHeld;refine hK.out _ _ (ks5 hb4 hS9) (fun hHeld => ?_);clear hK K9 hS9;try go_simp
         refine tkH 7 ?_;(try go_simp);refine tkH 8 ?_;(try go_simp);refine tkH 9 ?_;(try go_simp);refine tkH 10 ?_;(try go_simp);refine tkH 11 ?_;(try go_simp);refine wpAnyH_done (by kernel_rfl) ?_ _;clear hHeld;have HB4 := hid (below_then HB3.out hb4);have HZ4 := hid (show ZIn w4 A4 Y by obtain ⟨A', c', e, hz, _⟩ := hS4.zin; cases e; exact hz);rw [HYl.out];clear hb4 hS4;have HTe := hid (at28_any (some al) nl cl LL A4 nx c4 Y w4 (HL.out.below HB4.out) HLl.out hl2 HZ4.out HYl.out);cases hin : inB LL Y with
         | true =>
          rw [hin] at HOx;have HV := hid (show (N.tr.take (j + 1)).all (okX (inB LL) X) = true by rw [HTj.out, HPj.out, HOx.out]; rfl);have HFr := hid (findR_iff LL Y);have hme : decide (Y ∈ LL) = true := hin;rw [hme] at HFr;generalize findR LL Y = fi at *;have q6 : decide (fi < 0) = false := HFr.out;clear hme HFr;clear hin;go_wp2_with fail;((with_reducible refine HTe.out.mono ?_); rintro e w5 ⟨rfl, hb5⟩)
          have HB5 := hid (below_then HB4.out hb5);go_wp2_with fail;go_roundg (gk - 1);case measure => have := HJ.out; omega
          case rel => exact ⟨j + 1, by have := HJ.out; omega, by go_num, HV.out, HB5.out⟩
         | false =>
          rw [hin] at HOx;have HV := hid (show Q = false by rw [HQ.out]; exact HNo.out (HNj.out HOx.out));have HFr := hid (findR_iff LL Y);have hme : decide (Y ∈ LL) = false := hin;rw [hme] at HFr;generalize findR LL Y = fi at *;have q6 : decide (fi < 0) = true := HFr.out;clear hme HFr;clear hin;go_wp2_with fail;((with_reducible refine HTe.out.mono ?_); rintro e w5 ⟨rfl, hb5⟩)
          have HB5 := hid (below_then HB4.out hb5);go_wp2_with fail;go_ret;exact ⟨ret_bool HV.out.symm, HB.out.trans (HB5.out.mono HB.out.size)⟩
     · have HV := hid (show (LL.take (k + 1)).all (fun s => N.tr.all (okX (inB LL) s)) = true by
        rw [HTk.out, HP.out];have h1 := HPj.out;rw [List.take_of_length_le (by rw [HNl.out]; omega)] at h1;rw [Bool.true_and]; exact h1)
       go_wp2_with fail;go_roundg (go - 1);case measure => have := HK.out; omega
       case rel => exact ⟨k + 1, by have := HK.out; omega, by go_num, HV.out, HBr.out⟩
  · have HV := hid (show Q = true by
     rw [HQ.out];have h1 := HP.out;rwa [List.take_of_length_le (by rw [HLl.out]; omega)] at h1)
    go_wp2_with fail;go_ret;exact ⟨ret_bool HV.out.symm, HB.out.trans (HBr.out.mono HB.out.size)⟩
end Go.Proofs.YtkhmngljpfibcaaGreatDoor
