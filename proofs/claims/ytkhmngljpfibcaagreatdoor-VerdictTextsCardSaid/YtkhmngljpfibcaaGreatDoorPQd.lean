/- verdict.closed, verdict.covers: what a call returns. -/
import Derived.Test.YtkhmngljpfibcaaGreatDoorPUu
import Derived.Test.YtkhmngljpfibcaaGreatDoorPQc
namespace Go.Proofs.YtkhmngljpfibcaaGreatDoor
set_option maxRecDepth 100000
set_option maxHeartbeats 12800000
open Go.Lib (hid)
open Go.RowKit

def okX (q : List Int → Bool) (s : List Int) (t : Tr) : Bool := !(canT t s) || (!(bigM (fireT t s)) && q (fireT t s))
theorem okX_no {q : List Int → Bool} {s : List Int} {t : Tr} (h : canT t s = false) : okX q s t = true := by unfold okX; rw [h]; rfl
theorem okX_big {q : List Int → Bool} {s : List Int} {t : Tr} (h : canT t s = true) (hb : bigM (fireT t s) = true) : okX q s t = false := by unfold okX; rw [h, hb]; rfl
theorem okX_yes {q : List Int → Bool} {s : List Int} {t : Tr} (h : canT t s = true) (hb : bigM (fireT t s) = false) : okX q s t = q (fireT t s) := by unfold okX; rw [h, hb]; rfl
def dblB (q : List Int → Bool) (N : Nt) (LL : List (List Int)) : Bool := LL.all fun s => N.tr.all (okX q s)
def inB (LL : List (List Int)) (z : List Int) : Bool := decide (z ∈ LL)
def belowB (LL : List (List Int)) (x : List Int) : Bool := LL.any (atMost x)
def closX (N : Nt) (LL : List (List Int)) : Bool := dblB (inB LL) N LL
def covX (N : Nt) (LL : List (List Int)) : Bool := belowB LL (oneM N.pl.toNat N.src.toNat) && dblB (belowB LL) N LL
theorem badX_badK (k : Int) : badX false k = badK k := by unfold badX badK; simp
theorem mkX_mk {N : Nt} (h : ntB N = true) (s : List Int) : mkX N.pl false s = mkB N s := by
 unfold mkX mkB;rw [h];have : (badX false) = badK := by funext k; exact badX_badK k
 rw [this]; rfl
theorem mkX_len {pl : Int} {ext : Bool} {s : List Int} (h : mkX pl ext s = true) : (s.length : Int) = pl := by
 unfold mkX at h; rw [Bool.and_eq_true] at h; exact of_decide_eq_true h.1
theorem mkX_num {pl : Int} {ext : Bool} {s : List Int} (h : mkX pl ext s = true) : ∀ x ∈ s, -1 ≤ x ∧ x ≤ 100 := by
 unfold mkX at h; rw [Bool.and_eq_true] at h;intro x hx;have h2 : s.any (badX ext) = false := by simpa using h.2
 rw [List.any_eq_false] at h2;have := h2 x hx;unfold badX at this;simp at this;omega
theorem mkX_bnd {pl : Int} {ext : Bool} {s : List Int} (h : mkX pl ext s = true) : bnd 1000 s := fun x hx => by have := mkX_num h x hx; omega
theorem mkX_okB {N : Nt} {s : List Int} (hv : ntB N = true) (h : mkX N.pl false s = true) : okB s := by
 rw [mkX_mk hv] at h;refine ⟨fun x hx => mk_nums h x hx, ?_⟩;have := mk_len h; have := nt_small hv; omega
theorem mkX_fire {N : Nt} {s : List Int} {t : Tr} (hv : ntB N = true) (h : mkX N.pl false s = true) (ht : t ∈ N.tr) (hc : canT t s = true) (hb : bigM (fireT t s) = false) : mkX N.pl false (fireT t s) = true := by
 rw [mkX_mk hv] at h ⊢;obtain ⟨k, hk, rfl⟩ := List.getElem_of_mem ht;have e : fireV N s (k : Int) = (fireT N.tr[k] s, 0) := by
  unfold fireV;rw [if_neg (by omega), Int.toNat_natCast, List.getElem?_eq_getElem hk];simp only;rw [hc, if_pos rfl, hb]; rfl
 have := fire_mk h (t := (k : Int)) (by rw [e]);rwa [e] at this
theorem vcov2_any (Ax : Option Addr) (nx cx : Nat) (X : List Int) (pb : Nat) (Ay : Option Addr) (ny cy : Nat) (Y : List Int) (w : World) (hx : ZIn w Ax X) (hl : X.length = nx) (hn : nx ≤ 9223372036854775807) (h : MB w pb Ay ny cy Y) (hy : ny ≤ nx) :
 Calls Tryz.prog 211 #[.slice Ax nx cx, .pointer (some ⟨pb, 0, none⟩)] w fun e w' => e = .returned (.bool (atMost Y X)) ∧ Below w.heap.size w w' := by
 obtain ⟨h1, h2, h3⟩ := h;have c0 : w.cell? ⟨pb, 0, none⟩ = some (.slice Ay ny cy) := by simp [World.cell?, h1]
 have HE := hid (vmost_any Ay ny cy Ax nx cx Y X w h2 h3 hx hl hy hn);clear h1 h2 h3 hx hl;go_enter Tryz.func211, Tryz.ntmps211;go_wp2_with fail;((with_reducible refine HE.out.mono ?_); rintro e w1 ⟨rfl, hb1⟩)
 have HB1 := hid hb1;go_wp2_with fail;go_ret;exact ⟨rfl, HB1.out⟩
theorem lindex_vc (A : Option Addr) (n cap : Nat) (L : List (List Int)) (w : World) (h : LIn w A L) (hn : L.length = n) (hn4 : n ≤ 9223372036854775806) (pb : Nat) (Ay : Option Addr) (ny cy : Nat) (Y : List Int) (hS : MB w pb Ay ny cy Y ∧ ∀ s ∈ L, ny ≤ s.length) :
 Calls Tryz.prog 132 #[.slice A n cap, .func (.func 211) #[] #[.pointer (some ⟨pb, 0, none⟩)]] w fun e w' => e = .returned (.int .i64 (lidx (atMost Y) L)) ∧ Below w.heap.size w w' := by
 have H0 := hid h; clear h;have HN := hid hn; clear hn;have HSt := hid hS; clear hS;go_enter Tryz.func132, Tryz.ntmps132;go_wp2_with fail;go_loopg [8] (n) (fun g i wr => ∃ k : Nat, k + g = n ∧ i = .int .i64 k ∧ (∀ s ∈ L.take k, (atMost Y) s = false) ∧ Below w.heap.size w wr);case atStart => exact ⟨0, by omega, rfl, by simp, Below.refl _ _⟩
 case round =>
  obtain ⟨k, hk, rfl, hno, hB⟩ := hrel;have HK := hid hk;have HNo := hid hno;have HB := hid hB;have HT := hid (H0.out.below hB);have hle : k ≤ n := by omega
  clear hk hno hB;by_cases hlt : k < n
  · have hlt' : k < L.length := by rw [HN.out]; exact hlt
    obtain ⟨ad, rfl, hp, u, c0, Ax, nx, cx, rfl, zx, hxl, hxc, hxd⟩ := HT.out k hlt';have HTk := hid (List.take_succ_eq_append_getElem hlt');have HAt := hid (lidx_at (p := (atMost Y)) hlt');have hXm := List.getElem_mem hlt';generalize L[k] = X at *;have HX := hid (vcov2_any Ax nx cx X pb Ay ny cy Y wr zx hxl (by omega) (HSt.out.1.below HB.out) (by rw [← hxl]; exact HSt.out.2 X hXm));clear hlt' zx hxl hXm;cases hv : (atMost Y) X with
    | true =>
     rw [hv] at HX;have HV := hid (HAt.out hv HNo.out); clear hv;go_wp2_with fail;((with_reducible refine HX.out.mono ?_); rintro e w1 ⟨rfl, hb1⟩)
     have HB1 := hid (below_then HB.out hb1);go_wp2_with fail;go_ret;exact ⟨ret_int HV.out.symm, HB1.out⟩
    | false =>
     rw [hv] at HX;have HV := hid hv; clear hv HAt;go_wp2_with fail;((with_reducible refine HX.out.mono ?_); rintro e w1 ⟨rfl, hb1⟩)
     have HB1 := hid (below_then HB.out hb1);clear hb1;go_wp2_with fail;go_roundg (gk - 1);case measure => have := HK.out; omega
     case rel => exact ⟨k + 1, by have := HK.out; omega, by go_num, by
      rw [HTk.out]; intro s hs;rcases List.mem_append.1 hs with h1 | h1
      · exact HNo.out s h1
      · have : s = X := by simpa using h1
        rw [this]; exact HV.out, HB1.out⟩
  · have HV := hid (show lidx (atMost Y) L = -1 from lidx_no (by have := HNo.out; rwa [List.take_of_length_le (by rw [HN.out]; omega)] at this));go_wp2_with fail;go_ret;exact ⟨ret_int HV.out.symm, HB.out⟩
theorem lcont_vc (A : Option Addr) (n cap : Nat) (L : List (List Int)) (w : World) (h : LIn w A L) (hn : L.length = n) (hn4 : n ≤ 9223372036854775806) (pb : Nat) (Ay : Option Addr) (ny cy : Nat) (Y : List Int) (hS : MB w pb Ay ny cy Y ∧ ∀ s ∈ L, ny ≤ s.length) :
 Calls Tryz.prog 63 #[.slice A n cap, .func (.func 211) #[] #[.pointer (some ⟨pb, 0, none⟩)]] w fun e w' => e = .returned (.bool (L.any (atMost Y))) ∧ Below w.heap.size w w' := by
 have HI := hid (lindex_vc A n cap L w h hn hn4 pb Ay ny cy Y hS);have HE := hid (lidx_any (atMost Y) L);clear h hn hS;generalize lidx (atMost Y) L = r at HI HE;go_enter Tryz.func63, Tryz.ntmps63;go_wp2_with fail;((with_reducible refine HI.out.mono ?_); rintro e w1 ⟨rfl, hb1⟩)
 have HB1 := hid hb1;go_wp2_with fail;go_ret;exact ⟨ret_bool HE.out, HB1.out⟩
def LLB (w : World) (pb : Nat) (Al : Option Addr) (nl cl : Nat) (LL : List (List Int)) : Prop := w.heap[pb]? = some (.cells #[.slice Al nl cl] 28 (0, 0)) ∧ LIn w Al LL ∧ LL.length = nl
theorem LLB.below {w w' : World} {pb : Nat} {Al : Option Addr} {nl cl : Nat} {LL : List (List Int)} (h : LLB w pb Al nl cl LL) (hb : Below w.heap.size w w') : LLB w' pb Al nl cl LL := by
 obtain ⟨h1, h2, h3⟩ := h;exact ⟨by rw [hb.block pb (Array.getElem?_eq_some_iff.1 h1).1]; exact h1, h2.below hb, h3⟩
theorem LLB.cell {w : World} {pb : Nat} {Al : Option Addr} {nl cl : Nat} {LL : List (List Int)} (h : LLB w pb Al nl cl LL) : w.cell? ⟨pb, 0, none⟩ = some (.slice Al nl cl) := by simp [World.cell?, h.1]
theorem vcov1_any (Ax : Option Addr) (nx cx : Nat) (X : List Int) (pb : Nat) (Al : Option Addr) (nl cl : Nat) (LL : List (List Int)) (w : World) (hx : ZIn w Ax X) (hl : X.length = nx) (h : LLB w pb Al nl cl LL) (hn : nl ≤ 9223372036854775806) (hs : ∀ s ∈ LL, nx ≤ s.length) :
 Calls Tryz.prog 210 #[.slice Ax nx cx, .pointer (some ⟨pb, 0, none⟩)] w fun e w' => e = .returned (.bool (belowB LL X)) ∧ Below w.heap.size w w' := by
 have HB := hid (below_alloc w (.cells #[.slice Ax nx cx] 27));have hL := h.below HB.out;have c0 := hL.cell;have HC := hid (lcont_vc Al nl cl LL _ hL.2.1 hL.2.2 hn w.heap.size Ax nx cx X ⟨⟨heap_alloc_new w _, hx.below HB.out, hl⟩, hs⟩);clear hx hl h hL hs;go_enter Tryz.func210, Tryz.ntmps210;go_wp2_with fail;((with_reducible refine HC.out.mono ?_); rintro e w1 ⟨rfl, hb1⟩)
 have HB1 := hid (below_then HB.out hb1);go_wp2_with fail;go_ret;exact ⟨rfl, HB1.out⟩
theorem all_false {α : Type} {f : α → Bool} {L : List α} {x : α} (hx : x ∈ L) (h : f x = false) : L.all f = false := by
 rw [List.all_eq_false]; exact ⟨x, hx, by simp [h]⟩
theorem all_step {α : Type} (f : α → Bool) {L : List α} {k : Nat} (h : k < L.length) : (L.take (k + 1)).all f = ((L.take k).all f && f L[k]) := by
 rw [List.take_succ_eq_append_getElem h, List.all_append]; simp
theorem nt_src {N : Nt} (h : ntB N = true) : 0 ≤ N.src ∧ N.src < N.pl ∧ 0 ≤ N.snk ∧ N.snk < N.pl := by
 unfold ntB at h;rw [Bool.and_eq_true, Bool.and_eq_true] at h;exact of_decide_eq_true h.2.2
theorem trOk_mem {N : Nt} {m : Nat} (h : netOk N m) {t : Tr} (ht : t ∈ N.tr) : trOk t m := by
 obtain ⟨k, hk, rfl⟩ := List.getElem_of_mem ht;exact h k _ (List.getElem?_eq_getElem hk)
theorem vclosed_any (N : Nt) (A : Option Addr) (n c : Nat) (Al : Option Addr) (nl cl : Nat) (LL : List (List Int)) (w : World) (h : NtIn w A N) (hn : N.tr.length = n) (hv : ntB N = true) (hL : LIn w Al LL) (hl : LL.length = nl) (hl2 : nl ≤ 9223372036854775806) (hall : ∀ s ∈ LL, mkX N.pl false s = true) :
 Calls Tryz.prog 161 #[.agg #[.int .i64 N.pl, .slice A n c, .int .i64 N.src, .int .i64 N.snk], .slice Al nl cl] w fun e w' => e = .returned (.bool (closX N LL)) ∧ Below w.heap.size w w' := by
 have HB := hid (below_alloc w (.cells #[.int .i64 N.pl, .slice A n c, .int .i64 N.src, .int .i64 N.snk] 24));have HNb := hid (NB.new w N.pl A n c N.src N.snk);have HIn := hid (h.below HB.out);have HL := hid (hL.below HB.out);have HLl := hid hl;have HNl := hid hn;have HV := hid hv;have HAll := hid hall;have hpls := nt_small hv;have hn60 : n ≤ 60 := by omega
 have hpl1 : 1 ≤ N.pl := hpls.1;have hpl40 : N.pl ≤ 40 := hpls.2.1;clear h hn hL hl hv hall hpls;have hmm := @run_makeMap Tryz.prog;go_enter Tryz.func161, Tryz.ntmps161;go_wp2_with fail;have hs0 : (w.alloc (.cells #[.int .i64 N.pl, .slice A n c, .int .i64 N.src, .int .i64 N.snk] 24)).heap.size = w.heap.size + 1 := by simp
 generalize w.alloc _ = w0 at *;generalize w.heap.size + 1 = mb at *;have HS0 := hid hs0;clear hmm hs0;go_loopg [17] (nl) (fun g iv wr => ∃ k : Nat, k + g = nl ∧ iv = .int .i64 (k : Int) ∧ KVm wr mb (LL.take k) ∧ Below w0.heap.size w0 wr);case atStart => exact ⟨0, by omega, rfl, by rw [← HS0.out]; exact KVm.made w0, below_alloc w0 _⟩
 case round =>
  obtain ⟨k, hk, rfl, hKm, hB⟩ := hrel;have HK := hid hk;have HKm := hid hKm;have HBr := hid hB;have HLr := hid (HL.out.below hB);have hle : k ≤ nl := by omega
  clear hk hB hKm;by_cases hlt : k < nl
  · have hlt' : k < LL.length := by rw [HLl.out]; exact hlt
    obtain ⟨al, rfl, hpa, u, q0, Ax, nx, cx, rfl, zx, hx1, hx2, hx3⟩ := HLr.out k hlt';have HTl := hid (List.take_succ_eq_append_getElem hlt');have HMx := hid (HAll.out _ (List.getElem_mem hlt'));have HLn := hid (show (LL.take k).length = k by rw [List.length_take]; omega);generalize LL[k] = X at *;have HOk := hid (mkX_okB HV.out HMx.out);have HKy := hid (vkey_any Ax nx cx X wr zx hx1 HOk.out);clear hlt' zx hx1;go_wp2_with fail;((with_reducible refine HKy.out.mono ?_); rintro e w2 ⟨rfl, hb2⟩)
    have HB2 := hid (below_then HBr.out hb2);have HKm2 := hid (HKm.out.below hb2);obtain ⟨w3, hrun, hkm3, hgr3⟩ := HKm2.out.store HOk.out (by rw [HLn.out]; omega);have HKm3 := hid hkm3;rw [← HTl.out] at HKm3;have HB3 := hid (HB2.out.grown hgr3 HB2.out.size (fun k hk => by cases hk; rw [HS0.out]; exact Nat.le_refl _));clear hb2 HKy hkm3 hgr3;go_wp2_with fail;go_roundg (gk - 1);case measure => have := HK.out; omega
    case rel => exact ⟨k + 1, by have := HK.out; omega, by go_num, HKm3.out, HB3.out⟩
  · have HSt0 := hid (show KVm wr mb LL by have := HKm.out; rwa [List.take_of_length_le (by rw [HLl.out]; omega)] at this);have HBs := hid HBr.out;clear HLr HKm HBr;go_wp2_with fail;clear hle hlt HK;go_loopg [27] (nl) (fun g iv wr => ∃ k : Nat, k + g = nl ∧ iv = .int .i64 (k : Int) ∧ (LL.take k).all (fun s => N.tr.all (okX (inB LL) s)) = true ∧ KVm wr mb LL ∧ Below w0.heap.size w0 wr);case atStart => exact ⟨0, by omega, rfl, by simp, HSt0.out, HBs.out⟩
    case round =>
     clear HSt0 HBs;obtain ⟨k, hk, rfl, hp, hSt, hB⟩ := hrel;have HK := hid hk;have HP := hid hp;have HSt := hid hSt;have HBr := hid hB;have HLr := hid (HL.out.below hB);have hle : k ≤ nl := by omega
     obtain ⟨b0, b1, b2, b3⟩ := (HNb.out.below hB).cells;clear hk hp hB hSt;by_cases hlt : k < nl
     · have hlt' : k < LL.length := by rw [HLl.out]; exact hlt
       obtain ⟨al, hal, hpa, u, q0, Ax, nx, cx, rfl, zx, hx1, hx2, hx3⟩ := (HL.out) k hlt';have HZx0 := hid zx;have q9 : wr.cell? (al.add k) = some (.slice Ax nx cx) := cell_stays HBr.out q0;clear q0 zx;subst hal;have HTk := hid (all_step (fun s => N.tr.all (okX (inB LL) s)) hlt');have HNo := hid (fun hh => all_false (f := fun s => N.tr.all (okX (inB LL) s)) (List.getElem_mem hlt') hh);have HMx := hid (HAll.out _ (List.getElem_mem hlt'));generalize LL[k] = X at *;have HXl := hid hx1;have hnx : nx ≤ 1000 := by have := mkX_len HMx.out; omega
       have hnx0 : 0 < nx := by have := mkX_len HMx.out; omega
       have hxp : (nx : Int) = N.pl := by have := mkX_len HMx.out; omega
       clear hlt' hx1 hpa;obtain ⟨go, rfl⟩ : ∃ go, go = gk := ⟨_, rfl⟩;go_wp2_with fail;clear q9 b0 b1 b2 b3;go_loopg [34] (n) (fun g iv wr => ∃ j : Nat, j + g = n ∧ iv = .int .i64 (j : Int) ∧ (N.tr.take j).all (okX (inB LL) X) = true ∧ KVm wr mb LL ∧ Below w0.heap.size w0 wr);case atStart => exact ⟨0, by omega, rfl, by simp, HSt.out, HBr.out⟩
       case round =>
        clear HSt HBr HLr;obtain ⟨j, hj, rfl, hp, hSt, hB⟩ := hrel;have HJ := hid hj;have HPj := hid hp;have HSt := hid hSt;have HBr := hid hB;have HInr := hid (HIn.out.below hB);have HZx := hid (HZx0.out.below hB);have hjl : j ≤ n := by omega
        clear hj hp hB hSt;by_cases hjt : j < n
        · have hjt' : j < N.tr.length := by rw [HNl.out]; exact hjt
          obtain ⟨ad, rfl, hpt, t0, ⟨u1, t1, s1⟩, u2, t2, s2⟩ := HInr.out.1 j hjt';have HTj := hid (all_step (okX (inB LL) X) hjt');have HNj := hid (fun hh => all_false (f := okX (inB LL) X) (List.getElem_mem hjt') hh);have HInK := hid (nt_inM HV.out hxp _ (List.getElem_mem hjt'));have HTm := hid (List.getElem_mem hjt');generalize N.tr[j] = T at *;obtain ⟨Ai, ni, ci, rfl, zi, hi1, hi2, hi3⟩ := s1;obtain ⟨Ao, no, co, rfl, zo, ho1, ho2, ho3⟩ := s2;have hli : T.i.length ≤ 1000 := by have := pls_len (netOk_of HV.out (m := nx) hxp |> fun h => (trOk_mem h HTm.out).1); omega
          have hlo : T.o.length ≤ 1000 := by have := pls_len (netOk_of HV.out (m := nx) hxp |> fun h => (trOk_mem h HTm.out).2); omega
          have HA := hid (below_alloc wr (.cells #[.string T.lb, .slice Ai ni ci, .slice Ao no co] 79));have HTB := hid (TB.new wr T.lb Ai ni ci Ao no co);have HC := hid (enabled_verdict T.lb Ai Ao Ax ni ci no co nx cx T.i T.o X _ (zi.below HA.out) hi1 (by omega) (HZx.out.below HA.out) HXl.out HInK.out.1);have HZi := hid (zi.below HA.out);have HZo := hid (zo.below HA.out);have Hi1 := hid hi1;have Ho1 := hid ho1;have HBa := hid (HBr.out.trans (HA.out.mono HBr.out.size));have HSta := hid (HSt.out.below HA.out);have HZxa := hid (HZx.out.below HA.out);have hTe : (⟨T.lb, T.i, T.o⟩ : Tr) = T := rfl;rw [hTe] at HC;clear zi zo hi1 ho1 hjt' hTe HBr HSt HZx HInr;cases hcan : canT T X with
          | false =>
           rw [hcan] at HC;have HV2 := hid (show (N.tr.take (j + 1)).all (okX (inB LL) X) = true by rw [HTj.out, HPj.out, okX_no hcan]; rfl);clear hcan;go_wp2_with fail;((with_reducible refine HC.out.mono ?_); rintro e w2 ⟨rfl, hb2⟩)
           have HB2 := hid (below_then HBa.out hb2);have HSt2 := hid (HSta.out.below hb2);clear hb2;go_wp2_with fail;go_roundg (gk - 1);case measure => have := HJ.out; omega
           case rel => exact ⟨j + 1, by have := HJ.out; omega, by go_num, HV2.out, HSt2.out, HB2.out⟩
          | true =>
           rw [hcan] at HC;go_wp2_with fail;((with_reducible refine HC.out.mono ?_); rintro e w2 ⟨rfl, hb2⟩)
           have HB2 := hid (below_then HBa.out hb2);have HSt2 := hid (HSta.out.below hb2);obtain ⟨tc0, tc1, tc2⟩ := HTB.out.below hb2;have hfi := vfire_any T.lb Ai Ao Ax ni ci no co nx cx T.i T.o X w2 (HZi.out.below hb2) Hi1.out (by have := Hi1.out; omega) (HZo.out.below hb2) Ho1.out (by have := Ho1.out; omega) (HZxa.out.below hb2) HXl.out hnx0 (by omega) HInK.out.1 HInK.out.2 (mkX_bnd HMx.out);rw [show (⟨T.lb, T.i, T.o⟩ : Tr) = T from rfl] at hfi;have HFi := hid hfi;clear hb2 HC HTB hfi HBa HSta HZxa HZi HZo;cases hbig : bigM (fireT T X) with
           | true =>
            rw [hbig] at HFi;have HV2 := hid (show dblB (inB LL) N LL = false from HNo.out (HNj.out (okX_big hcan hbig)));clear hcan hbig;generalize fireT T X = Y at *;go_wp2_with fail;((with_reducible refine HFi.out.mono ?_); rintro e w3 ⟨v3, rfl, hS3⟩)
            obtain ⟨Av, cv, rfl⟩ := hS3.slice;have HB3 := hid (HB2.out.trans (hS3.2.mono HB2.out.size));clear hS3 tc0 tc1 tc2;go_wp2_with fail;go_ret;exact ⟨ret_bool HV2.out.symm, HB.out.trans (HB3.out.mono HB.out.size)⟩
           | false =>
            rw [hbig] at HFi;have HOkY := hid (mkX_okB HV.out (mkX_fire HV.out HMx.out HTm.out hcan hbig));have HQ := hid (okX_yes (q := (inB LL)) hcan hbig);clear hcan hbig;generalize fireT T X = Y at *;go_wp2_with fail;((with_reducible refine HFi.out.mono ?_); rintro e w3 ⟨v3, rfl, hS3⟩)
            obtain ⟨Av, cv, rfl⟩ := hS3.slice;have HB3 := hid (HB2.out.trans (hS3.2.mono HB2.out.size));have HSt3 := hid (HSt2.out.below hS3.2);have HZy := hid (show ZIn w3 Av Y by obtain ⟨A', c', e, hz, _⟩ := hS3.zin; cases e; exact hz);clear hS3 HFi tc0 tc1 tc2;cases hq : (inB LL) Y with
            | true =>
             have HV2 := hid (show (N.tr.take (j + 1)).all (okX (inB LL) X) = true by rw [HTj.out, HPj.out, HQ.out, hq]; rfl);have HKy := hid (vkey_any Av Y.length cv Y w3 HZy.out rfl HOkY.out);go_wp2_with fail;((with_reducible refine HKy.out.mono ?_); rintro e w4 ⟨rfl, hb4⟩)
             have HB4 := hid (below_then HB3.out hb4);have HSt4 := hid (HSt3.out.below hb4);have hlook := HSt4.out.look HOkY.out;rw [show decide (Y ∈ LL) = inB LL Y from rfl, hq] at hlook;clear hq hb4;go_wp2_with fail;go_roundg (gk - 1);case measure => have := HJ.out; omega
             case rel => exact ⟨j + 1, by have := HJ.out; omega, by go_num, HV2.out, HSt4.out, HB4.out⟩
            | false =>
             have HV2 := hid (show dblB (inB LL) N LL = false from HNo.out (HNj.out (by rw [HQ.out, hq])));have HKy := hid (vkey_any Av Y.length cv Y w3 HZy.out rfl HOkY.out);go_wp2_with fail;((with_reducible refine HKy.out.mono ?_); rintro e w4 ⟨rfl, hb4⟩)
             have HB4 := hid (below_then HB3.out hb4);have HSt4 := hid (HSt3.out.below hb4);have hlook := HSt4.out.look HOkY.out;rw [show decide (Y ∈ LL) = inB LL Y from rfl, hq] at hlook;clear hq hb4;go_wp2_with fail;go_ret;exact ⟨ret_bool HV2.out.symm, HB.out.trans (HB4.out.mono HB.out.size)⟩
        · have HV2 := hid (show (LL.take (k + 1)).all (fun s => N.tr.all (okX (inB LL) s)) = true by
           rw [HTk.out, HP.out];have h1 := HPj.out;rw [List.take_of_length_le (by rw [HNl.out]; omega)] at h1;rw [h1]; rfl)
          go_wp2_with fail;go_roundg (go - 1);case measure => have := HK.out; omega
          case rel => exact ⟨k + 1, by have := HK.out; omega, by go_num, HV2.out, HSt.out, HBr.out⟩
     · have HV2 := hid (show dblB (inB LL) N LL = true by
        have h1 := HP.out;rw [List.take_of_length_le (by rw [HLl.out]; omega)] at h1;exact h1)
       go_wp2_with fail;go_ret;exact ⟨ret_bool HV2.out.symm, HB.out.trans (HBr.out.mono HB.out.size)⟩
end Go.Proofs.YtkhmngljpfibcaaGreatDoor
