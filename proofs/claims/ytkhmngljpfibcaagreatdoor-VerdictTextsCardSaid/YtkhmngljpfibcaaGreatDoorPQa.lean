/- verdict: marking, markings, enabled: what a call returns. -/
import Derived.Test.YtkhmngljpfibcaaGreatDoorPUu
import Derived.Test.YtkhmngljpfibcaaGreatDoorPCk
import Derived.Test.YtkhmngljpfibcaaGreatDoorPIi
namespace Go.Proofs.YtkhmngljpfibcaaGreatDoor
set_option maxRecDepth 100000
set_option maxHeartbeats 3200000
open Go.Lib (hid)
open Go.RowKit

def badX (ext : Bool) (k : Int) : Bool := (decide (k < 0) || decide (100 < k)) && !(ext && decide (k = -1))
def BB (w : World) (b : Nat) (x : Bool) : Prop := w.heap[b]? = some (.cells #[.bool x] 4 (0, 0))
theorem BB.below {w w' : World} {b : Nat} {x : Bool} (h : BB w b x) (hb : Below w.heap.size w w') : BB w' b x := by
 unfold BB at *; rw [hb.block b (Array.getElem?_eq_some_iff.1 h).1]; exact h
theorem BB.cell {w : World} {b : Nat} {x : Bool} (h : BB w b x) : w.cell? ⟨b, 0, none⟩ = some (.bool x) := by unfold BB at h; simp [World.cell?, h]
theorem BB.new (w : World) (x : Bool) : BB (w.alloc (.cells #[.bool x] 4)) w.heap.size x := heap_alloc_new w _
theorem vmk1_any (k : Int) (pb : Nat) (ext : Bool) (w : World) (hS : BB w pb ext) : Calls Tryz.prog 224 #[.int .i64 k, .pointer (some ⟨pb, 0, none⟩)] w fun e w' => e = .returned (.bool (badX ext k)) ∧ Below w.heap.size w w' := by
 have hc := hS.cell;clear hS;by_cases h : k < 0
 · by_cases h1 : k = -1
   · have q1 : (k == -1) = true := by rw [h1]; rfl
     have HV := hid (show badX ext k = !ext by unfold badX; rw [decide_eq_true h, decide_eq_true h1]; simp);clear h1;cases ext with
     | true =>
      go_enter Tryz.func224, Tryz.ntmps224
      go_wp2
      go_ret;exact ⟨ret_bool HV.out.symm, Below.refl _ _⟩
     | false =>
      go_enter Tryz.func224, Tryz.ntmps224
      go_wp2
      go_ret;exact ⟨ret_bool HV.out.symm, Below.refl _ _⟩
   · have q1 : (k == -1) = false := by rw [beq_eq_false_iff_ne]; exact h1
     have HV := hid (show badX ext k = true by unfold badX; rw [decide_eq_true h, decide_eq_false h1]; simp);clear h1;cases ext with
     | true =>
      go_enter Tryz.func224, Tryz.ntmps224
      go_wp2
      go_ret;exact ⟨ret_bool HV.out.symm, Below.refl _ _⟩
     | false =>
      go_enter Tryz.func224, Tryz.ntmps224
      go_wp2
      go_ret;exact ⟨ret_bool HV.out.symm, Below.refl _ _⟩
 · have d0 : decide (k < 0) = false := by simpa using h
   have q1 : (k == -1) = false := by rw [beq_eq_false_iff_ne]; omega
   by_cases h2 : 100 < k
   · have d2 : decide (100 < k) = true := by simpa using h2
     have HV := hid (show badX ext k = true by unfold badX; rw [d0, d2, decide_eq_false (show ¬ k = -1 by omega)]; simp);clear h h2;cases ext with
     | true =>
      go_enter Tryz.func224, Tryz.ntmps224
      go_wp2
      go_ret;exact ⟨ret_bool HV.out.symm, Below.refl _ _⟩
     | false =>
      go_enter Tryz.func224, Tryz.ntmps224
      go_wp2
      go_ret;exact ⟨ret_bool HV.out.symm, Below.refl _ _⟩
   · have d2 : decide (100 < k) = false := by simpa using h2
     have HV := hid (show badX ext k = false by unfold badX; rw [d0, d2]; rfl);clear h h2;go_enter Tryz.func224, Tryz.ntmps224
     go_wp2
     go_ret;exact ⟨ret_bool HV.out.symm, Below.refl _ _⟩
theorem iindex_vm (A : Option Addr) (n cap : Nat) (L : List Int) (w : World) (h : ZIn w A L) (hn : L.length = n) (hn4 : n ≤ 9223372036854775807) (pb : Nat) (ext : Bool) (hS : BB w pb ext) :
 Calls Tryz.prog 194 #[.slice A n cap, .func (.func 224) #[] #[.pointer (some ⟨pb, 0, none⟩)]] w (BIdx (!(L.any (badX ext))) w) := by
 have H0 := hid h; clear h;have HN := hid hn; clear hn;have HSt := hid hS; clear hS;go_enter Tryz.func194, Tryz.ntmps194;go_wp2_with fail;go_loopg [8] (n) (fun g i wr => ∃ k : Nat, k + g = n ∧ i = .int .i64 k ∧ (L.take k).any (badX ext) = false ∧ Below w.heap.size w wr);case atStart => exact ⟨0, by omega, rfl, by simp, Below.refl _ _⟩
 case round =>
  obtain ⟨k, hk, rfl, hno, hB⟩ := hrel;have HK := hid hk;have HNo := hid hno;have HB := hid hB;have HT := hid (H0.out.below hB);have hle : k ≤ n := by omega
  clear hk hno hB;by_cases hlt : k < n
  · have hlt' : k < L.length := by rw [HN.out]; exact hlt
    obtain ⟨ad, rfl, hp, c0⟩ := HT.out k hlt';have HTk := hid (List.take_succ_eq_append_getElem hlt');have HM := hid (List.getElem_mem hlt');generalize L[k] = x at *;clear hlt';have HX := hid (vmk1_any x pb ext wr (HSt.out.below HB.out));cases hv : (badX ext) x with
    | true =>
     rw [hv] at HX;have HV := hid hv; clear hv;go_wp2_with fail;((with_reducible refine HX.out.mono ?_); rintro e w1 ⟨rfl, hb1⟩)
     go_wp2_with fail;go_ret;refine BIdx.yes ?_ rfl (below_then HB.out hb1);rw [List.any_eq_true.2 ⟨x, HM.out, HV.out⟩]; rfl
    | false =>
     rw [hv] at HX;have HV := hid hv; clear hv;go_wp2_with fail;((with_reducible refine HX.out.mono ?_); rintro e w1 ⟨rfl, hb1⟩)
     have HB1 := hid (below_then HB.out hb1);clear hb1;go_wp2_with fail;go_roundg (gk - 1);case measure => have := HK.out; omega
     case rel => exact ⟨k + 1, by have := HK.out; omega, by go_num, by rw [HTk.out, List.any_append, HNo.out]; simp [HV.out], HB1.out⟩
  · have HE := hid (show L.take k = L from List.take_of_length_le (by have := HN.out; omega));go_wp2_with fail;go_ret;refine BIdx.no ?_ rfl HB.out;rw [← HE.out, HNo.out]; rfl
theorem icont_vm (A : Option Addr) (n cap : Nat) (L : List Int) (w : World) (h : ZIn w A L) (hn : L.length = n) (hn4 : n ≤ 9223372036854775807) (pb : Nat) (ext : Bool) (hS : BB w pb ext) :
 Calls Tryz.prog 149 #[.slice A n cap, .func (.func 224) #[] #[.pointer (some ⟨pb, 0, none⟩)]] w fun e w' => e = .returned (.bool (L.any (badX ext))) ∧ Below w.heap.size w w' := by
 have HI := hid (iindex_vm A n cap L w h hn hn4 pb ext hS);clear h hn hS;generalize L.any (badX ext) = r at HI ⊢;cases r with
 | false =>
  go_enter Tryz.func149, Tryz.ntmps149;go_wp2_with fail;((with_reducible refine HI.out.mono ?_); rintro e w1 hP)
  obtain ⟨he, hb⟩ := hP;have he' : e = .returned (.int .i64 (-1)) := he;clear he; subst he';go_wp2_with fail;go_ret;exact ⟨rfl, hb⟩
 | true =>
  go_enter Tryz.func149, Tryz.ntmps149;go_wp2_with fail;((with_reducible refine HI.out.mono ?_); rintro e w1 hP)
  obtain ⟨he, hb⟩ := hP;obtain ⟨i, he'⟩ : ∃ i : Nat, e = .returned (.int .i64 i) := he;subst he';go_wp2_with fail;go_ret;exact ⟨rfl, hb⟩
def mkX (pl : Int) (ext : Bool) (m : List Int) : Bool := decide ((m.length : Int) = pl) && !(m.any (badX ext))
theorem vmarking_any (pl : Int) (A : Option Addr) (n c : Nat) (src snk : Int) (Am : Option Addr) (m cm : Nat) (M : List Int) (ext : Bool) (w : World) (hM : ZIn w Am M) (hm : M.length = m) (hm2 : m ≤ 9223372036854775807) :
 Calls Tryz.prog 205 #[.agg #[.int .i64 pl, .slice A n c, .int .i64 src, .int .i64 snk], .slice Am m cm, .bool ext] w fun e w' => e = .returned (.bool (mkX pl ext M)) ∧ Below w.heap.size w w' := by
 have HB := hid (two_boxes w (.cells #[.int .i64 pl, .slice A n c, .int .i64 src, .int .i64 snk] 24) (.cells #[.bool ext] 4));have hnew := BB.new (w.alloc (.cells #[.int .i64 pl, .slice A n c, .int .i64 src, .int .i64 snk] 24)) ext;rw [World.size_alloc] at hnew;have HC := hid (icont_vm Am m cm M _ (hM.below HB.out) hm hm2 (w.heap.size + 1) ext hnew);have HR := hid (show mkX pl ext M = (decide ((m : Int) = pl) && !(M.any (badX ext))) by unfold mkX; rw [hm]);generalize mkX pl ext M = R at *;clear hM hm hnew;by_cases hl : (m : Int) = pl
 · have q1 : ((m : Int) == pl) = true := by rw [hl]; exact beq_self_eq_true _
   rw [decide_eq_true hl] at HR;clear hl;go_enter Tryz.func205, Tryz.ntmps205;go_wp2_with fail;((with_reducible refine HC.out.mono ?_); rintro e w2 ⟨rfl, hb2⟩)
   go_wp2_with fail;go_ret;exact ⟨ret_bool (by rw [HR.out]; rfl), below_then HB.out hb2⟩
 · have q1 : ((m : Int) == pl) = false := by rw [beq_eq_false_iff_ne]; exact hl
   rw [decide_eq_false hl] at HR;clear hl;go_enter Tryz.func205, Tryz.ntmps205;go_wp2_with fail;go_ret;exact ⟨ret_bool (by rw [HR.out]; rfl), HB.out⟩
def MkS (w : World) (nb pb : Nat) (pl : Int) (A : Option Addr) (n c : Nat) (src snk : Int) (ext : Bool) : Prop := NB w nb pl A n c src snk ∧ BB w pb ext
theorem MkS.below {w w' : World} {nb pb : Nat} {pl : Int} {A : Option Addr} {n c : Nat} {src snk : Int} {ext : Bool} (h : MkS w nb pb pl A n c src snk ext) (hb : Below w.heap.size w w') : MkS w' nb pb pl A n c src snk ext := ⟨h.1.below hb, h.2.below hb⟩
def nmkX (pl : Int) (ext : Bool) (m : List Int) : Bool := !(mkX pl ext m)
theorem vmks1_any (Ax : Option Addr) (nx cx : Nat) (X : List Int) (nb pb : Nat) (pl : Int) (A : Option Addr) (n c : Nat) (src snk : Int) (ext : Bool) (w : World) (hx : ZIn w Ax X) (hl : X.length = nx) (hn : nx ≤ 9223372036854775807) (h : MkS w nb pb pl A n c src snk ext) :
 Calls Tryz.prog 204 #[.slice Ax nx cx, .pointer (some ⟨nb, 0, none⟩), .pointer (some ⟨pb, 0, none⟩)] w fun e w' => e = .returned (.bool (nmkX pl ext X)) ∧ Below w.heap.size w w' := by
 obtain ⟨c0, c1, c2, c3⟩ := h.1.cells;have cb := h.2.cell;have HC := hid (vmarking_any pl A n c src snk Ax nx cx X ext w hx hl hn);clear hx hl h;go_enter Tryz.func204, Tryz.ntmps204;go_wp2_with fail;((with_reducible refine HC.out.mono ?_); rintro e w1 ⟨rfl, hb1⟩)
 have HB1 := hid hb1;clear hb1;go_wp2_with fail;go_ret;exact ⟨rfl, HB1.out⟩
theorem lindex_vms (A : Option Addr) (n cap : Nat) (L : List (List Int)) (w : World) (h : LIn w A L) (hn : L.length = n) (hn4 : n ≤ 9223372036854775806) (nb pb : Nat) (pl : Int) (As : Option Addr) (ns cs : Nat) (src snk : Int) (ext : Bool) (hS : MkS w nb pb pl As ns cs src snk ext) :
 Calls Tryz.prog 132 #[.slice A n cap, .func (.func 204) #[] #[.pointer (some ⟨nb, 0, none⟩), .pointer (some ⟨pb, 0, none⟩)]] w fun e w' => e = .returned (.int .i64 (lidx (nmkX pl ext) L)) ∧ Below w.heap.size w w' := by
 have H0 := hid h; clear h;have HN := hid hn; clear hn;have HSt := hid hS; clear hS;go_enter Tryz.func132, Tryz.ntmps132;go_wp2_with fail;go_loopg [8] (n) (fun g i wr => ∃ k : Nat, k + g = n ∧ i = .int .i64 k ∧ (∀ s ∈ L.take k, (nmkX pl ext) s = false) ∧ Below w.heap.size w wr);case atStart => exact ⟨0, by omega, rfl, by simp, Below.refl _ _⟩
 case round =>
  obtain ⟨k, hk, rfl, hno, hB⟩ := hrel;have HK := hid hk;have HNo := hid hno;have HB := hid hB;have HT := hid (H0.out.below hB);have hle : k ≤ n := by omega
  clear hk hno hB;by_cases hlt : k < n
  · have hlt' : k < L.length := by rw [HN.out]; exact hlt
    obtain ⟨ad, rfl, hp, u, c0, Ax, nx, cx, rfl, zx, hxl, hxc, hxd⟩ := HT.out k hlt';have HTk := hid (List.take_succ_eq_append_getElem hlt');have HAt := hid (lidx_at (p := (nmkX pl ext)) hlt');have hXm := List.getElem_mem hlt';generalize L[k] = X at *;have HX := hid (vmks1_any Ax nx cx X nb pb pl As ns cs src snk ext wr zx hxl (by omega) (HSt.out.below HB.out));clear hlt' zx hxl hXm;cases hv : (nmkX pl ext) X with
    | true =>
     rw [hv] at HX;have HV := hid (HAt.out hv HNo.out); clear hv;go_wp2_with fail;((with_reducible refine HX.out.mono ?_); rintro e w1 ⟨rfl, hb1⟩)
     have HB1 := hid (below_then HB.out hb1);go_wp2_with fail;go_ret;exact ⟨ret_int HV.out.symm, HB1.out⟩
    | false =>
     rw [hv] at HX;have HV := hid hv; clear hv HAt;go_wp2_with fail;((with_reducible refine HX.out.mono ?_); rintro e w1 ⟨rfl, hb1⟩)
     have HB1 := hid (below_then HB.out hb1);clear hb1;go_wp2_with fail;go_roundg (gk - 1);case measure => have := HK.out; omega
     case rel => exact ⟨k + 1, by have := HK.out; omega, by go_num, by
      rw [HTk.out]; intro s hs;rcases List.mem_append.1 hs with h1 | h1
      · exact HNo.out s h1
      · have : s = X := by simpa using h1
        rw [this]; exact HV.out, HB1.out⟩
  · have HV := hid (show lidx (nmkX pl ext) L = -1 from lidx_no (by have := HNo.out; rwa [List.take_of_length_le (by rw [HN.out]; omega)] at this));go_wp2_with fail;go_ret;exact ⟨ret_int HV.out.symm, HB.out⟩
theorem lcont_vms (A : Option Addr) (n cap : Nat) (L : List (List Int)) (w : World) (h : LIn w A L) (hn : L.length = n) (hn4 : n ≤ 9223372036854775806) (nb pb : Nat) (pl : Int) (As : Option Addr) (ns cs : Nat) (src snk : Int) (ext : Bool) (hS : MkS w nb pb pl As ns cs src snk ext) :
 Calls Tryz.prog 63 #[.slice A n cap, .func (.func 204) #[] #[.pointer (some ⟨nb, 0, none⟩), .pointer (some ⟨pb, 0, none⟩)]] w fun e w' => e = .returned (.bool (L.any (nmkX pl ext))) ∧ Below w.heap.size w w' := by
 have HI := hid (lindex_vms A n cap L w h hn hn4 nb pb pl As ns cs src snk ext hS);have HE := hid (lidx_any (nmkX pl ext) L);clear h hn hS;generalize lidx (nmkX pl ext) L = r at HI HE;go_enter Tryz.func63, Tryz.ntmps63;go_wp2_with fail;((with_reducible refine HI.out.mono ?_); rintro e w1 ⟨rfl, hb1⟩)
 have HB1 := hid hb1;go_wp2_with fail;go_ret;exact ⟨ret_bool HE.out, HB1.out⟩
def mksX (pl : Int) (ext : Bool) (L : List (List Int)) : Bool := L.all (mkX pl ext)
theorem mksX_any (pl : Int) (ext : Bool) (L : List (List Int)) : mksX pl ext L = !(L.any (nmkX pl ext)) := by
 unfold mksX nmkX;rw [List.not_any_eq_all_not]
 congr 1; funext p; simp
theorem vmarkings_any (pl : Int) (A : Option Addr) (n c : Nat) (src snk : Int) (Al : Option Addr) (nl cl : Nat) (LL : List (List Int)) (ext : Bool) (w : World) (hL : LIn w Al LL) (hl : LL.length = nl) (hl2 : nl ≤ 9223372036854775806) :
 Calls Tryz.prog 160 #[.agg #[.int .i64 pl, .slice A n c, .int .i64 src, .int .i64 snk], .slice Al nl cl, .bool ext] w fun e w' => e = .returned (.bool (mksX pl ext LL)) ∧ Below w.heap.size w w' := by
 have HB := hid (two_boxes w (.cells #[.int .i64 pl, .slice A n c, .int .i64 src, .int .i64 snk] 24) (.cells #[.bool ext] 4));have hnew := BB.new (w.alloc (.cells #[.int .i64 pl, .slice A n c, .int .i64 src, .int .i64 snk] 24)) ext;rw [World.size_alloc] at hnew;have HC := hid (lcont_vms Al nl cl LL _ (hL.below HB.out) hl hl2 w.heap.size (w.heap.size + 1) pl A n c src snk ext ⟨(NB.new w pl A n c src snk).below (below_alloc _ (.cells #[.bool ext] 4)), hnew⟩);have HR := hid (mksX_any pl ext LL);generalize mksX pl ext LL = R at *;clear hL hl hnew;go_enter Tryz.func160, Tryz.ntmps160;go_wp2_with fail;((with_reducible refine HC.out.mono ?_); rintro e w2 ⟨rfl, hb2⟩)
 go_wp2_with fail;go_ret;exact ⟨ret_bool (by rw [HR.out]), below_then HB.out hb2⟩
theorem en1_verdict (p : Int) (pb : Nat) (Am : Option Addr) (m cm : Nat) (M : List Int) (w : World) (h : MB w pb Am m cm M) (hp : 0 ≤ p ∧ p < (m : Int)) : Calls Tryz.prog 208 #[.int .i64 p, .pointer (some ⟨pb, 0, none⟩)] w fun e w' => e = .returned (.bool (zeroP M p)) ∧ Below w.heap.size w w' := by
 obtain ⟨k, rfl⟩ := Int.eq_ofNat_of_zero_le hp.1;have hk : k < m := by omega
 have hk' : k < M.length := by rw [h.2.2]; exact hk
 obtain ⟨ad, rfl, hpa, c0⟩ := h.2.1 k hk';have hc : w.cell? ⟨pb, 0, none⟩ = some (.slice (some ad) m cm) := by simp [World.cell?, h.1]
 have HV := hid (show zeroP M (k : Int) = decide (M[k] = 0) by unfold zeroP; simp [hk']);generalize zeroP M (k : Int) = R at *;generalize M[k] = x at *;clear h hp hk';by_cases h0 : x = 0
 · have q1 : (x == 0) = true := by rw [h0]; rfl
   rw [decide_eq_true h0] at HV;clear h0;go_enter Tryz.func208, Tryz.ntmps208;go_wp2_with fail;go_ret;exact ⟨ret_bool (by rw [HV.out]), Below.refl _ _⟩
 · have q1 : (x == 0) = false := by rw [beq_eq_false_iff_ne]; exact h0
   rw [decide_eq_false h0] at HV;clear h0;go_enter Tryz.func208, Tryz.ntmps208;go_wp2_with fail;go_ret;exact ⟨ret_bool (by rw [HV.out]), Below.refl _ _⟩
theorem iindex_verdict (A : Option Addr) (n cap : Nat) (L : List Int) (w : World) (h : ZIn w A L) (hn : L.length = n) (hn4 : n ≤ 9223372036854775807) (pb : Nat) (Am : Option Addr) (m cm : Nat) (M : List Int) (hS : MB w pb Am m cm M ∧ inM L m) :
 Calls Tryz.prog 194 #[.slice A n cap, .func (.func 208) #[] #[.pointer (some ⟨pb, 0, none⟩)]] w (BIdx (!(L.any (zeroP M))) w) := by
 have H0 := hid h; clear h;have HN := hid hn; clear hn;have HSt := hid hS; clear hS;go_enter Tryz.func194, Tryz.ntmps194;go_wp2_with fail;go_loopg [8] (n) (fun g i wr => ∃ k : Nat, k + g = n ∧ i = .int .i64 k ∧ (L.take k).any (zeroP M) = false ∧ Below w.heap.size w wr);case atStart => exact ⟨0, by omega, rfl, by simp, Below.refl _ _⟩
 case round =>
  obtain ⟨k, hk, rfl, hno, hB⟩ := hrel;have HK := hid hk;have HNo := hid hno;have HB := hid hB;have HT := hid (H0.out.below hB);have hle : k ≤ n := by omega
  clear hk hno hB;by_cases hlt : k < n
  · have hlt' : k < L.length := by rw [HN.out]; exact hlt
    obtain ⟨ad, rfl, hp, c0⟩ := HT.out k hlt';have HTk := hid (List.take_succ_eq_append_getElem hlt');have HM := hid (List.getElem_mem hlt');generalize L[k] = x at *;clear hlt';have HX := hid (en1_verdict x pb Am m cm M wr (HSt.out.1.below HB.out) (HSt.out.2 x HM.out));cases hv : (zeroP M) x with
    | true =>
     rw [hv] at HX;have HV := hid hv; clear hv;go_wp2_with fail;((with_reducible refine HX.out.mono ?_); rintro e w1 ⟨rfl, hb1⟩)
     go_wp2_with fail;go_ret;refine BIdx.yes ?_ rfl (below_then HB.out hb1);rw [List.any_eq_true.2 ⟨x, HM.out, HV.out⟩]; rfl
    | false =>
     rw [hv] at HX;have HV := hid hv; clear hv;go_wp2_with fail;((with_reducible refine HX.out.mono ?_); rintro e w1 ⟨rfl, hb1⟩)
     have HB1 := hid (below_then HB.out hb1);clear hb1;go_wp2_with fail;go_roundg (gk - 1);case measure => have := HK.out; omega
     case rel => exact ⟨k + 1, by have := HK.out; omega, by go_num, by rw [HTk.out, List.any_append, HNo.out]; simp [HV.out], HB1.out⟩
  · have HE := hid (show L.take k = L from List.take_of_length_le (by have := HN.out; omega));go_wp2_with fail;go_ret;refine BIdx.no ?_ rfl HB.out;rw [← HE.out, HNo.out]; rfl
theorem icont_verdict (A : Option Addr) (n cap : Nat) (L : List Int) (w : World) (h : ZIn w A L) (hn : L.length = n) (hn4 : n ≤ 9223372036854775807) (pb : Nat) (Am : Option Addr) (m cm : Nat) (M : List Int) (hS : MB w pb Am m cm M ∧ inM L m) :
 Calls Tryz.prog 149 #[.slice A n cap, .func (.func 208) #[] #[.pointer (some ⟨pb, 0, none⟩)]] w fun e w' => e = .returned (.bool (L.any (zeroP M))) ∧ Below w.heap.size w w' := by
 have HI := hid (iindex_verdict A n cap L w h hn hn4 pb Am m cm M hS);clear h hn hS;generalize L.any (zeroP M) = r at HI ⊢;cases r with
 | false =>
  go_enter Tryz.func149, Tryz.ntmps149;go_wp2_with fail;((with_reducible refine HI.out.mono ?_); rintro e w1 hP)
  obtain ⟨he, hb⟩ := hP;have he' : e = .returned (.int .i64 (-1)) := he;clear he; subst he';go_wp2_with fail;go_ret;exact ⟨rfl, hb⟩
 | true =>
  go_enter Tryz.func149, Tryz.ntmps149;go_wp2_with fail;((with_reducible refine HI.out.mono ?_); rintro e w1 hP)
  obtain ⟨he, hb⟩ := hP;obtain ⟨i, he'⟩ : ∃ i : Nat, e = .returned (.int .i64 i) := he;subst he';go_wp2_with fail;go_ret;exact ⟨rfl, hb⟩
theorem enabled_verdict (lb : ByteArray) (Ai Ao Am : Option Addr) (ni ci no co m cm : Nat) (li lo M : List Int) (w : World) (hi : ZIn w Ai li) (hni : li.length = ni) (hni2 : ni ≤ 9223372036854775807) (hM : ZIn w Am M) (hm : M.length = m) (hin : inM li m) :
 Calls Tryz.prog 163 #[.agg #[.string lb, .slice Ai ni ci, .slice Ao no co], .slice Am m cm] w fun e w' => e = .returned (.bool (canT ⟨lb, li, lo⟩ M)) ∧ Below w.heap.size w w' := by
 have HB := hid (two_boxes w (.cells #[.string lb, .slice Ai ni ci, .slice Ao no co] 79) (.cells #[.slice Am m cm] 27));have hmb : MB ((w.alloc (.cells #[.string lb, .slice Ai ni ci, .slice Ao no co] 79)).alloc (.cells #[.slice Am m cm] 27)) (w.heap.size + 1) Am m cm M := by
  refine ⟨?_, hM.below HB.out, hm⟩;have := heap_alloc_new (w.alloc (.cells #[.string lb, .slice Ai ni ci, .slice Ao no co] 79)) (.cells #[.slice Am m cm] 27);rw [World.size_alloc] at this; exact this
 have HC := hid (icont_verdict Ai ni ci li _ (hi.below HB.out) hni hni2 (w.heap.size + 1) Am m cm M ⟨hmb, hin⟩);have HR := hid (can_any ⟨lb, li, lo⟩ M);generalize canT ⟨lb, li, lo⟩ M = R at HR ⊢;simp only at HR;clear hi hni hM hm hin hmb;go_enter Tryz.func163, Tryz.ntmps163;go_wp2_with fail;((with_reducible refine HC.out.mono ?_); rintro e w1 ⟨rfl, hb1⟩)
 go_wp2_with fail;go_ret;exact ⟨ret_bool (by rw [HR.out]), below_then HB.out hb1⟩
end Go.Proofs.YtkhmngljpfibcaaGreatDoor
