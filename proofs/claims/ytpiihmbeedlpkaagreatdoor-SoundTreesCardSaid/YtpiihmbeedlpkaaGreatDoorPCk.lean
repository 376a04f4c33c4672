/- ContainsFunc on numbers; petri.marking: what a call returns. enabled of petri and cover: what a call returns. -/
import Derived.Test.YtpiihmbeedlpkaaGreatDoorPUu
import Derived.Test.YtpiihmbeedlpkaaGreatDoorPCg
import Derived.Test.YtpiihmbeedlpkaaGreatDoorPCd
namespace Go.Proofs.YtpiihmbeedlpkaaGreatDoor
set_option maxRecDepth 100000
set_option maxHeartbeats 3200000
open Go.Lib (hid)
section
open Go.RowKit

def BIdx (r : Bool) (w : World) (e : Ending) (w' : World) : Prop := (if r then e = .returned (.int .i64 (-1)) else ∃ i : Nat, e = .returned (.int .i64 i)) ∧ Below w.heap.size w w'
theorem BIdx.yes {r : Bool} {w w' : World} {e : Ending} {i : Nat} (h : r = false) (he : e = .returned (.int .i64 i)) (hb : Below w.heap.size w w') : BIdx r w e w' := by subst h; exact ⟨⟨i, he⟩, hb⟩
theorem BIdx.no {r : Bool} {w w' : World} {e : Ending} (h : r = true) (he : e = .returned (.int .i64 (-1))) (hb : Below w.heap.size w w') : BIdx r w e w' := by subst h; exact ⟨he, hb⟩
def badK (k : Int) : Bool := decide (k < 0) || decide (100 < k)
theorem mk1_any (k : Int) (w : World) : Calls Tryz.prog 85 #[.int .i64 k] w fun e w' => e = .returned (.bool (badK k)) ∧ Below w.heap.size w w' := by
 by_cases h : k < 0
 · have HV := hid (show badK k = true by unfold badK; rw [decide_eq_true h]; rfl);go_enter Tryz.func85, Tryz.ntmps85;go_wp2_with fail;go_ret;exact ⟨ret_bool HV.out.symm, Below.refl _ _⟩
 · have HV := hid (show badK k = decide (100 < k) by unfold badK; rw [decide_eq_false h]; rfl);have d0 : decide (k < 0) = false := by simpa using h
   clear h;go_enter Tryz.func85, Tryz.ntmps85;go_wp2_with fail;go_ret;exact ⟨ret_bool (by rw [HV.out]), Below.refl _ _⟩
theorem iindex_mk (A : Option Addr) (n cap : Nat) (L : List Int) (w : World) (h : ZIn w A L) (hn : L.length = n) (hn4 : n ≤ 9223372036854775807) :
 Calls Tryz.prog 84 #[.slice A n cap, .func (.func 85) #[] #[]] w (BIdx (!(L.any badK)) w) := by
 have H0 := hid h; clear h;have HN := hid hn; clear hn;skip;go_enter Tryz.func84, Tryz.ntmps84;go_wp2_with fail;go_loopg [8] (n) (fun g i wr => ∃ k : Nat, k + g = n ∧ i = .int .i64 k ∧ (L.take k).any badK = false ∧ Below w.heap.size w wr);case atStart => exact ⟨0, by omega, rfl, by simp, Below.refl _ _⟩
 case round =>
  obtain ⟨k, hk, rfl, hno, hB⟩ := hrel;have HK := hid hk;have HNo := hid hno;have HB := hid hB;have HT := hid (H0.out.below hB);have hle : k ≤ n := by omega
  clear hk hno hB;by_cases hlt : k < n
  · have hlt' : k < L.length := by rw [HN.out]; exact hlt
    obtain ⟨ad, rfl, hp, c0⟩ := HT.out k hlt';have HTk := hid (List.take_succ_eq_append_getElem hlt');have HM := hid (List.getElem_mem hlt');generalize L[k] = x at *;clear hlt';have HX := hid (mk1_any x wr);cases hv : badK x with
    | true =>
     rw [hv] at HX;have HV := hid hv; clear hv;go_wp2_with fail;((with_reducible refine HX.out.mono ?_); rintro e w1 ⟨rfl, hb1⟩)
     go_wp2_with fail;go_ret;refine BIdx.yes ?_ rfl (below_then HB.out hb1);rw [List.any_eq_true.2 ⟨x, HM.out, HV.out⟩]; rfl
    | false =>
     rw [hv] at HX;have HV := hid hv; clear hv;go_wp2_with fail;((with_reducible refine HX.out.mono ?_); rintro e w1 ⟨rfl, hb1⟩)
     have HB1 := hid (below_then HB.out hb1);clear hb1;go_wp2_with fail;go_roundg (gk - 1);case measure => have := HK.out; omega
     case rel => exact ⟨k + 1, by have := HK.out; omega, by go_num, by rw [HTk.out, List.any_append, HNo.out]; simp [HV.out], HB1.out⟩
  · have HE := hid (show L.take k = L from List.take_of_length_le (by have := HN.out; omega));go_wp2_with fail;go_ret;refine BIdx.no ?_ rfl HB.out;rw [← HE.out, HNo.out]; rfl
theorem icont_mk (A : Option Addr) (n cap : Nat) (L : List Int) (w : World) (h : ZIn w A L) (hn : L.length = n) (hn4 : n ≤ 9223372036854775807) :
 Calls Tryz.prog 72 #[.slice A n cap, .func (.func 85) #[] #[]] w fun e w' => e = .returned (.bool (L.any badK)) ∧ Below w.heap.size w w' := by
 have HI := hid (iindex_mk A n cap L w h hn hn4);clear h hn;generalize L.any badK = r at HI ⊢;cases r with
 | false =>
  go_enter Tryz.func72, Tryz.ntmps72;go_wp2_with fail;((with_reducible refine HI.out.mono ?_); rintro e w1 hP)
  obtain ⟨he, hb⟩ := hP;have he' : e = .returned (.int .i64 (-1)) := he;clear he; subst he';go_wp2_with fail;go_ret;exact ⟨rfl, hb⟩
 | true =>
  go_enter Tryz.func72, Tryz.ntmps72;go_wp2_with fail;((with_reducible refine HI.out.mono ?_); rintro e w1 hP)
  obtain ⟨he, hb⟩ := hP;obtain ⟨i, he'⟩ : ∃ i : Nat, e = .returned (.int .i64 i) := he;subst he';go_wp2_with fail;go_ret;exact ⟨rfl, hb⟩
def mkB (N : Nt) (m : List Int) : Bool := ntB N && (decide ((m.length : Int) = N.pl) && !(m.any badK))
theorem pmarking_any (N : Nt) (A : Option Addr) (n c : Nat) (Am : Option Addr) (m cm : Nat) (M : List Int) (w : World) (h : NtIn w A N) (hn : N.tr.length = n) (hn2 : n ≤ 9223372036854775807) (hM : ZIn w Am M) (hm : M.length = m) (hm2 : m ≤ 9223372036854775807) :
 Calls Tryz.prog 74 #[.agg #[.int .i64 N.pl, .slice A n c, .int .i64 N.src, .int .i64 N.snk], .slice Am m cm] w fun e w' => e = .returned (.bool (mkB N M)) ∧ Below w.heap.size w w' := by
 have HB := hid (below_alloc w (.cells #[.int .i64 N.pl, .slice A n c, .int .i64 N.src, .int .i64 N.snk] 30));have HN := hid (NB.new w N.pl A n c N.src N.snk);have HV := hid (pvalid_any N A n c (w.alloc (.cells #[.int .i64 N.pl, .slice A n c, .int .i64 N.src, .int .i64 N.snk] 30)) (h.below HB.out) hn hn2);have H0 := hid (hM.below HB.out);have HR := hid (show mkB N M = (ntB N && (decide ((m : Int) = N.pl) && !(M.any badK))) by unfold mkB; rw [hm]);have HM := hid hm;generalize mkB N M = R at *;clear h hn hM hm;go_enter Tryz.func74, Tryz.ntmps74;go_wp2_with fail;generalize w.alloc _ = w0 at HB HN HV H0 ⊢;((with_reducible refine HV.out.mono ?_); rintro e w1 ⟨rfl, hb1⟩)
 have HB1 := hid (below_then HB.out hb1);have HN1 := hid (HN.out.below hb1);have HC := hid (icont_mk Am m cm M w1 (H0.out.below hb1) HM.out hm2);clear hb1 HV HN HB H0;obtain ⟨c0, c1, c2, c3⟩ := HN1.out.cells;cases hv : ntB N with
 | false =>
  rw [hv] at HR;clear hv;go_wp2_with fail;go_ret;exact ⟨ret_bool (by rw [HR.out]; rfl), HB1.out⟩
 | true =>
  rw [hv] at HR;clear hv;by_cases hl : (m : Int) = N.pl
  · have q1 : ((m : Int) == N.pl) = true := by rw [hl]; exact beq_self_eq_true _
    rw [decide_eq_true hl] at HR;clear hl;go_wp2_with fail;((with_reducible refine HC.out.mono ?_); rintro e w2 ⟨rfl, hb2⟩)
    go_wp2_with fail;go_ret;exact ⟨ret_bool (by rw [HR.out]; rfl), below_then HB1.out hb2⟩
  · have q1 : ((m : Int) == N.pl) = false := by rw [beq_eq_false_iff_ne]; exact hl
    rw [decide_eq_false hl] at HR;clear hl;go_wp2_with fail;go_ret;exact ⟨ret_bool (by rw [HR.out]; rfl), HB1.out⟩
end
section
open Go.RowKit

def MB (w : World) (pb : Nat) (Am : Option Addr) (m cm : Nat) (M : List Int) : Prop := w.heap[pb]? = some (.cells #[.slice Am m cm] 34 (0, 0)) ∧ ZIn w Am M ∧ M.length = m
theorem MB.below {w w' : World} {pb : Nat} {Am : Option Addr} {m cm : Nat} {M : List Int} (h : MB w pb Am m cm M) (hb : Below w.heap.size w w') : MB w' pb Am m cm M := by
 obtain ⟨h1, h2, h3⟩ := h;exact ⟨by rw [hb.block pb (Array.getElem?_eq_some_iff.1 h1).1]; exact h1, h2.below hb, h3⟩
def zeroP (M : List Int) (p : Int) : Bool := decide (M.getD p.toNat 0 = 0)
theorem can_any (t : Tr) (M : List Int) : canT t M = !(t.i.any (zeroP M)) := by
 unfold canT zeroP;rw [List.not_any_eq_all_not]
 congr 1; funext p; simp
def inM (l : List Int) (m : Nat) : Prop := ∀ p ∈ l, 0 ≤ p ∧ p < (m : Int)
theorem en1_petri (p : Int) (pb : Nat) (Am : Option Addr) (m cm : Nat) (M : List Int) (w : World) (h : MB w pb Am m cm M) (hp : 0 ≤ p ∧ p < (m : Int)) : Calls Tryz.prog 86 #[.int .i64 p, .pointer (some ⟨pb, 0, none⟩)] w fun e w' => e = .returned (.bool (zeroP M p)) ∧ Below w.heap.size w w' := by
 obtain ⟨k, rfl⟩ := Int.eq_ofNat_of_zero_le hp.1;have hk : k < m := by omega
 have hk' : k < M.length := by rw [h.2.2]; exact hk
 obtain ⟨ad, rfl, hpa, c0⟩ := h.2.1 k hk';have hc : w.cell? ⟨pb, 0, none⟩ = some (.slice (some ad) m cm) := by simp [World.cell?, h.1]
 have HV := hid (show zeroP M (k : Int) = decide (M[k] = 0) by unfold zeroP; simp [hk']);generalize zeroP M (k : Int) = R at *;generalize M[k] = x at *;clear h hp hk';by_cases h0 : x = 0
 · have q1 : (x == 0) = true := by rw [h0]; rfl
   rw [decide_eq_true h0] at HV;clear h0;go_enter Tryz.func86, Tryz.ntmps86;go_wp2_with fail;go_ret;exact ⟨ret_bool (by rw [HV.out]), Below.refl _ _⟩
 · have q1 : (x == 0) = false := by rw [beq_eq_false_iff_ne]; exact h0
   rw [decide_eq_false h0] at HV;clear h0;go_enter Tryz.func86, Tryz.ntmps86;go_wp2_with fail;go_ret;exact ⟨ret_bool (by rw [HV.out]), Below.refl _ _⟩
theorem iindex_petri (A : Option Addr) (n cap : Nat) (L : List Int) (w : World) (h : ZIn w A L) (hn : L.length = n) (hn4 : n ≤ 9223372036854775807) (pb : Nat) (Am : Option Addr) (m cm : Nat) (M : List Int) (hS : MB w pb Am m cm M ∧ inM L m) :
 Calls Tryz.prog 84 #[.slice A n cap, .func (.func 86) #[] #[.pointer (some ⟨pb, 0, none⟩)]] w (BIdx (!(L.any (zeroP M))) w) := by
 have H0 := hid h; clear h;have HN := hid hn; clear hn;have HSt := hid hS; clear hS;go_enter Tryz.func84, Tryz.ntmps84;go_wp2_with fail;go_loopg [8] (n) (fun g i wr => ∃ k : Nat, k + g = n ∧ i = .int .i64 k ∧ (L.take k).any (zeroP M) = false ∧ Below w.heap.size w wr);case atStart => exact ⟨0, by omega, rfl, by simp, Below.refl _ _⟩
 case round =>
  obtain ⟨k, hk, rfl, hno, hB⟩ := hrel;have HK := hid hk;have HNo := hid hno;have HB := hid hB;have HT := hid (H0.out.below hB);have hle : k ≤ n := by omega
  clear hk hno hB;by_cases hlt : k < n
  · have hlt' : k < L.length := by rw [HN.out]; exact hlt
    obtain ⟨ad, rfl, hp, c0⟩ := HT.out k hlt';have HTk := hid (List.take_succ_eq_append_getElem hlt');have HM := hid (List.getElem_mem hlt');generalize L[k] = x at *;clear hlt';have HX := hid (en1_petri x pb Am m cm M wr (HSt.out.1.below HB.out) (HSt.out.2 x HM.out));cases hv : (zeroP M) x with
    | true =>
     rw [hv] at HX;have HV := hid hv; clear hv;go_wp2_with fail;((with_reducible refine HX.out.mono ?_); rintro e w1 ⟨rfl, hb1⟩)
     go_wp2_with fail;go_ret;refine BIdx.yes ?_ rfl (below_then HB.out hb1);rw [List.any_eq_true.2 ⟨x, HM.out, HV.out⟩]; rfl
    | false =>
     rw [hv] at HX;have HV := hid hv; clear hv;go_wp2_with fail;((with_reducible refine HX.out.mono ?_); rintro e w1 ⟨rfl, hb1⟩)
     have HB1 := hid (below_then HB.out hb1);clear hb1;go_wp2_with fail;go_roundg (gk - 1);case measure => have := HK.out; omega
     case rel => exact ⟨k + 1, by have := HK.out; omega, by go_num, by rw [HTk.out, List.any_append, HNo.out]; simp [HV.out], HB1.out⟩
  · have HE := hid (show L.take k = L from List.take_of_length_le (by have := HN.out; omega));go_wp2_with fail;go_ret;refine BIdx.no ?_ rfl HB.out;rw [← HE.out, HNo.out]; rfl
theorem icont_petri (A : Option Addr) (n cap : Nat) (L : List Int) (w : World) (h : ZIn w A L) (hn : L.length = n) (hn4 : n ≤ 9223372036854775807) (pb : Nat) (Am : Option Addr) (m cm : Nat) (M : List Int) (hS : MB w pb Am m cm M ∧ inM L m) :
 Calls Tryz.prog 72 #[.slice A n cap, .func (.func 86) #[] #[.pointer (some ⟨pb, 0, none⟩)]] w fun e w' => e = .returned (.bool (L.any (zeroP M))) ∧ Below w.heap.size w w' := by
 have HI := hid (iindex_petri A n cap L w h hn hn4 pb Am m cm M hS);clear h hn hS;generalize L.any (zeroP M) = r at HI ⊢;cases r with
 | false =>
  go_enter Tryz.func72, Tryz.ntmps72;go_wp2_with fail;((with_reducible refine HI.out.mono ?_); rintro e w1 hP)
  obtain ⟨he, hb⟩ := hP;have he' : e = .returned (.int .i64 (-1)) := he;clear he; subst he';go_wp2_with fail;go_ret;exact ⟨rfl, hb⟩
 | true =>
  go_enter Tryz.func72, Tryz.ntmps72;go_wp2_with fail;((with_reducible refine HI.out.mono ?_); rintro e w1 hP)
  obtain ⟨he, hb⟩ := hP;obtain ⟨i, he'⟩ : ∃ i : Nat, e = .returned (.int .i64 i) := he;subst he';go_wp2_with fail;go_ret;exact ⟨rfl, hb⟩
theorem enabled_petri (lb : ByteArray) (Ai Ao Am : Option Addr) (ni ci no co m cm : Nat) (li lo M : List Int) (w : World) (hi : ZIn w Ai li) (hni : li.length = ni) (hni2 : ni ≤ 9223372036854775807) (hM : ZIn w Am M) (hm : M.length = m) (hin : inM li m) :
 Calls Tryz.prog 75 #[.agg #[.string lb, .slice Ai ni ci, .slice Ao no co], .slice Am m cm] w fun e w' => e = .returned (.bool (canT ⟨lb, li, lo⟩ M)) ∧ Below w.heap.size w w' := by
 have HB := hid (two_boxes w (.cells #[.string lb, .slice Ai ni ci, .slice Ao no co] 42) (.cells #[.slice Am m cm] 34));have hmb : MB ((w.alloc (.cells #[.string lb, .slice Ai ni ci, .slice Ao no co] 42)).alloc (.cells #[.slice Am m cm] 34)) (w.heap.size + 1) Am m cm M := by
  refine ⟨?_, hM.below HB.out, hm⟩;have := heap_alloc_new (w.alloc (.cells #[.string lb, .slice Ai ni ci, .slice Ao no co] 42)) (.cells #[.slice Am m cm] 34);rw [World.size_alloc] at this; exact this
 have HC := hid (icont_petri Ai ni ci li _ (hi.below HB.out) hni hni2 (w.heap.size + 1) Am m cm M ⟨hmb, hin⟩);have HR := hid (can_any ⟨lb, li, lo⟩ M);generalize canT ⟨lb, li, lo⟩ M = R at HR ⊢;simp only at HR;clear hi hni hM hm hin hmb;go_enter Tryz.func75, Tryz.ntmps75;go_wp2_with fail;((with_reducible refine HC.out.mono ?_); rintro e w1 ⟨rfl, hb1⟩)
 go_wp2_with fail;go_ret;exact ⟨ret_bool (by rw [HR.out]), below_then HB.out hb1⟩
theorem en1_cover (p : Int) (pb : Nat) (Am : Option Addr) (m cm : Nat) (M : List Int) (w : World) (h : MB w pb Am m cm M) (hp : 0 ≤ p ∧ p < (m : Int)) : Calls Tryz.prog 90 #[.int .i64 p, .pointer (some ⟨pb, 0, none⟩)] w fun e w' => e = .returned (.bool (zeroP M p)) ∧ Below w.heap.size w w' := by
 obtain ⟨k, rfl⟩ := Int.eq_ofNat_of_zero_le hp.1;have hk : k < m := by omega
 have hk' : k < M.length := by rw [h.2.2]; exact hk
 obtain ⟨ad, rfl, hpa, c0⟩ := h.2.1 k hk';have hc : w.cell? ⟨pb, 0, none⟩ = some (.slice (some ad) m cm) := by simp [World.cell?, h.1]
 have HV := hid (show zeroP M (k : Int) = decide (M[k] = 0) by unfold zeroP; simp [hk']);generalize zeroP M (k : Int) = R at *;generalize M[k] = x at *;clear h hp hk';by_cases h0 : x = 0
 · have q1 : (x == 0) = true := by rw [h0]; rfl
   rw [decide_eq_true h0] at HV;clear h0;go_enter Tryz.func90, Tryz.ntmps90;go_wp2_with fail;go_ret;exact ⟨ret_bool (by rw [HV.out]), Below.refl _ _⟩
 · have q1 : (x == 0) = false := by rw [beq_eq_false_iff_ne]; exact h0
   rw [decide_eq_false h0] at HV;clear h0;go_enter Tryz.func90, Tryz.ntmps90;go_wp2_with fail;go_ret;exact ⟨ret_bool (by rw [HV.out]), Below.refl _ _⟩
theorem iindex_cover (A : Option Addr) (n cap : Nat) (L : List Int) (w : World) (h : ZIn w A L) (hn : L.length = n) (hn4 : n ≤ 9223372036854775807) (pb : Nat) (Am : Option Addr) (m cm : Nat) (M : List Int) (hS : MB w pb Am m cm M ∧ inM L m) :
 Calls Tryz.prog 84 #[.slice A n cap, .func (.func 90) #[] #[.pointer (some ⟨pb, 0, none⟩)]] w (BIdx (!(L.any (zeroP M))) w) := by
 have H0 := hid h; clear h;have HN := hid hn; clear hn;have HSt := hid hS; clear hS;go_enter Tryz.func84, Tryz.ntmps84;go_wp2_with fail;go_loopg [8] (n) (fun g i wr => ∃ k : Nat, k + g = n ∧ i = .int .i64 k ∧ (L.take k).any (zeroP M) = false ∧ Below w.heap.size w wr);case atStart => exact ⟨0, by omega, rfl, by simp, Below.refl _ _⟩
 case round =>
  obtain ⟨k, hk, rfl, hno, hB⟩ := hrel;have HK := hid hk;have HNo := hid hno;have HB := hid hB;have HT := hid (H0.out.below hB);have hle : k ≤ n := by omega
  clear hk hno hB;by_cases hlt : k < n
  · have hlt' : k < L.length := by rw [HN.out]; exact hlt
    obtain ⟨ad, rfl, hp, c0⟩ := HT.out k hlt';have HTk := hid (List.take_succ_eq_append_getElem hlt');have HM := hid (List.getElem_mem hlt');generalize L[k] = x at *;clear hlt';have HX := hid (en1_cover x pb Am m cm M wr (HSt.out.1.below HB.out) (HSt.out.2 x HM.out));cases hv : (zeroP M) x with
    | true =>
     rw [hv] at HX;have HV := hid hv; clear hv;go_wp2_with fail;((with_reducible refine HX.out.mono ?_); rintro e w1 ⟨rfl, hb1⟩)
     go_wp2_with fail;go_ret;refine BIdx.yes ?_ rfl (below_then HB.out hb1);rw [List.any_eq_true.2 ⟨x, HM.out, HV.out⟩]; rfl
    | false =>
     rw [hv] at HX;have HV := hid hv; clear hv;go_wp2_with fail;((with_reducible refine HX.out.mono ?_); rintro e w1 ⟨rfl, hb1⟩)
     have HB1 := hid (below_then HB.out hb1);clear hb1;go_wp2_with fail;go_roundg (gk - 1);case measure => have := HK.out; omega
     case rel => exact ⟨k + 1, by have := HK.out; omega, by go_num, by rw [HTk.out, List.any_append, HNo.out]; simp [HV.out], HB1.out⟩
  · have HE := hid (show L.take k = L from List.take_of_length_le (by have := HN.out; omega));go_wp2_with fail;go_ret;refine BIdx.no ?_ rfl HB.out;rw [← HE.out, HNo.out]; rfl
theorem icont_cover (A : Option Addr) (n cap : Nat) (L : List Int) (w : World) (h : ZIn w A L) (hn : L.length = n) (hn4 : n ≤ 9223372036854775807) (pb : Nat) (Am : Option Addr) (m cm : Nat) (M : List Int) (hS : MB w pb Am m cm M ∧ inM L m) :
 Calls Tryz.prog 72 #[.slice A n cap, .func (.func 90) #[] #[.pointer (some ⟨pb, 0, none⟩)]] w fun e w' => e = .returned (.bool (L.any (zeroP M))) ∧ Below w.heap.size w w' := by
 have HI := hid (iindex_cover A n cap L w h hn hn4 pb Am m cm M hS);clear h hn hS;generalize L.any (zeroP M) = r at HI ⊢;cases r with
 | false =>
  go_enter Tryz.func72, Tryz.ntmps72;go_wp2_with fail;((with_reducible refine HI.out.mono ?_); rintro e w1 hP)
  obtain ⟨he, hb⟩ := hP;have he' : e = .returned (.int .i64 (-1)) := he;clear he; subst he';go_wp2_with fail;go_ret;exact ⟨rfl, hb⟩
 | true =>
  go_enter Tryz.func72, Tryz.ntmps72;go_wp2_with fail;((with_reducible refine HI.out.mono ?_); rintro e w1 hP)
  obtain ⟨he, hb⟩ := hP;obtain ⟨i, he'⟩ : ∃ i : Nat, e = .returned (.int .i64 i) := he;subst he';go_wp2_with fail;go_ret;exact ⟨rfl, hb⟩
theorem enabled_cover (lb : ByteArray) (Ai Ao Am : Option Addr) (ni ci no co m cm : Nat) (li lo M : List Int) (w : World) (hi : ZIn w Ai li) (hni : li.length = ni) (hni2 : ni ≤ 9223372036854775807) (hM : ZIn w Am M) (hm : M.length = m) (hin : inM li m) :
 Calls Tryz.prog 78 #[.agg #[.string lb, .slice Ai ni ci, .slice Ao no co], .slice Am m cm] w fun e w' => e = .returned (.bool (canT ⟨lb, li, lo⟩ M)) ∧ Below w.heap.size w w' := by
 have HB := hid (two_boxes w (.cells #[.string lb, .slice Ai ni ci, .slice Ao no co] 42) (.cells #[.slice Am m cm] 34));have hmb : MB ((w.alloc (.cells #[.string lb, .slice Ai ni ci, .slice Ao no co] 42)).alloc (.cells #[.slice Am m cm] 34)) (w.heap.size + 1) Am m cm M := by
  refine ⟨?_, hM.below HB.out, hm⟩;have := heap_alloc_new (w.alloc (.cells #[.string lb, .slice Ai ni ci, .slice Ao no co] 42)) (.cells #[.slice Am m cm] 34);rw [World.size_alloc] at this; exact this
 have HC := hid (icont_cover Ai ni ci li _ (hi.below HB.out) hni hni2 (w.heap.size + 1) Am m cm M ⟨hmb, hin⟩);have HR := hid (can_any ⟨lb, li, lo⟩ M);generalize canT ⟨lb, li, lo⟩ M = R at HR ⊢;simp only at HR;clear hi hni hM hm hin hmb;go_enter Tryz.func78, Tryz.ntmps78;go_wp2_with fail;((with_reducible refine HC.out.mono ?_); rintro e w1 ⟨rfl, hb1⟩)
 go_wp2_with fail;go_ret;exact ⟨ret_bool (by rw [HR.out]), below_then HB.out hb1⟩
end
end Go.Proofs.YtpiihmbeedlpkaaGreatDoor
