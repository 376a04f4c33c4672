/- enabled of petri and cover: what a call returns. Can of the references: what a call returns. more, below, Less, AtMost, Same: what a call returns. -/
import Derived.Test.YtkhmngljpfibcaaGreatDoorPUu
import Derived.Test.YtkhmngljpfibcaaGreatDoorPCj
import Derived.Test.YtkhmngljpfibcaaGreatDoorPCd
namespace Go.Proofs.YtkhmngljpfibcaaGreatDoor
set_option maxRecDepth 100000
set_option maxHeartbeats 3200000
open Go.Lib (hid)
section
open Go.RowKit

def MB (w : World) (pb : Nat) (Am : Option Addr) (m cm : Nat) (M : List Int) : Prop := w.heap[pb]? = some (.cells #[.slice Am m cm] 27 (0, 0)) ∧ ZIn w Am M ∧ M.length = m
theorem MB.below {w w' : World} {pb : Nat} {Am : Option Addr} {m cm : Nat} {M : List Int} (h : MB w pb Am m cm M) (hb : Below w.heap.size w w') : MB w' pb Am m cm M := by
 obtain ⟨h1, h2, h3⟩ := h;exact ⟨by rw [hb.block pb (Array.getElem?_eq_some_iff.1 h1).1]; exact h1, h2.below hb, h3⟩
def zeroP (M : List Int) (p : Int) : Bool := decide (M.getD p.toNat 0 = 0)
theorem can_any (t : Tr) (M : List Int) : canT t M = !(t.i.any (zeroP M)) := by
 unfold canT zeroP;rw [List.not_any_eq_all_not]
 congr 1; funext p; simp
def inM (l : List Int) (m : Nat) : Prop := ∀ p ∈ l, 0 ≤ p ∧ p < (m : Int)
theorem en1_petri (p : Int) (pb : Nat) (Am : Option Addr) (m cm : Nat) (M : List Int) (w : World) (h : MB w pb Am m cm M) (hp : 0 ≤ p ∧ p < (m : Int)) : Calls Tryz.prog 191 #[.int .i64 p, .pointer (some ⟨pb, 0, none⟩)] w fun e w' => e = .returned (.bool (zeroP M p)) ∧ Below w.heap.size w w' := by
 obtain ⟨k, rfl⟩ := Int.eq_ofNat_of_zero_le hp.1;have hk : k < m := by omega
 have hk' : k < M.length := by rw [h.2.2]; exact hk
 obtain ⟨ad, rfl, hpa, c0⟩ := h.2.1 k hk';have hc : w.cell? ⟨pb, 0, none⟩ = some (.slice (some ad) m cm) := by simp [World.cell?, h.1]
 have HV := hid (show zeroP M (k : Int) = decide (M[k] = 0) by unfold zeroP; simp [hk']);generalize zeroP M (k : Int) = R at *;generalize M[k] = x at *;clear h hp hk';by_cases h0 : x = 0
 · have q1 : (x == 0) = true := by rw [h0]; rfl
   rw [decide_eq_true h0] at HV;clear h0;go_enter Tryz.func191, Tryz.ntmps191;go_wp2_with fail;go_ret;exact ⟨ret_bool (by rw [HV.out]), Below.refl _ _⟩
 · have q1 : (x == 0) = false := by rw [beq_eq_false_iff_ne]; exact h0
   rw [decide_eq_false h0] at HV;clear h0;go_enter Tryz.func191, Tryz.ntmps191;go_wp2_with fail;go_ret;exact ⟨ret_bool (by rw [HV.out]), Below.refl _ _⟩
theorem iindex_petri (A : Option Addr) (n cap : Nat) (L : List Int) (w : World) (h : ZIn w A L) (hn : L.length = n) (hn4 : n ≤ 9223372036854775807) (pb : Nat) (Am : Option Addr) (m cm : Nat) (M : List Int) (hS : MB w pb Am m cm M ∧ inM L m) :
 Calls Tryz.prog 194 #[.slice A n cap, .func (.func 191) #[] #[.pointer (some ⟨pb, 0, none⟩)]] w (BIdx (!(L.any (zeroP M))) w) := by
 have H0 := hid h; clear h;have HN := hid hn; clear hn;have HSt := hid hS; clear hS;go_enter Tryz.func194, Tryz.ntmps194;go_wp2_with fail;go_loopg [8] (n) (fun g i wr => ∃ k : Nat, k + g = n ∧ i = .int .i64 k ∧ (L.take k).any (zeroP M) = false ∧ Below w.heap.size w wr);case atStart => exact ⟨0, by omega, rfl, by simp, Below.refl _ _⟩
 case round =>
  obtain ⟨k, hk, rfl, hno, hB⟩ := hrel;have HK := hid hk;have HNo := hid hno;have HB := hid hB;have HT := hid (H0.out.below hB);have hle : k ≤ n := by omega
  clear hk hno hB;by_cases hlt : k < n
  · have hlt' : k < L.length := by rw [HN.out]; exact hlt
    obtain ⟨ad, rfl, hp, c0⟩ := HT.out k hlt';have HTk := hid (List.take_succ_eq_append_getElem hlt');have HM := hid (List.getElem_mem hlt');generalize L[k] = x at *;clear hlt';have HX := hid (en1_petri x pb Am m cm M wr (HSt.out.1.below HB.out) (HSt.out.2 x HM.out));cases hv : (zeroP M) x with
    | true =>
     rw [hv] at HX;have HV := hid hv; clear hv;go_wp2_with fail;((with_reducible refine HX.out.mono ?_); rintro e w1 ⟨rfl, hb1⟩)
     go_wp2_with fail;go_ret;refine BIdx.yes ?_ rfl (below_then HB.out hb1);rw [List.any_eq_true.2 ⟨x, HM.out, HV.out⟩]; rfl
    | false =>
     rw [hv] at HX;have HV := hid hv; clear hv;go_wp2_with fail;((with_reducible refine HX.out.mono ?_); rintro e w1 ⟨rfl, hb1⟩)
     have HB1 := hid (below_then HB.out hb1);clear hb1;go_wp2_with fail;go_roundg (gk - 1);case measure => have := HK.out; omega
     case rel => exact ⟨k + 1, by have := HK.out; omega, by go_num, by rw [HTk.out, List.any_append, HNo.out]; simp [HV.out], HB1.out⟩
  · have HE := hid (show L.take k = L from List.take_of_length_le (by have := HN.out; omega));go_wp2_with fail;go_ret;refine BIdx.no ?_ rfl HB.out;rw [← HE.out, HNo.out]; rfl
theorem icont_petri (A : Option Addr) (n cap : Nat) (L : List Int) (w : World) (h : ZIn w A L) (hn : L.length = n) (hn4 : n ≤ 9223372036854775807) (pb : Nat) (Am : Option Addr) (m cm : Nat) (M : List Int) (hS : MB w pb Am m cm M ∧ inM L m) :
 Calls Tryz.prog 149 #[.slice A n cap, .func (.func 191) #[] #[.pointer (some ⟨pb, 0, none⟩)]] w fun e w' => e = .returned (.bool (L.any (zeroP M))) ∧ Below w.heap.size w w' := by
 have HI := hid (iindex_petri A n cap L w h hn hn4 pb Am m cm M hS);clear h hn hS;generalize L.any (zeroP M) = r at HI ⊢;cases r with
 | false =>
  go_enter Tryz.func149, Tryz.ntmps149;go_wp2_with fail;((with_reducible refine HI.out.mono ?_); rintro e w1 hP)
  obtain ⟨he, hb⟩ := hP;have he' : e = .returned (.int .i64 (-1)) := he;clear he; subst he';go_wp2_with fail;go_ret;exact ⟨rfl, hb⟩
 | true =>
  go_enter Tryz.func149, Tryz.ntmps149;go_wp2_with fail;((with_reducible refine HI.out.mono ?_); rintro e w1 hP)
  obtain ⟨he, hb⟩ := hP;obtain ⟨i, he'⟩ : ∃ i : Nat, e = .returned (.int .i64 i) := he;subst he';go_wp2_with fail;go_ret;exact ⟨rfl, hb⟩
theorem enabled_petri (lb : ByteArray) (Ai Ao Am : Option Addr) (ni ci no co m cm : Nat) (li lo M : List Int) (w : World) (hi : ZIn w Ai li) (hni : li.length = ni) (hni2 : ni ≤ 9223372036854775807) (hM : ZIn w Am M) (hm : M.length = m) (hin : inM li m) :
 Calls Tryz.prog 140 #[.agg #[.string lb, .slice Ai ni ci, .slice Ao no co], .slice Am m cm] w fun e w' => e = .returned (.bool (canT ⟨lb, li, lo⟩ M)) ∧ Below w.heap.size w w' := by
 have HB := hid (two_boxes w (.cells #[.string lb, .slice Ai ni ci, .slice Ao no co] 79) (.cells #[.slice Am m cm] 27));have hmb : MB ((w.alloc (.cells #[.string lb, .slice Ai ni ci, .slice Ao no co] 79)).alloc (.cells #[.slice Am m cm] 27)) (w.heap.size + 1) Am m cm M := by
  refine ⟨?_, hM.below HB.out, hm⟩;have := heap_alloc_new (w.alloc (.cells #[.string lb, .slice Ai ni ci, .slice Ao no co] 79)) (.cells #[.slice Am m cm] 27);rw [World.size_alloc] at this; exact this
 have HC := hid (icont_petri Ai ni ci li _ (hi.below HB.out) hni hni2 (w.heap.size + 1) Am m cm M ⟨hmb, hin⟩);have HR := hid (can_any ⟨lb, li, lo⟩ M);generalize canT ⟨lb, li, lo⟩ M = R at HR ⊢;simp only at HR;clear hi hni hM hm hin hmb;go_enter Tryz.func140, Tryz.ntmps140;go_wp2_with fail;((with_reducible refine HC.out.mono ?_); rintro e w1 ⟨rfl, hb1⟩)
 go_wp2_with fail;go_ret;exact ⟨ret_bool (by rw [HR.out]), below_then HB.out hb1⟩
theorem en1_cover (p : Int) (pb : Nat) (Am : Option Addr) (m cm : Nat) (M : List Int) (w : World) (h : MB w pb Am m cm M) (hp : 0 ≤ p ∧ p < (m : Int)) : Calls Tryz.prog 222 #[.int .i64 p, .pointer (some ⟨pb, 0, none⟩)] w fun e w' => e = .returned (.bool (zeroP M p)) ∧ Below w.heap.size w w' := by
 obtain ⟨k, rfl⟩ := Int.eq_ofNat_of_zero_le hp.1;have hk : k < m := by omega
 have hk' : k < M.length := by rw [h.2.2]; exact hk
 obtain ⟨ad, rfl, hpa, c0⟩ := h.2.1 k hk';have hc : w.cell? ⟨pb, 0, none⟩ = some (.slice (some ad) m cm) := by simp [World.cell?, h.1]
 have HV := hid (show zeroP M (k : Int) = decide (M[k] = 0) by unfold zeroP; simp [hk']);generalize zeroP M (k : Int) = R at *;generalize M[k] = x at *;clear h hp hk';by_cases h0 : x = 0
 · have q1 : (x == 0) = true := by rw [h0]; rfl
   rw [decide_eq_true h0] at HV;clear h0;go_enter Tryz.func222, Tryz.ntmps222;go_wp2_with fail;go_ret;exact ⟨ret_bool (by rw [HV.out]), Below.refl _ _⟩
 · have q1 : (x == 0) = false := by rw [beq_eq_false_iff_ne]; exact h0
   rw [decide_eq_false h0] at HV;clear h0;go_enter Tryz.func222, Tryz.ntmps222;go_wp2_with fail;go_ret;exact ⟨ret_bool (by rw [HV.out]), Below.refl _ _⟩
theorem iindex_cover (A : Option Addr) (n cap : Nat) (L : List Int) (w : World) (h : ZIn w A L) (hn : L.length = n) (hn4 : n ≤ 9223372036854775807) (pb : Nat) (Am : Option Addr) (m cm : Nat) (M : List Int) (hS : MB w pb Am m cm M ∧ inM L m) :
 Calls Tryz.prog 194 #[.slice A n cap, .func (.func 222) #[] #[.pointer (some ⟨pb, 0, none⟩)]] w (BIdx (!(L.any (zeroP M))) w) := by
 have H0 := hid h; clear h;have HN := hid hn; clear hn;have HSt := hid hS; clear hS;go_enter Tryz.func194, Tryz.ntmps194;go_wp2_with fail;go_loopg [8] (n) (fun g i wr => ∃ k : Nat, k + g = n ∧ i = .int .i64 k ∧ (L.take k).any (zeroP M) = false ∧ Below w.heap.size w wr);case atStart => exact ⟨0, by omega, rfl, by simp, Below.refl _ _⟩
 case round =>
  obtain ⟨k, hk, rfl, hno, hB⟩ := hrel;have HK := hid hk;have HNo := hid hno;have HB := hid hB;have HT := hid (H0.out.below hB);have hle : k ≤ n := by omega
  clear hk hno hB;by_cases hlt : k < n
  · have hlt' : k < L.length := by rw [HN.out]; exact hlt
    obtain ⟨ad, rfl, hp, c0⟩ := HT.out k hlt';have HTk := hid (List.take_succ_eq_append_getElem hlt');have HM := hid (List.getElem_mem hlt');generalize L[k] = x at *;clear hlt';have HX := hid (en1_cover x pb Am m cm M wr (HSt.out.1.below HB.out) (HSt.out.2 x HM.out));cases hv : (zeroP M) x with
    | true =>
     rw [hv] at HX;have HV := hid hv; clear hv;go_wp2_with fail;((with_reducible refine HX.out.mono ?_); rintro e w1 ⟨rfl, hb1⟩)
     go_wp2_with fail;go_ret;refine BIdx.yes ?_ rfl (below_then HB.out hb1);rw [List.any_eq_true.2 ⟨x, HM.out, HV.out⟩]; rfl
    | false =>
     rw [hv] at HX;have HV := hid hv; clear hv;go_wp2_with fail;((with_reducible refine HX.out.mono ?_); rintro e w1 ⟨rfl, hb1⟩)
     have HB1 := hid (below_then HB.out hb1);clear hb1;go_wp2_with fail;go_roundg (gk - 1);case measure => have := HK.out; omega
     case rel => exact ⟨k + 1, by have := HK.out; omega, by go_num, by rw [HTk.out, List.any_append, HNo.out]; simp [HV.out], HB1.out⟩
  · have HE := hid (show L.take k = L from List.take_of_length_le (by have := HN.out; omega));go_wp2_with fail;go_ret;refine BIdx.no ?_ rfl HB.out;rw [← HE.out, HNo.out]; rfl
theorem icont_cover (A : Option Addr) (n cap : Nat) (L : List Int) (w : World) (h : ZIn w A L) (hn : L.length = n) (hn4 : n ≤ 9223372036854775807) (pb : Nat) (Am : Option Addr) (m cm : Nat) (M : List Int) (hS : MB w pb Am m cm M ∧ inM L m) :
 Calls Tryz.prog 149 #[.slice A n cap, .func (.func 222) #[] #[.pointer (some ⟨pb, 0, none⟩)]] w fun e w' => e = .returned (.bool (L.any (zeroP M))) ∧ Below w.heap.size w w' := by
 have HI := hid (iindex_cover A n cap L w h hn hn4 pb Am m cm M hS);clear h hn hS;generalize L.any (zeroP M) = r at HI ⊢;cases r with
 | false =>
  go_enter Tryz.func149, Tryz.ntmps149;go_wp2_with fail;((with_reducible refine HI.out.mono ?_); rintro e w1 hP)
  obtain ⟨he, hb⟩ := hP;have he' : e = .returned (.int .i64 (-1)) := he;clear he; subst he';go_wp2_with fail;go_ret;exact ⟨rfl, hb⟩
 | true =>
  go_enter Tryz.func149, Tryz.ntmps149;go_wp2_with fail;((with_reducible refine HI.out.mono ?_); rintro e w1 hP)
  obtain ⟨he, hb⟩ := hP;obtain ⟨i, he'⟩ : ∃ i : Nat, e = .returned (.int .i64 i) := he;subst he';go_wp2_with fail;go_ret;exact ⟨rfl, hb⟩
theorem enabled_cover (lb : ByteArray) (Ai Ao Am : Option Addr) (ni ci no co m cm : Nat) (li lo M : List Int) (w : World) (hi : ZIn w Ai li) (hni : li.length = ni) (hni2 : ni ≤ 9223372036854775807) (hM : ZIn w Am M) (hm : M.length = m) (hin : inM li m) :
 Calls Tryz.prog 198 #[.agg #[.string lb, .slice Ai ni ci, .slice Ao no co], .slice Am m cm] w fun e w' => e = .returned (.bool (canT ⟨lb, li, lo⟩ M)) ∧ Below w.heap.size w w' := by
 have HB := hid (two_boxes w (.cells #[.string lb, .slice Ai ni ci, .slice Ao no co] 79) (.cells #[.slice Am m cm] 27));have hmb : MB ((w.alloc (.cells #[.string lb, .slice Ai ni ci, .slice Ao no co] 79)).alloc (.cells #[.slice Am m cm] 27)) (w.heap.size + 1) Am m cm M := by
  refine ⟨?_, hM.below HB.out, hm⟩;have := heap_alloc_new (w.alloc (.cells #[.string lb, .slice Ai ni ci, .slice Ao no co] 79)) (.cells #[.slice Am m cm] 27);rw [World.size_alloc] at this; exact this
 have HC := hid (icont_cover Ai ni ci li _ (hi.below HB.out) hni hni2 (w.heap.size + 1) Am m cm M ⟨hmb, hin⟩);have HR := hid (can_any ⟨lb, li, lo⟩ M);generalize canT ⟨lb, li, lo⟩ M = R at HR ⊢;simp only at HR;clear hi hni hM hm hin hmb;go_enter Tryz.func198, Tryz.ntmps198;go_wp2_with fail;((with_reducible refine HC.out.mono ?_); rintro e w1 ⟨rfl, hb1⟩)
 go_wp2_with fail;go_ret;exact ⟨ret_bool (by rw [HR.out]), below_then HB.out hb1⟩
end
section
open Go.RowKit

theorem can21_any (N : Nt) (A : Option Addr) (n c : Nat) (Am : Option Addr) (m cm : Nat) (M : List Int) (t : Nat) (ht : t < N.tr.length) (w : World) (h : TIn w A N.tr) (hn : N.tr.length = n) (hM : ZIn w Am M) (hm : M.length = m) (hin : inM N.tr[t].i m) (hpos : ∀ x ∈ M, 0 ≤ x) :
 Calls Tryz.prog 77 #[.agg #[.int .i64 N.pl, .slice A n c, .int .i64 N.src, .int .i64 N.snk], .slice Am m cm, .int .i64 t] w fun e w' => e = .returned (.bool (canT N.tr[t] M)) ∧ Below w.heap.size w w' := by
 have HB := hid (below_alloc w (.cells #[.int .i64 N.pl, .slice A n c, .int .i64 N.src, .int .i64 N.snk] 24));have HN := hid (NB.new w N.pl A n c N.src N.snk);have H0 := hid (h.below HB.out);have HM0 := hid (hM.below HB.out);have HM := hid hm;have htn : t < n := by omega
 have HPos := hid hpos;clear hpos;clear h hn hM hm;obtain ⟨ad, rfl, hpa, m0, ⟨u1, m1, s1⟩, _⟩ := H0.out t ht;have HR := hid (can_any N.tr[t] M);generalize canT N.tr[t] M = R at HR ⊢;generalize N.tr[t] = T at *;obtain ⟨lb, li, lo⟩ := T;simp only at m0 m1 s1 HR hin;obtain ⟨Ai, ni, ci, rfl, zi, hi1, hi2, hi3⟩ := s1;have HZ := hid zi;have HL := hid hi1;have HIn := hid hin;clear zi hi1 hin;go_enter Tryz.func77, Tryz.ntmps77;go_wp2_with fail;generalize w.alloc _ = w0 at *;obtain ⟨c0, c1, c2, c3⟩ := HN.out.cells;go_loopg [7] (ni) (fun g iv wr => ∃ k : Nat, k + g = ni ∧ iv = .int .i64 k ∧ (li.take k).any (zeroP M) = false ∧ w0 = wr);case atStart => exact ⟨0, by omega, rfl, by simp, rfl⟩
 case round =>
  obtain ⟨k, hk, rfl, hno, rfl⟩ := hrel;have HK := hid hk;have HNo := hid hno;have hle : k ≤ ni := by omega
  clear hk hno;by_cases hlt : k < ni
  · have hlt' : k < li.length := by rw [HL.out]; exact hlt
    obtain ⟨ai, rfl, hpi, q0⟩ := HZ.out k hlt';have HTk := hid (List.take_succ_eq_append_getElem hlt');have HMm := hid (List.getElem_mem hlt');obtain ⟨hp0, hp1⟩ := HIn.out _ (List.getElem_mem hlt');generalize li[k] = p at *;clear hlt';obtain ⟨p', rfl⟩ := Int.eq_ofNat_of_zero_le hp0;have hp2 : p' < m := by omega
    have hp2' : p' < M.length := by rw [HM.out]; exact hp2
    obtain ⟨am, rfl, hpm, q5⟩ := HM0.out p' hp2';have HV := hid (show zeroP M (p' : Int) = decide (M[p'] = 0) by unfold zeroP; simp [hp2']);have hxp := HPos.out _ (List.getElem_mem hp2');generalize M[p'] = x at *;clear hp2';by_cases h0 : x = 0
    · have q1 : decide (x < 1) = true := by simp; omega
      have q2 : x < 1 := by omega
      have HW := hid (show R = false by rw [HR.out, List.any_eq_true.2 ⟨_, HMm.out, by rw [HV.out]; exact decide_eq_true h0⟩]; rfl);clear h0;go_wp2_with fail;go_ret;exact ⟨ret_bool HW.out.symm, HB.out⟩
    · have q1 : decide (x < 1) = false := by simp; have := hxp; omega
      rw [decide_eq_false h0] at HV;clear h0;go_wp2_with fail;go_roundg (gk - 1);case measure => have := HK.out; omega
      case rel => exact ⟨k + 1, by have := HK.out; omega, by go_num, by rw [HTk.out, List.any_append, HNo.out]; simp [HV.out], rfl⟩
  · have HE := hid (show R = true by
     have h3 := HNo.out;rw [List.take_of_length_le (by rw [HL.out]; omega)] at h3;rw [HR.out, h3]; rfl)
    go_wp2_with fail;go_ret;exact ⟨ret_bool HE.out.symm, HB.out⟩
end
section
open Go.RowKit

theorem less_parts (a b : Int) : (b = -1 ∧ lessE a b = true) ∨ ((b ≠ -1 ∧ a = -1) ∧ lessE a b = false) ∨ ((b ≠ -1 ∧ a ≠ -1 ∧ b < a) ∧ lessE a b = false) ∨ ((b ≠ -1 ∧ a ≠ -1 ∧ a ≤ b) ∧ lessE a b = true) := by
 unfold lessE;by_cases h1 : b = -1
 · exact .inl ⟨h1, by rw [decide_eq_true h1]; rfl⟩
 by_cases h2 : a = -1
 · exact .inr (.inl ⟨⟨h1, h2⟩, by rw [decide_eq_false h1, decide_eq_false (by omega)]; rfl⟩)
 by_cases h3 : b < a
 · exact .inr (.inr (.inl ⟨⟨h1, h2, h3⟩, by rw [decide_eq_false h1, decide_eq_false (show ¬ a ≤ b by omega), Bool.and_false]; rfl⟩))
 · exact .inr (.inr (.inr ⟨⟨h1, h2, by omega⟩, by rw [decide_eq_true (show a ≤ b by omega), decide_eq_true h2, Bool.and_true, Bool.or_true]⟩))
theorem atM_get {x y : List Int} {k : Nat} (h1 : k < x.length) (h2 : k < y.length) : atM x y k = lessE x[k] y[k] := by unfold atM; simp [h1, h2]
def moreV (x b : Int) : Int := if x = -1 then -1 else x + b
theorem moreV_dec (x : Int) : moreV x (-1) = dec1 x := rfl
theorem moreV_inc (x : Int) : moreV x 1 = inc1 x := rfl
theorem more_any (x b : Int) (w : World) (hx : -1000000000000 ≤ x ∧ x ≤ 1000000000000) (hb : -10 ≤ b ∧ b ≤ 10) : Calls Tryz.prog 223 #[.int .i64 x, .int .i64 b] w fun e w' => e = .returned (.int .i64 (moreV x b)) ∧ Below w.heap.size w w' := by
 by_cases h : x = -1
 · subst h;go_enter Tryz.func223, Tryz.ntmps223;go_wp2_with fail;go_ret;exact ⟨rfl, Below.refl _ _⟩
 · have q1 : (x == -1) = false := by rw [beq_eq_false_iff_ne]; exact h
   have HV := hid (show moreV x b = x + b from if_neg h);clear h;go_enter Tryz.func223, Tryz.ntmps223;go_wp2_with fail;go_ret;exact ⟨ret_int HV.out.symm, Below.refl _ _⟩
theorem below_any (Ax : Option Addr) (n cx : Nat) (Ay : Option Addr) (m cy : Nat) (X Y : List Int) (w : World) (hX : ZIn w Ax X) (hn : X.length = n) (hY : ZIn w Ay Y) (hm : Y.length = m) (hnm : n ≤ m) (hmb : m ≤ 9223372036854775807) :
 Calls Tryz.prog 169 #[.slice Ax n cx, .slice Ay m cy] w fun e w' => e = .returned (.bool (atMost X Y)) ∧ Below w.heap.size w w' := by
 have HX := hid hX;have HY := hid hY;have HN := hid hn;have HM := hid hm;clear hX hY hn hm;go_enter Tryz.func169, Tryz.ntmps169;go_wp2_with fail;go_loopg [8] (n) (fun g iv wr => ∃ k : Nat, k + g = n ∧ iv = .int .i64 k ∧ atMTo X Y k = true ∧ Below w.heap.size w wr);case atStart => exact ⟨0, by omega, rfl, rfl, Below.refl _ _⟩
 case round =>
  obtain ⟨k, hk, rfl, hp, hB⟩ := hrel;have HB := hid hB;have HXr := hid (HX.out.below hB);have HYr := hid (HY.out.below hB);have HK := hid hk;have HP := hid hp;have hle : k ≤ n := by omega
  clear hk hp hB;by_cases hlt : k < n
  · have h1 : k < X.length := by rw [HN.out]; exact hlt
    have h2 : k < Y.length := by rw [HM.out]; omega
    have hlt2 : k < m := by omega
    obtain ⟨ad, rfl, hpa, q0⟩ := HXr.out k h1;obtain ⟨ae, rfl, hpb, q5⟩ := HYr.out k h2;have HNo := hid (atMost_no X Y k h1);have HSu := hid (atMTo_succ X Y k);rw [atM_get h1 h2] at HNo HSu;generalize X[k] = x at *;generalize Y[k] = y at *;clear h1 h2;rcases less_parts x y with ⟨h, hv⟩ | ⟨⟨h, h2⟩, hv⟩ | ⟨⟨h, h2, h3⟩, hv⟩ | ⟨⟨h, h2, h3⟩, hv⟩
    · have q1 : (y != -1) = false := by rw [h]; rfl
      rw [hv, HP.out] at HSu;clear h hv HNo;go_wp2_with fail;go_quiet (fail);go_wp2_with fail;go_roundg (gk - 1);case measure => have := HK.out; omega
      case rel => exact ⟨k + 1, by have := HK.out; omega, by go_num, HSu.out, below_then HB.out (below_drewN _ _)⟩
    · have q1 : (y != -1) = true := by simpa using h
      have q2 : (x == -1) = true := by rw [h2]; rfl
      have HV := hid (HNo.out hv);clear h h2 hv HSu HNo;go_wp2_with fail;go_quiet (fail);go_wp2_with fail;go_ret;exact ⟨ret_bool HV.out.symm, below_then HB.out (below_drewN _ _)⟩
    · have q1 : (y != -1) = true := by simpa using h
      have q2 : (x == -1) = false := by rw [beq_eq_false_iff_ne]; exact h2
      have HV := hid (HNo.out hv);clear h h2 hv HSu HNo;go_wp2_with fail;go_quiet (fail);go_wp2_with fail;go_ret;exact ⟨ret_bool HV.out.symm, below_then HB.out (below_drewN _ _)⟩
    · have q1 : (y != -1) = true := by simpa using h
      have q2 : (x == -1) = false := by rw [beq_eq_false_iff_ne]; exact h2
      have q3 : decide (y < x) = false := by simpa using h3
      rw [hv, HP.out] at HSu;clear h h2 h3 hv HNo;go_wp2_with fail;go_quiet (fail);go_wp2_with fail;go_roundg (gk - 1);case measure => have := HK.out; omega
      case rel => exact ⟨k + 1, by have := HK.out; omega, by go_num, HSu.out, below_then HB.out (below_drewN _ _)⟩
  · have HV := hid (show atMost X Y = true by
     have := HP.out;unfold atMost;rwa [show k = X.length by rw [HN.out]; omega] at this)
    go_wp2_with fail;go_ret;exact ⟨ret_bool HV.out.symm, HB.out⟩
theorem ne_at {X Y : List Int} {k : Nat} (h1 : k < X.length) (h2 : k < Y.length) (h : X[k] ≠ Y[k]) : decide (X = Y) = false := by
 rw [decide_eq_false_iff_not]; rintro rfl; exact h rfl
theorem take_grow {X Y : List Int} {k : Nat} (h1 : k < X.length) (h2 : k < Y.length) (ht : X.take k = Y.take k) (h : X[k] = Y[k]) : X.take (k + 1) = Y.take (k + 1) := by
 rw [List.take_succ_eq_append_getElem h1, List.take_succ_eq_append_getElem h2, ht, h]
theorem same_any (Ax : Option Addr) (n cx : Nat) (Ay : Option Addr) (m cy : Nat) (X Y : List Int) (w : World) (hX : ZIn w Ax X) (hn : X.length = n) (hY : ZIn w Ay Y) (hm : Y.length = m) (hnb : n ≤ 9223372036854775807) :
 Calls Tryz.prog 59 #[.slice Ax n cx, .slice Ay m cy] w fun e w' => e = .returned (.bool (decide (X = Y))) ∧ Below w.heap.size w w' := by
 by_cases hnm : n = m
 · subst hnm;have HX := hid hX;have HY := hid hY;have HN := hid hn;have HM := hid hm;have q1 : ((n : Int) != (n : Int)) = false := bne_self_eq_false _;clear hX hY hn hm;go_enter Tryz.func59, Tryz.ntmps59;go_wp2_with fail;go_loopg [5] (n) (fun g iv wr => ∃ k : Nat, k + g = n ∧ iv = .int .i64 k ∧ X.take k = Y.take k ∧ Below w.heap.size w wr);case atStart => exact ⟨0, by omega, rfl, rfl, Below.refl _ _⟩
   case round =>
    obtain ⟨k, hk, rfl, hp, hB⟩ := hrel;have HB := hid hB;have HXr := hid (HX.out.below hB);have HYr := hid (HY.out.below hB);have HK := hid hk;have HP := hid hp;have hle : k ≤ n := by omega
    clear hk hp hB;by_cases hlt : k < n
    · have h1 : k < X.length := by rw [HN.out]; exact hlt
      have h2 : k < Y.length := by rw [HM.out]; exact hlt
      obtain ⟨ad, rfl, hpa, q0⟩ := HXr.out k h1;obtain ⟨ae, rfl, hpb, q5⟩ := HYr.out k h2;have HNo := hid (ne_at h1 h2);have HSu := hid (take_grow h1 h2 HP.out);generalize X[k] = x at *;generalize Y[k] = y at *;clear h1 h2;by_cases hxy : x = y
      · have HV := hid (HSu.out hxy);subst hxy;have q2 : (x != x) = false := bne_self_eq_false _;clear HSu HNo;go_wp2_with fail;go_quiet (fail);go_wp2_with fail;go_roundg (gk - 1);case measure => have := HK.out; omega
        case rel => exact ⟨k + 1, by have := HK.out; omega, by go_num, HV.out, below_then HB.out (below_drewN _ _)⟩
      · have HV := hid (HNo.out hxy);have q2 : (x != y) = true := by simpa using hxy
        clear HSu HNo hxy;go_wp2_with fail;go_quiet (fail);go_wp2_with fail;go_ret;exact ⟨ret_bool HV.out.symm, below_then HB.out (below_drewN _ _)⟩
    · have HV := hid (show X = Y by
       have := HP.out;rwa [List.take_of_length_le (by rw [HN.out]; omega), List.take_of_length_le (by rw [HM.out]; omega)] at this)
      go_wp2_with fail;go_ret;exact ⟨ret_bool (by rw [decide_eq_true HV.out]), HB.out⟩
 · have q1 : ((n : Int) != (m : Int)) = true := by rw [bne_iff_ne]; omega
   have HV := hid (show decide (X = Y) = false by rw [decide_eq_false_iff_not]; rintro rfl; omega);clear hX hY hn hm hnm;go_enter Tryz.func59, Tryz.ntmps59;go_wp2_with fail;go_ret;exact ⟨ret_bool HV.out.symm, Below.refl _ _⟩
end
end Go.Proofs.YtkhmngljpfibcaaGreatDoor
