/- word, line, lines of reference 29: what a call returns. -/
import Derived.Test.YtkhmngljpfibcaaGreatDoorPUu
import Derived.Test.YtkhmngljpfibcaaGreatDoorPOj
namespace Go.Proofs.YtkhmngljpfibcaaGreatDoor
set_option maxRecDepth 100000
set_option maxHeartbeats 3200000
open Go.Lib (hid)
open Go.RowKit

theorem bytes_cat (a b : List UInt8) : (⟨a.toArray⟩ : ByteArray) ++ (⟨b.toArray⟩ : ByteArray) = ⟨(a ++ b).toArray⟩ := by
 apply ByteArray.ext; simp
theorem dec_step (n : Int) (h : 9 < n) : Lib.itoa n = Lib.itoa (n / 10) ++ [UInt8.ofNat (48 + (n % 10).toNat)] := by
 obtain ⟨u, rfl⟩ := Int.eq_ofNat_of_zero_le (show 0 ≤ n by omega);have e1 : ((u : Int) / 10) = ((u / 10 : Nat) : Int) := by omega
 have e2 : ((u : Int) % 10).toNat = u % 10 := by omega
 rw [e1, e2, Lib.itoa_nonneg, Lib.itoa_nonneg, Lib.decDigits, dif_neg (by omega)]
theorem dec_last (n : Int) (h0 : 0 ≤ n) (h : n ≤ 9) : Lib.itoa n = [UInt8.ofNat (48 + n.toNat)] := by
 obtain ⟨u, rfl⟩ := Int.eq_ofNat_of_zero_le h0;rw [Lib.itoa_nonneg, Lib.decDigits_one (by omega)]; rfl
theorem dec_nstep (n : Int) (h : n < -9) : Lib.itoa n = Lib.itoa (n.tdiv 10) ++ [UInt8.ofNat (48 + (-(n.tmod 10)).toNat)] := by
 obtain ⟨u, hu⟩ := Int.eq_ofNat_of_zero_le (show 0 ≤ -n by omega);have hn : n = -(u : Int) := by omega
 subst hn;have e1 : (-(u : Int)).tdiv 10 = -((u / 10 : Nat) : Int) := by rw [Int.neg_tdiv]; rfl
 have e2 : (-((-(u : Int)).tmod 10)).toNat = u % 10 := by rw [Int.neg_tmod, Int.neg_neg]; rfl
 rw [e1, e2, Lib.itoa_neg u (by omega), Lib.itoa_neg (u / 10) (by omega), Lib.decDigits, dif_neg (by omega)]; rfl
theorem dec_nlast (n : Int) (h0 : n < 0) (h : -9 ≤ n) : Lib.itoa n = [45, UInt8.ofNat (48 + (-n).toNat)] := by
 obtain ⟨u, hu⟩ := Int.eq_ofNat_of_zero_le (show 0 ≤ -n by omega);have hn : n = -(u : Int) := by omega
 subst hn;rw [Lib.itoa_neg u (by omega), Lib.decDigits_one (by omega)]; simp
theorem enc_dig : ∀ k : Nat, k < 10 → Utf8.encode (48 + (k : Int)) = ⟨([UInt8.ofNat (48 + k)] : List UInt8).toArray⟩ := by
 decide +kernel
theorem enc_of (n : Int) (h0 : 0 ≤ n) (h9 : n ≤ 9) : Utf8.encode (48 + n) = ⟨([UInt8.ofNat (48 + n.toNat)] : List UInt8).toArray⟩ := by
 obtain ⟨k, rfl⟩ := Int.eq_ofNat_of_zero_le h0;exact enc_dig k (by omega)
theorem str_snoc (l : List UInt8) (n : Int) (h0 : 0 ≤ n) (h9 : n ≤ 9) : (⟨l.toArray⟩ : ByteArray) ++ Utf8.encode (48 + n) = ⟨(l ++ [UInt8.ofNat (48 + n.toNat)]).toArray⟩ := by
 rw [enc_of n h0 h9, bytes_cat]
theorem enc_size (n : Int) (h0 : 0 ≤ n) (h9 : n ≤ 9) : (Utf8.encode (48 + n)).size = 1 := by
 rw [enc_of n h0 h9]; rfl
theorem enc_neg (m : Int) (h0 : m ≤ 0) (h9 : -9 ≤ m) : Utf8.encode (48 - m) = ⟨([UInt8.ofNat (48 + (-m).toNat)] : List UInt8).toArray⟩ := by
 have := enc_of (-m) (by omega) (by omega);rw [← this]; congr 1
theorem str_nsnoc (l : List UInt8) (m : Int) (h0 : m ≤ 0) (h9 : -9 ≤ m) : (⟨l.toArray⟩ : ByteArray) ++ Utf8.encode (48 - m) = ⟨(l ++ [UInt8.ofNat (48 + (-m).toNat)]).toArray⟩ := by
 rw [enc_neg m h0 h9, bytes_cat]
theorem enc_nsize (m : Int) (h0 : m ≤ 0) (h9 : -9 ≤ m) : (Utf8.encode (48 - m)).size = 1 := by
 rw [enc_neg m h0 h9]; rfl
theorem tmod_ten (n : Int) (h : n < 0) : -9 ≤ n.tmod 10 ∧ n.tmod 10 ≤ 0 := by
 have h1 := Int.lt_tmod_of_pos n (show (0 : Int) < 10 by decide);have h2 : (-n).tmod 10 = -(n.tmod 10) := Int.neg_tmod n 10;have h3 := Int.tmod_nonneg 10 (show 0 ≤ -n by omega);omega
theorem tdiv_ten (n : Int) : (n.tdiv 10).natAbs = n.natAbs / 10 := by
 rw [Int.natAbs_tdiv]; rfl
theorem decimal_any (k : Nat) : ∀ (n : Int) (w : World), n.natAbs < 10 ^ k → -9223372036854775808 ≤ n → n ≤ 9223372036854775807 →
 Calls Tryz.prog 180 #[.int .i64 n] w fun e w' => e = .returned (.string ⟨(Lib.itoa n).toArray⟩) ∧ w = w' := by
 induction k with
 | zero =>
  intro n w hk h1 h2;have hn0 : n = 0 := by simp at hk; omega
  have h0 : 0 ≤ n := by omega
  have h9 : n ≤ 9 := by omega
  have HT := hid (dec_last n h0 h9);clear hn0 hk;go_enter Tryz.func180, Tryz.ntmps180;go_wp2_with fail;go_ret;exact ⟨ret_str (by rw [HT.out]; exact enc_of n h0 h9), rfl⟩
 | succ k ih =>
  intro n w hk h1 h2;have IH := hid ih; clear ih;by_cases h0 : 0 ≤ n
  · by_cases h9 : n ≤ 9
    · have HT := hid (dec_last n h0 h9);clear hk;go_enter Tryz.func180, Tryz.ntmps180;go_wp2_with fail;go_ret;exact ⟨ret_str (by rw [HT.out]; exact enc_of n h0 h9), rfl⟩
    · have HT := hid (dec_step n (by omega));have hl := Lib.itoa_length_le (n / 10) (by omega) (by omega);have hm0 : 0 ≤ n % 10 := by omega
      have hm9 : n % 10 ≤ 9 := by omega
      have hsz := enc_size (n % 10) hm0 hm9;have HK := hid (show (n / 10).natAbs < 10 ^ k by rw [Nat.pow_succ] at hk; omega);clear hk;go_enter Tryz.func180, Tryz.ntmps180;go_wp2_with fail;((with_reducible refine (IH.out (n / 10) _ HK.out (by omega) (by omega)).mono ?_); rintro e w1 ⟨rfl, rfl⟩)
      generalize Lib.itoa (n / 10) = t at *;go_wp2_with fail;go_ret;exact ⟨ret_str (by rw [HT.out]; exact str_snoc t (n % 10) hm0 hm9), rfl⟩
  · by_cases h9 : -9 ≤ n
    · have HT := hid (dec_nlast n (by omega) h9);have hsz := enc_nsize n (by omega) h9;clear hk;go_enter Tryz.func180, Tryz.ntmps180;go_wp2_with fail;go_ret;exact ⟨ret_str (by rw [HT.out]; exact str_nsnoc [45] n (by omega) h9), rfl⟩
    · have HT := hid (dec_nstep n (by omega));obtain ⟨m1, m2⟩ := tmod_ten n (by omega);have hq := tdiv_ten n;have hq1 : -9223372036854775808 ≤ n.tdiv 10 := by omega
      have hq2 : n.tdiv 10 ≤ 9223372036854775807 := by omega
      have hl := Lib.itoa_length_le (n.tdiv 10) hq1 hq2;have hsz := enc_nsize (n.tmod 10) m2 m1;have HK := hid (show (n.tdiv 10).natAbs < 10 ^ k by rw [Nat.pow_succ] at hk; omega);clear hk hq;have h9' : n < -9 := by omega
      go_enter Tryz.func180, Tryz.ntmps180;go_wp2_with fail;((with_reducible refine (IH.out (n.tdiv 10) _ HK.out (by omega) (by omega)).mono ?_); rintro e w1 ⟨rfl, rfl⟩)
      generalize Lib.itoa (n.tdiv 10) = t at *;go_wp2_with fail;go_ret;exact ⟨ret_str (by rw [HT.out]; exact str_nsnoc t (n.tmod 10) m2 m1), rfl⟩
theorem rword29_any (i : Nat) (hi : i < 10) (w : World) : Calls Tryz.prog 105 #[.int .i64 ((i : Int) + 1)] w fun e w' => e = .returned (.string (wordS i)) ∧ Below w.heap.size w w' := by
 match i, hi with
 | 0, _ =>
  go_enter Tryz.func105, Tryz.ntmps105;go_wp2_with fail;go_ret;exact ⟨rfl, below_alloc _ _⟩
 | 1, _ =>
  go_enter Tryz.func105, Tryz.ntmps105;go_wp2_with fail;go_ret;exact ⟨rfl, below_alloc _ _⟩
 | 2, _ =>
  go_enter Tryz.func105, Tryz.ntmps105;go_wp2_with fail;go_ret;exact ⟨rfl, below_alloc _ _⟩
 | 3, _ =>
  go_enter Tryz.func105, Tryz.ntmps105;go_wp2_with fail;go_ret;exact ⟨rfl, below_alloc _ _⟩
 | 4, _ =>
  go_enter Tryz.func105, Tryz.ntmps105;go_wp2_with fail;go_ret;exact ⟨rfl, below_alloc _ _⟩
 | 5, _ =>
  go_enter Tryz.func105, Tryz.ntmps105;go_wp2_with fail;go_ret;exact ⟨rfl, below_alloc _ _⟩
 | 6, _ =>
  go_enter Tryz.func105, Tryz.ntmps105;go_wp2_with fail;go_ret;exact ⟨rfl, below_alloc _ _⟩
 | 7, _ =>
  go_enter Tryz.func105, Tryz.ntmps105;go_wp2_with fail;go_ret;exact ⟨rfl, below_alloc _ _⟩
 | 8, _ =>
  go_enter Tryz.func105, Tryz.ntmps105;go_wp2_with fail;go_ret;exact ⟨rfl, below_alloc _ _⟩
 | 9, _ =>
  go_enter Tryz.func105, Tryz.ntmps105;go_wp2_with fail;go_ret;exact ⟨rfl, below_alloc _ _⟩
theorem cat_data (a b : ByteArray) : (a ++ b).data.toList = a.data.toList ++ b.data.toList := by simp [ByteArray.data_append]
theorem bytes_of {a : ByteArray} {l : List UInt8} (h : a.data.toList = l) : a = ⟨l.toArray⟩ := by
 subst h; apply ByteArray.ext; simp
def LnPo (bad : Bool) (t : List UInt8) (w : World) (e : Ending) (w' : World) : Prop :=
 ∃ y : ByteArray, e = .returned (.tuple #[.string y, .bool (!bad)]) ∧ (bad = false → y.data.toList = t) ∧ y.size ≤ t.length ∧ w = w'
theorem LnPo.no {bad : Bool} {t : List UInt8} {w : World} (h : bad = true) : LnPo bad t w (.returned (.tuple #[.string ⟨#[]⟩, .bool false])) w := by
 subst h;exact ⟨⟨#[]⟩, rfl, fun h => (by cases h), Nat.zero_le _, rfl⟩
theorem LnPo.yes {bad : Bool} {t : List UInt8} {w : World} {y : ByteArray} (h : bad = false) (ht : y.data.toList = t) : LnPo bad t w (.returned (.tuple #[.string y, .bool true])) w := by
 subst h;exact ⟨y, rfl, fun _ => ht, by rw [← ht, len_byte]; exact Nat.le_refl _, rfl⟩
theorem rline29_any (s : ByteArray) (A : Option Addr) (n c : Nat) (L : List Int) (w : World) (hZ : ZIn w A L) (hn : L.length = n) (hi : i64s L) (hlen : s.size + 22 * n ≤ 100000000000) :
 Calls Tryz.prog 114 #[.string s, .slice A n c] w (LnPo (L.any bigI) (lineL s.data.toList L) w) := by
 have HZ := hid hZ;have HN := hid hn;have HI := hid hi;have HSs := hid hlen;have hnb : n ≤ 100000000000 := by omega
 clear hZ hn hi hlen;go_enter Tryz.func114, Tryz.ntmps114;go_wp2_with fail;go_loopg [0, 7] (n) (fun g sv iv wr => ∃ (k : Nat) (acc : ByteArray), k + g = n ∧ iv = .int .i64 (k : Int) ∧ sv = .string acc ∧ acc.data.toList = s.data.toList ++ (L.take k).flatMap numT ∧ (L.take k).any bigI = false ∧ w = wr);case atStart => exact ⟨0, s, by omega, rfl, rfl, by simp, rfl, rfl⟩
 case round =>
  obtain ⟨k, acc, hk, rfl, rfl, ha, hb, rfl⟩ := hrel;have HK := hid hk;have HA := hid ha;have HBg := hid hb;have hle : k ≤ n := by omega
  have hal : acc.size ≤ 100000000000 := by
   have h1 := numT_len (L.take k) (i64s_take HI.out k);have h2 := congrArg List.length ha;rw [len_byte, List.length_append, len_byte] at h2;have h3 := HSs.out;have h4 : (L.take k).length ≤ n := by rw [List.length_take]; omega
   omega
  clear hk ha hb;by_cases hlt : k < n
  · have hlt' : k < L.length := by rw [HN.out]; exact hlt
    obtain ⟨ad, rfl, hpa, q0⟩ := HZ.out k hlt';have HE := hid (numT_snoc L k hlt');have HAn := hid (any_big L k hlt');have HBt := hid (show bigI L[k] = true → L.any bigI = true from fun h => List.any_eq_true.2 ⟨_, List.getElem_mem hlt', h⟩);generalize L[k] = x at *;have bshow : ∀ d1 d2 : Bool, decide (x < -1048576) = d1 → decide (1048576 < x) = d2 → bigI x = (d1 || d2) := fun d1 d2 h1 h2 => by unfold bigI; rw [h1, h2]
    have HSh := hid bshow;clear bshow hlt';by_cases hx1 : x < -1048576
    · have p1 : decide (x < -1048576) = true := by simpa using hx1
      have HQ := hid (HBt.out (by rw [HSh.out _ _ p1 rfl]; rfl));clear hx1;go_wp2_with fail;go_ret2;exact LnPo.no HQ.out
    have p1 : decide (x < -1048576) = false := by simpa using hx1
    by_cases hx2 : 1048576 < x
    · have p2 : decide (1048576 < x) = true := by simpa using hx2
      have HQ := hid (HBt.out (by rw [HSh.out _ _ rfl p2]; simp));clear hx1 hx2;go_wp2_with fail;go_ret2;exact LnPo.no HQ.out
    have p2 : decide (1048576 < x) = false := by simpa using hx2
    have HQ := hid (show bigI x = false by rw [HSh.out _ _ p1 p2]; rfl);have hxl := Lib.itoa_length_le x (by omega) (by omega);have HD := hid (fun w => decimal_any 10 x w (by omega) (by omega) (by omega));obtain ⟨y, hy⟩ : ∃ y : ByteArray, y = ⟨(Lib.itoa x).toArray⟩ := ⟨_, rfl⟩;have HYd := hid (show y.data.toList = Lib.itoa x by rw [hy]);have hys : y.size ≤ 21 := by rw [hy]; show (Lib.itoa x).toArray.size ≤ 21; rw [List.size_toArray]; exact hxl
    rw [← hy] at HD;clear hy hxl hx1 hx2;go_wp2_with fail;((with_reducible refine (HD.out _).mono ?_); rintro e w1 ⟨rfl, rfl⟩)
    go_wp2_with fail;go_roundg (gk - 1);case measure => have := HK.out; omega
    case rel =>
     refine ⟨k + 1, _, by have := HK.out; omega, by go_num, rfl, ?_, by rw [HAn.out, HBg.out, HQ.out]; rfl, rfl⟩;rw [HE.out, cat_data, cat_data, HA.out, HYd.out];unfold numT;simp
  · have HX := hid (show L.take k = L from List.take_of_length_le (by rw [HN.out]; omega));rw [HX.out] at HA HBg;go_wp2_with fail;go_ret2;exact LnPo.yes HBg.out (by rw [cat_data, HA.out]; unfold lineL; simp)
theorem rlines29_any (m : Nat) (s : ByteArray) (A : Option Addr) (n c : Nat) (LL : List (List Int)) (w : World) (hL : LIn w A LL) (hn : LL.length = n) (hn2 : n ≤ 3000) (hm : m ≤ 3000) (hi : ∀ l ∈ LL, i64s l ∧ l.length ≤ m) (hs : s.size ≤ 1000) :
 Calls Tryz.prog 115 #[.string s, .slice A n c] w (LnPo (anyB LL) (linesL s.data.toList LL) w) := by
 have HL := hid hL;have HN := hid hn;have HI := hid hi;clear hL hn hi;go_enter Tryz.func115, Tryz.ntmps115;go_wp2_with fail;go_loopg [6, 7] (n) (fun g sv iv wr => ∃ (k : Nat) (acc : ByteArray), k + g = n ∧ iv = .int .i64 (k : Int) ∧ sv = .string acc ∧ acc.data.toList = linesL s.data.toList (LL.take k) ∧ anyB (LL.take k) = false ∧ w = wr);case atStart => exact ⟨0, ⟨#[]⟩, by omega, rfl, rfl, rfl, rfl, rfl⟩
 case round =>
  obtain ⟨k, acc, hk, rfl, rfl, ha, hb, rfl⟩ := hrel;have HK := hid hk;have HA := hid ha;have HBg := hid hb;have hle : k ≤ n := by omega
  have hal : acc.size ≤ 201003000 := by
   have h1 := lines_len s.data.toList m (LL.take k) (fun l hl => HI.out l (List.mem_of_mem_take hl));have h2 := congrArg List.length ha;rw [len_byte] at h2;have h4 : (LL.take k).length ≤ 3000 := by rw [List.length_take]; omega
   have h5 : (LL.take k).length * (s.data.toList.length + 22 * m + 1) ≤ 3000 * 67001 := Nat.mul_le_mul h4 (by rw [len_byte]; omega);omega
  clear hk ha hb;by_cases hlt : k < n
  · have hlt' : k < LL.length := by rw [HN.out]; exact hlt
    obtain ⟨ad, rfl, hpa, u, q0, Al, nl, cl, rfl, z0, h1, h2, h3⟩ := HL.out k hlt';have HE := hid (lines_snoc s.data.toList LL k hlt');have HAn := hid (show anyB (LL.take (k + 1)) = (anyB (LL.take k) || LL[k].any bigI) from any_bigs LL k hlt');have HBt := hid (show LL[k].any bigI = true → anyB LL = true from fun h => List.any_eq_true.2 ⟨_, List.getElem_mem hlt', h⟩);have hil := HI.out _ (List.getElem_mem hlt');have HCl := hid (rline29_any s Al nl cl LL[k] w z0 h1 hil.1 (by omega));have hlen := lineL_len s.data.toList LL[k] hil.1;have hyl : (lineL s.data.toList LL[k]).length ≤ 67001 := by rw [len_byte] at hlen; have := hil.2; omega
    generalize LL[k] = l0 at *;clear z0 h1 hil hlt' hlen;cases hbb : l0.any bigI with
    | true =>
     rw [hbb] at HCl;have HQ := hid (HBt.out hbb);clear hbb;go_wp2_with fail;((with_reducible refine HCl.out.mono ?_); rintro e w1 ⟨y, rfl, _, hy, rfl⟩)
     go_wp2_with fail;go_ret2;exact LnPo.no HQ.out
    | false =>
     rw [hbb] at HCl HAn;clear hbb;go_wp2_with fail;((with_reducible refine HCl.out.mono ?_); rintro e w1 ⟨y, rfl, hyd, hy, rfl⟩)
     have HYd := hid (hyd rfl);have hys : y.size ≤ 67001 := Nat.le_trans hy hyl;clear hyd hy;go_wp2_with fail;go_roundg (gk - 1);case measure => have := HK.out; omega
     case rel => exact ⟨k + 1, _, by have := HK.out; omega, by go_num, rfl, by rw [HE.out, cat_data, HA.out, HYd.out], by rw [HAn.out, HBg.out]; rfl, rfl⟩
  · have HX := hid (show LL.take k = LL from List.take_of_length_le (by rw [HN.out]; omega));rw [HX.out] at HA HBg;go_wp2_with fail;go_ret2;exact LnPo.yes HBg.out HA.out
end Go.Proofs.YtkhmngljpfibcaaGreatDoor
