/- Decimal and Text of the reference: what a call returns. -/
import Derived.Test.YtbdihcpehadbjaaDoorFi
namespace Go.Proofs.YtbdihcpehadbjaaDoor
open Go.RowKit

theorem dec_step (n : Int) (h : 9 < n) : Lib.itoa n = Lib.itoa (n / 10) ++ [UInt8.ofNat (48 + (n % 10).toNat)] := by
  obtain ⟨u, rfl⟩ := Int.eq_ofNat_of_zero_le (show 0 ≤ n by omega)
  have e1 : ((u : Int) / 10) = ((u / 10 : Nat) : Int) := by omega
  have e2 : ((u : Int) % 10).toNat = u % 10 := by omega
  rw [e1, e2, Lib.itoa_nonneg, Lib.itoa_nonneg, Lib.decDigits, dif_neg (by omega)]
theorem dec_last (n : Int) (h0 : 0 ≤ n) (h : n ≤ 9) : Lib.itoa n = [UInt8.ofNat (48 + n.toNat)] := by
  obtain ⟨u, rfl⟩ := Int.eq_ofNat_of_zero_le h0
  rw [Lib.itoa_nonneg, Lib.decDigits_one (by omega)]; rfl
theorem dec_nstep (n : Int) (h : n < -9) : Lib.itoa n = Lib.itoa (n.tdiv 10) ++ [UInt8.ofNat (48 + (-(n.tmod 10)).toNat)] := by
  obtain ⟨u, hu⟩ := Int.eq_ofNat_of_zero_le (show 0 ≤ -n by omega)
  have hn : n = -(u : Int) := by omega
  subst hn
  have e1 : (-(u : Int)).tdiv 10 = -((u / 10 : Nat) : Int) := by rw [Int.neg_tdiv]; rfl
  have e2 : (-((-(u : Int)).tmod 10)).toNat = u % 10 := by rw [Int.neg_tmod, Int.neg_neg]; rfl
  rw [e1, e2, Lib.itoa_neg u (by omega), Lib.itoa_neg (u / 10) (by omega), Lib.decDigits, dif_neg (by omega)]; rfl
theorem dec_nlast (n : Int) (h0 : n < 0) (h : -9 ≤ n) : Lib.itoa n = [45, UInt8.ofNat (48 + (-n).toNat)] := by
  obtain ⟨u, hu⟩ := Int.eq_ofNat_of_zero_le (show 0 ≤ -n by omega)
  have hn : n = -(u : Int) := by omega
  subst hn
  rw [Lib.itoa_neg u (by omega), Lib.decDigits_one (by omega)]; simp

theorem enc_dig : ∀ k : Nat, k < 10 → Utf8.encode (48 + (k : Int)) = ⟨([UInt8.ofNat (48 + k)] : List UInt8).toArray⟩ := by
  decide +kernel
theorem enc_of (n : Int) (h0 : 0 ≤ n) (h9 : n ≤ 9) : Utf8.encode (48 + n) = ⟨([UInt8.ofNat (48 + n.toNat)] : List UInt8).toArray⟩ := by
  obtain ⟨k, rfl⟩ := Int.eq_ofNat_of_zero_le h0
  exact enc_dig k (by omega)
theorem ret_str {a b : ByteArray} (h : a = b) : Ending.returned (.string a) = .returned (.string b) := by rw [h]
theorem str_snoc (l : List UInt8) (n : Int) (h0 : 0 ≤ n) (h9 : n ≤ 9) : (⟨l.toArray⟩ : ByteArray) ++ Utf8.encode (48 + n) = ⟨(l ++ [UInt8.ofNat (48 + n.toNat)]).toArray⟩ := by
  rw [enc_of n h0 h9, bytes_cat]
theorem enc_size (n : Int) (h0 : 0 ≤ n) (h9 : n ≤ 9) : (Utf8.encode (48 + n)).size = 1 := by
  rw [enc_of n h0 h9]; rfl

theorem enc_neg (m : Int) (h0 : m ≤ 0) (h9 : -9 ≤ m) : Utf8.encode (48 - m) = ⟨([UInt8.ofNat (48 + (-m).toNat)] : List UInt8).toArray⟩ := by
  have := enc_of (-m) (by omega) (by omega)
  rw [← this]; congr 1
theorem str_nsnoc (l : List UInt8) (m : Int) (h0 : m ≤ 0) (h9 : -9 ≤ m) : (⟨l.toArray⟩ : ByteArray) ++ Utf8.encode (48 - m) = ⟨(l ++ [UInt8.ofNat (48 + (-m).toNat)]).toArray⟩ := by
  rw [enc_neg m h0 h9, bytes_cat]
theorem enc_nsize (m : Int) (h0 : m ≤ 0) (h9 : -9 ≤ m) : (Utf8.encode (48 - m)).size = 1 := by
  rw [enc_neg m h0 h9]; rfl
theorem tmod_ten (n : Int) (h : n < 0) : -9 ≤ n.tmod 10 ∧ n.tmod 10 ≤ 0 := by
  have h1 := Int.lt_tmod_of_pos n (show (0 : Int) < 10 by decide)
  have h2 : (-n).tmod 10 = -(n.tmod 10) := Int.neg_tmod n 10
  have h3 := Int.tmod_nonneg 10 (show 0 ≤ -n by omega)
  omega
theorem tdiv_ten (n : Int) : (n.tdiv 10).natAbs = n.natAbs / 10 := by
  rw [Int.natAbs_tdiv]; rfl

set_option maxHeartbeats 800000 in
theorem decimal_any (k : Nat) : ∀ (n : Int) (w : World), n.natAbs < 10 ^ k → -9223372036854775808 ≤ n → n ≤ 9223372036854775807 →
    Calls Tryd.prog 49 #[.int .i64 n] w fun e w' => e = .returned (.string ⟨(Lib.itoa n).toArray⟩) ∧ w = w' := by
  induction k with
  | zero =>
    intro n w hk h1 h2
    have hn0 : n = 0 := by simp at hk; omega
    have h0 : 0 ≤ n := by omega
    have h9 : n ≤ 9 := by omega
    have HT := Lib.hid (dec_last n h0 h9)
    clear hn0 hk
    go_enter Tryd.func49, Tryd.ntmps49
    go_wp2_with fail
    go_ret
    exact ⟨ret_str (by rw [HT.out]; exact enc_of n h0 h9), rfl⟩
  | succ k ih =>
    intro n w hk h1 h2
    have IH := Lib.hid ih; clear ih
    by_cases h0 : 0 ≤ n
    · by_cases h9 : n ≤ 9
      · have HT := Lib.hid (dec_last n h0 h9)
        clear hk
        go_enter Tryd.func49, Tryd.ntmps49
        go_wp2_with fail
        go_ret
        exact ⟨ret_str (by rw [HT.out]; exact enc_of n h0 h9), rfl⟩
      · have HT := Lib.hid (dec_step n (by omega))
        have hl := Lib.itoa_length_le (n / 10) (by omega) (by omega)
        have hm0 : 0 ≤ n % 10 := by omega
        have hm9 : n % 10 ≤ 9 := by omega
        have hsz := enc_size (n % 10) hm0 hm9
        have HK := Lib.hid (show (n / 10).natAbs < 10 ^ k by rw [Nat.pow_succ] at hk; omega)
        clear hk
        go_enter Tryd.func49, Tryd.ntmps49
        go_wp2_with fail
        ((with_reducible refine (IH.out (n / 10) _ HK.out (by omega) (by omega)).mono ?_); rintro e w1 ⟨rfl, rfl⟩)
        generalize Lib.itoa (n / 10) = t at *
        go_wp2_with fail
        go_ret
        exact ⟨ret_str (by rw [HT.out]; exact str_snoc t (n % 10) hm0 hm9), rfl⟩
    · by_cases h9 : -9 ≤ n
      · have HT := Lib.hid (dec_nlast n (by omega) h9)
        have hsz := enc_nsize n (by omega) h9
        clear hk
        go_enter Tryd.func49, Tryd.ntmps49
        go_wp2_with fail
        go_ret
        exact ⟨ret_str (by rw [HT.out]; exact str_nsnoc [45] n (by omega) h9), rfl⟩
      · have HT := Lib.hid (dec_nstep n (by omega))
        obtain ⟨m1, m2⟩ := tmod_ten n (by omega)
        have hq := tdiv_ten n
        have hq1 : -9223372036854775808 ≤ n.tdiv 10 := by omega
        have hq2 : n.tdiv 10 ≤ 9223372036854775807 := by omega
        have hl := Lib.itoa_length_le (n.tdiv 10) hq1 hq2
        have hsz := enc_nsize (n.tmod 10) m2 m1
        have HK := Lib.hid (show (n.tdiv 10).natAbs < 10 ^ k by rw [Nat.pow_succ] at hk; omega)
        clear hk hq
        have h9' : n < -9 := by omega
        go_enter Tryd.func49, Tryd.ntmps49
        go_wp2_with fail
        ((with_reducible refine (IH.out (n.tdiv 10) _ HK.out (by omega) (by omega)).mono ?_); rintro e w1 ⟨rfl, rfl⟩)
        generalize Lib.itoa (n.tdiv 10) = t at *
        go_wp2_with fail
        go_ret
        exact ⟨ret_str (by rw [HT.out]; exact str_nsnoc t (n.tmod 10) m2 m1), rfl⟩

set_option maxHeartbeats 800000 in
theorem rtext_any (n d : Int) (w : World) (hv : vldB n d = true) :
    Calls Tryd.prog 38 #[.agg #[.int .i64 n, .int .i64 d]] w fun e w' => e = .returned (.string ⟨(textv n d).toArray⟩) ∧ Below w.heap.size w w' := by
  obtain ⟨p1, p2, p3, p4, p5⟩ := vldB_parts hv
  clear p5
  have HN := Lib.hid (show n.natAbs < 10 ^ 10 by omega)
  have HD := Lib.hid (show d.natAbs < 10 ^ 10 by omega)
  have ln := Lib.itoa_length_le n (by omega) (by omega)
  have ld := Lib.itoa_length_le d (by omega) (by omega)
  by_cases hd : d = 1
  · have hdb : (d != 1) = false := by simp [hd]
    have HT := Lib.hid (show textv n d = Lib.itoa n by unfold textv; rw [if_pos hd])
    clear hd
    go_enter Tryd.func38, Tryd.ntmps38
    go_wp2_with fail
    ((with_reducible refine (decimal_any 10 n _ HN.out (by omega) (by omega)).mono ?_); rintro e w1 ⟨rfl, rfl⟩)
    go_wp2_with fail
    go_ret
    exact ⟨ret_str (by rw [HT.out]), (Below.refl _ _).alloc (Nat.le_refl _) _⟩
  · have hdb : (d != 1) = true := by simp [hd]
    have HT := Lib.hid (show textv n d = Lib.itoa n ++ (47 :: Lib.itoa d) by unfold textv; rw [if_neg hd])
    clear hd
    go_enter Tryd.func38, Tryd.ntmps38
    go_wp2_with fail
    ((with_reducible refine (decimal_any 10 n _ HN.out (by omega) (by omega)).mono ?_); rintro e w1 ⟨rfl, rfl⟩)
    generalize Lib.itoa n = tn at *
    go_wp2_with fail
    ((with_reducible refine (decimal_any 10 d _ HD.out (by omega) (by omega)).mono ?_); rintro e w1 ⟨rfl, rfl⟩)
    generalize Lib.itoa d = td at *
    go_wp2_with fail
    go_ret
    refine ⟨ret_str (b := ⟨(textv n d).toArray⟩) ?_, (Below.refl _ _).alloc (Nat.le_refl _) _⟩
    rw [HT.out, show (⟨#[47]⟩ : ByteArray) = ⟨([47] : List UInt8).toArray⟩ from rfl, bytes_cat, bytes_cat]
    simp
end Go.Proofs.YtbdihcpehadbjaaDoor
