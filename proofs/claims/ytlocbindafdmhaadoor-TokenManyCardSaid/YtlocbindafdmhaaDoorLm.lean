/- TokenMany: what a call returns. -/
import Derived.Test.YtlocbindafdmhaaDoorPm
import Derived.Test.YtlocbindafdmhaaDoorShelfL
namespace Go.Proofs.YtlocbindafdmhaaDoor
open Go.RowKit

theorem rep_any (x : Int) (k : Nat) (hx : x = (k : Int)) (hk : k ≤ 6000) (w : World) :
    Calls Tryd.prog 25 #[.string ⟨#[44, 10]⟩, .int .i64 x] w fun e w' => ∃ y : ByteArray, y.data.toList = Lib.repeatL [44, 10] k ∧ e = .returned (.string y) ∧ Below w.heap.size w w' := by
  subst hx
  have h2 : (⟨#[44, 10]⟩ : ByteArray).size = 2 := rfl
  exact (Tryd.strings_Repeat ⟨#[44, 10]⟩ k w (by omega) (by rw [h2]; omega)).mono fun e w' ⟨h1, hb⟩ => ⟨⟨(Lib.repeatL [44, 10] k).toArray⟩, rfl, h1, hb⟩
theorem nil_form {w : World} {b : Nat} {v : Value} (h : w.ownsRow b 33 5 v 0 (tkRow [])) : ∃ o c, v = .slice o 0 c := by
  rcases h.2 with ⟨hv, _⟩ | ⟨g, cap, cur, hv, _⟩
  · exact ⟨none, 0, hv⟩
  · exact ⟨_, _, hv⟩


set_option maxHeartbeats 3200000 in
set_option maxRecDepth 100000 in
theorem many_full_f (n k : Nat) (w : World) (hP : PR w) (hn : n ≤ 65535) (hk : k = n % 6000) (h4 : 4000 < k) (_hk : k ≤ 6000) :
    Calls Tryd.prog 8 #[.int .u16 (n : Int), .bool false] w fun e w' => e = .returned (.bool true) ∧ Below w.heap.size w w' := by
  have HP := Lib.hid hP; clear hP
  have HK := Lib.hid (show (n : Int) % 6000 = (k : Int) by omega)
  have HX := Lib.hid (show tokens (Lib.repeatL [44, 10] k ++ []) = ([], (4001, 1), 5) by rw [many_tokens _ (.inl rfl) k (by omega), if_pos h4])
  have hk6 : k ≤ 6000 := by omega
  clear hk
  go_enter Tryd.func8, Tryd.ntmps8
  go_wp2_with fail
  ((with_reducible refine (awake_any _ HP.out).mono ?_); rintro e w1 ⟨rfl, hb1⟩)
  have HB := Lib.hid hb1
  have HP1 := Lib.hid (HP.out.below hb1)
  clear hb1
  go_wp2_with fail
  ((with_reducible refine (rep_any _ k HK.out hk6 _).mono ?_); rintro e w2 ⟨y, hy, rfl, hb2⟩)
  have HY := Lib.hid hy
  have hys : y.size = 2 * k := by rw [← len_byte, hy, rep_len]
  replace HB := Lib.hid (below_then HB.out hb2)
  have HP2 := Lib.hid (HP1.out.below hb2)
  clear hb2 hy
  rw [HK.out]
  go_wp2_with fail
  ((with_reducible refine (tokens_any y _ HP2.out).mono ?_); rintro e w3 hQ)
  rw [HY.out, show Lib.repeatL [44, 10] k = Lib.repeatL [44, 10] k ++ [] by simp, HX.out] at hQ
  obtain ⟨v, rfl, hown, hb3⟩ := hQ
  simp only at hown
  replace HB := Lib.hid (below_then HB.out hb3)
  clear hb3
  obtain ⟨o, c, rfl⟩ := nil_form hown
  clear hown
  simp only
  go_wp2_with fail
  go_ret
  exact ⟨rfl, below_then HB.out (below_alloc w3 _)⟩

set_option maxHeartbeats 3200000 in
set_option maxRecDepth 100000 in
theorem many_full_t (n k : Nat) (w : World) (hP : PR w) (hn : n ≤ 65535) (hk : k = n % 6000) (h4 : 4000 < k) (_hk : k ≤ 6000) :
    Calls Tryd.prog 8 #[.int .u16 (n : Int), .bool true] w fun e w' => e = .returned (.bool true) ∧ Below w.heap.size w w' := by
  have HP := Lib.hid hP; clear hP
  have HK := Lib.hid (show (n : Int) % 6000 = (k : Int) by omega)
  have HX := Lib.hid (show tokens (Lib.repeatL [44, 10] k ++ [36]) = ([], (4001, 1), 5) by rw [many_tokens _ (.inr rfl) k (by omega), if_pos h4])
  have hk6 : k ≤ 6000 := by omega
  clear hk
  go_enter Tryd.func8, Tryd.ntmps8
  go_wp2_with fail
  ((with_reducible refine (awake_any _ HP.out).mono ?_); rintro e w1 ⟨rfl, hb1⟩)
  have HB := Lib.hid hb1
  have HP1 := Lib.hid (HP.out.below hb1)
  clear hb1
  go_wp2_with fail
  ((with_reducible refine (rep_any _ k HK.out hk6 _).mono ?_); rintro e w2 ⟨y, hy, rfl, hb2⟩)
  have HY := Lib.hid hy
  have hys : y.size = 2 * k := by rw [← len_byte, hy, rep_len]
  replace HB := Lib.hid (below_then HB.out hb2)
  have HP2 := Lib.hid (HP1.out.below hb2)
  clear hb2 hy
  rw [HK.out]
  go_wp2_with fail
  ((with_reducible refine (tokens_any (y ++ ⟨#[36]⟩) _ HP2.out).mono ?_); rintro e w3 hQ)
  rw [cat_list, HY.out, show (⟨#[36]⟩ : ByteArray).data.toList = [36] from rfl, HX.out] at hQ
  obtain ⟨v, rfl, hown, hb3⟩ := hQ
  simp only at hown
  replace HB := Lib.hid (below_then HB.out hb3)
  clear hb3
  obtain ⟨o, c, rfl⟩ := nil_form hown
  clear hown
  simp only
  go_wp2_with fail
  go_ret
  exact ⟨rfl, below_then HB.out (below_alloc w3 _)⟩

set_option maxHeartbeats 3200000 in
set_option maxRecDepth 100000 in
theorem many_bad (n k : Nat) (w : World) (hP : PR w) (hn : n ≤ 65535) (hk : k = n % 6000) (h4 : k ≤ 4000) :
    Calls Tryd.prog 8 #[.int .u16 (n : Int), .bool true] w fun e w' => e = .returned (.bool true) ∧ Below w.heap.size w w' := by
  have HP := Lib.hid hP; clear hP
  have HK := Lib.hid (show (n : Int) % 6000 = (k : Int) by omega)
  have HX := Lib.hid (show tokens (Lib.repeatL [44, 10] k ++ [36]) = ([], (k + 1, 1), 3) by rw [many_tokens _ (.inr rfl) k (by omega), if_neg (by omega), if_neg (by simp)])
  have hk6 : k ≤ 6000 := by omega
  clear hk
  go_enter Tryd.func8, Tryd.ntmps8
  go_wp2_with fail
  ((with_reducible refine (awake_any _ HP.out).mono ?_); rintro e w1 ⟨rfl, hb1⟩)
  have HB := Lib.hid hb1
  have HP1 := Lib.hid (HP.out.below hb1)
  clear hb1
  go_wp2_with fail
  ((with_reducible refine (rep_any _ k HK.out hk6 _).mono ?_); rintro e w2 ⟨y, hy, rfl, hb2⟩)
  have HY := Lib.hid hy
  have hys : y.size = 2 * k := by rw [← len_byte, hy, rep_len]
  replace HB := Lib.hid (below_then HB.out hb2)
  have HP2 := Lib.hid (HP1.out.below hb2)
  clear hb2 hy
  rw [HK.out]
  go_wp2_with fail
  ((with_reducible refine (tokens_any (y ++ ⟨#[36]⟩) _ HP2.out).mono ?_); rintro e w3 hQ)
  rw [cat_list, HY.out, show (⟨#[36]⟩ : ByteArray).data.toList = [36] from rfl, HX.out] at hQ
  obtain ⟨v, rfl, hown, hb3⟩ := hQ
  simp only at hown
  replace HB := Lib.hid (below_then HB.out hb3)
  clear hb3
  obtain ⟨o, c, rfl⟩ := nil_form hown
  clear hown
  simp only
  go_wp2_with fail
  go_ret
  exact ⟨rfl, below_then HB.out (below_alloc w3 _)⟩

set_option maxHeartbeats 3200000 in
set_option maxRecDepth 100000 in
theorem many_ok (n k : Nat) (w : World) (hP : PR w) (hn : n ≤ 65535) (hk : k = n % 6000) (h4 : k ≤ 4000) :
    Calls Tryd.prog 8 #[.int .u16 (n : Int), .bool false] w fun e w' => e = .returned (.bool true) ∧ Below w.heap.size w w' := by
  have HP := Lib.hid hP; clear hP
  have HK := Lib.hid (show (n : Int) % 6000 = (k : Int) by omega)
  have HX := Lib.hid (show tokens (Lib.repeatL [44, 10] k ++ []) = (commas 0 k ++ [(⟨5, [], 0⟩, (k + 1, 1))], (0, 0), 0) by rw [many_tokens _ (.inl rfl) k (by omega), if_neg (by omega), if_pos rfl])
  have hk6 : k ≤ 6000 := by omega
  clear hk
  go_enter Tryd.func8, Tryd.ntmps8
  go_wp2_with fail
  ((with_reducible refine (awake_any _ HP.out).mono ?_); rintro e w1 ⟨rfl, hb1⟩)
  have HB := Lib.hid hb1
  have HP1 := Lib.hid (HP.out.below hb1)
  clear hb1
  go_wp2_with fail
  ((with_reducible refine (rep_any _ k HK.out hk6 _).mono ?_); rintro e w2 ⟨y, hy, rfl, hb2⟩)
  have HY := Lib.hid hy
  have hys : y.size = 2 * k := by rw [← len_byte, hy, rep_len]
  replace HB := Lib.hid (below_then HB.out hb2)
  have HP2 := Lib.hid (HP1.out.below hb2)
  clear hb2 hy
  rw [HK.out]
  go_wp2_with fail
  ((with_reducible refine (tokens_any y _ HP2.out).mono ?_); rintro e w3 hQ)
  rw [HY.out, show Lib.repeatL [44, 10] k = Lib.repeatL [44, 10] k ++ [] by simp, HX.out] at hQ
  obtain ⟨v, rfl, hown, hb3⟩ := hQ
  simp only at hown
  replace HB := Lib.hid (below_then HB.out hb3)
  clear hb3
  rw [commas_len] at hown
  have HO := Lib.hid (hown.alloc (.cells #[.int .i64 0, .int .i64 0] 25))
  obtain ⟨g, c, rfl⟩ : ∃ g c, v = .slice (some ⟨g, 0, none⟩) (k + 1) c := by
    rcases hown.2 with ⟨_, hn0⟩ | ⟨g, cap, cur, hv, _⟩
    · omega
    · exact ⟨g, cap, hv⟩
  obtain ⟨a0, a1, a2, a3, a4⟩ := row_cells (L := commas 0 k ++ [(⟨5, [], 0⟩, (k + 1, 1))]) (by rw [commas_len]; exact HO.out) k _ (commas_last k)
  simp only at a0 a1 a2 a3 a4
  clear hown
  simp only
  go_wp2_with fail
  go_ret
  exact ⟨rfl, below_then HB.out (below_alloc w3 _)⟩

theorem tokenMany_walk (n : Nat) (bad : Bool) (w : World) (hP : PR w) (hn : n ≤ 65535) :
    Calls Tryd.prog 8 #[.int .u16 (n : Int), .bool bad] w fun e w' => e = .returned (.bool true) ∧ Below w.heap.size w w' := by
  by_cases h : 4000 < n % 6000
  · cases bad
    · exact many_full_f n (n % 6000) w hP hn rfl h (by omega)
    · exact many_full_t n (n % 6000) w hP hn rfl h (by omega)
  · cases bad
    · exact many_ok n (n % 6000) w hP hn rfl (by omega)
    · exact many_bad n (n % 6000) w hP hn rfl (by omega)
end Go.Proofs.YtlocbindafdmhaaDoor
