/- blank, Place, skip of the reference: what a call returns. -/
import Derived.Test.YtlocbindafdmhaaDoorKq
namespace Go.Proofs.YtlocbindafdmhaaDoor
open Go.RowKit

theorem bl_is (c : UInt8) (h : (c.toNat : Int) = 32 ∨ (c.toNat : Int) = 9 ∨ (c.toNat : Int) = 10 ∨ (c.toNat : Int) = 13) : isBl c = true := by unfold isBl; simp; omega
theorem bl_no (c : UInt8) (h : (c.toNat : Int) ≠ 32 ∧ (c.toNat : Int) ≠ 9 ∧ (c.toNat : Int) ≠ 10 ∧ (c.toNat : Int) ≠ 13) : isBl c = false := by unfold isBl; simp; omega
theorem rblank_any (c : UInt8) (w : World) : Calls Tryd.prog 63 #[.int .u8 (c.toNat : Int)] w fun e w' => e = .returned (.bool (isBl c)) ∧ w = w' := by
  by_cases h1 : (c.toNat : Int) = 32
  · have HV := Lib.hid (bl_is c (.inl h1))
    have q1 : ((c.toNat : Int) == 32) = true := by rw [h1]; rfl
    clear h1
    go_enter Tryd.func63, Tryd.ntmps63
    go_wp2_with fail
    go_ret
    exact ⟨ret_bool HV.out.symm, rfl⟩
  have q1 : ((c.toNat : Int) == 32) = false := by simp; omega
  by_cases h2 : (c.toNat : Int) = 9
  · have HV := Lib.hid (bl_is c (.inr (.inl h2)))
    have q2 : ((c.toNat : Int) == 9) = true := by rw [h2]; rfl
    clear h1 h2
    go_enter Tryd.func63, Tryd.ntmps63
    go_wp2_with fail
    go_ret
    exact ⟨ret_bool HV.out.symm, rfl⟩
  have q2 : ((c.toNat : Int) == 9) = false := by simp; omega
  by_cases h3 : (c.toNat : Int) = 10
  · have HV := Lib.hid (bl_is c (.inr (.inr (.inl h3))))
    have q3 : ((c.toNat : Int) == 10) = true := by rw [h3]; rfl
    clear h1 h2 h3
    go_enter Tryd.func63, Tryd.ntmps63
    go_wp2_with fail
    go_ret
    exact ⟨ret_bool HV.out.symm, rfl⟩
  have q3 : ((c.toNat : Int) == 10) = false := by simp; omega
  by_cases h4 : (c.toNat : Int) = 13
  · have HV := Lib.hid (bl_is c (.inr (.inr (.inr h4))))
    have q4 : ((c.toNat : Int) == 13) = true := by rw [h4]; rfl
    clear h1 h2 h3 h4
    go_enter Tryd.func63, Tryd.ntmps63
    go_wp2_with fail
    go_ret
    exact ⟨ret_bool HV.out.symm, rfl⟩
  · have HV := Lib.hid (bl_no c ⟨h1, h2, h3, h4⟩)
    have q4 : ((c.toNat : Int) == 13) = false := by simp; omega
    clear h1 h2 h3 h4
    go_enter Tryd.func63, Tryd.ntmps63
    go_wp2_with fail
    go_ret
    exact ⟨ret_bool HV.out.symm, rfl⟩

/-- the world inside Place -/
def PlW (w : World) (q : Nat × Nat) : World := (w.alloc (.cells #[.int .i64 0, .int .i64 0] 25)).alloc (.cells #[.int .i64 (q.1 : Int), .int .i64 (q.2 : Int)] 25)
set_option maxHeartbeats 1600000 in
set_option maxRecDepth 100000 in
theorem place_any (s : ByteArray) (n : Nat) (w : World) (hn : n ≤ s.size) (hs : s.size ≤ 1099511627776) :
    Calls Tryd.prog 33 #[.string s, .int .i64 n] w fun e w' => e = .returned (.agg #[.int .i64 ((advs (1, 1) (s.data.toList.take n)).1 : Int), .int .i64 ((advs (1, 1) (s.data.toList.take n)).2 : Int)]) ∧ Below w.heap.size w w' := by
  go_enter Tryd.func33, Tryd.ntmps33
  go_wp2_with fail
  go_loopg [6] (n) (fun g i wr => ∃ k : Nat, k + g = n ∧ i = .int .i64 k ∧ wr = PlW w (advs (1, 1) (s.data.toList.take k)))
  case atStart => exact ⟨0, by omega, rfl, rfl⟩
  case round =>
    obtain ⟨k, hk, rfl, rfl⟩ := hrel
    obtain ⟨a0, a2, a1⟩ := advs_le1 (s.data.toList.take k) (1, 1) (Nat.le_refl _)
    have hll : (s.data.toList.take k).length ≤ k := List.length_take_le _ _
    have HT := Lib.hid (fun hlt : k < s.data.toList.length => advs_take (1, 1) s.data.toList k hlt)
    generalize hQ : advs (1, 1) (s.data.toList.take k) = q at *
    have HQ := Lib.hid hQ; clear hQ
    have HK := Lib.hid hk
    have hkn : k ≤ n := by omega
    clear hk
    simp only at a1 a2
    have b1 : q.1 ≤ 1099511627777 := by omega
    have b2 : q.2 ≤ 1099511627777 := by omega
    clear a0 a1 a2 hll
    unfold PlW
    by_cases hlt : k < n
    · have hlt' : k < s.size := by omega
      by_cases h10 : (s[k].toNat : Int) = 10
      · have hq : ((s[k].toNat : Int) == 10) = true := by simp [h10]
        have HA := Lib.hid (adv_nl q s[k] h10)
        clear h10
        go_wp2_with fail
        go_roundg (gk - 1)
        case measure => have := HK.out; omega
        case rel =>
          refine ⟨k + 1, by have := HK.out; omega, by go_num, ?_⟩
          rw [HT.out (by simpa using hlt'), get_byte s k hlt', HA.out]
          rfl
      · have hq : ((s[k].toNat : Int) == 10) = false := by simp [h10]
        have HA := Lib.hid (adv_no q s[k] h10)
        clear h10
        go_wp2_with fail
        go_roundg (gk - 1)
        case measure => have := HK.out; omega
        case rel =>
          refine ⟨k + 1, by have := HK.out; omega, by go_num, ?_⟩
          rw [HT.out (by simpa using hlt'), get_byte s k hlt', HA.out]
          rfl
    · obtain rfl : n = k := by omega
      go_wp2_with fail
      refine bodyPost_ret (v := .agg #[.int .i64 (q.1 : Int), .int .i64 (q.2 : Int)]) (by simp [results, Tryd.results33, go_sem]) rfl ⟨by rw [HQ.out], ?_⟩
      exact (below_alloc w _).alloc (by simp) _

theorem skipN_true_step (l : List UInt8) (j : Nat) (c : UInt8) (hc : l.drop j = c :: l.drop (j + 1)) (h : (c.toNat : Int) ≠ 10) : skipN (l.drop j) true = skipN (l.drop (j + 1)) true + 1 := by
  rw [hc, skipN, if_neg (by omega)]
theorem skipN_true_end (l : List UInt8) (j : Nat) (c : UInt8) (hc : l.drop j = c :: l.drop (j + 1)) (h : (c.toNat : Int) = 10) : skipN (l.drop j) true = skipN (l.drop j) false := by
  rw [hc, skipN, if_pos (by omega), skipN_blank c _ (bl_is c (.inr (.inr (.inl h))))]
theorem skipN_true_hash (l : List UInt8) (j : Nat) (c : UInt8) (hc : l.drop j = c :: l.drop (j + 1)) (h : (c.toNat : Int) = 35) : skipN (l.drop j) false = skipN (l.drop j) true := by
  rw [hc, skipN, skipN, if_neg (by rw [bl_no c (by omega)]; simp), if_pos (by omega), if_neg (by omega)]

set_option maxHeartbeats 1600000 in
theorem rskip_any (s : ByteArray) (i : Nat) (w : World) (hi : i ≤ s.size) (hs : s.size ≤ 1099511627776) :
    Calls Tryd.prog 31 #[.string s, .int .i64 i] w fun e w' => e = .returned (.int .i64 ((i + skipN (s.data.toList.drop i) false : Nat) : Int)) ∧ w = w' := by
  generalize hT : i + skipN (s.data.toList.drop i) false = T
  have HT := Lib.hid hT; clear hT
  go_enter Tryd.func31, Tryd.ntmps31
  go_wp2_with fail
  go_loopg [1] (s.size) (fun g x wr => ∃ k : Nat, k ≤ s.size ∧ s.size ≤ k + g ∧ x = .int .i64 k ∧ k + skipN (s.data.toList.drop k) false = T ∧ w = wr)
  case atStart => exact ⟨i, hi, by omega, rfl, HT.out, rfl⟩
  case round =>
    obtain ⟨k, hk, hk2, rfl, hI, rfl⟩ := hrel
    have HI := Lib.hid hI; clear hI
    by_cases hlt : k < s.size
    · have HC := Lib.hid (drop_byte s k hlt)
      cases hB : isBl s[k]
      · have HB := Lib.hid hB
        by_cases h35 : (s[k].toNat : Int) = 35
        · have q1 : ((s[k].toNat : Int) == 35) = true := by rw [h35]; rfl
          have q2 : ((s[k].toNat : Int) != 35) = false := by rw [h35]; rfl
          have HJ := Lib.hid (show k + skipN (s.data.toList.drop k) true = T by rw [← HI.out, skipN_true_hash _ _ _ HC.out h35])
          have H35 := Lib.hid h35
          clear h35 hB
          obtain ⟨g0, hg0⟩ : ∃ g0, g0 = gk := ⟨_, rfl⟩
          go_wp2_with fail
          ((with_reducible refine (rblank_any s[k] _).mono ?_); rintro e wn ⟨rfl, rfl⟩)
          rw [HB.out]
          go_wp2_with fail
          go_loopg [1] (s.size) (fun g x wr => ∃ j : Nat, k ≤ j ∧ j ≤ s.size ∧ s.size ≤ j + g ∧ x = .int .i64 j ∧ j + skipN (s.data.toList.drop j) true = T ∧ w = wr)
          case atStart => exact ⟨k, by omega, by omega, by omega, rfl, HJ.out, rfl⟩
          case round =>
            obtain ⟨j, hj1, hj2, hj3, rfl, hJ, rfl⟩ := hrel
            have HJ2 := Lib.hid hJ; clear hJ
            by_cases hlj : j < s.size
            · have HCJ := Lib.hid (drop_byte s j hlj)
              by_cases h10 : (s[j].toNat : Int) = 10
              · have q3 : ((s[j].toNat : Int) != 10) = false := by rw [h10]; rfl
                have HV := Lib.hid (show j + skipN (s.data.toList.drop j) false = T by rw [← HJ2.out, skipN_true_end _ _ _ HCJ.out h10])
                have hne : k < j := by
                  rcases Nat.lt_or_ge k j with h5 | h5
                  · exact h5
                  · exfalso
                    obtain rfl : j = k := by omega
                    have := H35.out
                    omega
                clear h10
                go_wp2_with fail
                go_roundg (g0 - 1)
                case measure => omega
                case rel => exact ⟨j, by omega, by omega, rfl, HV.out, rfl⟩
              · have q3 : ((s[j].toNat : Int) != 10) = true := by simpa using h10
                have HV := Lib.hid (show (j + 1) + skipN (s.data.toList.drop (j + 1)) true = T by rw [← HJ2.out, skipN_true_step _ _ _ HCJ.out h10]; omega)
                clear h10
                go_wp2_with fail
                go_roundg (gk - 1)
                case measure => omega
                case rel => exact ⟨j + 1, by omega, by omega, by omega, by go_num, HV.out, rfl⟩
            · have HV := Lib.hid (show j + skipN (s.data.toList.drop j) false = T by
                rw [← HJ2.out, List.drop_eq_nil_of_le (by rw [len_byte]; omega)]; rfl)
              go_wp2_with fail
              go_roundg (g0 - 1)
              case measure => omega
              case rel => exact ⟨j, by omega, by omega, rfl, HV.out, rfl⟩
        · have q1 : ((s[k].toNat : Int) == 35) = false := by simp; omega
          have HV := Lib.hid (show k = T by have h9 := HI.out; rw [HC.out, skipN_stop _ _ hB (by omega)] at h9; omega)
          clear h35 hB
          go_wp2_with fail
          ((with_reducible refine (rblank_any s[k] _).mono ?_); rintro e wn ⟨rfl, rfl⟩)
          rw [HB.out]
          go_wp2_with fail
          go_ret
          exact ⟨ret_int (by rw [← HV.out]), rfl⟩
      · have HB := Lib.hid hB
        have q2 : ((s[k].toNat : Int) != 35) = true := by
          have : s[k].toNat ≠ 35 := fun e => by have h9 := hB; unfold isBl at h9; simp at h9; omega
          simp; omega
        have HV := Lib.hid (show (k + 1) + skipN (s.data.toList.drop (k + 1)) false = T by rw [← HI.out, HC.out, skipN_blank _ _ hB]; omega)
        clear hB
        go_wp2_with fail
        ((with_reducible refine (rblank_any s[k] _).mono ?_); rintro e wn ⟨rfl, rfl⟩)
        rw [HB.out]
        go_wp2_with fail
        go_roundg (gk - 1)
        case measure => omega
        case rel => exact ⟨k + 1, by omega, by omega, by go_num, HV.out, rfl⟩
    · have HV := Lib.hid (show k = T by rw [← HI.out, List.drop_eq_nil_of_le (by rw [len_byte]; omega)]; rfl)
      go_wp2_with fail
      go_ret
      exact ⟨ret_int (by rw [← HV.out]), rfl⟩
end Go.Proofs.YtlocbindafdmhaaDoor
