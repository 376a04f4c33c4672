/- literal of package token: the length of the literal at the beginning. -/
import Derived.Test.YtlocbindafdmhaaDoorKf
namespace Go.Proofs.YtlocbindafdmhaaDoor
open Go.RowKit

/-- a literal's length and error number, the bytes before it counted -/
def litN (l : List UInt8) (k : Nat) : Nat × Nat := match lit l with | .ok (_, n) => (k + n, 0) | .error e => (0, e)
theorem litN_nil (k : Nat) : litN [] k = (0, 4) := rfl
theorem litN_end (c : UInt8) (l : List UInt8) (k : Nat) (h : (c.toNat : Int) = 34) : litN (c :: l) k = (k + 1, 0) := by
  unfold litN; rw [lit.eq_def]; simp only [if_pos (show c.toNat = 34 by omega)]
theorem litN_bad (c : UInt8) (l : List UInt8) (k : Nat) (h : (c.toNat : Int) ≠ 34) (h2 : isPr c = false) : litN (c :: l) k = (0, 3) := by
  unfold litN; rw [lit.eq_def]; simp only [if_neg (show ¬ c.toNat = 34 by omega), if_pos h2]
theorem litN_next (c : UInt8) (l : List UInt8) (k : Nat) (h : (c.toNat : Int) ≠ 34) (h2 : isPr c = true) (h3 : (c.toNat : Int) ≠ 92) : litN (c :: l) k = litN l (k + 1) := by
  unfold litN; rw [lit.eq_def]; simp only [if_neg (show ¬ c.toNat = 34 by omega), h2, Bool.true_eq_false, if_false, if_neg (show ¬ c.toNat = 92 by omega)]
  cases lit l <;> simp; omega
theorem pr_of (c : UInt8) (h : (c.toNat : Int) = 92) : isPr c = true := by unfold isPr; simp; omega
theorem litN_bs (c : UInt8) (k : Nat) (h : (c.toNat : Int) = 92) : litN [c] k = (0, 4) := by
  unfold litN; rw [lit.eq_def]; simp only [if_neg (show ¬ c.toNat = 34 by omega), pr_of c h, Bool.true_eq_false, if_false, if_pos (show c.toNat = 92 by omega)]
theorem litN_esc (c d : UInt8) (l : List UInt8) (k : Nat) (h : (c.toNat : Int) = 92) (hd : (d.toNat : Int) = 34 ∨ (d.toNat : Int) = 92) : litN (c :: d :: l) k = litN l (k + 2) := by
  unfold litN; rw [lit.eq_def]; simp only [if_neg (show ¬ c.toNat = 34 by omega), pr_of c h, Bool.true_eq_false, if_false, if_pos (show c.toNat = 92 by omega), if_pos (show d.toNat = 34 ∨ d.toNat = 92 by omega)]
  cases lit l <;> simp; omega
theorem litN_esb (c d : UInt8) (l : List UInt8) (k : Nat) (h : (c.toNat : Int) = 92) (hd : (d.toNat : Int) ≠ 34 ∧ (d.toNat : Int) ≠ 92) : litN (c :: d :: l) k = (0, 3) := by
  unfold litN; rw [lit.eq_def]; simp only [if_neg (show ¬ c.toNat = 34 by omega), pr_of c h, Bool.true_eq_false, if_false, if_pos (show c.toNat = 92 by omega), if_neg (show ¬ (d.toNat = 34 ∨ d.toNat = 92) by omega)]
theorem ret_ints {a b c d : Int} (h : a = b) (h' : c = d) : Ending.returned (.tuple #[.int .i64 a, .int .i64 c]) = .returned (.tuple #[.int .i64 b, .int .i64 d]) := by rw [h, h']

set_option maxHeartbeats 1600000 in
theorem tliteral_any (s : ByteArray) (w : World) (hs : s.size ≤ 9223372036854775000) (h1 : 1 ≤ s.size) :
    Calls Tryd.prog 61 #[.string s] w fun e w' => e = .returned (.tuple #[.int .i64 ((litN (s.data.toList.drop 1) 1).1 : Int), .int .i64 ((litN (s.data.toList.drop 1) 1).2 : Int)]) ∧ w = w' := by
  generalize hR : litN (s.data.toList.drop 1) 1 = R
  have HR := Lib.hid hR; clear hR
  go_enter Tryd.func61, Tryd.ntmps61
  go_wp2_with fail
  go_loopg [4] (s.size) (fun g i wr => ∃ k : Nat, 1 ≤ k ∧ k ≤ s.size ∧ s.size ≤ k + g ∧ i = .int .i64 k ∧ litN (s.data.toList.drop k) k = R ∧ w = wr)
  case atStart => exact ⟨1, by omega, by omega, by omega, rfl, HR.out, rfl⟩
  case round =>
    obtain ⟨k, hk1, hk2, hk3, rfl, hR, rfl⟩ := hrel
    have HI := Lib.hid hR
    clear hR
    by_cases hlt : k < s.size
    · have HC := Lib.hid (drop_byte s k hlt)
      by_cases h34 : (s[k].toNat : Int) = 34
      · have q1 : ((s[k].toNat : Int) == 34) = true := by rw [h34]; rfl
        have HV := Lib.hid (show R = (k + 1, 0) by rw [← HI.out, HC.out, litN_end _ _ _ h34])
        clear h34
        go_wp2_with fail
        go_ret2
        exact ⟨ret_ints (by rw [HV.out]; go_num) (by rw [HV.out]; rfl), rfl⟩
      have q1 : ((s[k].toNat : Int) == 34) = false := by simp; omega
      have H34 := Lib.hid h34; clear h34
      rcases pr_parts s[k] with ⟨h, hv⟩ | ⟨⟨h, h'⟩, hv⟩ | ⟨h, hv⟩
      · have HV := Lib.hid (show R = (0, 3) by rw [← HI.out, HC.out, litN_bad _ _ _ H34.out hv])
        clear hv
        go_wp2_with fail
        go_ret2
        exact ⟨ret_ints (by rw [HV.out]; rfl) (by rw [HV.out]; rfl), rfl⟩
      rotate_left
      · have HV := Lib.hid (show R = (0, 3) by rw [← HI.out, HC.out, litN_bad _ _ _ H34.out hv])
        clear hv
        go_wp2_with fail
        go_ret2
        exact ⟨ret_ints (by rw [HV.out]; rfl) (by rw [HV.out]; rfl), rfl⟩
      by_cases h92 : (s[k].toNat : Int) = 92
      · have q2 : ((s[k].toNat : Int) == 92) = true := by rw [h92]; rfl
        have H92 := Lib.hid h92; clear h92 hv
        by_cases hl2 : k + 1 < s.size
        · have q3 : (((k : Int) + 1) == (s.size : Int)) = false := by simp; omega
          have HC2 := Lib.hid (drop_byte s (k + 1) hl2)
          by_cases d34 : (s[k + 1].toNat : Int) = 34
          · have q4 : ((s[k + 1].toNat : Int) != 34) = false := by rw [d34]; rfl
            have HV := Lib.hid (show litN (s.data.toList.drop (k + 2)) (k + 2) = R by rw [← HI.out, HC.out, HC2.out, litN_esc _ _ _ _ H92.out (.inl d34)])
            clear d34
            go_wp2_with fail
            go_roundg (gk - 2)
            case measure => omega
            case rel => exact ⟨k + 2, by omega, by omega, by omega, by go_num, HV.out, rfl⟩
          by_cases d92 : (s[k + 1].toNat : Int) = 92
          · have q4 : ((s[k + 1].toNat : Int) != 34) = true := by rw [d92]; rfl
            have q5 : ((s[k + 1].toNat : Int) != 92) = false := by rw [d92]; rfl
            have HV := Lib.hid (show litN (s.data.toList.drop (k + 2)) (k + 2) = R by rw [← HI.out, HC.out, HC2.out, litN_esc _ _ _ _ H92.out (.inr d92)])
            clear d34 d92
            go_wp2_with fail
            go_roundg (gk - 2)
            case measure => omega
            case rel => exact ⟨k + 2, by omega, by omega, by omega, by go_num, HV.out, rfl⟩
          · have q4 : ((s[k + 1].toNat : Int) != 34) = true := by simpa using d34
            have q5 : ((s[k + 1].toNat : Int) != 92) = true := by simpa using d92
            have HV := Lib.hid (show R = (0, 3) by rw [← HI.out, HC.out, HC2.out, litN_esb _ _ _ _ H92.out ⟨d34, d92⟩])
            clear d34 d92
            go_wp2_with fail
            go_ret2
            exact ⟨ret_ints (by rw [HV.out]; rfl) (by rw [HV.out]; rfl), rfl⟩
        · have q3 : (((k : Int) + 1) == (s.size : Int)) = true := by simp; omega
          have HV := Lib.hid (show R = (0, 4) by rw [← HI.out, HC.out, List.drop_eq_nil_of_le (by rw [len_byte]; omega), litN_bs _ _ H92.out])
          go_wp2_with fail
          go_ret2
          exact ⟨ret_ints (by rw [HV.out]; rfl) (by rw [HV.out]; rfl), rfl⟩
      · have q2 : ((s[k].toNat : Int) == 92) = false := by simp; omega
        have HV := Lib.hid (show litN (s.data.toList.drop (k + 1)) (k + 1) = R by rw [← HI.out, HC.out, litN_next _ _ _ H34.out hv h92])
        clear h92 hv
        go_wp2_with fail
        go_roundg (gk - 1)
        case measure => omega
        case rel => exact ⟨k + 1, by omega, by omega, by omega, by go_num, HV.out, rfl⟩
    · have HV := Lib.hid (show R = (0, 4) by rw [← HI.out, List.drop_eq_nil_of_le (by rw [len_byte]; omega)]; rfl)
      go_wp2_with fail
      go_ret2
      exact ⟨ret_ints (by rw [HV.out]; rfl) (by rw [HV.out]; rfl), rfl⟩
end Go.Proofs.YtlocbindafdmhaaDoor
