/- length of package token, at its three tests: how many bytes at the beginning fit. -/
import Derived.Test.YtlocbindafdmhaaDoorKb
import Derived.Deep.LoopGhost
namespace Go.Proofs.YtlocbindafdmhaaDoor
open Go.RowKit

theorem nm_let (c : UInt8) (h : isLet c = true) : isNm c = true := by unfold isNm; rw [h]; rfl
theorem nm_dig (c : UInt8) (h : isDig c = true) : isNm c = true := by unfold isNm; rw [h]; simp
theorem nm_is (c : UInt8) (h : (c.toNat : Int) = 95 ∨ (c.toNat : Int) = 45 ∨ (c.toNat : Int) = 46) : isNm c = true := by unfold isNm; simp; omega
theorem nm_no (c : UInt8) (h1 : isLet c = false) (h2 : isDig c = false) (h : (c.toNat : Int) ≠ 95 ∧ (c.toNat : Int) ≠ 45 ∧ (c.toNat : Int) ≠ 46) : isNm c = false := by unfold isNm; rw [h1, h2]; simp; omega

set_option maxHeartbeats 800000 in
theorem fits_nm (c : UInt8) (w : World) : Calls Tryd.prog 58 #[.int .u8 (c.toNat : Int)] w fun e w' => e = .returned (.bool (isNm c)) ∧ w = w' := by
  cases hL : isLet c
  · have HL := Lib.hid hL
    cases hD : isDig c
    · have HD := Lib.hid hD
      by_cases h95 : (c.toNat : Int) = 95
      · have HV := Lib.hid (nm_is c (.inl h95))
        have q1 : ((c.toNat : Int) == 95) = true := by rw [h95]; rfl
        clear h95 hL hD
        go_enter Tryd.func58, Tryd.ntmps58
        go_wp2_with fail
        ((with_reducible refine (tletter_any c _).mono ?_); rintro e wn ⟨rfl, rfl⟩)
        rw [HL.out]
        go_wp2_with fail
        ((with_reducible refine (tdigit_any c _).mono ?_); rintro e wn ⟨rfl, rfl⟩)
        rw [HD.out]
        go_wp2_with fail
        go_ret
        exact ⟨ret_bool HV.out.symm, rfl⟩
      by_cases h45 : (c.toNat : Int) = 45
      · have HV := Lib.hid (nm_is c (.inr (.inl h45)))
        have q1 : ((c.toNat : Int) == 95) = false := by rw [h45]; rfl
        have q2 : ((c.toNat : Int) == 45) = true := by rw [h45]; rfl
        clear h95 h45 hL hD
        go_enter Tryd.func58, Tryd.ntmps58
        go_wp2_with fail
        ((with_reducible refine (tletter_any c _).mono ?_); rintro e wn ⟨rfl, rfl⟩)
        rw [HL.out]
        go_wp2_with fail
        ((with_reducible refine (tdigit_any c _).mono ?_); rintro e wn ⟨rfl, rfl⟩)
        rw [HD.out]
        go_wp2_with fail
        go_ret
        exact ⟨ret_bool HV.out.symm, rfl⟩
      by_cases h46 : (c.toNat : Int) = 46
      · have HV := Lib.hid (nm_is c (.inr (.inr h46)))
        have q1 : ((c.toNat : Int) == 95) = false := by rw [h46]; rfl
        have q2 : ((c.toNat : Int) == 45) = false := by rw [h46]; rfl
        have q3 : ((c.toNat : Int) == 46) = true := by rw [h46]; rfl
        clear h95 h45 h46 hL hD
        go_enter Tryd.func58, Tryd.ntmps58
        go_wp2_with fail
        ((with_reducible refine (tletter_any c _).mono ?_); rintro e wn ⟨rfl, rfl⟩)
        rw [HL.out]
        go_wp2_with fail
        ((with_reducible refine (tdigit_any c _).mono ?_); rintro e wn ⟨rfl, rfl⟩)
        rw [HD.out]
        go_wp2_with fail
        go_ret
        exact ⟨ret_bool HV.out.symm, rfl⟩
      · have HV := Lib.hid (nm_no c hL hD ⟨h95, h45, h46⟩)
        have q1 : ((c.toNat : Int) == 95) = false := by simp; omega
        have q2 : ((c.toNat : Int) == 45) = false := by simp; omega
        have q3 : ((c.toNat : Int) == 46) = false := by simp; omega
        clear h95 h45 h46 hL hD
        go_enter Tryd.func58, Tryd.ntmps58
        go_wp2_with fail
        ((with_reducible refine (tletter_any c _).mono ?_); rintro e wn ⟨rfl, rfl⟩)
        rw [HL.out]
        go_wp2_with fail
        ((with_reducible refine (tdigit_any c _).mono ?_); rintro e wn ⟨rfl, rfl⟩)
        rw [HD.out]
        go_wp2_with fail
        go_ret
        exact ⟨ret_bool HV.out.symm, rfl⟩
    · have HD := Lib.hid hD
      have HV := Lib.hid (nm_dig c hD)
      clear hL hD
      go_enter Tryd.func58, Tryd.ntmps58
      go_wp2_with fail
      ((with_reducible refine (tletter_any c _).mono ?_); rintro e wn ⟨rfl, rfl⟩)
      rw [HL.out]
      go_wp2_with fail
      ((with_reducible refine (tdigit_any c _).mono ?_); rintro e wn ⟨rfl, rfl⟩)
      rw [HD.out]
      go_wp2_with fail
      go_ret
      exact ⟨ret_bool HV.out.symm, rfl⟩
  · have HL := Lib.hid hL
    have HV := Lib.hid (nm_let c hL)
    clear hL
    go_enter Tryd.func58, Tryd.ntmps58
    go_wp2_with fail
    ((with_reducible refine (tletter_any c _).mono ?_); rintro e wn ⟨rfl, rfl⟩)
    rw [HL.out]
    go_wp2_with fail
    go_ret
    exact ⟨ret_bool HV.out.symm, rfl⟩
theorem pr_parts (c : UInt8) : (((c.toNat : Int) < 32) ∧ isPr c = false) ∨ ((32 ≤ (c.toNat : Int) ∧ (c.toNat : Int) ≤ 126) ∧ isPr c = true) ∨ ((126 < (c.toNat : Int)) ∧ isPr c = false) := by
  unfold isPr
  simp only [decide_eq_true_eq, decide_eq_false_iff_not]
  omega
theorem fits_pr (c : UInt8) (w : World) : Calls Tryd.prog 71 #[.int .u8 (c.toNat : Int)] w fun e w' => e = .returned (.bool (isPr c)) ∧ w = w' := by
  rcases pr_parts c with ⟨h, hv⟩ | ⟨⟨h, h'⟩, hv⟩ | ⟨h, hv⟩
  all_goals
    have HV := Lib.hid hv; clear hv
    go_enter Tryd.func71, Tryd.ntmps71
    go_wp2
    go_ret
    exact ⟨ret_bool (by have e := HV.out; first | exact e.symm | (rw [e]; simp; omega)), rfl⟩

/-- how many bytes at the beginning fit -/
def spanN (f : UInt8 → Bool) (l : List UInt8) : Nat := (l.takeWhile f).length
theorem spanN_stop (f : UInt8 → Bool) (l : List UInt8) (k : Nat) (c : UInt8) (r : List UInt8) (h : ∀ x ∈ l.take k, f x = true) (hc : l.drop k = c :: r) (hf : f c = false) : spanN f l = k := by
  unfold spanN
  have hk : k ≤ l.length := by
    rcases Nat.lt_or_ge l.length k with h1 | h1
    · rw [List.drop_eq_nil_of_le (Nat.le_of_lt h1)] at hc; cases hc
    · exact h1
  conv => lhs; rw [← List.take_append_drop k l, hc]
  rw [List.takeWhile_append_of_pos h, List.takeWhile_cons, hf]
  simp; omega
theorem spanN_all (f : UInt8 → Bool) (l : List UInt8) (h : ∀ x ∈ l, f x = true) : spanN f l = l.length := by
  unfold spanN
  induction l with
  | nil => rfl
  | cons c l ih => rw [List.takeWhile_cons, h c (List.mem_cons_self ..)]; simp [ih (fun x hx => h x (List.mem_cons_of_mem _ hx))]
theorem take_all (f : UInt8 → Bool) (s : ByteArray) (k : Nat) (h : ∀ x ∈ s.data.toList.take k, f x = true) (hk : k < s.size) (hf : f s[k] = true) : ∀ x ∈ s.data.toList.take (k + 1), f x = true := by
  intro x hx
  rw [take_byte s k hk] at hx
  rcases List.mem_append.1 hx with h1 | h1
  · exact h x h1
  · have : x = s[k] := by simpa using h1
    subst this; exact hf

set_option maxHeartbeats 800000 in
theorem length_nm (s : ByteArray) (w : World) (hs : s.size ≤ 9223372036854775000) :
    Calls Tryd.prog 57 #[.string s, .func (.func 58) #[] #[]] w fun e w' => e = .returned (.int .i64 (spanN isNm s.data.toList : Int)) ∧ w = w' := by
  go_enter Tryd.func57, Tryd.ntmps57
  go_wp2_with fail
  go_loopg [8] (s.size) (fun g i wr => ∃ k : Nat, k + g = s.size ∧ i = .int .i64 k ∧ (∀ x ∈ s.data.toList.take k, isNm x = true) ∧ w = wr)
  case atStart => exact ⟨0, by omega, rfl, by simp, rfl⟩
  case round =>
    obtain ⟨k, hk, rfl, hall, rfl⟩ := hrel
    have HA := Lib.hid hall
    have HK := Lib.hid hk
    have hle : k ≤ s.size := by omega
    clear hall hk
    by_cases hlt : k < s.size
    · cases hF : isNm s[k]
      · have HF := Lib.hid hF
        have HV := Lib.hid (spanN_stop isNm s.data.toList k s[k] _ HA.out (drop_byte s k hlt) hF)
        clear hF
        go_wp2_with fail
        ((with_reducible refine (fits_nm s[k] _).mono ?_); rintro e wn ⟨rfl, rfl⟩)
        rw [HF.out]
        go_wp2_with fail
        go_ret
        exact ⟨ret_int (by rw [HV.out]), rfl⟩
      · have HF := Lib.hid hF
        have HN := Lib.hid (take_all isNm s k HA.out hlt hF)
        clear hF
        go_wp2_with fail
        ((with_reducible refine (fits_nm s[k] _).mono ?_); rintro e wn ⟨rfl, rfl⟩)
        rw [HF.out]
        go_wp2_with fail
        go_roundg (gk - 1)
        case measure => have := HK.out; omega
        case rel => exact ⟨k + 1, by have := HK.out; omega, by go_num, HN.out, rfl⟩
    · have HV := Lib.hid (spanN_all isNm s.data.toList (by have := HA.out; rw [List.take_of_length_le (by rw [len_byte]; omega)] at this; exact this))
      go_wp2_with fail
      go_ret
      exact ⟨ret_int (by rw [HV.out, len_byte]), rfl⟩

set_option maxHeartbeats 800000 in
theorem length_dig (s : ByteArray) (w : World) (hs : s.size ≤ 9223372036854775000) :
    Calls Tryd.prog 57 #[.string s, .func (.func 59) #[] #[]] w fun e w' => e = .returned (.int .i64 (spanN isDig s.data.toList : Int)) ∧ w = w' := by
  go_enter Tryd.func57, Tryd.ntmps57
  go_wp2_with fail
  go_loopg [8] (s.size) (fun g i wr => ∃ k : Nat, k + g = s.size ∧ i = .int .i64 k ∧ (∀ x ∈ s.data.toList.take k, isDig x = true) ∧ w = wr)
  case atStart => exact ⟨0, by omega, rfl, by simp, rfl⟩
  case round =>
    obtain ⟨k, hk, rfl, hall, rfl⟩ := hrel
    have HA := Lib.hid hall
    have HK := Lib.hid hk
    have hle : k ≤ s.size := by omega
    clear hall hk
    by_cases hlt : k < s.size
    · cases hF : isDig s[k]
      · have HF := Lib.hid hF
        have HV := Lib.hid (spanN_stop isDig s.data.toList k s[k] _ HA.out (drop_byte s k hlt) hF)
        clear hF
        go_wp2_with fail
        ((with_reducible refine (tdigit_any s[k] _).mono ?_); rintro e wn ⟨rfl, rfl⟩)
        rw [HF.out]
        go_wp2_with fail
        go_ret
        exact ⟨ret_int (by rw [HV.out]), rfl⟩
      · have HF := Lib.hid hF
        have HN := Lib.hid (take_all isDig s k HA.out hlt hF)
        clear hF
        go_wp2_with fail
        ((with_reducible refine (tdigit_any s[k] _).mono ?_); rintro e wn ⟨rfl, rfl⟩)
        rw [HF.out]
        go_wp2_with fail
        go_roundg (gk - 1)
        case measure => have := HK.out; omega
        case rel => exact ⟨k + 1, by have := HK.out; omega, by go_num, HN.out, rfl⟩
    · have HV := Lib.hid (spanN_all isDig s.data.toList (by have := HA.out; rw [List.take_of_length_le (by rw [len_byte]; omega)] at this; exact this))
      go_wp2_with fail
      go_ret
      exact ⟨ret_int (by rw [HV.out, len_byte]), rfl⟩

set_option maxHeartbeats 800000 in
theorem length_pr (s : ByteArray) (w : World) (hs : s.size ≤ 9223372036854775000) :
    Calls Tryd.prog 57 #[.string s, .func (.func 71) #[] #[]] w fun e w' => e = .returned (.int .i64 (spanN isPr s.data.toList : Int)) ∧ w = w' := by
  go_enter Tryd.func57, Tryd.ntmps57
  go_wp2_with fail
  go_loopg [8] (s.size) (fun g i wr => ∃ k : Nat, k + g = s.size ∧ i = .int .i64 k ∧ (∀ x ∈ s.data.toList.take k, isPr x = true) ∧ w = wr)
  case atStart => exact ⟨0, by omega, rfl, by simp, rfl⟩
  case round =>
    obtain ⟨k, hk, rfl, hall, rfl⟩ := hrel
    have HA := Lib.hid hall
    have HK := Lib.hid hk
    have hle : k ≤ s.size := by omega
    clear hall hk
    by_cases hlt : k < s.size
    · cases hF : isPr s[k]
      · have HF := Lib.hid hF
        have HV := Lib.hid (spanN_stop isPr s.data.toList k s[k] _ HA.out (drop_byte s k hlt) hF)
        clear hF
        go_wp2_with fail
        ((with_reducible refine (fits_pr s[k] _).mono ?_); rintro e wn ⟨rfl, rfl⟩)
        rw [HF.out]
        go_wp2_with fail
        go_ret
        exact ⟨ret_int (by rw [HV.out]), rfl⟩
      · have HF := Lib.hid hF
        have HN := Lib.hid (take_all isPr s k HA.out hlt hF)
        clear hF
        go_wp2_with fail
        ((with_reducible refine (fits_pr s[k] _).mono ?_); rintro e wn ⟨rfl, rfl⟩)
        rw [HF.out]
        go_wp2_with fail
        go_roundg (gk - 1)
        case measure => have := HK.out; omega
        case rel => exact ⟨k + 1, by have := HK.out; omega, by go_num, HN.out, rfl⟩
    · have HV := Lib.hid (spanN_all isPr s.data.toList (by have := HA.out; rw [List.take_of_length_le (by rw [len_byte]; omega)] at this; exact this))
      go_wp2_with fail
      go_ret
      exact ⟨ret_int (by rw [HV.out, len_byte]), rfl⟩
end Go.Proofs.YtlocbindafdmhaaDoor
