/- IsName of package name and of the reference: what a call returns. -/
import Derived.Test.YtbbdgncjpbfooaaGreatDoorKq
namespace Go.Proofs.YtbbdgncjpbfooaaGreatDoor
open Go.RowKit

/-- a text is a name -/
def isNameB (l : List UInt8) : Bool := match l with | [] => false | c :: _ => decide (l.length ≤ 40) && isLet c && l.all isNm
theorem isName_nil (s : ByteArray) (h : s.size = 0) : isNameB s.data.toList = false := by
  rw [show s.data.toList = [] from List.eq_nil_of_length_eq_zero (by rw [len_byte]; exact h)]; rfl
theorem isName_cons (s : ByteArray) (h : 0 < s.size) : isNameB s.data.toList = (decide (s.size ≤ 40) && isLet s[0] && s.data.toList.all isNm) := by
  have e := first_byte s h
  have hl := len_byte s
  generalize s.data.toList.drop 1 = r at e
  rw [e] at hl ⊢
  unfold isNameB
  simp only [hl]
theorem isName_long (s : ByteArray) (h : 40 < s.size) : isNameB s.data.toList = false := by
  rw [isName_cons s (by omega), decide_eq_false (by omega)]; rfl
theorem isName_let (s : ByteArray) (h : 0 < s.size) (hL : isLet s[0] = false) : isNameB s.data.toList = false := by
  rw [isName_cons s h, hL]; simp
theorem isName_all (s : ByteArray) (h : 0 < s.size) (h4 : s.size ≤ 40) (hL : isLet s[0] = true) : isNameB s.data.toList = s.data.toList.all isNm := by
  rw [isName_cons s h, hL, decide_eq_true h4]; rfl
theorem all_stop' (f : UInt8 → Bool) (s : ByteArray) (k : Nat) (hk : k < s.size) (hf : f s[k] = false) : s.data.toList.all f = false := by
  rw [List.all_eq_false]
  exact ⟨s[k], List.mem_of_getElem? (at_byte s k hk), by simp [hf]⟩

set_option maxHeartbeats 800000 in
theorem npart_any (c : UInt8) (w : World) : Calls Tryz.prog 81 #[.int .u8 (c.toNat : Int)] w fun e w' => e = .returned (.bool (isNm c)) ∧ w = w' := by
  cases hL : isLet c
  · have HL := Lib.hid hL
    rcases dig_parts c with ⟨d1, hD⟩ | ⟨⟨d1, d2⟩, hD⟩ | ⟨d1, hD⟩
    rotate_left
    · have HV := Lib.hid (nm_dig c hD)
      clear hL hD
      go_enter Tryz.func81, Tryz.ntmps81
      go_wp2_with fail
      ((with_reducible refine (nletter_any c _).mono ?_); rintro e wn ⟨rfl, rfl⟩)
      rw [HL.out]
      go_wp2_with fail
      go_ret
      exact ⟨ret_bool HV.out.symm, rfl⟩
    all_goals
      first | (have d3 : decide ((c.toNat : Int) ≤ 57) = false := by (simp; omega)) | skip
      by_cases h95 : (c.toNat : Int) = 95
      · have HV := Lib.hid (nm_is c (.inl h95))
        have q1 : ((c.toNat : Int) == 95) = true := by rw [h95]; rfl
        clear h95 hL hD
        go_enter Tryz.func81, Tryz.ntmps81
        go_wp2_with fail
        ((with_reducible refine (nletter_any c _).mono ?_); rintro e wn ⟨rfl, rfl⟩)
        rw [HL.out]
        go_wp2_with fail
        go_ret
        exact ⟨ret_bool HV.out.symm, rfl⟩
      by_cases h45 : (c.toNat : Int) = 45
      · have HV := Lib.hid (nm_is c (.inr (.inl h45)))
        have q1 : ((c.toNat : Int) == 95) = false := by rw [h45]; rfl
        have q2 : ((c.toNat : Int) == 45) = true := by rw [h45]; rfl
        clear h95 h45 hL hD
        go_enter Tryz.func81, Tryz.ntmps81
        go_wp2_with fail
        ((with_reducible refine (nletter_any c _).mono ?_); rintro e wn ⟨rfl, rfl⟩)
        rw [HL.out]
        go_wp2_with fail
        go_ret
        exact ⟨ret_bool HV.out.symm, rfl⟩
      by_cases h46 : (c.toNat : Int) = 46
      · have HV := Lib.hid (nm_is c (.inr (.inr h46)))
        have q1 : ((c.toNat : Int) == 95) = false := by rw [h46]; rfl
        have q2 : ((c.toNat : Int) == 45) = false := by rw [h46]; rfl
        have q3 : ((c.toNat : Int) == 46) = true := by rw [h46]; rfl
        clear h95 h45 h46 hL hD
        go_enter Tryz.func81, Tryz.ntmps81
        go_wp2_with fail
        ((with_reducible refine (nletter_any c _).mono ?_); rintro e wn ⟨rfl, rfl⟩)
        rw [HL.out]
        go_wp2_with fail
        go_ret
        exact ⟨ret_bool HV.out.symm, rfl⟩
      · have HV := Lib.hid (nm_no c hL hD ⟨h95, h45, h46⟩)
        have q1 : ((c.toNat : Int) == 95) = false := by simp; omega
        have q2 : ((c.toNat : Int) == 45) = false := by simp; omega
        have q3 : ((c.toNat : Int) == 46) = false := by simp; omega
        clear h95 h45 h46 hL hD
        go_enter Tryz.func81, Tryz.ntmps81
        go_wp2_with fail
        ((with_reducible refine (nletter_any c _).mono ?_); rintro e wn ⟨rfl, rfl⟩)
        rw [HL.out]
        go_wp2_with fail
        go_ret
        exact ⟨ret_bool HV.out.symm, rfl⟩
  · have HL := Lib.hid hL
    have HV := Lib.hid (nm_let c hL)
    clear hL
    go_enter Tryz.func81, Tryz.ntmps81
    go_wp2_with fail
    ((with_reducible refine (nletter_any c _).mono ?_); rintro e wn ⟨rfl, rfl⟩)
    rw [HL.out]
    go_wp2_with fail
    go_ret
    exact ⟨ret_bool HV.out.symm, rfl⟩

set_option maxHeartbeats 1600000 in
theorem nisName_any (s : ByteArray) (w : World) (hs : s.size ≤ 9223372036854775000) :
    Calls Tryz.prog 47 #[.string s] w fun e w' => e = .returned (.bool (isNameB s.data.toList)) ∧ w = w' := by
  by_cases h0 : s.size = 0
  · have HV := Lib.hid (isName_nil s h0)
    have q0 : (s.size : Int) < 1 := by omega
    go_enter Tryz.func47, Tryz.ntmps47
    go_wp2_with fail
    go_ret
    exact ⟨ret_bool HV.out.symm, rfl⟩
  have hpos : 0 < s.size := by omega
  clear h0
  by_cases h4 : 40 < s.size
  · have HV := Lib.hid (isName_long s h4)
    go_enter Tryz.func47, Tryz.ntmps47
    go_wp2_with fail
    go_ret
    exact ⟨ret_bool HV.out.symm, rfl⟩
  have h40 : s.size ≤ 40 := by omega
  clear h4
  cases hL : isLet s[0]
  · have HL := Lib.hid hL
    have HV := Lib.hid (isName_let s hpos hL)
    clear hL
    go_enter Tryz.func47, Tryz.ntmps47
    go_wp2_with fail
    ((with_reducible refine (nletter_any s[0] _).mono ?_); rintro e wn ⟨rfl, rfl⟩)
    rw [HL.out]
    go_wp2_with fail
    go_ret
    exact ⟨ret_bool HV.out.symm, rfl⟩
  · have HL := Lib.hid hL
    have HE := Lib.hid (isName_all s hpos h40 hL)
    clear hL
    go_enter Tryz.func47, Tryz.ntmps47
    go_wp2_with fail
    ((with_reducible refine (nletter_any s[0] _).mono ?_); rintro e wn ⟨rfl, rfl⟩)
    rw [HL.out]
    go_wp2_with fail
    go_loopg [20] (s.size) (fun g i wr => ∃ k : Nat, k + g = s.size ∧ i = .int .i64 k ∧ (∀ x ∈ s.data.toList.take k, isNm x = true) ∧ w = wr)
    case atStart => exact ⟨0, by omega, rfl, by simp, rfl⟩
    case round =>
      obtain ⟨k, hk, rfl, hall, rfl⟩ := hrel
      have HA := Lib.hid hall
      have HK := Lib.hid hk
      have hle : k ≤ s.size := by omega
      clear hall hk
      by_cases hlt : k < s.size
      · cases hF : isNm s[k]
        · have HF := Lib.hid hF
          have HV := Lib.hid (all_stop' isNm s k hlt hF)
          clear hF
          go_wp2_with fail
          ((with_reducible refine (npart_any s[k] _).mono ?_); rintro e wn ⟨rfl, rfl⟩)
          rw [HF.out]
          go_wp2_with fail
          go_ret
          exact ⟨ret_bool (by rw [HE.out, HV.out]), rfl⟩
        · have HF := Lib.hid hF
          have HN := Lib.hid (take_all isNm s k HA.out hlt hF)
          clear hF
          go_wp2_with fail
          ((with_reducible refine (npart_any s[k] _).mono ?_); rintro e wn ⟨rfl, rfl⟩)
          rw [HF.out]
          go_wp2_with fail
          go_roundg (gk - 1)
          case measure => have := HK.out; omega
          case rel => exact ⟨k + 1, by have := HK.out; omega, by go_num, HN.out, rfl⟩
      · have HV := Lib.hid (all_done isNm s k HA.out (by omega))
        go_wp2_with fail
        go_ret
        exact ⟨ret_bool (by rw [HE.out, HV.out]), rfl⟩

set_option maxHeartbeats 3200000 in
theorem sisName_any (s : ByteArray) (w : World) (hs : s.size ≤ 9223372036854775000) :
    Calls Tryz.prog 23 #[.string s] w fun e w' => e = .returned (.bool (isNameB s.data.toList)) ∧ w = w' := by
  by_cases h0 : s.size = 0
  · have HV := Lib.hid (isName_nil s h0)
    have q0 : (s.size : Int) < 1 := by omega
    go_enter Tryz.func23, Tryz.ntmps23
    go_wp2_with fail
    go_ret
    exact ⟨ret_bool HV.out.symm, rfl⟩
  have hpos : 0 < s.size := by omega
  clear h0
  by_cases h4 : 40 < s.size
  · have HV := Lib.hid (isName_long s h4)
    go_enter Tryz.func23, Tryz.ntmps23
    go_wp2_with fail
    go_ret
    exact ⟨ret_bool HV.out.symm, rfl⟩
  have h40 : s.size ≤ 40 := by omega
  clear h4
  cases hL : isLet s[0]
  · have HL := Lib.hid hL
    have HV := Lib.hid (isName_let s hpos hL)
    clear hL
    go_enter Tryz.func23, Tryz.ntmps23
    go_wp2_with fail
    ((with_reducible refine (sletter_any s[0] _).mono ?_); rintro e wn ⟨rfl, rfl⟩)
    rw [HL.out]
    go_wp2_with fail
    go_ret
    exact ⟨ret_bool HV.out.symm, rfl⟩
  · have HL := Lib.hid hL
    have HE := Lib.hid (isName_all s hpos h40 hL)
    have H0 := Lib.hid (take_all isNm s 0 (by simp) hpos (nm_let _ hL))
    clear hL
    go_enter Tryz.func23, Tryz.ntmps23
    go_wp2_with fail
    ((with_reducible refine (sletter_any s[0] _).mono ?_); rintro e wn ⟨rfl, rfl⟩)
    rw [HL.out]
    go_wp2_with fail
    go_loopg [3] (s.size) (fun g i wr => ∃ k : Nat, k ≤ s.size ∧ s.size ≤ k + g ∧ i = .int .i64 k ∧ (∀ x ∈ s.data.toList.take k, isNm x = true) ∧ w = wr)
    case atStart => exact ⟨1, by omega, by omega, rfl, H0.out, rfl⟩
    case round =>
      obtain ⟨k, hk, hk2, rfl, hall, rfl⟩ := hrel
      have HA := Lib.hid hall
      clear hall
      by_cases hlt : k < s.size
      · cases hL2 : isLet s[k]
        · have HL2 := Lib.hid hL2
          rcases dig_parts s[k] with ⟨d1, hD⟩ | ⟨⟨d1, d2⟩, hD⟩ | ⟨d1, hD⟩
          rotate_left
          · have HN := Lib.hid (take_all isNm s k HA.out hlt (nm_dig _ hD))
            clear hL2 hD
            go_wp2_with fail
            ((with_reducible refine (sletter_any s[k] _).mono ?_); rintro e wn ⟨rfl, rfl⟩)
            rw [HL2.out]
            go_wp2_with fail
            go_roundg (gk - 1)
            case measure => omega
            case rel => exact ⟨k + 1, by omega, by omega, by go_num, HN.out, rfl⟩
          all_goals
            first | (have d3 : decide ((s[k].toNat : Int) ≤ 57) = false := by (simp; omega)) | skip
            by_cases h95 : (s[k].toNat : Int) = 95
            · have HN := Lib.hid (take_all isNm s k HA.out hlt (nm_is _ (.inl h95)))
              have q1 : ((s[k].toNat : Int) != 95) = false := by rw [h95]; rfl
              clear h95 hL2 hD
              go_wp2_with fail
              ((with_reducible refine (sletter_any s[k] _).mono ?_); rintro e wn ⟨rfl, rfl⟩)
              rw [HL2.out]
              go_wp2_with fail
              go_roundg (gk - 1)
              case measure => omega
              case rel => exact ⟨k + 1, by omega, by omega, by go_num, HN.out, rfl⟩
            by_cases h45 : (s[k].toNat : Int) = 45
            · have HN := Lib.hid (take_all isNm s k HA.out hlt (nm_is _ (.inr (.inl h45))))
              have q1 : ((s[k].toNat : Int) != 95) = true := by rw [h45]; rfl
              have q2 : ((s[k].toNat : Int) != 45) = false := by rw [h45]; rfl
              clear h95 h45 hL2 hD
              go_wp2_with fail
              ((with_reducible refine (sletter_any s[k] _).mono ?_); rintro e wn ⟨rfl, rfl⟩)
              rw [HL2.out]
              go_wp2_with fail
              go_roundg (gk - 1)
              case measure => omega
              case rel => exact ⟨k + 1, by omega, by omega, by go_num, HN.out, rfl⟩
            by_cases h46 : (s[k].toNat : Int) = 46
            · have HN := Lib.hid (take_all isNm s k HA.out hlt (nm_is _ (.inr (.inr h46))))
              have q1 : ((s[k].toNat : Int) != 95) = true := by rw [h46]; rfl
              have q2 : ((s[k].toNat : Int) != 45) = true := by rw [h46]; rfl
              have q3 : ((s[k].toNat : Int) != 46) = false := by rw [h46]; rfl
              clear h95 h45 h46 hL2 hD
              go_wp2_with fail
              ((with_reducible refine (sletter_any s[k] _).mono ?_); rintro e wn ⟨rfl, rfl⟩)
              rw [HL2.out]
              go_wp2_with fail
              go_roundg (gk - 1)
              case measure => omega
              case rel => exact ⟨k + 1, by omega, by omega, by go_num, HN.out, rfl⟩
            · have HV := Lib.hid (all_stop' isNm s k hlt (nm_no _ hL2 hD ⟨h95, h45, h46⟩))
              have q1 : ((s[k].toNat : Int) != 95) = true := by simpa using h95
              have q2 : ((s[k].toNat : Int) != 45) = true := by simpa using h45
              have q3 : ((s[k].toNat : Int) != 46) = true := by simpa using h46
              clear h95 h45 h46 hL2 hD
              go_wp2_with fail
              ((with_reducible refine (sletter_any s[k] _).mono ?_); rintro e wn ⟨rfl, rfl⟩)
              rw [HL2.out]
              go_wp2_with fail
              go_ret
              exact ⟨ret_bool (by rw [HE.out, HV.out]), rfl⟩
        · have HL2 := Lib.hid hL2
          have HN := Lib.hid (take_all isNm s k HA.out hlt (nm_let _ hL2))
          clear hL2
          go_wp2_with fail
          ((with_reducible refine (sletter_any s[k] _).mono ?_); rintro e wn ⟨rfl, rfl⟩)
          rw [HL2.out]
          go_wp2_with fail
          go_roundg (gk - 1)
          case measure => omega
          case rel => exact ⟨k + 1, by omega, by omega, by go_num, HN.out, rfl⟩
      · have HV := Lib.hid (all_done isNm s k HA.out (by omega))
        go_wp2_with fail
        go_ret
        exact ⟨ret_bool (by rw [HE.out, HV.out]), rfl⟩
end Go.Proofs.YtbbdgncjpbfooaaGreatDoor
