/- number of the reference: what a call returns. -/
import Derived.Test.YtlocbindafdmhaaDoorKt
namespace Go.Proofs.YtlocbindafdmhaaDoor
open Go.RowKit

theorem dig_range (c : UInt8) (h : isDig c = true) : 48 ≤ (c.toNat : Int) ∧ (c.toNat : Int) ≤ 57 := by unfold isDig at h; simp at h; omega
theorem dval_from (s : ByteArray) (i k : Nat) (hk : i + k < s.size) (h : 48 ≤ (s[i + k].toNat : Int)) : ((dval ((s.data.toList.drop i).take (k + 1)) : Nat) : Int) = 10 * ((dval ((s.data.toList.drop i).take k) : Nat) : Int) + ((s[i + k].toNat : Int) - 48) := by
  rw [take_from s i k hk, dval_snoc]; omega

set_option maxHeartbeats 6400000 in
set_option maxRecDepth 100000 in
theorem rnumber_any (s : ByteArray) (i : Nat) (w : World) (hi : i < s.size) (hs : s.size ≤ 1099511627776) (hD0 : isDig s[i] = true) :
    Calls Tryd.prog 67 #[.string s, .int .i64 i] w fun e w' => e = rtkRet (readTok (s.data.toList.drop i)) i ∧ Below w.heap.size w w' := by
  have HRd := Lib.hid (show readTok (s.data.toList.drop i) = if tailB ((s.data.toList.drop i).drop (spanN isDig (s.data.toList.drop i))) then .error 3 else if 4503599627370496 < dval ((s.data.toList.drop i).take (spanN isDig (s.data.toList.drop i))) then .error 6 else .ok (⟨2, [], dval ((s.data.toList.drop i).take (spanN isDig (s.data.toList.drop i)))⟩, spanN isDig (s.data.toList.drop i)) by rw [drop_byte s i hi]; exact read_num _ _ hD0)
  clear hD0
  go_enter Tryd.func67, Tryd.ntmps67
  go_wp2_with fail
  go_loopg [1, 7, 8] (s.size) (fun g x nn bb wr => ∃ k : Nat, i + k ≤ s.size ∧ s.size ≤ i + k + g ∧ x = .int .i64 ((i + k : Nat) : Int) ∧ (∀ y ∈ (s.data.toList.drop i).take k, isDig y = true) ∧ ZW w = wr ∧
    ((bb = .bool false ∧ nn = .int .i64 ((dval ((s.data.toList.drop i).take k) : Nat) : Int) ∧ dval ((s.data.toList.drop i).take k) ≤ 4503599627370496) ∨ (bb = .bool true ∧ (∃ m : Int, nn = .int .i64 m) ∧ 4503599627370496 < dval ((s.data.toList.drop i).take k))))
  case atStart => exact ⟨0, by omega, by omega, rfl, by simp, rfl, .inl ⟨rfl, rfl, by simp [dval]⟩⟩
  case round =>
    obtain ⟨k, hk, hk2, rfl, hA, rfl, hcase⟩ := hrel
    have HA := Lib.hid hA; clear hA
    have HDV := Lib.hid (fun hlt : i + k < s.size => dval_from s i k hlt)
    generalize hV : dval ((s.data.toList.drop i).take k) = V at *
    have HV0 := Lib.hid hV; clear hV
    by_cases hlt : i + k < s.size
    · cases hD : isDig s[i + k]
      · have HD := Lib.hid hD
        have HSP := Lib.hid (span_from isDig s i k hlt HA.out hD)
        have HDR := Lib.hid (show (s.data.toList.drop i).drop k = s[i + k] :: s.data.toList.drop (i + k + 1) by rw [List.drop_drop]; exact drop_byte s (i + k) hlt)
        clear hD
        cases hL : isLet s[i + k]
        · have HL := Lib.hid hL
          by_cases h95 : (s[i + k].toNat : Int) = 95
          · have q95 : ((s[i + k].toNat : Int) == 95) = true := by rw [h95]; rfl
            have HE := Lib.hid (show readTok (s.data.toList.drop i) = .error 3 by rw [HRd.out, HSP.out, HDR.out, tailB, hL, if_pos (by simp; omega)])
            clear h95 hL
            rcases hcase with ⟨rfl, rfl, hle⟩ | ⟨rfl, ⟨m, rfl⟩, hgt⟩
            all_goals
              unfold ZW
              go_wp2_with fail
              ((with_reducible refine (rdigit_any s[i + k] _).mono ?_); rintro e wn ⟨rfl, rfl⟩)
              rw [HD.out]
              go_wp2_with fail
              ((with_reducible refine (rletter_any s[i + k] _).mono ?_); rintro e wn ⟨rfl, rfl⟩)
              rw [HL.out]
              go_wp2_with fail
              refine bodyPost_ret (v := .tuple #[tkv 0 ⟨#[]⟩ 0 (0, 0), .int .i64 0, .int .i64 3]) (by simp [results, Tryd.results67, go_sem]; rfl) rfl ⟨rtk_err HE.out, ?_⟩
              exact below_alloc w _
          · have q95 : ((s[i + k].toNat : Int) == 95) = false := by simp; omega
            have HTB := Lib.hid (show readTok (s.data.toList.drop i) = if 4503599627370496 < V then .error 6 else .ok (⟨2, [], V⟩, k) by rw [HRd.out, HSP.out, HDR.out, tailB, hL, if_neg (by simp; omega), HV0.out])
            clear h95 hL
            rcases hcase with ⟨rfl, rfl, hle⟩ | ⟨rfl, ⟨m, rfl⟩, hgt⟩
            · have HE := Lib.hid (show readTok (s.data.toList.drop i) = .ok (⟨2, [], V⟩, k) by rw [HTB.out, if_neg (by omega)])
              unfold ZW
              go_wp2_with fail
              ((with_reducible refine (rdigit_any s[i + k] _).mono ?_); rintro e wn ⟨rfl, rfl⟩)
              rw [HD.out]
              go_wp2_with fail
              ((with_reducible refine (rletter_any s[i + k] _).mono ?_); rintro e wn ⟨rfl, rfl⟩)
              rw [HL.out]
              go_wp2_with fail
              refine bodyPost_ret (v := .tuple #[tkv 2 ⟨#[]⟩ V (0, 0), .int .i64 ((i + k : Nat) : Int), .int .i64 0]) (by simp [results, Tryd.results67, go_sem]; rfl) rfl ⟨rtk_ok HE.out rfl rfl, ?_⟩
              exact below_alloc w _
            · have HE := Lib.hid (show readTok (s.data.toList.drop i) = .error 6 by rw [HTB.out, if_pos hgt])
              unfold ZW
              go_wp2_with fail
              ((with_reducible refine (rdigit_any s[i + k] _).mono ?_); rintro e wn ⟨rfl, rfl⟩)
              rw [HD.out]
              go_wp2_with fail
              ((with_reducible refine (rletter_any s[i + k] _).mono ?_); rintro e wn ⟨rfl, rfl⟩)
              rw [HL.out]
              go_wp2_with fail
              refine bodyPost_ret (v := .tuple #[tkv 0 ⟨#[]⟩ 0 (0, 0), .int .i64 0, .int .i64 6]) (by simp [results, Tryd.results67, go_sem]; rfl) rfl ⟨rtk_err HE.out, ?_⟩
              exact below_alloc w _
        · have HL := Lib.hid hL
          have HE := Lib.hid (show readTok (s.data.toList.drop i) = .error 3 by rw [HRd.out, HSP.out, HDR.out, tailB, hL]; rfl)
          clear hL
          rcases hcase with ⟨rfl, rfl, hle⟩ | ⟨rfl, ⟨m, rfl⟩, hgt⟩
          all_goals
            unfold ZW
            go_wp2_with fail
            ((with_reducible refine (rdigit_any s[i + k] _).mono ?_); rintro e wn ⟨rfl, rfl⟩)
            rw [HD.out]
            go_wp2_with fail
            ((with_reducible refine (rletter_any s[i + k] _).mono ?_); rintro e wn ⟨rfl, rfl⟩)
            rw [HL.out]
            go_wp2_with fail
            refine bodyPost_ret (v := .tuple #[tkv 0 ⟨#[]⟩ 0 (0, 0), .int .i64 0, .int .i64 3]) (by simp [results, Tryd.results67, go_sem]; rfl) rfl ⟨rtk_err HE.out, ?_⟩
            exact below_alloc w _
      · have HD := Lib.hid hD
        have HN := Lib.hid (all_from isDig s i k hlt HA.out hD)
        obtain ⟨d1, d2⟩ := dig_range _ hD
        have HW := Lib.hid (HDV.out hlt d1)
        clear hD
        rcases hcase with ⟨rfl, rfl, hle⟩ | ⟨rfl, ⟨m, rfl⟩, hgt⟩
        · by_cases hb : 10 * (V : Int) + ((s[i + k].toNat : Int) - 48) ≤ 4503599627370496
          · unfold ZW
            go_wp2_with fail
            ((with_reducible refine (rdigit_any s[i + k] _).mono ?_); rintro e wn ⟨rfl, rfl⟩)
            rw [HD.out]
            go_wp2_with fail
            go_roundg (gk - 1)
            case measure => omega
            case rel => exact ⟨k + 1, by omega, by omega, by go_num, HN.out, rfl, .inl ⟨by first | rfl | (congr 1; simp; omega), by rw [HW.out], by have := HW.out; omega⟩⟩
          · have hb' : 4503599627370496 < 10 * (V : Int) + ((s[i + k].toNat : Int) - 48) := by omega
            clear hb
            unfold ZW
            go_wp2_with fail
            ((with_reducible refine (rdigit_any s[i + k] _).mono ?_); rintro e wn ⟨rfl, rfl⟩)
            rw [HD.out]
            go_wp2_with fail
            go_roundg (gk - 1)
            case measure => omega
            case rel => exact ⟨k + 1, by omega, by omega, by go_num, HN.out, rfl, .inr ⟨by first | rfl | (congr 1; simp; omega), ⟨_, rfl⟩, by have := HW.out; omega⟩⟩
        · unfold ZW
          go_wp2_with fail
          ((with_reducible refine (rdigit_any s[i + k] _).mono ?_); rintro e wn ⟨rfl, rfl⟩)
          rw [HD.out]
          go_wp2_with fail
          go_roundg (gk - 1)
          case measure => omega
          case rel => exact ⟨k + 1, by omega, by omega, by go_num, HN.out, rfl, .inr ⟨rfl, ⟨_, rfl⟩, by have := HW.out; omega⟩⟩
    · have HSP := Lib.hid (span_end isDig s i k (by omega) HA.out)
      have HTB := Lib.hid (show readTok (s.data.toList.drop i) = if 4503599627370496 < V then .error 6 else .ok (⟨2, [], V⟩, k) by rw [HRd.out, HSP.out, List.drop_eq_nil_of_le (by rw [List.length_drop, len_byte]; omega), HV0.out]; rfl)
      rcases hcase with ⟨rfl, rfl, hle⟩ | ⟨rfl, ⟨m, rfl⟩, hgt⟩
      · have HE := Lib.hid (show readTok (s.data.toList.drop i) = .ok (⟨2, [], V⟩, k) by rw [HTB.out, if_neg (by omega)])
        unfold ZW
        go_wp2_with fail
        refine bodyPost_ret (v := .tuple #[tkv 2 ⟨#[]⟩ V (0, 0), .int .i64 ((i + k : Nat) : Int), .int .i64 0]) (by simp [results, Tryd.results67, go_sem]; rfl) rfl ⟨rtk_ok HE.out rfl rfl, ?_⟩
        exact below_alloc w _
      · have HE := Lib.hid (show readTok (s.data.toList.drop i) = .error 6 by rw [HTB.out, if_pos hgt])
        unfold ZW
        go_wp2_with fail
        refine bodyPost_ret (v := .tuple #[tkv 0 ⟨#[]⟩ 0 (0, 0), .int .i64 0, .int .i64 6]) (by simp [results, Tryd.results67, go_sem]; rfl) rfl ⟨rtk_err HE.out, ?_⟩
        exact below_alloc w _
end Go.Proofs.YtlocbindafdmhaaDoor
