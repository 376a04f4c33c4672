/- name and number of the reference: what a call returns. -/
import Derived.Test.YtlocbindafdmhaaDoorKs
namespace Go.Proofs.YtlocbindafdmhaaDoor
open Go.RowKit

/-- what the reference's readers return: the token, the index behind it, the error number -/
def rtkRet (R : Except Nat (Tok × Nat)) (i : Nat) : Ending :=
  match R with
  | .ok (t, n) => .returned (.tuple #[tkv t.k ⟨t.t.toArray⟩ t.n (0, 0), .int .i64 ((i + n : Nat) : Int), .int .i64 0])
  | .error e => .returned (.tuple #[tkv 0 ⟨#[]⟩ 0 (0, 0), .int .i64 0, .int .i64 (e : Int)])
theorem rtk_ok {R : Except Nat (Tok × Nat)} {i k n m j : Nat} {t : List UInt8} {u : ByteArray} (h : R = .ok (⟨k, t, n⟩, m)) (hu : u.data.toList = t) (hj : j = i + m) : Ending.returned (.tuple #[tkv k u n (0, 0), .int .i64 (j : Int), .int .i64 0]) = rtkRet R i := by
  subst hu hj; rw [h]; rfl
theorem rtk_err {R : Except Nat (Tok × Nat)} {i e : Nat} (h : R = .error e) : Ending.returned (.tuple #[tkv 0 ⟨#[]⟩ 0 (0, 0), .int .i64 0, .int .i64 (e : Int)]) = rtkRet R i := by
  rw [h]; rfl
/-- the world of a reader that has laid its result -/
def ZW (w : World) : World := w.alloc (.cells #[.int .i64 0, .string ⟨#[]⟩, .int .i64 0, .int .i64 0, .int .i64 0] 33)
theorem span_from (f : UInt8 → Bool) (s : ByteArray) (i k : Nat) (hk : i + k < s.size) (h : ∀ x ∈ (s.data.toList.drop i).take k, f x = true) (hf : f s[i + k] = false) : spanN f (s.data.toList.drop i) = k :=
  spanN_stop f _ k s[i + k] _ h (by rw [List.drop_drop]; exact drop_byte s (i + k) hk) hf
theorem span_end (f : UInt8 → Bool) (s : ByteArray) (i k : Nat) (hk : i + k = s.size) (h : ∀ x ∈ (s.data.toList.drop i).take k, f x = true) : spanN f (s.data.toList.drop i) = k := by
  have hl : (s.data.toList.drop i).length = k := by rw [List.length_drop, len_byte]; omega
  rw [List.take_of_length_le (by omega)] at h
  rw [spanN_all f _ h, hl]
theorem take_from (s : ByteArray) (i k : Nat) (hk : i + k < s.size) : (s.data.toList.drop i).take (k + 1) = (s.data.toList.drop i).take k ++ [s[i + k]] := by
  rw [List.take_succ_eq_append_getElem (by rw [List.length_drop, len_byte]; omega)]
  congr 1
  rw [List.getElem_drop]; rfl
theorem all_from (f : UInt8 → Bool) (s : ByteArray) (i k : Nat) (hk : i + k < s.size) (h : ∀ x ∈ (s.data.toList.drop i).take k, f x = true) (hf : f s[i + k] = true) : ∀ x ∈ (s.data.toList.drop i).take (k + 1), f x = true := by
  intro x hx
  rw [take_from s i k hk] at hx
  rcases List.mem_append.1 hx with h1 | h1
  · exact h x h1
  · have : x = s[i + k] := by simpa using h1
    subst this; exact hf
theorem ext_mid (s : ByteArray) (i k : Nat) : (s.extract i (i + k)).data.toList = (s.data.toList.drop i).take k := by
  rw [Lib.extract_data]; congr 1; omega

set_option maxHeartbeats 6400000 in
set_option maxRecDepth 100000 in
theorem rname_any (s : ByteArray) (i : Nat) (w : World) (hi : i < s.size) (hs : s.size ≤ 1099511627776) (hL0 : isLet s[i] = true) :
    Calls Tryd.prog 65 #[.string s, .int .i64 i] w fun e w' => e = rtkRet (readTok (s.data.toList.drop i)) i ∧ Below w.heap.size w w' := by
  have HRd := Lib.hid (show readTok (s.data.toList.drop i) = if 40 < spanN isNm (s.data.toList.drop i) then .error 5 else .ok (⟨1, (s.data.toList.drop i).take (spanN isNm (s.data.toList.drop i)), 0⟩, spanN isNm (s.data.toList.drop i)) by rw [drop_byte s i hi]; exact read_name _ _ hL0)
  clear hL0
  go_enter Tryd.func65, Tryd.ntmps65
  go_wp2_with fail
  go_loopg [1] (s.size) (fun g x wr => ∃ k : Nat, i + k ≤ s.size ∧ s.size ≤ i + k + g ∧ x = .int .i64 ((i + k : Nat) : Int) ∧ (∀ y ∈ (s.data.toList.drop i).take k, isNm y = true) ∧ ZW w = wr)
  case atStart => exact ⟨0, by omega, by omega, rfl, by simp, rfl⟩
  case round =>
    obtain ⟨k, hk, hk2, rfl, hA, rfl⟩ := hrel
    have HA := Lib.hid hA; clear hA
    have HSB := Lib.hid (Nat.add_sub_cancel_left i k)
    by_cases hlt : i + k < s.size
    · cases hL : isLet s[i + k]
      · have HL := Lib.hid hL
        cases hD : isDig s[i + k]
        · have HD := Lib.hid hD
          by_cases h95 : (s[i + k].toNat : Int) = 95
          · have HN := Lib.hid (all_from isNm s i k hlt HA.out (nm_is _ (.inl h95)))
            have q1 : ((s[i + k].toNat : Int) == 95) = true := by rw [h95]; rfl
            clear h95 hL hD
            unfold ZW
            go_wp2_with fail
            ((with_reducible refine (rletter_any s[i + k] _).mono ?_); rintro e wn ⟨rfl, rfl⟩)
            rw [HL.out]
            go_wp2_with fail
            ((with_reducible refine (rdigit_any s[i + k] _).mono ?_); rintro e wn ⟨rfl, rfl⟩)
            rw [HD.out]
            go_wp2_with fail
            go_roundg (gk - 1)
            case measure => omega
            case rel => exact ⟨k + 1, by omega, by omega, by go_num, HN.out, rfl⟩
          by_cases h45 : (s[i + k].toNat : Int) = 45
          · have HN := Lib.hid (all_from isNm s i k hlt HA.out (nm_is _ (.inr (.inl h45))))
            have q1 : ((s[i + k].toNat : Int) == 95) = false := by rw [h45]; rfl
            have q2 : ((s[i + k].toNat : Int) == 45) = true := by rw [h45]; rfl
            clear h95 h45 hL hD
            unfold ZW
            go_wp2_with fail
            ((with_reducible refine (rletter_any s[i + k] _).mono ?_); rintro e wn ⟨rfl, rfl⟩)
            rw [HL.out]
            go_wp2_with fail
            ((with_reducible refine (rdigit_any s[i + k] _).mono ?_); rintro e wn ⟨rfl, rfl⟩)
            rw [HD.out]
            go_wp2_with fail
            go_roundg (gk - 1)
            case measure => omega
            case rel => exact ⟨k + 1, by omega, by omega, by go_num, HN.out, rfl⟩
          by_cases h46 : (s[i + k].toNat : Int) = 46
          · have HN := Lib.hid (all_from isNm s i k hlt HA.out (nm_is _ (.inr (.inr h46))))
            have q1 : ((s[i + k].toNat : Int) == 95) = false := by rw [h46]; rfl
            have q2 : ((s[i + k].toNat : Int) == 45) = false := by rw [h46]; rfl
            have q3 : ((s[i + k].toNat : Int) == 46) = true := by rw [h46]; rfl
            clear h95 h45 h46 hL hD
            unfold ZW
            go_wp2_with fail
            ((with_reducible refine (rletter_any s[i + k] _).mono ?_); rintro e wn ⟨rfl, rfl⟩)
            rw [HL.out]
            go_wp2_with fail
            ((with_reducible refine (rdigit_any s[i + k] _).mono ?_); rintro e wn ⟨rfl, rfl⟩)
            rw [HD.out]
            go_wp2_with fail
            go_roundg (gk - 1)
            case measure => omega
            case rel => exact ⟨k + 1, by omega, by omega, by go_num, HN.out, rfl⟩
          · have HV := Lib.hid (span_from isNm s i k hlt HA.out (nm_no _ hL hD ⟨h95, h45, h46⟩))
            have q1 : ((s[i + k].toNat : Int) == 95) = false := by simp; omega
            have q2 : ((s[i + k].toNat : Int) == 45) = false := by simp; omega
            have q3 : ((s[i + k].toNat : Int) == 46) = false := by simp; omega
            clear h95 h45 h46 hL hD
            by_cases h40 : 40 < k
            · have HE := Lib.hid (show readTok (s.data.toList.drop i) = .error 5 by rw [HRd.out, HV.out, if_pos h40])
              have q40 : (40 : Int) < (i : Int) + (k : Int) - (i : Int) := by omega
              unfold ZW
              go_wp2_with fail
              ((with_reducible refine (rletter_any s[i + k] _).mono ?_); rintro e wn ⟨rfl, rfl⟩)
              rw [HL.out]
              go_wp2_with fail
              ((with_reducible refine (rdigit_any s[i + k] _).mono ?_); rintro e wn ⟨rfl, rfl⟩)
              rw [HD.out]
              go_wp2_with fail
              refine bodyPost_ret (v := .tuple #[tkv 0 ⟨#[]⟩ 0 (0, 0), .int .i64 0, .int .i64 5]) (by simp [results, Tryd.results65, go_sem]; rfl) rfl ⟨rtk_err HE.out, ?_⟩
              exact below_alloc w _
            · have HE := Lib.hid (show readTok (s.data.toList.drop i) = .ok (⟨1, (s.data.toList.drop i).take k, 0⟩, k) by rw [HRd.out, HV.out, if_neg h40])
              have q40 : (i : Int) + (k : Int) - (i : Int) ≤ 40 := by omega
              clear h40
              unfold ZW
              go_wp2_with fail
              ((with_reducible refine (rletter_any s[i + k] _).mono ?_); rintro e wn ⟨rfl, rfl⟩)
              rw [HL.out]
              go_wp2_with fail
              ((with_reducible refine (rdigit_any s[i + k] _).mono ?_); rintro e wn ⟨rfl, rfl⟩)
              rw [HD.out]
              go_wp2_with fail
              refine bodyPost_ret (v := .tuple #[tkv 1 (s.extract i (i + k)) 0 (0, 0), .int .i64 ((i + k : Nat) : Int), .int .i64 0]) (by simp [results, Tryd.results65, go_sem]; rfl) rfl ⟨rtk_ok HE.out (ext_mid s i k) rfl, ?_⟩
              exact below_alloc w _
        · have HD := Lib.hid hD
          have HN := Lib.hid (all_from isNm s i k hlt HA.out (nm_dig _ hD))
          clear hL hD
          unfold ZW
          go_wp2_with fail
          ((with_reducible refine (rletter_any s[i + k] _).mono ?_); rintro e wn ⟨rfl, rfl⟩)
          rw [HL.out]
          go_wp2_with fail
          ((with_reducible refine (rdigit_any s[i + k] _).mono ?_); rintro e wn ⟨rfl, rfl⟩)
          rw [HD.out]
          go_wp2_with fail
          go_roundg (gk - 1)
          case measure => omega
          case rel => exact ⟨k + 1, by omega, by omega, by go_num, HN.out, rfl⟩
      · have HL := Lib.hid hL
        have HN := Lib.hid (all_from isNm s i k hlt HA.out (nm_let _ hL))
        clear hL
        unfold ZW
        go_wp2_with fail
        ((with_reducible refine (rletter_any s[i + k] _).mono ?_); rintro e wn ⟨rfl, rfl⟩)
        rw [HL.out]
        go_wp2_with fail
        go_roundg (gk - 1)
        case measure => omega
        case rel => exact ⟨k + 1, by omega, by omega, by go_num, HN.out, rfl⟩
    · have HV := Lib.hid (span_end isNm s i k (by omega) HA.out)
      by_cases h40 : 40 < k
      · have HE := Lib.hid (show readTok (s.data.toList.drop i) = .error 5 by rw [HRd.out, HV.out, if_pos h40])
        have q40 : (40 : Int) < (i : Int) + (k : Int) - (i : Int) := by omega
        unfold ZW
        go_wp2_with fail
        refine bodyPost_ret (v := .tuple #[tkv 0 ⟨#[]⟩ 0 (0, 0), .int .i64 0, .int .i64 5]) (by simp [results, Tryd.results65, go_sem]; rfl) rfl ⟨rtk_err HE.out, ?_⟩
        exact below_alloc w _
      · have HE := Lib.hid (show readTok (s.data.toList.drop i) = .ok (⟨1, (s.data.toList.drop i).take k, 0⟩, k) by rw [HRd.out, HV.out, if_neg h40])
        have q40 : (i : Int) + (k : Int) - (i : Int) ≤ 40 := by omega
        clear h40
        unfold ZW
        go_wp2_with fail
        refine bodyPost_ret (v := .tuple #[tkv 1 (s.extract i (i + k)) 0 (0, 0), .int .i64 ((i + k : Nat) : Int), .int .i64 0]) (by simp [results, Tryd.results65, go_sem]; rfl) rfl ⟨rtk_ok HE.out (ext_mid s i k) rfl, ?_⟩
        exact below_alloc w _
end Go.Proofs.YtlocbindafdmhaaDoor
