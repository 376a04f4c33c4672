/- text of the reference: what a call returns. -/
import Derived.Test.YtlocbindafdmhaaDoorKu
namespace Go.Proofs.YtlocbindafdmhaaDoor
open Go.RowKit

/-- a literal behind what was read of it -/
def litP (acc : List UInt8) (k : Nat) (l : List UInt8) : Except Nat (List UInt8 × Nat) := match lit l with | .ok (t, n) => .ok (acc ++ t, k + n) | .error e => .error e
theorem litP_start (l : List UInt8) : litP [] 0 l = lit l := by
  unfold litP; cases lit l with
  | error e => rfl
  | ok x => simp
theorem litP_nil (acc : List UInt8) (k : Nat) : litP acc k [] = .error 4 := rfl
theorem litP_end (acc : List UInt8) (k : Nat) (c : UInt8) (l : List UInt8) (h : (c.toNat : Int) = 34) : litP acc k (c :: l) = .ok (acc, k + 1) := by
  unfold litP; rw [lit.eq_def]; simp only [if_pos (show c.toNat = 34 by omega), List.append_nil]
theorem litP_bad (acc : List UInt8) (k : Nat) (c : UInt8) (l : List UInt8) (h : (c.toNat : Int) ≠ 34) (h2 : isPr c = false) : litP acc k (c :: l) = .error 3 := by
  unfold litP; rw [lit.eq_def]; simp only [if_neg (show ¬ c.toNat = 34 by omega), if_pos h2]
theorem litP_next (acc : List UInt8) (k : Nat) (c : UInt8) (l : List UInt8) (h : (c.toNat : Int) ≠ 34) (h2 : isPr c = true) (h3 : (c.toNat : Int) ≠ 92) : litP acc k (c :: l) = litP (acc ++ [c]) (k + 1) l := by
  unfold litP; rw [lit.eq_def]; simp only [if_neg (show ¬ c.toNat = 34 by omega), h2, Bool.true_eq_false, if_false, if_neg (show ¬ c.toNat = 92 by omega)]
  cases lit l <;> simp; omega
theorem litP_bs (acc : List UInt8) (k : Nat) (c : UInt8) (h : (c.toNat : Int) = 92) : litP acc k [c] = .error 4 := by
  unfold litP; rw [lit.eq_def]; simp only [if_neg (show ¬ c.toNat = 34 by omega), pr_of c h, Bool.true_eq_false, if_false, if_pos (show c.toNat = 92 by omega)]
theorem litP_esc (acc : List UInt8) (k : Nat) (c d : UInt8) (l : List UInt8) (h : (c.toNat : Int) = 92) (hd : (d.toNat : Int) = 34 ∨ (d.toNat : Int) = 92) : litP acc k (c :: d :: l) = litP (acc ++ [d]) (k + 2) l := by
  unfold litP; rw [lit.eq_def]; simp only [if_neg (show ¬ c.toNat = 34 by omega), pr_of c h, Bool.true_eq_false, if_false, if_pos (show c.toNat = 92 by omega), if_pos (show d.toNat = 34 ∨ d.toNat = 92 by omega)]
  cases lit l <;> simp; omega
theorem litP_esb (acc : List UInt8) (k : Nat) (c d : UInt8) (l : List UInt8) (h : (c.toNat : Int) = 92) (hd : (d.toNat : Int) ≠ 34 ∧ (d.toNat : Int) ≠ 92) : litP acc k (c :: d :: l) = .error 3 := by
  unfold litP; rw [lit.eq_def]; simp only [if_neg (show ¬ c.toNat = 34 by omega), pr_of c h, Bool.true_eq_false, if_false, if_pos (show c.toNat = 92 by omega), if_neg (show ¬ (d.toNat = 34 ∨ d.toNat = 92) by omega)]
theorem ext_one (s : ByteArray) (j : Nat) (h : j < s.size) : (s.extract j (j + 1)).data.toList = [s[j]] := by
  rw [Lib.extract_data, drop_byte s j h, show j + 1 - j = 1 by omega]; rfl
theorem ext_one_size (s : ByteArray) (j : Nat) (h : j < s.size) : (s.extract j (j + 1)).size = 1 := by
  rw [← len_byte, ext_one s j h]; rfl
theorem cat_list (a b : ByteArray) : (a ++ b).data.toList = a.data.toList ++ b.data.toList := by
  obtain ⟨⟨x⟩⟩ := a
  obtain ⟨⟨y⟩⟩ := b
  have := bytes_cat x y
  rw [show (ByteArray.mk { toList := x }) = (⟨x.toArray⟩ : ByteArray) from rfl, show (ByteArray.mk { toList := y }) = (⟨y.toArray⟩ : ByteArray) from rfl, this]
theorem cat_size (a b : ByteArray) : (a ++ b).size = a.size + b.size := by
  rw [← len_byte, cat_list, List.length_append, len_byte, len_byte]

set_option maxHeartbeats 6400000 in
set_option maxRecDepth 100000 in
theorem rtext_any (s : ByteArray) (i : Nat) (w : World) (hi : i < s.size) (hs : s.size ≤ 1073741824) (h0 : (s[i].toNat : Int) = 34) :
    Calls Tryd.prog 68 #[.string s, .int .i64 i] w fun e w' => e = rtkRet (readTok (s.data.toList.drop i)) i ∧ Below w.heap.size w w' := by
  have HRd := Lib.hid (show readTok (s.data.toList.drop i) = match lit (s.data.toList.drop (i + 1)) with | .ok (t, n) => .ok (⟨3, t, 0⟩, n + 1) | .error e => .error e by rw [drop_byte s i hi]; exact read_lit _ _ h0)
  generalize hR : lit (s.data.toList.drop (i + 1)) = R at HRd
  have HR0 := Lib.hid hR; clear hR h0
  go_enter Tryd.func68, Tryd.ntmps68
  go_wp2_with fail
  go_loopg [1, 7] (s.size) (fun g x ov wr => ∃ (k : Nat) (o : ByteArray), i + 1 + k ≤ s.size ∧ s.size ≤ i + 1 + k + g ∧ o.size ≤ k ∧ x = .int .i64 ((i + 1 + k : Nat) : Int) ∧ ov = .string o ∧ litP o.data.toList k (s.data.toList.drop (i + 1 + k)) = R ∧ ZW w = wr)
  case atStart => exact ⟨0, ⟨#[]⟩, by omega, by omega, Nat.le_refl _, rfl, rfl, by rw [← HR0.out]; exact litP_start _, rfl⟩
  case round =>
    obtain ⟨k, o, hk, hk2, hos, rfl, rfl, hI, rfl⟩ := hrel
    have HI := Lib.hid hI; clear hI HR0
    by_cases hlt : i + 1 + k < s.size
    · have HC := Lib.hid (drop_byte s (i + 1 + k) hlt)
      by_cases h34 : (s[i + 1 + k].toNat : Int) = 34
      · have q1 : ((s[i + 1 + k].toNat : Int) == 34) = true := by rw [h34]; rfl
        have HV := Lib.hid (show R = .ok (o.data.toList, k + 1) by rw [← HI.out, HC.out, litP_end _ _ _ _ h34])
        have HE := Lib.hid (show readTok (s.data.toList.drop i) = .ok (⟨3, o.data.toList, 0⟩, k + 1 + 1) by rw [HRd.out, HV.out])
        clear h34
        unfold ZW
        go_wp2_with fail
        refine bodyPost_ret (v := .tuple #[tkv 3 o 0 (0, 0), .int .i64 ((i + 1 + k + 1 : Nat) : Int), .int .i64 0]) (by simp [results, Tryd.results68, go_sem]; rfl) rfl ⟨rtk_ok HE.out rfl (by omega), ?_⟩
        exact below_alloc w _
      have q1 : ((s[i + 1 + k].toNat : Int) == 34) = false := by simp; omega
      have H34 := Lib.hid h34; clear h34
      rcases pr_parts s[i + 1 + k] with ⟨h, hv⟩ | ⟨⟨h, h'⟩, hv⟩ | ⟨h, hv⟩
      · have HV := Lib.hid (show R = .error 3 by rw [← HI.out, HC.out, litP_bad _ _ _ _ H34.out hv])
        clear hv
        have HE := Lib.hid (show readTok (s.data.toList.drop i) = .error 3 by rw [HRd.out, HV.out])
        unfold ZW
        go_wp2_with fail
        refine bodyPost_ret (v := .tuple #[tkv 0 ⟨#[]⟩ 0 (0, 0), .int .i64 0, .int .i64 3]) (by simp [results, Tryd.results68, go_sem]; rfl) rfl ⟨rtk_err HE.out, ?_⟩
        exact below_alloc w _
      rotate_left
      · have HV := Lib.hid (show R = .error 3 by rw [← HI.out, HC.out, litP_bad _ _ _ _ H34.out hv])
        clear hv
        have HE := Lib.hid (show readTok (s.data.toList.drop i) = .error 3 by rw [HRd.out, HV.out])
        unfold ZW
        go_wp2_with fail
        refine bodyPost_ret (v := .tuple #[tkv 0 ⟨#[]⟩ 0 (0, 0), .int .i64 0, .int .i64 3]) (by simp [results, Tryd.results68, go_sem]; rfl) rfl ⟨rtk_err HE.out, ?_⟩
        exact below_alloc w _
      by_cases h92 : (s[i + 1 + k].toNat : Int) = 92
      · have q2 : ((s[i + 1 + k].toNat : Int) == 92) = true := by rw [h92]; rfl
        have H92 := Lib.hid h92; clear h92 hv
        by_cases hl2 : i + 1 + k + 1 < s.size
        · have q3 : (((i : Int) + 1 + (k : Int) + 1) == (s.size : Int)) = false := by simp; omega
          have HC2 := Lib.hid (drop_byte s (i + 1 + k + 1) hl2)
          have HEX := Lib.hid (ext_one s (i + 1 + k + 1) hl2)
          have hsz := ext_one_size s (i + 1 + k + 1) hl2
          by_cases d34 : (s[i + 1 + k + 1].toNat : Int) = 34
          · have q4 : ((s[i + 1 + k + 1].toNat : Int) != 34) = false := by rw [d34]; rfl
            have HV := Lib.hid (show litP (o.data.toList ++ [s[i + 1 + k + 1]]) (k + 2) (s.data.toList.drop (i + 1 + (k + 2))) = R by rw [← HI.out, HC.out, HC2.out, litP_esc _ _ _ _ _ H92.out (.inl d34)]; rfl)
            clear d34
            unfold ZW
            go_wp2_with fail
            go_roundg (gk - 1)
            case measure => omega
            case rel => exact ⟨k + 2, o ++ s.extract (i + 1 + k + 1) (i + 1 + k + 1 + 1), by omega, by omega, by rw [cat_size, hsz]; omega, by go_num, rfl, by rw [cat_list, HEX.out]; exact HV.out, rfl⟩
          by_cases d92 : (s[i + 1 + k + 1].toNat : Int) = 92
          · have q4 : ((s[i + 1 + k + 1].toNat : Int) != 34) = true := by rw [d92]; rfl
            have q5 : ((s[i + 1 + k + 1].toNat : Int) != 92) = false := by rw [d92]; rfl
            have HV := Lib.hid (show litP (o.data.toList ++ [s[i + 1 + k + 1]]) (k + 2) (s.data.toList.drop (i + 1 + (k + 2))) = R by rw [← HI.out, HC.out, HC2.out, litP_esc _ _ _ _ _ H92.out (.inr d92)]; rfl)
            clear d34 d92
            unfold ZW
            go_wp2_with fail
            go_roundg (gk - 1)
            case measure => omega
            case rel => exact ⟨k + 2, o ++ s.extract (i + 1 + k + 1) (i + 1 + k + 1 + 1), by omega, by omega, by rw [cat_size, hsz]; omega, by go_num, rfl, by rw [cat_list, HEX.out]; exact HV.out, rfl⟩
          · have q4 : ((s[i + 1 + k + 1].toNat : Int) != 34) = true := by simpa using d34
            have q5 : ((s[i + 1 + k + 1].toNat : Int) != 92) = true := by simpa using d92
            have HV := Lib.hid (show R = .error 3 by rw [← HI.out, HC.out, HC2.out, litP_esb _ _ _ _ _ H92.out ⟨d34, d92⟩])
            clear d34 d92
            have HE := Lib.hid (show readTok (s.data.toList.drop i) = .error 3 by rw [HRd.out, HV.out])
            unfold ZW
            go_wp2_with fail
            refine bodyPost_ret (v := .tuple #[tkv 0 ⟨#[]⟩ 0 (0, 0), .int .i64 0, .int .i64 3]) (by simp [results, Tryd.results68, go_sem]; rfl) rfl ⟨rtk_err HE.out, ?_⟩
            exact below_alloc w _
        · have q3 : (((i : Int) + 1 + (k : Int) + 1) == (s.size : Int)) = true := by simp; omega
          have HV := Lib.hid (show R = .error 4 by rw [← HI.out, HC.out, List.drop_eq_nil_of_le (by rw [len_byte]; omega), litP_bs _ _ _ H92.out])
          have HE := Lib.hid (show readTok (s.data.toList.drop i) = .error 4 by rw [HRd.out, HV.out])
          unfold ZW
          go_wp2_with fail
          refine bodyPost_ret (v := .tuple #[tkv 0 ⟨#[]⟩ 0 (0, 0), .int .i64 0, .int .i64 4]) (by simp [results, Tryd.results68, go_sem]; rfl) rfl ⟨rtk_err HE.out, ?_⟩
          exact below_alloc w _
      · have q2 : ((s[i + 1 + k].toNat : Int) == 92) = false := by simp; omega
        have HEX := Lib.hid (ext_one s (i + 1 + k) hlt)
        have hsz := ext_one_size s (i + 1 + k) hlt
        have HV := Lib.hid (show litP (o.data.toList ++ [s[i + 1 + k]]) (k + 1) (s.data.toList.drop (i + 1 + (k + 1))) = R by rw [← HI.out, HC.out, litP_next _ _ _ _ H34.out hv h92]; rfl)
        clear h92 hv
        unfold ZW
        go_wp2_with fail
        go_roundg (gk - 1)
        case measure => omega
        case rel => exact ⟨k + 1, o ++ s.extract (i + 1 + k) (i + 1 + k + 1), by omega, by omega, by rw [cat_size, hsz]; omega, by go_num, rfl, by rw [cat_list, HEX.out]; exact HV.out, rfl⟩
    · have HV := Lib.hid (show R = .error 4 by rw [← HI.out, List.drop_eq_nil_of_le (by rw [len_byte]; omega)]; rfl)
      have HE := Lib.hid (show readTok (s.data.toList.drop i) = .error 4 by rw [HRd.out, HV.out])
      unfold ZW
      go_wp2_with fail
      refine bodyPost_ret (v := .tuple #[tkv 0 ⟨#[]⟩ 0 (0, 0), .int .i64 0, .int .i64 4]) (by simp [results, Tryd.results68, go_sem]; rfl) rfl ⟨rtk_err HE.out, ?_⟩
      exact below_alloc w _
end Go.Proofs.YtlocbindafdmhaaDoor
