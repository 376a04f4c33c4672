/- Join of the reference: what a call returns. -/
import Derived.Test.YtlocbindafdmhaaDoorNg
namespace Go.Proofs.YtlocbindafdmhaaDoor
open Go.RowKit

theorem rtext_td (x : Td) (w : World) (hv : x.ok = true) :
    Calls Tryd.prog 50 #[.agg #[.int .i64 x.k, .string x.u, .int .i64 x.n, .int .i64 x.l, .int .i64 x.c]] w fun e w' => e = .returned (.string ⟨x.tx.toArray⟩) ∧ Below w.heap.size w w' := rftext_any x.k x.n x.l x.c x.u w hv
/-- how many tokens the reference has seen to have a text, behind k of them -/
def nk (L : List Td) (k : Nat) : Nat := if k = L.length then bodyN L else L.length
theorem nk_lt (L : List Td) (k : Nat) (h : k < L.length) : nk L k = L.length := by unfold nk; rw [if_neg (by omega)]
theorem nk_all (L : List Td) (k : Nat) (h : k = L.length) : nk L k = bodyN L := by unfold nk; rw [if_pos h]
theorem nk_start (L : List Td) : nk L 0 = L.length := by
  unfold nk; split
  · rename_i h; rw [bodyN_nil L h.symm, h]
  · rfl
theorem nk_next (L : List Td) (k : Nat) (h : k < L.length) (hk : L[k].k ≠ 5) : nk L (k + 1) = L.length := by
  unfold nk; split
  · rename_i h1; rw [bodyN_all L k h1.symm hk, h1]
  · rfl
theorem nk_end (L : List Td) (k : Nat) (h0 : k < L.length) (hk : L[k].k = 5) (h : k + 1 = L.length) : nk L (k + 1) = k := by
  rw [nk_all L _ h, bodyN_end L k h.symm hk]
set_option maxHeartbeats 6400000 in
set_option maxRecDepth 100000 in
theorem rjoin_any (A : Option Addr) (n cap : Nat) (L : List Td) (w : World) (h : TkIn w A L) (hu : ∀ t ∈ L, t.u.size ≤ 9223372036854775000) (hn : L.length = n) (hn4 : n ≤ 4000) (hsz : joinB L = true → (joinL L).length ≤ 16384) :
    Calls Tryd.prog 22 #[.slice A n cap] w fun e w' => e = joinRet L ∧ Below w.heap.size w w' := by
  have H0 := Lib.hid h; clear h
  have HU := Lib.hid hu; clear hu
  have HZ := Lib.hid hsz; clear hsz
  have HN := Lib.hid hn; clear hn
  go_enter Tryd.func22, Tryd.ntmps22
  go_wp2_with fail
  go_loopg [4, 5] (n) (fun g v i wr => ∃ k m : Nat, k + g = n ∧ v = .int .i64 m ∧ m = nk L k ∧ i = .int .i64 k ∧ okTo L k = true ∧ TkIn wr A L ∧ Below w.heap.size w wr)
  case atStart => exact ⟨0, n, by omega, rfl, by rw [nk_start, HN.out], rfl, rfl, H0.out, Below.refl _ _⟩
  case round =>
    obtain ⟨k, m, hk, rfl, hm, rfl, hok, hT, hB⟩ := hrel
    have HK := Lib.hid hk
    have HO := Lib.hid hok
    have HT := Lib.hid hT
    have HB := Lib.hid hB
    have hle : k ≤ n := by omega
    clear hk hok hT hB H0
    by_cases hlt : k < n
    · have hlt' : k < L.length := by rw [HN.out]; exact hlt
      obtain rfl : m = n := by rw [hm, nk_lt L k hlt', HN.out]
      clear hm
      obtain ⟨ad, rfl, hp, c0, c1, c2, c3, c4⟩ := HT.out k hlt'
      have HL := Lib.hid (HU.out _ (List.getElem_mem hlt'))
      have HA := Lib.hid (okAt_at L k hlt')
      have HS := Lib.hid (okTo_succ L k)
      have HNO := Lib.hid (joinB_no L k hlt')
      have HX1 := Lib.hid (nk_next L k hlt')
      have HX2 := Lib.hid (nk_end L k hlt')
      have HAT := Lib.hid (show TdAt wr (ad.add (k * 5)) L[k] from ⟨c0, c1, c2, c3, c4⟩)
      generalize L[k] = x at *
      clear hlt'
      have HX := Lib.hid (fun w => rvalid_any x.k x.n x.l x.c x.u w HL.out)
      cases hv : x.ok with
      | false =>
        have HV := Lib.hid hv; clear hv
        have HR := Lib.hid (joinRet_no (HNO.out (by rw [HA.out, HV.out]; rfl)))
        go_wp2_with fail
        ((with_reducible refine (HX.out _).mono ?_); rintro e w1 ⟨rfl, hb1⟩)
        rw [show validB x.k x.n x.u.data.toList = false from HV.out]
        go_wp2_with fail
        go_ret2
        exact ⟨HR.out.symm, below_then HB.out hb1⟩
      | true =>
        have HV := Lib.hid hv; clear hv
        by_cases h5 : x.k = 5
        · have q5 : (x.k == 5) = true := by rw [h5]; rfl
          by_cases hl : k + 1 < m
          · have q6 : decide ((k : Int) + 1 < (m : Int)) = true := by simp; omega
            have HR := Lib.hid (joinRet_no (HNO.out (by rw [HA.out, HV.out, h5, HN.out]; simp [hl])))
            clear h5
            go_wp2_with fail
            ((with_reducible refine (HX.out _).mono ?_); rintro e w1 ⟨rfl, hb1⟩)
            rw [show validB x.k x.n x.u.data.toList = true from HV.out]
            have HC := Lib.hid hb1
            obtain ⟨d0, d1, d2, d3, d4⟩ := HAT.out.below hp hb1
            clear hb1 c0 c1 c2 c3 c4
            go_wp2_with fail
            go_ret2
            exact ⟨HR.out.symm, below_then HB.out HC.out⟩
          · have q6 : decide ((k : Int) + 1 < (m : Int)) = false := by simp; omega
            have HY := Lib.hid (show okTo L (k + 1) = true by rw [HS.out, HO.out, HA.out, HV.out, HN.out]; simp [hl])
            have HM := Lib.hid (HX2.out h5 (by rw [HN.out]; omega))
            clear h5
            go_wp2_with fail
            ((with_reducible refine (HX.out _).mono ?_); rintro e w1 ⟨rfl, hb1⟩)
            rw [show validB x.k x.n x.u.data.toList = true from HV.out]
            have HC := Lib.hid hb1
            obtain ⟨d0, d1, d2, d3, d4⟩ := HAT.out.below hp hb1
            clear hb1 c0 c1 c2 c3 c4
            go_wp2_with fail
            go_roundg (gk - 1)
            case measure => have := HK.out; omega
            case rel => exact ⟨k + 1, k, by have := HK.out; omega, rfl, HM.out.symm, by go_num, HY.out, HT.out.below HC.out, below_then HB.out HC.out⟩
        · have q5 : (x.k == 5) = false := by simpa using h5
          have HY := Lib.hid (show okTo L (k + 1) = true by rw [HS.out, HO.out, HA.out, HV.out]; simp [h5])
          have HM := Lib.hid (HX1.out h5)
          clear h5
          go_wp2_with fail
          ((with_reducible refine (HX.out _).mono ?_); rintro e w1 ⟨rfl, hb1⟩)
          rw [show validB x.k x.n x.u.data.toList = true from HV.out]
          have HC := Lib.hid hb1
          obtain ⟨d0, d1, d2, d3, d4⟩ := HAT.out.below hp hb1
          clear hb1 c0 c1 c2 c3 c4
          go_wp2_with fail
          go_roundg (gk - 1)
          case measure => have := HK.out; omega
          case rel => exact ⟨k + 1, m, by have := HK.out; omega, rfl, by rw [HM.out, HN.out], by go_num, HY.out, HT.out.below HC.out, below_then HB.out HC.out⟩
    · have hkn : k = n := by omega
      have HJB := Lib.hid (show joinB L = true by unfold joinB; rw [HN.out, ← hkn]; exact HO.out)
      have HM := Lib.hid (show bodyN L = m by rw [hm, nk_all L k (by rw [HN.out]; exact hkn)])
      have hml : m ≤ L.length := by rw [← HM.out]; exact bodyN_le L
      have hmn : m ≤ 4000 := by have := HN.out; omega
      have HZ2 := Lib.hid (show (jn (L.take m)).length ≤ 16384 by have := HZ.out HJB.out; unfold joinL at this; rw [HM.out] at this; exact this)
      clear HO HK hm hkn
      go_wp2_with fail
      go_loopg [6, 7] (m) (fun g v i wr => ∃ (j : Nat) (o : ByteArray), j + g = m ∧ v = .string o ∧ i = .int .i64 j ∧ o.data.toList = jn (L.take j) ∧ TkIn wr A L ∧ Below w.heap.size w wr)
      case atStart => exact ⟨0, ⟨#[]⟩, by omega, rfl, rfl, rfl, HT.out, HB.out⟩
      case round =>
        obtain ⟨j, o, hj, rfl, rfl, ho, hT, hB⟩ := hrel
        have HK := Lib.hid hj
        have HO := Lib.hid ho
        replace HT := Lib.hid hT
        replace HB := Lib.hid hB
        have hle : j ≤ m := by omega
        have hos : o.size ≤ 16384 := by rw [← len_byte, ho]; exact Nat.le_trans (jn_take_le L m j hle hml) HZ2.out
        clear hj ho hT hB
        by_cases hlt : j < m
        · have hlt' : j < L.length := by omega
          have hjn : j < n := by have := HN.out; omega
          obtain ⟨ad, rfl, hp, c0, c1, c2, c3, c4⟩ := HT.out j hlt'
          have HOK := Lib.hid (joinB_ok L j hlt' HJB.out)
          have HTK := Lib.hid (jn_take L j hlt')
          have HLn2 := Lib.hid (Nat.le_trans (jn_take_le L m (j + 1) hlt hml) HZ2.out)
          generalize L[j] = x at *
          clear hlt'
          obtain ⟨y, hy⟩ : ∃ y : ByteArray, y = ⟨x.tx.toArray⟩ := ⟨_, rfl⟩
          have HX := Lib.hid (fun w => rtext_td x w HOK.out)
          rw [← hy] at HX
          have HY := Lib.hid (show y.data.toList = x.tx by rw [hy])
          clear hy
          by_cases hj0 : j = 0
          · have HE := Lib.hid (show jn (L.take (j + 1)) = (o ++ y).data.toList by rw [cat_list, HY.out, HO.out, HTK.out, if_pos hj0, hj0]; simp [jn])
            have hsz : o.size + y.size ≤ 16384 := by rw [← cat_size, ← len_byte, ← HE.out]; exact HLn2.out
            have q7 : (j : Int) ≤ 0 := by omega
            clear hj0
            go_wp2_with fail
            ((with_reducible refine (HX.out _).mono ?_); rintro e w1 ⟨rfl, hb1⟩)
            have HC := Lib.hid hb1; clear hb1
            go_wp2_with fail
            go_roundg (gk - 1)
            case measure => have := HK.out; omega
            case rel => exact ⟨j + 1, _, by have := HK.out; omega, rfl, by go_num, HE.out.symm, HT.out.below HC.out, below_then HB.out HC.out⟩
          · have HE := Lib.hid (show jn (L.take (j + 1)) = (o ++ ⟨#[32]⟩ ++ y).data.toList by rw [cat_list, cat_list, HY.out, HO.out, HTK.out, if_neg hj0]; simp)
            have hsz : o.size + 1 + y.size ≤ 16384 := by
              have h1 := HLn2.out
              rw [HE.out, len_byte, cat_size, cat_size] at h1
              exact h1
            have q7 : (0 : Int) < (j : Int) := by omega
            clear hj0
            go_wp2_with fail
            ((with_reducible refine (HX.out _).mono ?_); rintro e w1 ⟨rfl, hb1⟩)
            have HC := Lib.hid hb1; clear hb1
            go_wp2_with fail
            go_roundg (gk - 1)
            case measure => have := HK.out; omega
            case rel => exact ⟨j + 1, _, by have := HK.out; omega, rfl, by go_num, HE.out.symm, HT.out.below HC.out, below_then HB.out HC.out⟩
        · have HF := Lib.hid (show joinL L = o.data.toList by unfold joinL; rw [HM.out, HO.out, show j = m by omega])
          go_wp2_with fail
          go_ret2
          exact ⟨joinRet_at HJB.out HF.out, HB.out⟩
end Go.Proofs.YtlocbindafdmhaaDoor
