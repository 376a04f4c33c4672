/- event.instant: what a call returns. -/
import Derived.Test.YtbbdgncjpbfooaaGreatDoorEo
import Derived.Test.YtbbdgncjpbfooaaGreatDoorUa
namespace Go.Proofs.YtbbdgncjpbfooaaGreatDoor
open Go.RowKit

theorem inst_lo (n : Nat) (c : UInt8) (l : List UInt8) (h : (c.toNat : Int) < 48) : instG n (c :: l) = 0 := by rw [instG, if_pos (by omega)]
theorem inst_hi (n : Nat) (c : UInt8) (l : List UInt8) (h : 57 < (c.toNat : Int)) : instG n (c :: l) = 0 := by rw [instG, if_pos (by omega)]
theorem inst_big (n : Nat) (c : UInt8) (l : List UInt8) (h : 1099511627776 < (n : Int)) : instG n (c :: l) = 0 := by rw [instG, if_pos (by omega)]
theorem inst_on (n : Nat) (c : UInt8) (l : List UInt8) (h1 : 48 ≤ (c.toNat : Int)) (h2 : (c.toNat : Int) ≤ 57) (h3 : (n : Int) ≤ 1099511627776) : instG n (c :: l) = instG (10 * n + (c.toNat - 48)) l := by rw [instG, if_neg (by omega)]
theorem ret_i64 {a b : Int} (h : a = b) : Ending.returned (.int .i64 a) = .returned (.int .i64 b) := by rw [h]
set_option maxHeartbeats 3200000 in
set_option maxRecDepth 100000 in
theorem instant_any (s : ByteArray) (w : World) (hs : s.size ≤ 9223372036854775807) :
    Calls Tryz.prog 41 #[.string s] w fun e w' => e = .returned (.int .i64 (instG 0 s.data.toList)) ∧ Below w.heap.size w w' := by
  obtain ⟨cp, nw, hc, hb, hi⟩ := conv_bytes s
  have HB0 := Lib.hid (hb w)
  have HI0 := Lib.hid (hi w)
  have hcw := hc w
  have HN := Lib.hid (len_byte s)
  generalize hR : instG 0 s.data.toList = R
  have HR := Lib.hid hR; clear hR
  clear hb hi hc
  go_enter Tryz.func41, Tryz.ntmps41
  go_wp2_with fail
  clear hcw
  generalize cp w = cap at *
  generalize nw w = w0 at *
  generalize s.data.toList = l at *
  go_loopg [3, 9] (s.size) (fun g v i wr => ∃ k m : Nat, k + g = s.size ∧ i = .int .i64 k ∧ v = .int .i64 m ∧ m ≤ 10995116277769 ∧ instG m (l.drop k) = R ∧ Below w0.heap.size w0 wr)
  case atStart => exact ⟨0, 0, by omega, rfl, rfl, by omega, HR.out, Below.refl _ _⟩
  case round =>
    obtain ⟨k, m, hk, rfl, rfl, hm, hR, hB⟩ := hrel
    have HK := Lib.hid hk
    have HRR := Lib.hid hR
    have HB := Lib.hid hB
    have hle : k ≤ s.size := by omega
    have hmi : (m : Int) ≤ 10995116277769 := by omega
    clear hk hR hB HR
    by_cases hlt : k < s.size
    · have hlt' : k < l.length := by rw [HN.out]; exact hlt
      obtain ⟨ad, had, hp, c0⟩ := (HI0.out.below HB.out) k hlt'
      obtain rfl := Option.some.inj had
      rw [add_zero, Nat.zero_add] at c0
      have HD := Lib.hid (show l.drop k = l[k] :: l.drop (k + 1) from List.drop_eq_getElem_cons hlt')
      rw [HD.out] at HRR
      generalize l[k] = c at *
      clear had hlt'
      have hc8 : (c.toNat : Int) < 256 := by have := c.toNat_lt; omega
      by_cases h1 : (c.toNat : Int) < 48
      · have HV := Lib.hid (show R = 0 by rw [← HRR.out, inst_lo _ _ _ h1])
        go_wp2_with fail
        go_ret
        exact ⟨ret_i64 (by rw [HV.out]; rfl), below_then HB0.out HB.out⟩
      have d1 : decide ((c.toNat : Int) < 48) = false := by simpa using h1
      by_cases h2 : 57 < (c.toNat : Int)
      · have HV := Lib.hid (show R = 0 by rw [← HRR.out, inst_hi _ _ _ h2])
        go_wp2_with fail
        go_ret
        exact ⟨ret_i64 (by rw [HV.out]; rfl), below_then HB0.out HB.out⟩
      have d2 : decide (57 < (c.toNat : Int)) = false := by simpa using h2
      by_cases h3 : 1099511627776 < (m : Int)
      · have HV := Lib.hid (show R = 0 by rw [← HRR.out, inst_big _ _ _ h3])
        go_wp2_with fail
        go_ret
        exact ⟨ret_i64 (by rw [HV.out]; rfl), below_then HB0.out HB.out⟩
      have d3 : decide (1099511627776 < (m : Int)) = false := by simpa using h3
      have HV := Lib.hid (show instG (10 * m + (c.toNat - 48)) (l.drop (k + 1)) = R by rw [← HRR.out, inst_on _ _ _ (by omega) (by omega) (by omega)])
      have g1 : 48 ≤ (c.toNat : Int) := by omega
      have g2 : (c.toNat : Int) ≤ 57 := by omega
      have g3 : (m : Int) ≤ 1099511627776 := by omega
      clear h1 h2 h3
      go_wp2_with fail
      go_roundg (gk - 1)
      case measure => have := HK.out; omega
      case rel => exact ⟨k + 1, 10 * m + (c.toNat - 48), by have := HK.out; omega, by go_num, by congr 1; omega, by omega, HV.out, HB.out⟩
    · obtain rfl : k = s.size := by omega
      have HV := Lib.hid (show R = m by rw [← HRR.out, List.drop_eq_nil_of_le (by have := HN.out; omega)]; rfl)
      go_wp2_with fail
      go_ret
      exact ⟨ret_i64 (by rw [HV.out]), below_then HB0.out HB.out⟩
end Go.Proofs.YtbbdgncjpbfooaaGreatDoor
