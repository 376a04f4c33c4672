/- Marking of the reference: what a call returns. -/
import Derived.Test.YtjojmmabcjccdaaDoorCi
namespace Go.Proofs.YtjojmmabcjccdaaDoor
open Go.RowKit

set_option maxHeartbeats 3200000 in
set_option maxRecDepth 100000 in
theorem rmarking_any (pl : Int) (A : Option Addr) (n c : Nat) (src snk : Int) (Am : Option Addr) (m cm : Nat) (M : List Int) (w : World) (hM : ZIn w Am M) (hm : M.length = m) (hm2 : m ≤ 9223372036854775807) :
    Calls Tryd.prog 27 #[.agg #[.int .i64 pl, .slice A n c, .int .i64 src, .int .i64 snk], .slice Am m cm] w fun e w' => e = .returned (.bool (decide ((m : Int) = pl) && !(M.any badK))) ∧ Below w.heap.size w w' := by
  have HB := Lib.hid (below_alloc w (.cells #[.int .i64 pl, .slice A n c, .int .i64 src, .int .i64 snk] 24))
  have HN := Lib.hid (NB.new w pl A n c src snk)
  have H0 := Lib.hid (hM.below HB.out)
  have HM := Lib.hid hm
  obtain ⟨R, hR⟩ : ∃ R, R = (decide ((m : Int) = pl) && !(M.any badK)) := ⟨_, rfl⟩
  have HR := Lib.hid hR
  rw [← hR]
  clear hM hm hR
  by_cases hl : (m : Int) = pl
  · have q1 : ((m : Int) != pl) = false := by simp [hl]
    rw [decide_eq_true hl] at HR
    clear hl
    go_enter Tryd.func27, Tryd.ntmps27
    go_wp2_with fail
    generalize w.alloc _ = w0 at HB HN H0 ⊢
    go_loopg [5] (m) (fun g iv wr => ∃ k : Nat, k + g = m ∧ iv = .int .i64 k ∧ (M.take k).any badK = false ∧ w0 = wr)
    case atStart => exact ⟨0, by omega, rfl, by simp, rfl⟩
    case round =>
      obtain ⟨k, hk, rfl, hno, rfl⟩ := hrel
      have HK := Lib.hid hk
      have HNo := Lib.hid hno
      have hle : k ≤ m := by omega
      clear hk hno
      by_cases hlt : k < m
      · have hlt' : k < M.length := by rw [HM.out]; exact hlt
        obtain ⟨ad, rfl, hp, c0⟩ := H0.out k hlt'
        have HTk := Lib.hid (List.take_succ_eq_append_getElem hlt')
        have HMm := Lib.hid (List.getElem_mem hlt')
        generalize M[k] = x at *
        clear hlt'
        by_cases h1 : x < 0
        · have HV := Lib.hid (show R = false by rw [HR.out, List.any_eq_true.2 ⟨x, HMm.out, by unfold badK; rw [decide_eq_true h1]; rfl⟩]; rfl)
          go_wp2_with fail
          go_ret
          exact ⟨ret_bool HV.out.symm, HB.out⟩
        · have d1 : decide (x < 0) = false := by simpa using h1
          by_cases h2 : 100 < x
          · have HV := Lib.hid (show R = false by rw [HR.out, List.any_eq_true.2 ⟨x, HMm.out, by unfold badK; rw [decide_eq_true h2]; simp⟩]; rfl)
            clear h1
            go_wp2_with fail
            go_ret
            exact ⟨ret_bool HV.out.symm, HB.out⟩
          · have d2 : decide (100 < x) = false := by simpa using h2
            have HV := Lib.hid (show badK x = false by unfold badK; rw [d1, d2]; rfl)
            clear h1 h2
            go_wp2_with fail
            go_roundg (gk - 1)
            case measure => have := HK.out; omega
            case rel => exact ⟨k + 1, by have := HK.out; omega, by go_num, by rw [HTk.out, List.any_append, HNo.out]; simp [HV.out], rfl⟩
      · have HE := Lib.hid (show R = true by
          have h3 := HNo.out
          rw [List.take_of_length_le (by rw [HM.out]; omega)] at h3
          rw [HR.out, h3]; rfl)
        go_wp2_with fail
        go_ret
        exact ⟨ret_bool HE.out.symm, HB.out⟩
  · have q1 : ((m : Int) != pl) = true := by simp [hl]
    have HV := Lib.hid (show R = false by rw [HR.out, decide_eq_false hl]; rfl)
    clear hl
    go_enter Tryd.func27, Tryd.ntmps27
    go_wp2_with fail
    go_ret
    exact ⟨ret_bool HV.out.symm, HB.out⟩
end Go.Proofs.YtjojmmabcjccdaaDoor
