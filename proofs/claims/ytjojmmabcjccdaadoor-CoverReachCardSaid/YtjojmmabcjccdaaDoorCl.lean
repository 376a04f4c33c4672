/- Can of the references: what a call returns. -/
import Derived.Test.YtjojmmabcjccdaaDoorCk
namespace Go.Proofs.YtjojmmabcjccdaaDoor
open Go.RowKit

set_option maxHeartbeats 3200000 in
set_option maxRecDepth 100000 in
theorem can24_any (N : Nt) (A : Option Addr) (n c : Nat) (Am : Option Addr) (m cm : Nat) (M : List Int) (t : Nat) (ht : t < N.tr.length) (w : World) (h : TIn w A N.tr) (hn : N.tr.length = n) (hM : ZIn w Am M) (hm : M.length = m) (hin : inM N.tr[t].i m) :
    Calls Tryd.prog 44 #[.agg #[.int .i64 N.pl, .slice A n c, .int .i64 N.src, .int .i64 N.snk], .slice Am m cm, .int .i64 t] w fun e w' => e = .returned (.bool (canT N.tr[t] M)) ∧ Below w.heap.size w w' := by
  have HB := Lib.hid (below_alloc w (.cells #[.int .i64 N.pl, .slice A n c, .int .i64 N.src, .int .i64 N.snk] 24))
  have HN := Lib.hid (NB.new w N.pl A n c N.src N.snk)
  have H0 := Lib.hid (h.below HB.out)
  have HM0 := Lib.hid (hM.below HB.out)
  have HM := Lib.hid hm
  have htn : t < n := by omega
  clear h hn hM hm
  obtain ⟨ad, rfl, hpa, m0, ⟨u1, m1, s1⟩, _⟩ := H0.out t ht
  have HR := Lib.hid (can_any N.tr[t] M)
  generalize canT N.tr[t] M = R at HR ⊢
  generalize N.tr[t] = T at *
  obtain ⟨lb, li, lo⟩ := T
  simp only at m0 m1 s1 HR hin
  obtain ⟨Ai, ni, ci, rfl, zi, hi1, hi2, hi3⟩ := s1
  have HZ := Lib.hid zi
  have HL := Lib.hid hi1
  have HIn := Lib.hid hin
  clear zi hi1 hin
  go_enter Tryd.func44, Tryd.ntmps44
  go_wp2_with fail
  generalize w.alloc _ = w0 at *
  obtain ⟨c0, c1, c2, c3⟩ := HN.out.cells
  go_loopg [7] (ni) (fun g iv wr => ∃ k : Nat, k + g = ni ∧ iv = .int .i64 k ∧ (li.take k).any (zeroP M) = false ∧ w0 = wr)
  case atStart => exact ⟨0, by omega, rfl, by simp, rfl⟩
  case round =>
    obtain ⟨k, hk, rfl, hno, rfl⟩ := hrel
    have HK := Lib.hid hk
    have HNo := Lib.hid hno
    have hle : k ≤ ni := by omega
    clear hk hno
    by_cases hlt : k < ni
    · have hlt' : k < li.length := by rw [HL.out]; exact hlt
      obtain ⟨ai, rfl, hpi, q0⟩ := HZ.out k hlt'
      have HTk := Lib.hid (List.take_succ_eq_append_getElem hlt')
      have HMm := Lib.hid (List.getElem_mem hlt')
      obtain ⟨hp0, hp1⟩ := HIn.out _ (List.getElem_mem hlt')
      generalize li[k] = p at *
      clear hlt'
      obtain ⟨p', rfl⟩ := Int.eq_ofNat_of_zero_le hp0
      have hp2 : p' < m := by omega
      have hp2' : p' < M.length := by rw [HM.out]; exact hp2
      obtain ⟨am, rfl, hpm, q5⟩ := HM0.out p' hp2'
      have HV := Lib.hid (show zeroP M (p' : Int) = decide (M[p'] = 0) by unfold zeroP; simp [hp2'])
      generalize M[p'] = x at *
      clear hp2'
      by_cases h0 : x = 0
      · have q1 : (x == 0) = true := by rw [h0]; rfl
        have HW := Lib.hid (show R = false by rw [HR.out, List.any_eq_true.2 ⟨_, HMm.out, by rw [HV.out]; exact decide_eq_true h0⟩]; rfl)
        clear h0
        go_wp2_with fail
        go_ret
        exact ⟨ret_bool HW.out.symm, HB.out⟩
      · have q1 : (x == 0) = false := by rw [beq_eq_false_iff_ne]; exact h0
        rw [decide_eq_false h0] at HV
        clear h0
        go_wp2_with fail
        go_roundg (gk - 1)
        case measure => have := HK.out; omega
        case rel => exact ⟨k + 1, by have := HK.out; omega, by go_num, by rw [HTk.out, List.any_append, HNo.out]; simp [HV.out], rfl⟩
    · have HE := Lib.hid (show R = true by
        have h3 := HNo.out
        rw [List.take_of_length_le (by rw [HL.out]; omega)] at h3
        rw [HR.out, h3]; rfl)
      go_wp2_with fail
      go_ret
      exact ⟨ret_bool HE.out.symm, HB.out⟩
set_option maxHeartbeats 3200000 in
set_option maxRecDepth 100000 in
theorem can21_any (N : Nt) (A : Option Addr) (n c : Nat) (Am : Option Addr) (m cm : Nat) (M : List Int) (t : Nat) (ht : t < N.tr.length) (w : World) (h : TIn w A N.tr) (hn : N.tr.length = n) (hM : ZIn w Am M) (hm : M.length = m) (hin : inM N.tr[t].i m) (hpos : ∀ x ∈ M, 0 ≤ x) :
    Calls Tryd.prog 67 #[.agg #[.int .i64 N.pl, .slice A n c, .int .i64 N.src, .int .i64 N.snk], .slice Am m cm, .int .i64 t] w fun e w' => e = .returned (.bool (canT N.tr[t] M)) ∧ Below w.heap.size w w' := by
  have HB := Lib.hid (below_alloc w (.cells #[.int .i64 N.pl, .slice A n c, .int .i64 N.src, .int .i64 N.snk] 24))
  have HN := Lib.hid (NB.new w N.pl A n c N.src N.snk)
  have H0 := Lib.hid (h.below HB.out)
  have HM0 := Lib.hid (hM.below HB.out)
  have HM := Lib.hid hm
  have htn : t < n := by omega
  have HPos := Lib.hid hpos
  clear hpos
  clear h hn hM hm
  obtain ⟨ad, rfl, hpa, m0, ⟨u1, m1, s1⟩, _⟩ := H0.out t ht
  have HR := Lib.hid (can_any N.tr[t] M)
  generalize canT N.tr[t] M = R at HR ⊢
  generalize N.tr[t] = T at *
  obtain ⟨lb, li, lo⟩ := T
  simp only at m0 m1 s1 HR hin
  obtain ⟨Ai, ni, ci, rfl, zi, hi1, hi2, hi3⟩ := s1
  have HZ := Lib.hid zi
  have HL := Lib.hid hi1
  have HIn := Lib.hid hin
  clear zi hi1 hin
  go_enter Tryd.func67, Tryd.ntmps67
  go_wp2_with fail
  generalize w.alloc _ = w0 at *
  obtain ⟨c0, c1, c2, c3⟩ := HN.out.cells
  go_loopg [7] (ni) (fun g iv wr => ∃ k : Nat, k + g = ni ∧ iv = .int .i64 k ∧ (li.take k).any (zeroP M) = false ∧ w0 = wr)
  case atStart => exact ⟨0, by omega, rfl, by simp, rfl⟩
  case round =>
    obtain ⟨k, hk, rfl, hno, rfl⟩ := hrel
    have HK := Lib.hid hk
    have HNo := Lib.hid hno
    have hle : k ≤ ni := by omega
    clear hk hno
    by_cases hlt : k < ni
    · have hlt' : k < li.length := by rw [HL.out]; exact hlt
      obtain ⟨ai, rfl, hpi, q0⟩ := HZ.out k hlt'
      have HTk := Lib.hid (List.take_succ_eq_append_getElem hlt')
      have HMm := Lib.hid (List.getElem_mem hlt')
      obtain ⟨hp0, hp1⟩ := HIn.out _ (List.getElem_mem hlt')
      generalize li[k] = p at *
      clear hlt'
      obtain ⟨p', rfl⟩ := Int.eq_ofNat_of_zero_le hp0
      have hp2 : p' < m := by omega
      have hp2' : p' < M.length := by rw [HM.out]; exact hp2
      obtain ⟨am, rfl, hpm, q5⟩ := HM0.out p' hp2'
      have HV := Lib.hid (show zeroP M (p' : Int) = decide (M[p'] = 0) by unfold zeroP; simp [hp2'])
      have hxp := HPos.out _ (List.getElem_mem hp2')
      generalize M[p'] = x at *
      clear hp2'
      by_cases h0 : x = 0
      · have q1 : decide (x < 1) = true := by simp; omega
        have q2 : x < 1 := by omega
        have HW := Lib.hid (show R = false by rw [HR.out, List.any_eq_true.2 ⟨_, HMm.out, by rw [HV.out]; exact decide_eq_true h0⟩]; rfl)
        clear h0
        go_wp2_with fail
        go_ret
        exact ⟨ret_bool HW.out.symm, HB.out⟩
      · have q1 : decide (x < 1) = false := by simp; have := hxp; omega
        rw [decide_eq_false h0] at HV
        clear h0
        go_wp2_with fail
        go_roundg (gk - 1)
        case measure => have := HK.out; omega
        case rel => exact ⟨k + 1, by have := HK.out; omega, by go_num, by rw [HTk.out, List.any_append, HNo.out]; simp [HV.out], rfl⟩
    · have HE := Lib.hid (show R = true by
        have h3 := HNo.out
        rw [List.take_of_length_le (by rw [HL.out]; omega)] at h3
        rw [HR.out, h3]; rfl)
      go_wp2_with fail
      go_ret
      exact ⟨ret_bool HE.out.symm, HB.out⟩
end Go.Proofs.YtjojmmabcjccdaaDoor
