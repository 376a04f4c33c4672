/- Values of the reference: number, text, Valid: what a call returns. -/
import Derived.Test.YtbbdgncjpbfooaaGreatDoorEh
namespace Go.Proofs.YtbbdgncjpbfooaaGreatDoor
open Go.RowKit

set_option maxHeartbeats 400000 in
theorem rvnumber_any (n : Int) (w : World) : Calls Tryz.prog 55 #[.int .i64 n] w fun e w' => e = .returned (.bool (numB n)) ∧ w = w' := by
  by_cases h1 : -4503599627370496 ≤ n
  · by_cases h2 : n ≤ 4503599627370496
    · have HV := Lib.hid (show numB n = true by unfold numB; simp; omega)
      go_enter Tryz.func55, Tryz.ntmps55
      go_wp2_with fail
      go_ret
      exact ⟨ret_bool (by rw [HV.out]), rfl⟩
    · have HV := Lib.hid (show numB n = false by unfold numB; simp; omega)
      have d2 : decide (n ≤ 4503599627370496) = false := by simp; omega
      go_enter Tryz.func55, Tryz.ntmps55
      go_wp2_with fail
      go_ret
      exact ⟨ret_bool (by rw [HV.out]), rfl⟩
  · have HV := Lib.hid (show numB n = false by unfold numB; simp; omega)
    have d1 : decide (-4503599627370496 ≤ n) = false := by simp; omega
    go_enter Tryz.func55, Tryz.ntmps55
    go_wp2_with fail
    go_ret
    exact ⟨ret_bool (by rw [HV.out]), rfl⟩
set_option maxHeartbeats 400000 in
theorem rvtext_any (s : ByteArray) (w : World) (hs : s.size ≤ 9223372036854775000) :
    Calls Tryz.prog 56 #[.string s] w fun e w' => e = .returned (.bool (decide (s.size ≤ 200) && s.data.toList.all isPr)) ∧ Below w.heap.size w w' := by
  by_cases h : s.size ≤ 200
  · have q : (s.size : Int) ≤ 200 := by omega
    have HV := Lib.hid (show decide (s.size ≤ 200) = true by simpa using h)
    have HC := Lib.hid (fun w => sprintable_any s w hs)
    generalize s.data.toList.all isPr = r at HC ⊢
    clear h
    go_enter Tryz.func56, Tryz.ntmps56
    go_wp2_with fail
    ((with_reducible refine (HC.out _).mono ?_); rintro e w1 ⟨rfl, rfl⟩)
    go_wp2_with fail
    go_ret
    exact ⟨ret_bool (by rw [HV.out]; simp), Below.refl _ _⟩
  · have q : (200 : Int) < (s.size : Int) := by omega
    have HV : decide (s.size ≤ 200) = false := by simpa using h
    go_enter Tryz.func56, Tryz.ntmps56
    go_wp2_with fail
    go_ret
    exact ⟨rfl, Below.refl _ _⟩
set_option maxHeartbeats 3200000 in
theorem rvvalid_any (v : Vl) (w : World) (hs : v.s.size ≤ 9223372036854775000) :
    Calls Tryz.prog 24 #[.agg #[.int .i64 v.k, .int .i64 v.n, .string v.s]] w fun e w' => e = .returned (.bool v.ok) ∧ Below w.heap.size w w' := by
  obtain ⟨k, n, s⟩ := v
  simp only at hs ⊢
  by_cases h1 : k = 1
  · subst h1
    have HV := Lib.hid (ok_truth n s)
    by_cases h0 : n = 0
    · subst h0
      rcases empty_facts s with ⟨e0, e1, e2, e3⟩ | ⟨e0, e2, e3⟩
      · have HE := Lib.hid e0; clear e0
        go_enter Tryz.func24, Tryz.ntmps24
        go_wp2_with fail
        go_ret
        exact ⟨ret_bool (by rw [HV.out]; simp [HE.out]), below_alloc w _⟩
      · have HE := Lib.hid e0; clear e0
        go_enter Tryz.func24, Tryz.ntmps24
        go_wp2_with fail
        go_ret
        exact ⟨ret_bool (by rw [HV.out]; simp only [HE.out]; simp), below_alloc w _⟩
    · by_cases h01 : n = 1
      · subst h01
        rcases empty_facts s with ⟨e0, e1, e2, e3⟩ | ⟨e0, e2, e3⟩
        · have HE := Lib.hid e0; clear e0
          go_enter Tryz.func24, Tryz.ntmps24
          go_wp2_with fail
          go_ret
          exact ⟨ret_bool (by rw [HV.out]; simp [HE.out]), below_alloc w _⟩
        · have HE := Lib.hid e0; clear e0
          go_enter Tryz.func24, Tryz.ntmps24
          go_wp2_with fail
          go_ret
          exact ⟨ret_bool (by rw [HV.out]; simp only [HE.out]; simp), below_alloc w _⟩
      · have q0 : (n == 0) = false := by simpa using h0
        have q1 : (n == 1) = false := by simpa using h01
        have HE := Lib.hid (show decide ((n = 0 ∨ n = 1) ∧ s.data.toList = []) = false by simp [h0, h01])
        clear h0 h01
        go_enter Tryz.func24, Tryz.ntmps24
        go_wp2_with fail
        go_ret
        exact ⟨ret_bool (by rw [HV.out, HE.out]), below_alloc w _⟩
  by_cases h2 : k = 2
  · subst h2
    have HV := Lib.hid (ok_num n s)
    have HN := Lib.hid (fun w => rvnumber_any n w)
    clear h1
    cases hn : numB n with
    | false =>
      rw [hn] at HV HN
      clear hn
      go_enter Tryz.func24, Tryz.ntmps24
      go_wp2_with fail
      ((with_reducible refine (HN.out _).mono ?_); rintro e w1 ⟨rfl, rfl⟩)
      go_wp2_with fail
      go_ret
      exact ⟨ret_bool (by rw [HV.out]; rfl), below_alloc w _⟩
    | true =>
      rw [hn] at HV HN
      clear hn
      rcases empty_facts s with ⟨e0, e1, e2, e3⟩ | ⟨e0, e2, e3⟩
      · have HE := Lib.hid e0; clear e0
        go_enter Tryz.func24, Tryz.ntmps24
        go_wp2_with fail
        ((with_reducible refine (HN.out _).mono ?_); rintro e w1 ⟨rfl, rfl⟩)
        go_wp2_with fail
        go_ret
        exact ⟨ret_bool (by rw [HV.out]; simp [HE.out]), below_alloc w _⟩
      · have HE := Lib.hid e0; clear e0
        go_enter Tryz.func24, Tryz.ntmps24
        go_wp2_with fail
        ((with_reducible refine (HN.out _).mono ?_); rintro e w1 ⟨rfl, rfl⟩)
        go_wp2_with fail
        go_ret
        exact ⟨ret_bool (by rw [HV.out]; simp only [HE.out]; simp), below_alloc w _⟩
  by_cases h3 : k = 3
  · subst h3
    have HV := Lib.hid (ok_text n s)
    clear h1 h2
    by_cases h0 : n = 0
    · subst h0
      have HT := Lib.hid (fun w => rvtext_any s w hs)
      generalize (decide (s.size ≤ 200) && s.data.toList.all isPr) = r at HV HT
      go_enter Tryz.func24, Tryz.ntmps24
      go_wp2_with fail
      ((with_reducible refine (HT.out _).mono ?_); rintro e w1 ⟨rfl, hb1⟩)
      go_wp2_with fail
      go_ret
      exact ⟨ret_bool (by rw [HV.out]; simp), below_then (below_alloc w _) hb1⟩
    · have q0 : (n == 0) = false := by simpa using h0
      have HE := Lib.hid (show decide (n = 0) = false by simpa using h0)
      clear h0
      go_enter Tryz.func24, Tryz.ntmps24
      go_wp2_with fail
      go_ret
      exact ⟨ret_bool (by rw [HV.out, HE.out]; rfl), below_alloc w _⟩
  · have HV := Lib.hid (ok_else k n s h1 h2 h3)
    have q1 : (k == 1) = false := by simpa using h1
    have q2 : (k == 2) = false := by simpa using h2
    have q3 : (k == 3) = false := by simpa using h3
    clear h1 h2 h3
    go_enter Tryz.func24, Tryz.ntmps24
    go_wp2_with fail
    go_ret
    exact ⟨ret_bool HV.out.symm, below_alloc w _⟩
end Go.Proofs.YtbbdgncjpbfooaaGreatDoor
