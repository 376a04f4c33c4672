/- Values of the program: number, Valid, Text: what a call returns. -/
import Derived.Test.YtbbdgncjpbfooaaGreatDoorEg
namespace Go.Proofs.YtbbdgncjpbfooaaGreatDoor
open Go.RowKit

/-- a number of a value -/
def numB (n : Int) : Bool := decide (-4503599627370496 ≤ n ∧ n ≤ 4503599627370496)
set_option maxHeartbeats 400000 in
theorem vnumber_any (n : Int) (w : World) : Calls Tryz.prog 82 #[.int .i64 n] w fun e w' => e = .returned (.bool (numB n)) ∧ w = w' := by
  by_cases h1 : -4503599627370496 ≤ n
  · by_cases h2 : n ≤ 4503599627370496
    · have HV := Lib.hid (show numB n = true by unfold numB; simp; omega)
      go_enter Tryz.func82, Tryz.ntmps82
      go_wp2_with fail
      go_ret
      exact ⟨ret_bool (by rw [HV.out]), rfl⟩
    · have HV := Lib.hid (show numB n = false by unfold numB; simp; omega)
      have d2 : decide (n ≤ 4503599627370496) = false := by simp; omega
      go_enter Tryz.func82, Tryz.ntmps82
      go_wp2_with fail
      go_ret
      exact ⟨ret_bool (by rw [HV.out]), rfl⟩
  · have HV := Lib.hid (show numB n = false by unfold numB; simp; omega)
    have d1 : decide (-4503599627370496 ≤ n) = false := by simp; omega
    go_enter Tryz.func82, Tryz.ntmps82
    go_wp2_with fail
    go_ret
    exact ⟨ret_bool (by rw [HV.out]), rfl⟩
theorem ok_truth (n : Int) (s : ByteArray) : (⟨1, n, s⟩ : Vl).ok = decide ((n = 0 ∨ n = 1) ∧ s.data.toList = []) := rfl
theorem ok_num (n : Int) (s : ByteArray) : (⟨2, n, s⟩ : Vl).ok = (numB n && decide (s.data.toList = [])) := by
  unfold numB
  show decide (-4503599627370496 ≤ n ∧ n ≤ 4503599627370496 ∧ s.data.toList = []) = _
  rw [Bool.eq_iff_iff]; simp [and_assoc]
theorem ok_text (n : Int) (s : ByteArray) : (⟨3, n, s⟩ : Vl).ok = (decide (n = 0) && (decide (s.size ≤ 200) && s.data.toList.all isPr)) := rfl
theorem ok_else (k n : Int) (s : ByteArray) (h1 : k ≠ 1) (h2 : k ≠ 2) (h3 : k ≠ 3) : (⟨k, n, s⟩ : Vl).ok = false := by
  unfold Vl.ok; simp only; rw [if_neg h1, if_neg h2, if_neg h3]
/-- what a test of a string for emptiness reads -/
theorem empty_facts (s : ByteArray) : (s.data.toList = [] ∧ s.toList = [] ∧ s.toList.isEmpty = true ∧ (!s.toList.isEmpty) = false) ∨ (s.data.toList ≠ [] ∧ s.toList.isEmpty = false ∧ (!s.toList.isEmpty) = true) := by
  by_cases hz : s.size = 0
  · have e1 : s.toList = [] := by rw [ByteArray.toList_eq]; exact lnil s hz
    have e2 : s.toList.isEmpty = true := by rw [e1]; rfl
    exact .inl ⟨lnil s hz, e1, e2, by rw [e2]; rfl⟩
  · have e2 := nonempty s (by omega)
    exact .inr ⟨lne s (by omega), e2, by rw [e2]; rfl⟩
set_option maxHeartbeats 3200000 in
theorem vvalid_any (v : Vl) (w : World) (hs : v.s.size ≤ 9223372036854775807) :
    Calls Tryz.prog 48 #[.agg #[.int .i64 v.k, .int .i64 v.n, .string v.s]] w fun e w' => e = .returned (.bool v.ok) ∧ Below w.heap.size w w' := by
  obtain ⟨k, n, s⟩ := v
  simp only at hs ⊢
  by_cases h1 : k = 1
  · subst h1
    have HV := Lib.hid (ok_truth n s)
    by_cases h0 : n = 0
    · subst h0
      rcases empty_facts s with ⟨e0, e1, e2, e3⟩ | ⟨e0, e2, e3⟩
      · have HE := Lib.hid e0; clear e0
        go_enter Tryz.func48, Tryz.ntmps48
        go_wp2_with fail
        go_ret
        exact ⟨ret_bool (by rw [HV.out]; simp [HE.out]), below_alloc w _⟩
      · have HE := Lib.hid e0; clear e0
        go_enter Tryz.func48, Tryz.ntmps48
        go_wp2_with fail
        go_ret
        exact ⟨ret_bool (by rw [HV.out]; simp only [HE.out]; simp), below_alloc w _⟩
    · by_cases h01 : n = 1
      · subst h01
        rcases empty_facts s with ⟨e0, e1, e2, e3⟩ | ⟨e0, e2, e3⟩
        · have HE := Lib.hid e0; clear e0
          go_enter Tryz.func48, Tryz.ntmps48
          go_wp2_with fail
          go_ret
          exact ⟨ret_bool (by rw [HV.out]; simp [HE.out]), below_alloc w _⟩
        · have HE := Lib.hid e0; clear e0
          go_enter Tryz.func48, Tryz.ntmps48
          go_wp2_with fail
          go_ret
          exact ⟨ret_bool (by rw [HV.out]; simp only [HE.out]; simp), below_alloc w _⟩
      · have q0 : (n == 0) = false := by simpa using h0
        have q1 : (n == 1) = false := by simpa using h01
        have HE := Lib.hid (show decide ((n = 0 ∨ n = 1) ∧ s.data.toList = []) = false by simp [h0, h01])
        clear h0 h01
        go_enter Tryz.func48, Tryz.ntmps48
        go_wp2_with fail
        go_ret
        exact ⟨ret_bool (by rw [HV.out, HE.out]), below_alloc w _⟩
  by_cases h2 : k = 2
  · subst h2
    have HV := Lib.hid (ok_num n s)
    have HN := Lib.hid (fun w => vnumber_any n w)
    clear h1
    cases hn : numB n with
    | false =>
      rw [hn] at HV HN
      clear hn
      go_enter Tryz.func48, Tryz.ntmps48
      go_wp2_with fail
      ((with_reducible refine (HN.out _).mono ?_); rintro e w1 ⟨rfl, rfl⟩)
      go_wp2_with fail
      go_ret
      exact ⟨ret_bool (by rw [HV.out]; rfl), below_alloc w _⟩
    | true =>
      rw [hn] at HV HN
      clear hn
      rcases empty_facts s with ⟨e0, e1, e2, e3⟩ | ⟨e0, e2, e3⟩
      · have HE := Lib.hid e0; clear e0
        go_enter Tryz.func48, Tryz.ntmps48
        go_wp2_with fail
        ((with_reducible refine (HN.out _).mono ?_); rintro e w1 ⟨rfl, rfl⟩)
        go_wp2_with fail
        go_ret
        exact ⟨ret_bool (by rw [HV.out]; simp [HE.out]), below_alloc w _⟩
      · have HE := Lib.hid e0; clear e0
        go_enter Tryz.func48, Tryz.ntmps48
        go_wp2_with fail
        ((with_reducible refine (HN.out _).mono ?_); rintro e w1 ⟨rfl, rfl⟩)
        go_wp2_with fail
        go_ret
        exact ⟨ret_bool (by rw [HV.out]; simp only [HE.out]; simp), below_alloc w _⟩
  by_cases h3 : k = 3
  · subst h3
    have HV := Lib.hid (ok_text n s)
    clear h1 h2
    by_cases h0 : n = 0
    · subst h0
      have HT := Lib.hid (fun w => vtext_any s w hs)
      generalize (decide (s.size ≤ 200) && s.data.toList.all isPr) = r at HV HT
      go_enter Tryz.func48, Tryz.ntmps48
      go_wp2_with fail
      ((with_reducible refine (HT.out _).mono ?_); rintro e w1 ⟨rfl, hb1⟩)
      go_wp2_with fail
      go_ret
      exact ⟨ret_bool (by rw [HV.out]; simp), below_then (below_alloc w _) hb1⟩
    · have q0 : (n == 0) = false := by simpa using h0
      have HE := Lib.hid (show decide (n = 0) = false by simpa using h0)
      clear h0
      go_enter Tryz.func48, Tryz.ntmps48
      go_wp2_with fail
      go_ret
      exact ⟨ret_bool (by rw [HV.out, HE.out]; rfl), below_alloc w _⟩
  · have HV := Lib.hid (ok_else k n s h1 h2 h3)
    have q1 : (k == 1) = false := by simpa using h1
    have q2 : (k == 2) = false := by simpa using h2
    have q3 : (k == 3) = false := by simpa using h3
    clear h1 h2 h3
    go_enter Tryz.func48, Tryz.ntmps48
    go_wp2_with fail
    go_ret
    exact ⟨ret_bool HV.out.symm, below_alloc w _⟩
/-- what Text of a value returns -/
def vtRet (v : Vl) : Ending := if v.ok then .returned (.tuple #[.string ⟨v.tx.toArray⟩, .int .i64 0]) else .returned (.tuple #[.string ⟨#[]⟩, .int .i64 1])
theorem vtRet_no {v : Vl} (h : v.ok = false) : vtRet v = .returned (.tuple #[.string ⟨#[]⟩, .int .i64 1]) := by unfold vtRet; rw [h]; rfl
theorem vtRet_yes {v : Vl} (h : v.ok = true) : vtRet v = .returned (.tuple #[.string ⟨v.tx.toArray⟩, .int .i64 0]) := by unfold vtRet; rw [h]; rfl
/-- the cells of a value in a new block, behind what only allocates -/
theorem vl_facts {w2 w3 : World} {a b c : Value} (hb : Below (w2.alloc (.cells #[a, b, c] 39)).heap.size (w2.alloc (.cells #[a, b, c] 39)) w3) :
    w3.cell? ⟨w2.heap.size, 0, none⟩ = some a ∧ w3.cell? ⟨w2.heap.size, 1, none⟩ = some b ∧ w3.cell? ⟨w2.heap.size, 2, none⟩ = some c ∧ w3.frozen? ⟨w2.heap.size, 0, none⟩ = false ∧ w3.frozen? ⟨w2.heap.size, 1, none⟩ = false ∧ w3.frozen? ⟨w2.heap.size, 2, none⟩ = false := by
  refine ⟨?_, ?_, ?_, ?_, ?_, ?_⟩
  · rw [hb.cell (by simp)]; simp
  · rw [hb.cell (by simp)]; simp
  · rw [hb.cell (by simp)]; simp
  · rw [hb.frozen (by simp)]; simp
  · rw [hb.frozen (by simp)]; simp
  · rw [hb.frozen (by simp)]; simp
theorem fmt_true : Lib.formatBool true = tTrue := by decide
theorem fmt_false : Lib.formatBool false = tFalse := by decide
set_option maxHeartbeats 3200000 in
theorem vtx_any (v : Vl) (w : World) (hT : Tb w) (hs : v.s.size ≤ 9223372036854775807) :
    Calls Tryz.prog 33 #[.agg #[.int .i64 v.k, .int .i64 v.n, .string v.s]] w fun e w' => e = vtRet v ∧ Below w.heap.size w w' := by
  have HX := Lib.hid (fun w => vvalid_any v w hs)
  have HO := Lib.hid (below_alloc w (.cells #[.int .i64 v.k, .int .i64 v.n, .string v.s] 39))
  have HT := Lib.hid (hT.below HO.out); clear hT
  cases hv : v.ok with
  | false =>
    have HR := Lib.hid (vtRet_no hv)
    rw [hv] at HX
    clear hv
    go_enter Tryz.func33, Tryz.ntmps33
    go_wp2_with fail
    ((with_reducible refine (HX.out _).mono ?_); rintro e w1 ⟨rfl, hb1⟩)
    go_wp2_with fail
    go_ret2
    exact ⟨HR.out.symm, below_then HO.out hb1⟩
  | true =>
    have HR := Lib.hid (vtRet_yes hv)
    have hc := val_cases v hv
    rw [hv] at HX
    clear hv
    obtain ⟨k, n, s⟩ := v
    simp only at hc HX HO HT HR hs ⊢
    rcases hc with ⟨rfl, hn, _⟩ | ⟨rfl, h1, h2, _⟩ | ⟨rfl, rfl, hl, hp⟩
    · rcases hn with rfl | rfl
      · have HF := Lib.hid (fun w => Tryz.strconv_FormatBool false w)
        rw [fmt_false] at HF
        go_enter Tryz.func33, Tryz.ntmps33
        go_wp2_with fail
        ((with_reducible refine (HX.out _).mono ?_); rintro e w1 ⟨rfl, hb1⟩)
        obtain ⟨t0, t1, t2, ft0, ft1, ft2⟩ := vl_facts hb1
        have HC := Lib.hid hb1
        clear hb1
        go_wp2_with fail
        ((with_reducible refine (HF.out _).mono ?_); rintro e w2 ⟨rfl, rfl⟩)
        go_wp2_with fail
        go_ret2
        exact ⟨HR.out.symm, below_then HO.out HC.out⟩
      · have HF := Lib.hid (fun w => Tryz.strconv_FormatBool true w)
        rw [fmt_true] at HF
        go_enter Tryz.func33, Tryz.ntmps33
        go_wp2_with fail
        ((with_reducible refine (HX.out _).mono ?_); rintro e w1 ⟨rfl, hb1⟩)
        obtain ⟨t0, t1, t2, ft0, ft1, ft2⟩ := vl_facts hb1
        have HC := Lib.hid hb1
        clear hb1
        go_wp2_with fail
        ((with_reducible refine (HF.out _).mono ?_); rintro e w2 ⟨rfl, rfl⟩)
        go_wp2_with fail
        go_ret2
        exact ⟨HR.out.symm, below_then HO.out HC.out⟩
    · go_enter Tryz.func33, Tryz.ntmps33
      go_wp2_with fail
      ((with_reducible refine (HX.out _).mono ?_); rintro e w1 ⟨rfl, hb1⟩)
      obtain ⟨t0, t1, t2, ft0, ft1, ft2⟩ := vl_facts hb1
      have HC := Lib.hid hb1
      clear hb1
      go_wp2_with fail
      ((with_reducible refine (itoa_any n _ (by omega) (by omega) (HT.out.below HC.out)).mono ?_); rintro e w2 ⟨rfl, hb2⟩)
      go_wp2_with fail
      go_ret2
      exact ⟨HR.out.symm, below_then (below_then HO.out HC.out) hb2⟩
    · have HP := Lib.hid hp; clear hp
      go_enter Tryz.func33, Tryz.ntmps33
      go_wp2_with fail
      ((with_reducible refine (HX.out _).mono ?_); rintro e w1 ⟨rfl, hb1⟩)
      obtain ⟨t0, t1, t2, ft0, ft1, ft2⟩ := vl_facts hb1
      have HC := Lib.hid hb1
      clear hb1
      go_wp2_with fail
      ((with_reducible refine (nquote_ok s _ (by omega) HP.out).mono ?_); rintro e w2 ⟨rfl, hb2⟩)
      go_wp2_with fail
      go_ret2
      exact ⟨HR.out.symm, below_then (below_then HO.out HC.out) hb2⟩
end Go.Proofs.YtbbdgncjpbfooaaGreatDoor
