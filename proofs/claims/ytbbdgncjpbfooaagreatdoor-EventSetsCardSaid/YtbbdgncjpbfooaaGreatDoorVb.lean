/- Valid of the reference at an event: what a call returns. -/
import Derived.Test.YtbbdgncjpbfooaaGreatDoorEj
import Derived.Test.YtbbdgncjpbfooaaGreatDoorVa
namespace Go.Proofs.YtbbdgncjpbfooaaGreatDoor
open Go.RowKit

set_option maxHeartbeats 12800000 in
set_option maxRecDepth 100000 in
theorem revalid_any (e : Ev) (A : Option Addr) (n cap : Nat) (w : World) (h : FdIn w A e.d) (hn : e.d.length = n) (hn2 : n ≤ 1000000) (hf : e.fit 9223372036854775000) :
    Calls Tryz.prog 15 #[.agg #[.string e.c, .string e.a, .string e.r, .int .i64 e.life, .int .i64 e.time, .slice A n cap]] w fun x w' => x = .returned (.bool e.ok) ∧ Below w.heap.size w w' := by
  have H0 := Lib.hid h; clear h
  have HN := Lib.hid hn; clear hn
  obtain ⟨hfc, hfa, hfr, hfd⟩ := hf
  have HFD := Lib.hid hfd; clear hfd
  have HC := Lib.hid (fun w => sisName_any e.c w hfc)
  have HA := Lib.hid (fun w => sisName_any e.a w hfa)
  have HR := Lib.hid (fun w => sisName_any e.r w hfr)
  have HH := Lib.hid (ok_head e)
  have HT := Lib.hid (ok_tail e)
  obtain ⟨c, a, r, life, time, L⟩ := e
  simp only at *
  clear hfc hfa hfr
  have HHD := Lib.hid (show (⟨c, a, r, life, time, L⟩ : Ev).head = (isNameB c.data.toList && (isNameB a.data.toList && ((r.data.toList.isEmpty || isNameB r.data.toList) && decide (1 ≤ life ∧ life ≤ 6 ∧ 0 ≤ time ∧ time ≤ 1099511627776 ∧ L.length ≤ 8)))) from rfl)
  have HO := Lib.hid (below_alloc w (.cells #[.string c, .string a, .string r, .int .i64 life, .int .i64 time, .slice A n cap] 24))
  cases h1 : isNameB c.data.toList with
  | false =>
    rw [h1] at HC HHD
    have HV := Lib.hid (HH.out (by rw [HHD.out]; rfl))
    clear h1
    go_enter Tryz.func15, Tryz.ntmps15
    go_wp2_with fail
    ((with_reducible refine (HC.out _).mono ?_); rintro x w1 ⟨rfl, rfl⟩)
    go_wp2_with fail
    go_ret
    exact ⟨ret_bool HV.out.symm, HO.out⟩
  | true =>
    rw [h1] at HC HHD
    clear h1
    cases h2 : isNameB a.data.toList with
    | false =>
      rw [h2] at HA HHD
      have HV := Lib.hid (HH.out (by rw [HHD.out]; rfl))
      clear h2
      go_enter Tryz.func15, Tryz.ntmps15
      go_wp2_with fail
      ((with_reducible refine (HC.out _).mono ?_); rintro x w1 ⟨rfl, rfl⟩)
      go_wp2_with fail
      ((with_reducible refine (HA.out _).mono ?_); rintro x w1 ⟨rfl, rfl⟩)
      go_wp2_with fail
      go_ret
      exact ⟨ret_bool HV.out.symm, HO.out⟩
    | true =>
      rw [h2] at HA HHD
      clear h2
      rcases empty_facts r with ⟨e0, e1, e2, e3⟩ | ⟨e0, e2, e3⟩
      · have hr0 : r.data.toList.isEmpty = true := by rw [e0]; rfl
        rw [hr0] at HHD
        clear e0 hr0
        have hLn : L.length = n := HN.out
        by_cases hc0 : life < 1
        · have HV := Lib.hid (HH.out (by rw [HHD.out, Bool.true_and, Bool.true_and, Bool.true_or, Bool.true_and]; exact decide_eq_false (by omega)))
          clear hLn
          go_enter Tryz.func15, Tryz.ntmps15
          go_wp2_with fail
          ((with_reducible refine (HC.out _).mono ?_); rintro x w1 ⟨rfl, rfl⟩)
          go_wp2_with fail
          ((with_reducible refine (HA.out _).mono ?_); rintro x w1 ⟨rfl, rfl⟩)
          go_wp2_with fail
          go_ret
          exact ⟨ret_bool HV.out.symm, HO.out⟩
        have hg0 : 1 ≤ life := by omega
        by_cases hc1 : 6 < life
        · have HV := Lib.hid (HH.out (by rw [HHD.out, Bool.true_and, Bool.true_and, Bool.true_or, Bool.true_and]; exact decide_eq_false (by omega)))
          clear hLn
          go_enter Tryz.func15, Tryz.ntmps15
          go_wp2_with fail
          ((with_reducible refine (HC.out _).mono ?_); rintro x w1 ⟨rfl, rfl⟩)
          go_wp2_with fail
          ((with_reducible refine (HA.out _).mono ?_); rintro x w1 ⟨rfl, rfl⟩)
          go_wp2_with fail
          go_ret
          exact ⟨ret_bool HV.out.symm, HO.out⟩
        have hg1 : life ≤ 6 := by omega
        by_cases hc2 : time < 0
        · have HV := Lib.hid (HH.out (by rw [HHD.out, Bool.true_and, Bool.true_and, Bool.true_or, Bool.true_and]; exact decide_eq_false (by omega)))
          clear hLn
          go_enter Tryz.func15, Tryz.ntmps15
          go_wp2_with fail
          ((with_reducible refine (HC.out _).mono ?_); rintro x w1 ⟨rfl, rfl⟩)
          go_wp2_with fail
          ((with_reducible refine (HA.out _).mono ?_); rintro x w1 ⟨rfl, rfl⟩)
          go_wp2_with fail
          go_ret
          exact ⟨ret_bool HV.out.symm, HO.out⟩
        have hg2 : 0 ≤ time := by omega
        by_cases hc3 : 1099511627776 < time
        · have HV := Lib.hid (HH.out (by rw [HHD.out, Bool.true_and, Bool.true_and, Bool.true_or, Bool.true_and]; exact decide_eq_false (by omega)))
          clear hLn
          go_enter Tryz.func15, Tryz.ntmps15
          go_wp2_with fail
          ((with_reducible refine (HC.out _).mono ?_); rintro x w1 ⟨rfl, rfl⟩)
          go_wp2_with fail
          ((with_reducible refine (HA.out _).mono ?_); rintro x w1 ⟨rfl, rfl⟩)
          go_wp2_with fail
          go_ret
          exact ⟨ret_bool HV.out.symm, HO.out⟩
        have hg3 : time ≤ 1099511627776 := by omega
        by_cases hc4 : 8 < n
        · have HV := Lib.hid (HH.out (by rw [HHD.out, Bool.true_and, Bool.true_and, Bool.true_or, Bool.true_and]; exact decide_eq_false (by omega)))
          have hq : (8 : Int) < (n : Int) := by omega
          clear hLn
          go_enter Tryz.func15, Tryz.ntmps15
          go_wp2_with fail
          ((with_reducible refine (HC.out _).mono ?_); rintro x w1 ⟨rfl, rfl⟩)
          go_wp2_with fail
          ((with_reducible refine (HA.out _).mono ?_); rintro x w1 ⟨rfl, rfl⟩)
          go_wp2_with fail
          go_ret
          exact ⟨ret_bool HV.out.symm, HO.out⟩
        have hg4 : n ≤ 8 := by omega
        have HV := Lib.hid (HT.out (by rw [HHD.out, Bool.true_and, Bool.true_and, Bool.true_or, Bool.true_and]; exact decide_eq_true (by omega)))
        have hq : (n : Int) ≤ 8 := by omega
        clear hLn hc0 hc1 hc2 hc3 hc4 HH HT HHD
        go_enter Tryz.func15, Tryz.ntmps15
        go_wp2_with fail
        ((with_reducible refine (HC.out _).mono ?_); rintro x w1 ⟨rfl, rfl⟩)
        go_wp2_with fail
        ((with_reducible refine (HA.out _).mono ?_); rintro x w1 ⟨rfl, rfl⟩)
        go_wp2_with fail
        clear HC HA HR
        obtain ⟨w0, hw0⟩ : ∃ w0, w0 = w.alloc (.cells #[.string c, .string a, .string r, .int .i64 life, .int .i64 time, .slice A n cap] 24) := ⟨_, rfl⟩
        have HEC := Lib.hid (show w0.cell? ⟨w.heap.size, 5, none⟩ = some (.slice A n cap) by rw [hw0]; simp)
        have HFI := Lib.hid (show FdIn w0 A L by rw [hw0]; exact H0.out.below HO.out)
        have HBW := Lib.hid (show Below w.heap.size w w0 by rw [hw0]; exact HO.out)
        rw [← hw0]
        obtain ⟨eb, heb⟩ : ∃ eb, eb = w.heap.size := ⟨_, rfl⟩
        rw [← heb]
        rw [← heb] at HEC
        clear hw0 heb HO H0
        go_loopg [3] (n) (fun g i wr => ∃ k : Nat, k + g = n ∧ i = .int .i64 k ∧ fdTo L k = true ∧ Below w0.heap.size w0 wr)
        case atStart => exact ⟨0, by omega, rfl, rfl, Below.refl _ _⟩
        case round =>
          obtain ⟨k, hk, rfl, hok, hB⟩ := hrel
          have HK := Lib.hid hk
          have HOk := Lib.hid hok
          have HB := Lib.hid hB
          have hle : k ≤ n := by omega
          have e5 := cell_stays HB.out HEC.out
          clear hk hok hB
          by_cases hlt : k < n
          · have hlt' : k < L.length := by rw [HN.out]; exact hlt
            obtain ⟨ad, rfl, hp, c0, c1, c2, c3⟩ := (HFI.out.below HB.out) k hlt'
            have HFX := Lib.hid (HFD.out _ (List.getElem_mem hlt'))
            have HNO := Lib.hid (fdsB_no L k hlt')
            have HSU := Lib.hid (fdTo_succ L k)
            have HE0 := Lib.hid (fun (h0 : k = 0) => (show fdAt L k = (isNameB L[k].nm.data.toList && L[k].v.ok) by subst h0; exact fdAt_zero L hlt'))
            have HE1 := Lib.hid (fun j (hj : j + 1 = k) => (show ∃ y : Fd, (∃ ad', some ad = some ad' ∧ (ad'.add (j * 4)).block < wr.heap.size ∧ FdAt wr (ad'.add (j * 4)) y) ∧ fdAt L k = (isNameB L[k].nm.data.toList && (L[k].v.ok && Op.bytesLess y.nm.toList L[k].nm.toList)) by
              subst hj
              exact ⟨L[j], (HFI.out.below HB.out) j (by omega), fdAt_succ L j hlt'⟩))
            generalize L[k] = x at *
            obtain ⟨xn, xv⟩ := x
            obtain ⟨xk, xi, xs⟩ := xv
            simp only at *
            have HX1 := Lib.hid (fun w => sisName_any xn w HFX.out.1)
            have HX2 := Lib.hid (fun w => rvvalid_any ⟨xk, xi, xs⟩ w (by have := HFX.out.2; show xs.size ≤ _; omega))
            clear hlt'
            go_wp2_with fail
            obtain ⟨W4, hW4⟩ : ∃ W4, W4 = wr.alloc (.cells #[.string xn, .int .i64 xk, .int .i64 xi, .string xs] 49) := ⟨_, rfl⟩
            rw [← hW4]
            have hb4 : Below wr.heap.size wr W4 := by rw [hW4]; exact below_alloc wr _
            have t0 : W4.cell? ⟨wr.heap.size, 0, none⟩ = some (.string xn) := by rw [hW4]; simp
            have t1 : W4.cell? ⟨wr.heap.size, 1, none⟩ = some (.int .i64 xk) := by rw [hW4]; simp
            have t2 : W4.cell? ⟨wr.heap.size, 2, none⟩ = some (.int .i64 xi) := by rw [hW4]; simp
            have t3 : W4.cell? ⟨wr.heap.size, 3, none⟩ = some (.string xs) := by rw [hW4]; simp
            have t5 : W4.cell? ⟨eb, 5, none⟩ = some (.slice (some ad) n cap) := cell_stays hb4 (cell_stays HB.out HEC.out)
            have HBs := Lib.hid (below_then HB.out hb4)
            have HB4 := Lib.hid hb4
            clear hW4 hb4 c0 c1 c2 c3
            generalize wr.heap.size = tb at t0 t1 t2 t3 ⊢
            have a0 := cell_regrown t0
            have a1 := cell_regrown t1
            have a2 := cell_regrown t2
            have a3 := cell_regrown t3
            have a5 := cell_regrown t5
            cases hb1 : isNameB xn.data.toList with
            | false =>
              rw [hb1] at HX1 HE0 HE1
              have HVF := Lib.hid (show fdsB L = false by
                rcases Nat.eq_zero_or_pos k with h0 | h0
                · exact HNO.out (by rw [HE0.out h0]; rfl)
                · obtain ⟨y, _, hy⟩ := HE1.out (k - 1) (by omega)
                  exact HNO.out (by rw [hy]; rfl))
              clear hb1
              refine wp_region_quiet_below (by kernel_rfl) (by kernel_rfl) ?_
              repeat (first | go_big_quiet_step (exact Calls.regrown_of (nis_below (HX1.out _))) | quiet_step (exact Calls.regrown_of (nis_below (HX1.out _))))
              refine wpQuiet_nil ?_
              intro _ hw'
              obtain ⟨⟨dq, osq⟩, hw''⟩ := hw'
              subst hw''
              go_wp2_with fail
              go_ret
              exact ⟨ret_bool (by rw [HV.out, HVF.out]), below_then HBW.out (below_then HBs.out (below_regrown _ _ _))⟩
            | true =>
              rw [hb1] at HX1 HE0 HE1
              clear hb1
              cases hb2 : (⟨xk, xi, xs⟩ : Vl).ok with
              | false =>
                rw [hb2] at HX2 HE0 HE1
                have HVF := Lib.hid (show fdsB L = false by
                  rcases Nat.eq_zero_or_pos k with h0 | h0
                  · exact HNO.out (by rw [HE0.out h0]; rfl)
                  · obtain ⟨y, _, hy⟩ := HE1.out (k - 1) (by omega)
                    exact HNO.out (by rw [hy]; rfl))
                clear hb2
                refine wp_region_quiet_below (by kernel_rfl) (by kernel_rfl) ?_
                repeat (first | go_big_quiet_step (first | exact Calls.regrown_of (nis_below (HX1.out _)) | exact Calls.regrown_of (HX2.out _)) | quiet_step (first | exact Calls.regrown_of (nis_below (HX1.out _)) | exact Calls.regrown_of (HX2.out _)))
                refine wpQuiet_nil ?_
                intro _ hw'
                obtain ⟨⟨dq, osq⟩, hw''⟩ := hw'
                subst hw''
                go_wp2_with fail
                go_ret
                exact ⟨ret_bool (by rw [HV.out, HVF.out]), below_then HBW.out (below_then HBs.out (below_regrown _ _ _))⟩
              | true =>
                rw [hb2] at HX2 HE0 HE1
                clear hb2
                have hkc : k = 0 ∨ ∃ j, j + 1 = k := by
                  cases k with
                  | zero => exact .inl rfl
                  | succ j => exact .inr ⟨j, rfl⟩
                rcases hkc with hk0 | ⟨j, hjk⟩
                · have q0 : decide ((0 : Int) < (k : Int)) = false := by simp; omega
                  have q1 : decide (0 < k) = false := by simp; omega
                  have HY := Lib.hid (show fdTo L (k + 1) = true by rw [HSU.out, HOk.out, HE0.out hk0]; rfl)
                  clear hk0
                  refine wp_region_quiet_below (by kernel_rfl) (by kernel_rfl) ?_
                  repeat (first | go_big_quiet_step (first | exact Calls.regrown_of (nis_below (HX1.out _)) | exact Calls.regrown_of (HX2.out _)) | quiet_step (first | exact Calls.regrown_of (nis_below (HX1.out _)) | exact Calls.regrown_of (HX2.out _)))
                  refine wpQuiet_nil ?_
                  intro _ hw'
                  obtain ⟨⟨dq, osq⟩, hw''⟩ := hw'
                  subst hw''
                  go_wp2_with fail
                  go_roundg (gk - 1)
                  case measure => have := HK.out; omega
                  case rel => exact ⟨k + 1, by have := HK.out; omega, by go_num, HY.out, below_then HBs.out (below_regrown _ _ _)⟩
                · obtain ⟨y, ⟨ad2, had, hjp, d0, _, _, _⟩, hy⟩ := HE1.out j hjk
                  obtain rfl := Option.some.inj had
                  have y0 := cell_regrown (cell_stays HB4.out d0)
                  have q0 : decide ((0 : Int) < (k : Int)) = true := by simp; omega
                  have q1 : decide (0 < k) = true := by simp; omega
                  have v7 : IntKind.i64.wrap ((k : Int) - 1) = (j : Int) := by rw [show (k : Int) - 1 = (j : Int) by omega]; exact IntWalk.i64_in _ (by omega)
                  have hjn : (j : Int) < (n : Int) := by omega
                  have hjn' : j < n := by omega
                  have HYE := Lib.hid hy
                  clear had d0 hy hjk
                  cases hb3 : Op.bytesLess y.nm.toList xn.toList with
                  | true =>
                    rw [hb3] at HYE
                    have HY := Lib.hid (show fdTo L (k + 1) = true by rw [HSU.out, HOk.out, HYE.out]; rfl)
                    refine wp_region_quiet_below (by kernel_rfl) (by kernel_rfl) ?_
                    repeat (first | go_big_quiet_step (first | exact Calls.regrown_of (nis_below (HX1.out _)) | exact Calls.regrown_of (HX2.out _)) | quiet_step (first | exact Calls.regrown_of (nis_below (HX1.out _)) | exact Calls.regrown_of (HX2.out _)))
                    refine wpQuiet_nil ?_
                    intro _ hw'
                    obtain ⟨⟨dq, osq⟩, hw''⟩ := hw'
                    subst hw''
                    go_wp2_with fail
                    go_roundg (gk - 1)
                    case measure => have := HK.out; omega
                    case rel => exact ⟨k + 1, by have := HK.out; omega, by go_num, HY.out, below_then HBs.out (below_regrown _ _ _)⟩
                  | false =>
                    rw [hb3] at HYE
                    have HVF := Lib.hid (HNO.out (by rw [HYE.out]; rfl))
                    refine wp_region_quiet_below (by kernel_rfl) (by kernel_rfl) ?_
                    repeat (first | go_big_quiet_step (first | exact Calls.regrown_of (nis_below (HX1.out _)) | exact Calls.regrown_of (HX2.out _)) | quiet_step (first | exact Calls.regrown_of (nis_below (HX1.out _)) | exact Calls.regrown_of (HX2.out _)))
                    refine wpQuiet_nil ?_
                    intro _ hw'
                    obtain ⟨⟨dq, osq⟩, hw''⟩ := hw'
                    subst hw''
                    go_wp2_with fail
                    go_ret
                    exact ⟨ret_bool (by rw [HV.out, HVF.out]), below_then HBW.out (below_then HBs.out (below_regrown _ _ _))⟩
          · have HE := Lib.hid (show fdsB L = true by unfold fdsB; rw [HN.out, show n = k by omega]; exact HOk.out)
            go_wp2_with fail
            go_ret
            exact ⟨ret_bool (by rw [HV.out, HE.out]), below_then HBW.out HB.out⟩
      · have hr0 : r.data.toList.isEmpty = false := by
          cases hx : r.data.toList with
          | nil => exact absurd hx e0
          | cons _ _ => rfl
        rw [hr0] at HHD
        clear e0 hr0
        cases h3 : isNameB r.data.toList with
        | false =>
          rw [h3] at HR HHD
          have HV := Lib.hid (HH.out (by rw [HHD.out]; rfl))
          clear h3
          go_enter Tryz.func15, Tryz.ntmps15
          go_wp2_with fail
          ((with_reducible refine (HC.out _).mono ?_); rintro x w1 ⟨rfl, rfl⟩)
          go_wp2_with fail
          ((with_reducible refine (HA.out _).mono ?_); rintro x w1 ⟨rfl, rfl⟩)
          go_wp2_with fail
          ((with_reducible refine (HR.out _).mono ?_); rintro x w1 ⟨rfl, rfl⟩)
          go_wp2_with fail
          go_ret
          exact ⟨ret_bool HV.out.symm, HO.out⟩
        | true =>
          rw [h3] at HR HHD
          clear h3
          have hLn : L.length = n := HN.out
          by_cases hc0 : life < 1
          · have HV := Lib.hid (HH.out (by rw [HHD.out, Bool.true_and, Bool.true_and, Bool.false_or, Bool.true_and]; exact decide_eq_false (by omega)))
            clear hLn
            go_enter Tryz.func15, Tryz.ntmps15
            go_wp2_with fail
            ((with_reducible refine (HC.out _).mono ?_); rintro x w1 ⟨rfl, rfl⟩)
            go_wp2_with fail
            ((with_reducible refine (HA.out _).mono ?_); rintro x w1 ⟨rfl, rfl⟩)
            go_wp2_with fail
            ((with_reducible refine (HR.out _).mono ?_); rintro x w1 ⟨rfl, rfl⟩)
            go_wp2_with fail
            go_ret
            exact ⟨ret_bool HV.out.symm, HO.out⟩
          have hg0 : 1 ≤ life := by omega
          by_cases hc1 : 6 < life
          · have HV := Lib.hid (HH.out (by rw [HHD.out, Bool.true_and, Bool.true_and, Bool.false_or, Bool.true_and]; exact decide_eq_false (by omega)))
            clear hLn
            go_enter Tryz.func15, Tryz.ntmps15
            go_wp2_with fail
            ((with_reducible refine (HC.out _).mono ?_); rintro x w1 ⟨rfl, rfl⟩)
            go_wp2_with fail
            ((with_reducible refine (HA.out _).mono ?_); rintro x w1 ⟨rfl, rfl⟩)
            go_wp2_with fail
            ((with_reducible refine (HR.out _).mono ?_); rintro x w1 ⟨rfl, rfl⟩)
            go_wp2_with fail
            go_ret
            exact ⟨ret_bool HV.out.symm, HO.out⟩
          have hg1 : life ≤ 6 := by omega
          by_cases hc2 : time < 0
          · have HV := Lib.hid (HH.out (by rw [HHD.out, Bool.true_and, Bool.true_and, Bool.false_or, Bool.true_and]; exact decide_eq_false (by omega)))
            clear hLn
            go_enter Tryz.func15, Tryz.ntmps15
            go_wp2_with fail
            ((with_reducible refine (HC.out _).mono ?_); rintro x w1 ⟨rfl, rfl⟩)
            go_wp2_with fail
            ((with_reducible refine (HA.out _).mono ?_); rintro x w1 ⟨rfl, rfl⟩)
            go_wp2_with fail
            ((with_reducible refine (HR.out _).mono ?_); rintro x w1 ⟨rfl, rfl⟩)
            go_wp2_with fail
            go_ret
            exact ⟨ret_bool HV.out.symm, HO.out⟩
          have hg2 : 0 ≤ time := by omega
          by_cases hc3 : 1099511627776 < time
          · have HV := Lib.hid (HH.out (by rw [HHD.out, Bool.true_and, Bool.true_and, Bool.false_or, Bool.true_and]; exact decide_eq_false (by omega)))
            clear hLn
            go_enter Tryz.func15, Tryz.ntmps15
            go_wp2_with fail
            ((with_reducible refine (HC.out _).mono ?_); rintro x w1 ⟨rfl, rfl⟩)
            go_wp2_with fail
            ((with_reducible refine (HA.out _).mono ?_); rintro x w1 ⟨rfl, rfl⟩)
            go_wp2_with fail
            ((with_reducible refine (HR.out _).mono ?_); rintro x w1 ⟨rfl, rfl⟩)
            go_wp2_with fail
            go_ret
            exact ⟨ret_bool HV.out.symm, HO.out⟩
          have hg3 : time ≤ 1099511627776 := by omega
          by_cases hc4 : 8 < n
          · have HV := Lib.hid (HH.out (by rw [HHD.out, Bool.true_and, Bool.true_and, Bool.false_or, Bool.true_and]; exact decide_eq_false (by omega)))
            have hq : (8 : Int) < (n : Int) := by omega
            clear hLn
            go_enter Tryz.func15, Tryz.ntmps15
            go_wp2_with fail
            ((with_reducible refine (HC.out _).mono ?_); rintro x w1 ⟨rfl, rfl⟩)
            go_wp2_with fail
            ((with_reducible refine (HA.out _).mono ?_); rintro x w1 ⟨rfl, rfl⟩)
            go_wp2_with fail
            ((with_reducible refine (HR.out _).mono ?_); rintro x w1 ⟨rfl, rfl⟩)
            go_wp2_with fail
            go_ret
            exact ⟨ret_bool HV.out.symm, HO.out⟩
          have hg4 : n ≤ 8 := by omega
          have HV := Lib.hid (HT.out (by rw [HHD.out, Bool.true_and, Bool.true_and, Bool.false_or, Bool.true_and]; exact decide_eq_true (by omega)))
          have hq : (n : Int) ≤ 8 := by omega
          clear hLn hc0 hc1 hc2 hc3 hc4 HH HT HHD
          go_enter Tryz.func15, Tryz.ntmps15
          go_wp2_with fail
          ((with_reducible refine (HC.out _).mono ?_); rintro x w1 ⟨rfl, rfl⟩)
          go_wp2_with fail
          ((with_reducible refine (HA.out _).mono ?_); rintro x w1 ⟨rfl, rfl⟩)
          go_wp2_with fail
          ((with_reducible refine (HR.out _).mono ?_); rintro x w1 ⟨rfl, rfl⟩)
          go_wp2_with fail
          clear HC HA HR
          obtain ⟨w0, hw0⟩ : ∃ w0, w0 = w.alloc (.cells #[.string c, .string a, .string r, .int .i64 life, .int .i64 time, .slice A n cap] 24) := ⟨_, rfl⟩
          have HEC := Lib.hid (show w0.cell? ⟨w.heap.size, 5, none⟩ = some (.slice A n cap) by rw [hw0]; simp)
          have HFI := Lib.hid (show FdIn w0 A L by rw [hw0]; exact H0.out.below HO.out)
          have HBW := Lib.hid (show Below w.heap.size w w0 by rw [hw0]; exact HO.out)
          rw [← hw0]
          obtain ⟨eb, heb⟩ : ∃ eb, eb = w.heap.size := ⟨_, rfl⟩
          rw [← heb]
          rw [← heb] at HEC
          clear hw0 heb HO H0
          go_loopg [3] (n) (fun g i wr => ∃ k : Nat, k + g = n ∧ i = .int .i64 k ∧ fdTo L k = true ∧ Below w0.heap.size w0 wr)
          case atStart => exact ⟨0, by omega, rfl, rfl, Below.refl _ _⟩
          case round =>
            obtain ⟨k, hk, rfl, hok, hB⟩ := hrel
            have HK := Lib.hid hk
            have HOk := Lib.hid hok
            have HB := Lib.hid hB
            have hle : k ≤ n := by omega
            have e5 := cell_stays HB.out HEC.out
            clear hk hok hB
            by_cases hlt : k < n
            · have hlt' : k < L.length := by rw [HN.out]; exact hlt
              obtain ⟨ad, rfl, hp, c0, c1, c2, c3⟩ := (HFI.out.below HB.out) k hlt'
              have HFX := Lib.hid (HFD.out _ (List.getElem_mem hlt'))
              have HNO := Lib.hid (fdsB_no L k hlt')
              have HSU := Lib.hid (fdTo_succ L k)
              have HE0 := Lib.hid (fun (h0 : k = 0) => (show fdAt L k = (isNameB L[k].nm.data.toList && L[k].v.ok) by subst h0; exact fdAt_zero L hlt'))
              have HE1 := Lib.hid (fun j (hj : j + 1 = k) => (show ∃ y : Fd, (∃ ad', some ad = some ad' ∧ (ad'.add (j * 4)).block < wr.heap.size ∧ FdAt wr (ad'.add (j * 4)) y) ∧ fdAt L k = (isNameB L[k].nm.data.toList && (L[k].v.ok && Op.bytesLess y.nm.toList L[k].nm.toList)) by
                subst hj
                exact ⟨L[j], (HFI.out.below HB.out) j (by omega), fdAt_succ L j hlt'⟩))
              generalize L[k] = x at *
              obtain ⟨xn, xv⟩ := x
              obtain ⟨xk, xi, xs⟩ := xv
              simp only at *
              have HX1 := Lib.hid (fun w => sisName_any xn w HFX.out.1)
              have HX2 := Lib.hid (fun w => rvvalid_any ⟨xk, xi, xs⟩ w (by have := HFX.out.2; show xs.size ≤ _; omega))
              clear hlt'
              go_wp2_with fail
              obtain ⟨W4, hW4⟩ : ∃ W4, W4 = wr.alloc (.cells #[.string xn, .int .i64 xk, .int .i64 xi, .string xs] 49) := ⟨_, rfl⟩
              rw [← hW4]
              have hb4 : Below wr.heap.size wr W4 := by rw [hW4]; exact below_alloc wr _
              have t0 : W4.cell? ⟨wr.heap.size, 0, none⟩ = some (.string xn) := by rw [hW4]; simp
              have t1 : W4.cell? ⟨wr.heap.size, 1, none⟩ = some (.int .i64 xk) := by rw [hW4]; simp
              have t2 : W4.cell? ⟨wr.heap.size, 2, none⟩ = some (.int .i64 xi) := by rw [hW4]; simp
              have t3 : W4.cell? ⟨wr.heap.size, 3, none⟩ = some (.string xs) := by rw [hW4]; simp
              have t5 : W4.cell? ⟨eb, 5, none⟩ = some (.slice (some ad) n cap) := cell_stays hb4 (cell_stays HB.out HEC.out)
              have HBs := Lib.hid (below_then HB.out hb4)
              have HB4 := Lib.hid hb4
              clear hW4 hb4 c0 c1 c2 c3
              generalize wr.heap.size = tb at t0 t1 t2 t3 ⊢
              have a0 := cell_regrown t0
              have a1 := cell_regrown t1
              have a2 := cell_regrown t2
              have a3 := cell_regrown t3
              have a5 := cell_regrown t5
              cases hb1 : isNameB xn.data.toList with
              | false =>
                rw [hb1] at HX1 HE0 HE1
                have HVF := Lib.hid (show fdsB L = false by
                  rcases Nat.eq_zero_or_pos k with h0 | h0
                  · exact HNO.out (by rw [HE0.out h0]; rfl)
                  · obtain ⟨y, _, hy⟩ := HE1.out (k - 1) (by omega)
                    exact HNO.out (by rw [hy]; rfl))
                clear hb1
                refine wp_region_quiet_below (by kernel_rfl) (by kernel_rfl) ?_
                repeat (first | go_big_quiet_step (exact Calls.regrown_of (nis_below (HX1.out _))) | quiet_step (exact Calls.regrown_of (nis_below (HX1.out _))))
                refine wpQuiet_nil ?_
                intro _ hw'
                obtain ⟨⟨dq, osq⟩, hw''⟩ := hw'
                subst hw''
                go_wp2_with fail
                go_ret
                exact ⟨ret_bool (by rw [HV.out, HVF.out]), below_then HBW.out (below_then HBs.out (below_regrown _ _ _))⟩
              | true =>
                rw [hb1] at HX1 HE0 HE1
                clear hb1
                cases hb2 : (⟨xk, xi, xs⟩ : Vl).ok with
                | false =>
                  rw [hb2] at HX2 HE0 HE1
                  have HVF := Lib.hid (show fdsB L = false by
                    rcases Nat.eq_zero_or_pos k with h0 | h0
                    · exact HNO.out (by rw [HE0.out h0]; rfl)
                    · obtain ⟨y, _, hy⟩ := HE1.out (k - 1) (by omega)
                      exact HNO.out (by rw [hy]; rfl))
                  clear hb2
                  refine wp_region_quiet_below (by kernel_rfl) (by kernel_rfl) ?_
                  repeat (first | go_big_quiet_step (first | exact Calls.regrown_of (nis_below (HX1.out _)) | exact Calls.regrown_of (HX2.out _)) | quiet_step (first | exact Calls.regrown_of (nis_below (HX1.out _)) | exact Calls.regrown_of (HX2.out _)))
                  refine wpQuiet_nil ?_
                  intro _ hw'
                  obtain ⟨⟨dq, osq⟩, hw''⟩ := hw'
                  subst hw''
                  go_wp2_with fail
                  go_ret
                  exact ⟨ret_bool (by rw [HV.out, HVF.out]), below_then HBW.out (below_then HBs.out (below_regrown _ _ _))⟩
                | true =>
                  rw [hb2] at HX2 HE0 HE1
                  clear hb2
                  have hkc : k = 0 ∨ ∃ j, j + 1 = k := by
                    cases k with
                    | zero => exact .inl rfl
                    | succ j => exact .inr ⟨j, rfl⟩
                  rcases hkc with hk0 | ⟨j, hjk⟩
                  · have q0 : decide ((0 : Int) < (k : Int)) = false := by simp; omega
                    have q1 : decide (0 < k) = false := by simp; omega
                    have HY := Lib.hid (show fdTo L (k + 1) = true by rw [HSU.out, HOk.out, HE0.out hk0]; rfl)
                    clear hk0
                    refine wp_region_quiet_below (by kernel_rfl) (by kernel_rfl) ?_
                    repeat (first | go_big_quiet_step (first | exact Calls.regrown_of (nis_below (HX1.out _)) | exact Calls.regrown_of (HX2.out _)) | quiet_step (first | exact Calls.regrown_of (nis_below (HX1.out _)) | exact Calls.regrown_of (HX2.out _)))
                    refine wpQuiet_nil ?_
                    intro _ hw'
                    obtain ⟨⟨dq, osq⟩, hw''⟩ := hw'
                    subst hw''
                    go_wp2_with fail
                    go_roundg (gk - 1)
                    case measure => have := HK.out; omega
                    case rel => exact ⟨k + 1, by have := HK.out; omega, by go_num, HY.out, below_then HBs.out (below_regrown _ _ _)⟩
                  · obtain ⟨y, ⟨ad2, had, hjp, d0, _, _, _⟩, hy⟩ := HE1.out j hjk
                    obtain rfl := Option.some.inj had
                    have y0 := cell_regrown (cell_stays HB4.out d0)
                    have q0 : decide ((0 : Int) < (k : Int)) = true := by simp; omega
                    have q1 : decide (0 < k) = true := by simp; omega
                    have v7 : IntKind.i64.wrap ((k : Int) - 1) = (j : Int) := by rw [show (k : Int) - 1 = (j : Int) by omega]; exact IntWalk.i64_in _ (by omega)
                    have hjn : (j : Int) < (n : Int) := by omega
                    have hjn' : j < n := by omega
                    have HYE := Lib.hid hy
                    clear had d0 hy hjk
                    cases hb3 : Op.bytesLess y.nm.toList xn.toList with
                    | true =>
                      rw [hb3] at HYE
                      have HY := Lib.hid (show fdTo L (k + 1) = true by rw [HSU.out, HOk.out, HYE.out]; rfl)
                      refine wp_region_quiet_below (by kernel_rfl) (by kernel_rfl) ?_
                      repeat (first | go_big_quiet_step (first | exact Calls.regrown_of (nis_below (HX1.out _)) | exact Calls.regrown_of (HX2.out _)) | quiet_step (first | exact Calls.regrown_of (nis_below (HX1.out _)) | exact Calls.regrown_of (HX2.out _)))
                      refine wpQuiet_nil ?_
                      intro _ hw'
                      obtain ⟨⟨dq, osq⟩, hw''⟩ := hw'
                      subst hw''
                      go_wp2_with fail
                      go_roundg (gk - 1)
                      case measure => have := HK.out; omega
                      case rel => exact ⟨k + 1, by have := HK.out; omega, by go_num, HY.out, below_then HBs.out (below_regrown _ _ _)⟩
                    | false =>
                      rw [hb3] at HYE
                      have HVF := Lib.hid (HNO.out (by rw [HYE.out]; rfl))
                      refine wp_region_quiet_below (by kernel_rfl) (by kernel_rfl) ?_
                      repeat (first | go_big_quiet_step (first | exact Calls.regrown_of (nis_below (HX1.out _)) | exact Calls.regrown_of (HX2.out _)) | quiet_step (first | exact Calls.regrown_of (nis_below (HX1.out _)) | exact Calls.regrown_of (HX2.out _)))
                      refine wpQuiet_nil ?_
                      intro _ hw'
                      obtain ⟨⟨dq, osq⟩, hw''⟩ := hw'
                      subst hw''
                      go_wp2_with fail
                      go_ret
                      exact ⟨ret_bool (by rw [HV.out, HVF.out]), below_then HBW.out (below_then HBs.out (below_regrown _ _ _))⟩
            · have HE := Lib.hid (show fdsB L = true by unfold fdsB; rw [HN.out, show n = k by omega]; exact HOk.out)
              go_wp2_with fail
              go_ret
              exact ⟨ret_bool (by rw [HV.out, HE.out]), below_then HBW.out HB.out⟩
end Go.Proofs.YtbbdgncjpbfooaaGreatDoor
