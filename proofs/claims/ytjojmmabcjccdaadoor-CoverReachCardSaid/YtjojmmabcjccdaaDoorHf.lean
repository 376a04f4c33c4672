/- SameSpace of reference 24: what a call returns. -/
import Derived.Test.YtjojmmabcjccdaaDoorHe
import Derived.Laws.StructEq
namespace Go.Proofs.YtjojmmabcjccdaaDoor
open Go.RowKit

theorem run_neq_mv (x y : Mv) (w : World) : (binOp .neq 72 (.agg #[.int .i64 x.f, .int .i64 x.t, .int .i64 x.s]) (.agg #[.int .i64 y.f, .int .i64 y.t, .int .i64 y.s])).run Tryd.prog w = .ok (.bool (!decide (x = y))) w := by
  have u3 := Tryd.underlying3
  have a3 := Tryd.isAgg3
  have z3 := Tryd.sizeOf3
  have hS : Tryd.prog.underlying 72 = some (.struct (Tryd.prog.fieldsOf 72)) := by kernel_rfl
  have hp : Tryd.prog.stoodInHeld 72 = false := by kernel_rfl
  rw [run_neq_struct, show (10000 : Nat) = 9999 + 1 from rfl, run_equalIn_agg w 9999 72 _ _ hS hp]
  simp only [Program.fieldsOf, Tryd.underlying72]
  obtain ⟨x1, x2, x3⟩ := x
  obtain ⟨y1, y2, y3⟩ := y
  go_simp
  by_cases h1 : x1 = y1 <;> by_cases h2 : x2 = y2 <;> by_cases h3 : x3 = y3 <;> simp [h1, h2, h3]
/-- the cells of a move -/
theorem mv_cells {w : World} {A : Option Addr} {MV : List Mv} (h : Rd mvC 3 w A MV) {k : Nat} (hk : k < MV.length) :
    ∃ ad, A = some ad ∧ (ad.add (k * 3)).block < w.heap.size ∧ w.cell? (ad.add (k * 3)) = some (.int .i64 MV[k].f) ∧ w.cell? ⟨(ad.add (k * 3)).block, (ad.add (k * 3)).off + 1, none⟩ = some (.int .i64 MV[k].t) ∧ w.cell? ⟨(ad.add (k * 3)).block, (ad.add (k * 3)).off + 1 + 1, none⟩ = some (.int .i64 MV[k].s) := by
  obtain ⟨ad, e, h1, h2⟩ := h k hk
  refine ⟨ad, e, h1, h2 0 _ (by omega) rfl, ?_, ?_⟩
  · have := h2 1 _ (by omega) rfl
    rwa [add_at _ _ _ (by omega)] at this
  · have := h2 2 _ (by omega) rfl
    rwa [add_at _ _ _ (by omega)] at this
set_option maxHeartbeats 6400000 in
set_option maxRecDepth 100000 in
theorem sameSpace_any (v1 v2 : Value) (L1 L2 : List (List Int)) (M1 M2 : List Mv) (f1 f2 : Bool) (w : World) (h1 : SpIn w v1 L1 M1 f1) (h2 : SpIn w v2 L2 M2 f2) :
    Calls Tryd.prog 15 #[v1, v2] w fun e w' => e = .returned (.bool (sameSp L1 L2 M1 M2 f1 f2)) ∧ Below w.heap.size w w' := by
  obtain ⟨A, c, A', c', rfl, hl, hll, hm, hml⟩ := h1
  obtain ⟨B, d, B', d', rfl, kl, kll, km, kml⟩ := h2
  have HB := Lib.hid (two_boxes w (.cells #[.slice A L1.length c, .slice A' M1.length c', .bool f1] 31) (.cells #[.slice B L2.length d, .slice B' M2.length d', .bool f2] 31))
  have HX := Lib.hid ((SpB.new w (.slice A L1.length c) (.slice A' M1.length c') f1).below (below_alloc _ (.cells #[.slice B L2.length d, .slice B' M2.length d', .bool f2] 31)))
  have HY0 := SpB.new (w.alloc (.cells #[.slice A L1.length c, .slice A' M1.length c', .bool f1] 31)) (.slice B L2.length d) (.slice B' M2.length d') f2
  rw [World.size_alloc] at HY0
  have HY := Lib.hid HY0
  have H1 := Lib.hid (hl.below HB.out)
  have H2 := Lib.hid (kl.below HB.out)
  have H3 := Lib.hid (hm.below HB.out)
  have H4 := Lib.hid (km.below HB.out)
  clear hl kl hm km HY0
  obtain ⟨n, hn⟩ : ∃ n, n = L1.length := ⟨_, rfl⟩
  obtain ⟨n2, hn2⟩ : ∃ n, n = L2.length := ⟨_, rfl⟩
  obtain ⟨m, hmm⟩ : ∃ n, n = M1.length := ⟨_, rfl⟩
  obtain ⟨m2, hm2⟩ : ∃ n, n = M2.length := ⟨_, rfl⟩
  rw [← hn, ← hn2, ← hmm, ← hm2] at HB HX HY H1 H2 H3 H4
  rw [← hn] at hll ⊢
  rw [← hn2] at kll ⊢
  rw [← hmm] at hml ⊢
  rw [← hm2] at kml ⊢
  have HN := Lib.hid hn.symm
  have HN2 := Lib.hid hn2.symm
  have HM := Lib.hid hmm.symm
  have HM2 := Lib.hid hm2.symm
  clear hn hn2 hmm hm2
  go_enter Tryd.func15, Tryd.ntmps15
  by_cases e1 : n = n2
  · subst e1
    have q1 : ((n : Int) != (n : Int)) = false := bne_self_eq_false _
    by_cases e2 : m = m2
    · subst e2
      have q2 : ((m : Int) != (m : Int)) = false := bne_self_eq_false _
      by_cases e3 : f1 = f2
      · subst e3
        have q3 : (!f1 == f1) = false := by cases f1 <;> rfl
        have q4 : (f1 != f1) = false := bne_self_eq_false _
        go_wp2_with fail
        generalize (w.alloc _).alloc _ = w0 at *
        go_loopg [5] (n) (fun g iv wr => ∃ k : Nat, k + g = n ∧ iv = .int .i64 k ∧ L1.take k = L2.take k ∧ Below w0.heap.size w0 wr)
        case atStart => exact ⟨0, by omega, rfl, rfl, Below.refl _ _⟩
        case round =>
          obtain ⟨k, hk, rfl, hp, hB⟩ := hrel
          have HK := Lib.hid hk
          have HP := Lib.hid hp
          have HBr := Lib.hid hB
          have hle : k ≤ n := by omega
          obtain ⟨x0, x1, x2⟩ := (HX.out.below hB).cells
          obtain ⟨y0, y1, y2⟩ := (HY.out.below hB).cells
          have HLr := Lib.hid (H1.out.below hB)
          have HMr := Lib.hid (H2.out.below hB)
          clear hk hp hB
          by_cases hlt : k < n
          · have k1 : k < L1.length := by rw [HN.out]; exact hlt
            have k2 : k < L2.length := by rw [HN2.out]; exact hlt
            obtain ⟨ad, rfl, hpa, u, r0, Ax, nx, cx, rfl, zx, hx1, hx2, hx3⟩ := HLr.out k k1
            obtain ⟨ae, rfl, hpb, u, r1, Ay, ny, cy, rfl, zy, hy1, hy2, hy3⟩ := HMr.out k k2
            have HG := Lib.hid (take_grow' k1 k2 HP.out)
            have HNo := Lib.hid (show L1[k] ≠ L2[k] → L1 ≠ L2 from fun h e => h (by subst e; rfl))
            generalize L1[k] = X at *
            generalize L2[k] = Y at *
            have HZx := Lib.hid zx
            have HZy := Lib.hid zy
            have HS := Lib.hid (fun d os => same_any Ax nx cx Ay ny cy X Y _ (HZx.out.below (below_regrown wr d os)) hx1 (HZy.out.below (below_regrown wr d os)) hy1 (by omega))
            clear k1 k2 zx zy hx1 hy1
            go_wp2_with fail
            have a0 := fun d os => cell_regrown x0 d os
            have a1 := fun d os => cell_regrown y0 d os
            have a2 := fun d os => cell_regrown r0 d os
            have a3 := fun d os => cell_regrown r1 d os
            by_cases hxy : X = Y
            · have HV := Lib.hid (HG.out hxy)
              rw [decide_eq_true hxy] at HS
              clear HNo HG hxy
              refine wp_region_quiet_below (by kernel_rfl) (by kernel_rfl) ?_
              repeat (quiet_step (exact Calls.regrown_of (HS.out _ _)))
              refine wpQuiet_nil ?_
              intro _ hw'
              obtain ⟨⟨dq, osq⟩, hw''⟩ := hw'
              subst hw''
              have HB1 := Lib.hid (below_then HBr.out (below_regrown _ dq osq))
              clear a0 a1 a2 a3
              go_wp2_with fail
              go_roundg (gk - 1)
              case measure => have := HK.out; omega
              case rel => exact ⟨k + 1, by have := HK.out; omega, by go_num, HV.out, HB1.out⟩
            · have HV := Lib.hid (show sameSp L1 L2 M1 M2 f1 f1 = false by unfold sameSp; rw [decide_eq_false (HNo.out hxy)]; rfl)
              rw [decide_eq_false hxy] at HS
              clear HNo HG hxy
              refine wp_region_quiet_below (by kernel_rfl) (by kernel_rfl) ?_
              repeat (quiet_step (exact Calls.regrown_of (HS.out _ _)))
              refine wpQuiet_nil ?_
              intro _ hw'
              obtain ⟨⟨dq, osq⟩, hw''⟩ := hw'
              subst hw''
              have HB1 := Lib.hid (below_then HBr.out (below_regrown _ dq osq))
              clear a0 a1 a2 a3
              go_wp2_with fail
              go_ret
              exact ⟨ret_bool HV.out.symm, HB.out.trans (HB1.out.mono HB.out.size)⟩
          · have HE := Lib.hid (show L1 = L2 by
              have := HP.out
              rwa [List.take_of_length_le (by rw [HN.out]; omega), List.take_of_length_le (by rw [HN2.out]; omega)] at this)
            clear HK HP HLr HMr
            go_wp2_with fail
            clear hlt hle x0 x1 x2 y0 y1 y2
            go_loopg [6] (m) (fun g iv wx => ∃ k : Nat, k + g = m ∧ iv = .int .i64 k ∧ M1.take k = M2.take k ∧ Below w0.heap.size w0 wx)
            case atStart => exact ⟨0, by omega, rfl, rfl, HBr.out⟩
            case round =>
              clear HBr
              obtain ⟨k, hk, rfl, hp, hB⟩ := hrel
              have HK := Lib.hid hk
              have HP := Lib.hid hp
              have HBr := Lib.hid hB
              have hle : k ≤ m := by omega
              obtain ⟨x0, x1, x2⟩ := (HX.out.below hB).cells
              obtain ⟨y0, y1, y2⟩ := (HY.out.below hB).cells
              have HLr := Lib.hid (H3.out.below hB)
              have HMr := Lib.hid (H4.out.below hB)
              clear hk hp hB
              by_cases hlt : k < m
              · have k1 : k < M1.length := by rw [HM.out]; exact hlt
                have k2 : k < M2.length := by rw [HM2.out]; exact hlt
                obtain ⟨ad, rfl, hpa, s0, s1, s2⟩ := mv_cells HLr.out k1
                obtain ⟨ae, rfl, hpb, t0, t1, t2⟩ := mv_cells HMr.out k2
                have HG := Lib.hid (take_grow' k1 k2 HP.out)
                have HNo := Lib.hid (show M1[k] ≠ M2[k] → M1 ≠ M2 from fun h e => h (by subst e; rfl))
                generalize M1[k] = x at *
                generalize M2[k] = y at *
                clear k1 k2
                have hq := run_neq_mv x y
                have hgd : Tryd.prog.eqGuardType Tryd.prog.depth 72 = false := by kernel_rfl
                go_wp2_with fail
                by_cases hxy : x = y
                · have HV := Lib.hid (HG.out hxy)
                  rw [decide_eq_true hxy] at hq
                  clear HG HNo hxy
                  go_quiet (fail)
                  go_wp2_with fail
                  go_roundg (gk - 1)
                  case measure => have := HK.out; omega
                  case rel => exact ⟨k + 1, by have := HK.out; omega, by go_num, HV.out, below_then HBr.out (below_drewN _ _)⟩
                · have HV := Lib.hid (show sameSp L1 L2 M1 M2 f1 f1 = false by unfold sameSp; rw [decide_eq_false (HNo.out hxy)]; simp)
                  rw [decide_eq_false hxy] at hq
                  clear HG HNo hxy
                  go_quiet (fail)
                  go_wp2_with fail
                  go_ret
                  exact ⟨ret_bool HV.out.symm, HB.out.trans ((below_then HBr.out (below_drewN _ _)).mono HB.out.size)⟩
              · have HE2 := Lib.hid (show M1 = M2 by
                  have := HP.out
                  rwa [List.take_of_length_le (by rw [HM.out]; omega), List.take_of_length_le (by rw [HM2.out]; omega)] at this)
                have HV := Lib.hid (show sameSp L1 L2 M1 M2 f1 f1 = true by unfold sameSp; rw [decide_eq_true HE.out, decide_eq_true HE2.out]; simp)
                go_wp2_with fail
                go_ret
                exact ⟨ret_bool HV.out.symm, HB.out.trans (HBr.out.mono HB.out.size)⟩
      · have q3 : (!f1 == f2) = true := by simpa using e3
        have q4 : (f1 != f2) = true := by simpa using e3
        have HV := Lib.hid (show sameSp L1 L2 M1 M2 f1 f2 = false by unfold sameSp; rw [decide_eq_false e3]; simp)
        clear e3
        go_wp2_with fail
        go_ret
        exact ⟨ret_bool HV.out.symm, HB.out⟩
    · have q2 : ((m : Int) != (m2 : Int)) = true := by rw [bne_iff_ne]; omega
      have HV := Lib.hid (show sameSp L1 L2 M1 M2 f1 f2 = false by unfold sameSp; rw [decide_eq_false (show ¬ M1 = M2 from fun e => e2 (by rw [← HM.out, ← HM2.out, e]))]; simp)
      go_wp2_with fail
      go_ret
      exact ⟨ret_bool HV.out.symm, HB.out⟩
  · have q1 : ((n : Int) != (n2 : Int)) = true := by rw [bne_iff_ne]; omega
    have HV := Lib.hid (show sameSp L1 L2 M1 M2 f1 f2 = false by unfold sameSp; rw [decide_eq_false (show ¬ L1 = L2 from fun e => e1 (by rw [← HN.out, ← HN2.out, e]))]; simp)
    go_wp2_with fail
    go_ret
    exact ⟨ret_bool HV.out.symm, HB.out⟩
end Go.Proofs.YtjojmmabcjccdaaDoor
