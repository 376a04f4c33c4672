/- slices.Equal at fields; event.Same: what a call returns. -/
import Derived.Test.YtbbdgncjpbfooaaGreatDoorEt
namespace Go.Proofs.YtbbdgncjpbfooaaGreatDoor
open Go.RowKit

set_option maxHeartbeats 6400000 in
set_option maxRecDepth 100000 in
theorem fequal_any (A1 A2 : Option Addr) (n1 n2 c1 c2 : Nat) (L M : List Fd) (w : World) (h1 : FdIn w A1 L) (h2 : FdIn w A2 M) (hn1 : L.length = n1) (hn2 : M.length = n2) (hb1 : n1 ≤ 1000000) (hb2 : n2 ≤ 1000000) :
    Calls Tryz.prog 49 #[.slice A1 n1 c1, .slice A2 n2 c2] w fun x w' => x = .returned (.bool (fdsEq L M)) ∧ Below w.heap.size w w' := by
  have HF1 := Lib.hid h1
  have HF2 := Lib.hid h2
  have HN1 := Lib.hid hn1
  have HN2 := Lib.hid hn2
  obtain ⟨V, hV⟩ : ∃ V, V = fdsEq L M := ⟨_, rfl⟩
  rw [← hV]
  have HVE := Lib.hid hV
  clear h1 h2 hn1 hn2 hV
  by_cases qn : n1 = n2
  case neg =>
    have HVF := Lib.hid (show V = false by rw [HVE.out, fds_len (by rw [HN1.out, HN2.out]; exact qn)])
    have b1 : ((n1 : Int) != (n2 : Int)) = true := by simp; omega
    have b2 : (n1 != n2) = true := by simpa using qn
    clear qn
    go_enter Tryz.func49, Tryz.ntmps49
    go_wp2_with fail
    go_ret
    exact ⟨ret_bool HVF.out.symm, Below.refl _ _⟩
  subst qn
  go_enter Tryz.func49, Tryz.ntmps49
  go_wp2_with fail
  go_loopg [13] (n1) (fun g i wr => ∃ k : Nat, k + g = n1 ∧ i = .int .i64 k ∧ (∀ j (h1 : j < L.length) (h2 : j < M.length), j < k → fdEq L[j] M[j] = true) ∧ Below w.heap.size w wr)
  case atStart => exact ⟨0, by omega, rfl, fun j _ _ h => by omega, Below.refl _ _⟩
  case round =>
    obtain ⟨k, hk, rfl, hall, hB⟩ := hrel
    have HK := Lib.hid hk
    have HA := Lib.hid hall
    have HB := Lib.hid hB
    have hle : k ≤ n1 := by omega
    clear hk hall hB
    by_cases hlt : k < n1
    · have l1 : k < L.length := by rw [HN1.out]; exact hlt
      have l2 : k < M.length := by rw [HN2.out]; exact hlt
      obtain ⟨ad1, rfl, p1, a0, a1, a2, a3⟩ := (HF1.out.below HB.out) k l1
      obtain ⟨ad2, rfl, p2, d0, d1, d2, d3⟩ := (HF2.out.below HB.out) k l2
      have hlti : (k : Int) < (n1 : Int) := by omega
      have HNO := Lib.hid (fun h => fds_at k l1 l2 h)
      have HYES := Lib.hid (show fdEq L[k] M[k] = true → ∀ j (h1 : j < L.length) (h2 : j < M.length), j < k + 1 → fdEq L[j] M[j] = true from fun h j h1 h2 hj => by
        rcases Nat.lt_or_ge j k with h3 | h3
        · exact HA.out j h1 h2 h3
        · obtain rfl : j = k := by omega
          exact h)
      generalize L[k] = x at *
      generalize M[k] = y at *
      clear l1 l2
      cases hq : fdEq x y with
      | true =>
        have HY := Lib.hid (HYES.out hq)
        obtain rfl := (fdEq_iff x y).1 hq
        clear hq
        obtain ⟨xn, xk, xi, xs⟩ := x
        simp only at a0 a1 a2 a3 d0 d1 d2 d3
        go_wp2_with fail
        go_quiet (fail)
        go_wp2_with fail
        go_roundg (gk - 1)
        case measure => have := HK.out; omega
        case rel => exact ⟨k + 1, by have := HK.out; omega, by go_num, HY.out, below_then HB.out (below_drewN _ _)⟩
      | false =>
        have HVF := Lib.hid (show V = false by rw [HVE.out]; exact HNO.out hq)
        obtain ⟨xn, xk, xi, xs⟩ := x
        obtain ⟨yn, yk, yi, ys⟩ := y
        simp only at a0 a1 a2 a3 d0 d1 d2 d3
        have hne := fun w => fd_neq xn xs yn ys xk xi yk yi w
        rw [hq] at hne
        clear hq
        go_wp2_with fail
        go_quiet (fail)
        go_wp2_with fail
        go_ret
        exact ⟨ret_bool HVF.out.symm, below_then HB.out (below_drewN _ _)⟩
    · have HVT := Lib.hid (show V = true by rw [HVE.out]; exact fds_all (by rw [HN1.out, HN2.out]) (fun j h1 h2 => HA.out j h1 h2 (by rw [HN1.out] at h1; omega)))
      go_wp2_with fail
      go_ret
      exact ⟨ret_bool HVT.out.symm, HB.out⟩
set_option maxHeartbeats 12800000 in
set_option maxRecDepth 100000 in
theorem esame_any (e1 e2 : Ev) (A1 A2 : Option Addr) (n1 n2 c1 c2 : Nat) (w : World) (h1 : FdIn w A1 e1.d) (h2 : FdIn w A2 e2.d) (hn1 : e1.d.length = n1) (hn2 : e2.d.length = n2) (hb1 : n1 ≤ 1000000) (hb2 : n2 ≤ 1000000) :
    Calls Tryz.prog 16 #[.agg #[.string e1.c, .string e1.a, .string e1.r, .int .i64 e1.life, .int .i64 e1.time, .slice A1 n1 c1], .agg #[.string e2.c, .string e2.a, .string e2.r, .int .i64 e2.life, .int .i64 e2.time, .slice A2 n2 c2]] w fun x w' => x = .returned (.bool (sameE e1 e2)) ∧ Below w.heap.size w w' := by
  obtain ⟨c, a, r, life, time, L⟩ := e1
  obtain ⟨c', a', r', life', time', M⟩ := e2
  simp only at h1 h2 hn1 hn2
  have H1 := Lib.hid h1
  have H2 := Lib.hid h2
  have HN1 := Lib.hid hn1
  have HN2 := Lib.hid hn2
  have HV := Lib.hid (show sameE ⟨c, a, r, life, time, L⟩ ⟨c', a', r', life', time', M⟩ = (decide (c = c') && (decide (a = a') && (decide (r = r') && (decide (life = life') && (decide (time = time') && fdsEq L M))))) from rfl)
  generalize sameE ⟨c, a, r, life, time, L⟩ ⟨c', a', r', life', time', M⟩ = V at *
  clear h1 h2 hn1 hn2
  by_cases qc : c = c'
  case neg =>
    have HVF := Lib.hid (show V = false by rw [HV.out, decide_eq_false qc]; simp)
    have b1 := bne_str c c' qc
    clear qc
    go_enter Tryz.func16, Tryz.ntmps16
    go_wp2_with fail
    go_ret
    exact ⟨ret_bool HVF.out.symm, two_boxes w _ _⟩
  subst qc
  by_cases qa : a = a'
  case neg =>
    have HVF := Lib.hid (show V = false by rw [HV.out, decide_eq_false qa]; simp)
    have b1 := bne_str a a' qa
    clear qa
    go_enter Tryz.func16, Tryz.ntmps16
    go_wp2_with fail
    go_ret
    exact ⟨ret_bool HVF.out.symm, two_boxes w _ _⟩
  subst qa
  by_cases qr : r = r'
  case neg =>
    have HVF := Lib.hid (show V = false by rw [HV.out, decide_eq_false qr]; simp)
    have b1 := bne_str r r' qr
    clear qr
    go_enter Tryz.func16, Tryz.ntmps16
    go_wp2_with fail
    go_ret
    exact ⟨ret_bool HVF.out.symm, two_boxes w _ _⟩
  subst qr
  by_cases qlife : life = life'
  case neg =>
    have HVF := Lib.hid (show V = false by rw [HV.out, decide_eq_false qlife]; simp)
    have b1 : (life == life') = false := by simpa using qlife
    clear qlife
    go_enter Tryz.func16, Tryz.ntmps16
    go_wp2_with fail
    go_ret
    exact ⟨ret_bool HVF.out.symm, two_boxes w _ _⟩
  subst qlife
  by_cases qtime : time = time'
  case neg =>
    have HVF := Lib.hid (show V = false by rw [HV.out, decide_eq_false qtime]; simp)
    have b1 : (time == time') = false := by simpa using qtime
    clear qtime
    go_enter Tryz.func16, Tryz.ntmps16
    go_wp2_with fail
    go_ret
    exact ⟨ret_bool HVF.out.symm, two_boxes w _ _⟩
  subst qtime
  have HVE := Lib.hid (show V = fdsEq L M by rw [HV.out]; simp)
  clear HV
  have HBW := Lib.hid (two_boxes w (.cells #[.string c, .string a, .string r, .int .i64 life, .int .i64 time, .slice A1 n1 c1] 24) (.cells #[.string c, .string a, .string r, .int .i64 life, .int .i64 time, .slice A2 n2 c2] 24))
  have HQ := Lib.hid (fequal_any A1 A2 n1 n2 c1 c2 L M _ (H1.out.below HBW.out) (H2.out.below HBW.out) HN1.out HN2.out hb1 hb2)
  go_enter Tryz.func16, Tryz.ntmps16
  go_wp2_with fail
  ((with_reducible refine HQ.out.mono ?_); rintro e w1 ⟨rfl, hb⟩)
  go_wp2_with fail
  go_ret
  exact ⟨ret_bool (by rw [HVE.out]), below_then HBW.out hb⟩
end Go.Proofs.YtbbdgncjpbfooaaGreatDoor
