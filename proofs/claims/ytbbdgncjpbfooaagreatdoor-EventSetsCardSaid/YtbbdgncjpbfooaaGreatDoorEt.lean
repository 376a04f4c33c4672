/- Same of the reference at two events: what a call returns. -/
import Derived.Test.YtbbdgncjpbfooaaGreatDoorEs
namespace Go.Proofs.YtbbdgncjpbfooaaGreatDoor
open Go.RowKit

def fdsEq : List Fd → List Fd → Bool
  | [], [] => true
  | f :: L, g :: M => fdEq f g && fdsEq L M
  | _, _ => false
theorem toList_inj (a b : ByteArray) (h : a.toList = b.toList) : a = b := bytes_ext (by rw [← ByteArray.toList_eq, ← ByteArray.toList_eq]; exact h)
theorem fdEq_iff (f g : Fd) : fdEq f g = true ↔ f = g := by
  unfold fdEq
  constructor
  · intro h
    simp only [Bool.and_eq_true, beq_iff_eq] at h
    obtain ⟨h1, h2, h3, h4⟩ := h
    obtain ⟨a, k, n, s⟩ := f
    obtain ⟨b, l, m, t⟩ := g
    simp only at h1 h2 h3 h4
    rw [toList_inj _ _ h1, h2, h3, toList_inj _ _ h4]
  · rintro rfl; simp
theorem fdsEq_iff (L : List Fd) : ∀ M, fdsEq L M = true ↔ L = M := by
  induction L with
  | nil => intro M; cases M <;> simp [fdsEq]
  | cons f L ih =>
    intro M
    cases M with
    | nil => simp [fdsEq]
    | cons g M =>
      rw [fdsEq, Bool.and_eq_true, fdEq_iff, ih M]
      constructor
      · rintro ⟨rfl, rfl⟩; rfl
      · intro h; cases h; exact ⟨rfl, rfl⟩
/-- two events are equal -/
def sameE (a b : Ev) : Bool := decide (a.c = b.c) && (decide (a.a = b.a) && (decide (a.r = b.r) && (decide (a.life = b.life) && (decide (a.time = b.time) && fdsEq a.d b.d))))
theorem sameE_iff (a b : Ev) : sameE a b = true ↔ a = b := by
  unfold sameE
  simp only [Bool.and_eq_true, decide_eq_true_eq, fdsEq_iff]
  obtain ⟨c, x, r, l, t, d⟩ := a
  obtain ⟨c', x', r', l', t', d'⟩ := b
  simp
theorem sameE_refl (a : Ev) : sameE a a = true := (sameE_iff a a).2 rfl
theorem bne_str (a b : ByteArray) (h : ¬ a = b) : (a.toList == b.toList) = false := by
  rw [beq_eq_false_iff_ne]; exact fun e => h (toList_inj a b e)
theorem fds_len {L M : List Fd} (h : ¬ L.length = M.length) : fdsEq L M = false := by
  cases hb : fdsEq L M with
  | false => rfl
  | true => exact absurd (congrArg List.length ((fdsEq_iff L M).1 hb)) h
theorem fds_at {L M : List Fd} (k : Nat) (h1 : k < L.length) (h2 : k < M.length) (h : fdEq L[k] M[k] = false) : fdsEq L M = false := by
  cases hb : fdsEq L M with
  | false => rfl
  | true =>
    have e := (fdsEq_iff L M).1 hb
    subst e
    rw [(fdEq_iff _ _).2 rfl] at h; cases h
theorem fds_all {L M : List Fd} (hl : L.length = M.length) (h : ∀ k (h1 : k < L.length) (h2 : k < M.length), fdEq L[k] M[k] = true) : fdsEq L M = true := by
  rw [fdsEq_iff]
  exact List.ext_getElem hl fun i h1 h2 => (fdEq_iff _ _).1 (h i h1 h2)
theorem two_boxes (w : World) (a b : Obj) : Below w.heap.size w ((w.alloc a).alloc b) := below_then (below_alloc w a) (below_alloc _ b)
set_option maxHeartbeats 12800000 in
set_option maxRecDepth 100000 in
theorem rsame_any (e1 e2 : Ev) (A1 A2 : Option Addr) (n1 n2 c1 c2 : Nat) (w : World) (h1 : FdIn w A1 e1.d) (h2 : FdIn w A2 e2.d) (hn1 : e1.d.length = n1) (hn2 : e2.d.length = n2) (hb1 : n1 ≤ 1000000) (hb2 : n2 ≤ 1000000) :
    Calls Tryz.prog 13 #[.agg #[.string e1.c, .string e1.a, .string e1.r, .int .i64 e1.life, .int .i64 e1.time, .slice A1 n1 c1], .agg #[.string e2.c, .string e2.a, .string e2.r, .int .i64 e2.life, .int .i64 e2.time, .slice A2 n2 c2]] w fun x w' => x = .returned (.bool (sameE e1 e2)) ∧ Below w.heap.size w w' := by
  obtain ⟨c, a, r, life, time, L⟩ := e1
  obtain ⟨c', a', r', life', time', M⟩ := e2
  simp only at h1 h2 hn1 hn2
  have H1 := Lib.hid h1
  have H2 := Lib.hid h2
  have HN1 := Lib.hid hn1
  have HN2 := Lib.hid hn2
  have HV := Lib.hid (show sameE ⟨c, a, r, life, time, L⟩ ⟨c', a', r', life', time', M⟩ = (decide (c = c') && (decide (a = a') && (decide (r = r') && (decide (life = life') && (decide (time = time') && fdsEq L M))))) from rfl)
  generalize sameE ⟨c, a, r, life, time, L⟩ ⟨c', a', r', life', time', M⟩ = V at *
  clear h1 h2 hn1 hn2
  by_cases qc : c = c'
  case neg =>
    have HVF := Lib.hid (show V = false by rw [HV.out, decide_eq_false qc]; simp)
    have b1 := bne_str c c' qc
    clear qc
    go_enter Tryz.func13, Tryz.ntmps13
    go_wp2_with fail
    go_ret
    exact ⟨ret_bool HVF.out.symm, two_boxes w _ _⟩
  subst qc
  by_cases qa : a = a'
  case neg =>
    have HVF := Lib.hid (show V = false by rw [HV.out, decide_eq_false qa]; simp)
    have b1 := bne_str a a' qa
    clear qa
    go_enter Tryz.func13, Tryz.ntmps13
    go_wp2_with fail
    go_ret
    exact ⟨ret_bool HVF.out.symm, two_boxes w _ _⟩
  subst qa
  by_cases qr : r = r'
  case neg =>
    have HVF := Lib.hid (show V = false by rw [HV.out, decide_eq_false qr]; simp)
    have b1 := bne_str r r' qr
    clear qr
    go_enter Tryz.func13, Tryz.ntmps13
    go_wp2_with fail
    go_ret
    exact ⟨ret_bool HVF.out.symm, two_boxes w _ _⟩
  subst qr
  by_cases qlife : life = life'
  case neg =>
    have HVF := Lib.hid (show V = false by rw [HV.out, decide_eq_false qlife]; simp)
    have b1 : (life != life') = true := by simpa using qlife
    clear qlife
    go_enter Tryz.func13, Tryz.ntmps13
    go_wp2_with fail
    go_ret
    exact ⟨ret_bool HVF.out.symm, two_boxes w _ _⟩
  subst qlife
  by_cases qtime : time = time'
  case neg =>
    have HVF := Lib.hid (show V = false by rw [HV.out, decide_eq_false qtime]; simp)
    have b1 : (time != time') = true := by simpa using qtime
    clear qtime
    go_enter Tryz.func13, Tryz.ntmps13
    go_wp2_with fail
    go_ret
    exact ⟨ret_bool HVF.out.symm, two_boxes w _ _⟩
  subst qtime
  by_cases qn : n1 = n2
  case neg =>
    have HVF := Lib.hid (show V = false by rw [HV.out, fds_len (by rw [HN1.out, HN2.out]; exact qn)]; simp)
    have b1 : ((n1 : Int) != (n2 : Int)) = true := by simp; omega
    have b2 : (n1 != n2) = true := by simpa using qn
    clear qn
    go_enter Tryz.func13, Tryz.ntmps13
    go_wp2_with fail
    go_ret
    exact ⟨ret_bool HVF.out.symm, two_boxes w _ _⟩
  subst qn
  have HVE := Lib.hid (show V = fdsEq L M by rw [HV.out]; simp)
  clear HV
  go_enter Tryz.func13, Tryz.ntmps13
  go_wp2_with fail
  obtain ⟨w0, hw0⟩ : ∃ w0, w0 = ((w.alloc (.cells #[.string c, .string a, .string r, .int .i64 life, .int .i64 time, .slice A1 n1 c1] 24)).alloc (.cells #[.string c, .string a, .string r, .int .i64 life, .int .i64 time, .slice A2 n1 c2] 24)) := ⟨_, rfl⟩
  rw [← hw0]
  have hbw : Below w.heap.size w w0 := by rw [hw0]; exact two_boxes w _ _
  have HC1 := Lib.hid (show w0.cell? ⟨w.heap.size, 5, none⟩ = some (.slice A1 n1 c1) by rw [hw0]; simp)
  have HC2 := Lib.hid (show w0.cell? ⟨w.heap.size + 1, 5, none⟩ = some (.slice A2 n1 c2) by rw [hw0]; simp)
  have HF1 := Lib.hid (H1.out.below hbw)
  have HF2 := Lib.hid (H2.out.below hbw)
  have HBW := Lib.hid hbw
  clear hw0 hbw H1 H2
  generalize w.heap.size + 1 = x2 at *
  generalize hx1 : w.heap.size = x1 at *
  replace HBW := Lib.hid (show Below w.heap.size w w0 by rw [hx1]; exact HBW.out)
  clear hx1
  go_loopg [5] (n1) (fun g i wr => ∃ k : Nat, k + g = n1 ∧ i = .int .i64 k ∧ (∀ j (h1 : j < L.length) (h2 : j < M.length), j < k → fdEq L[j] M[j] = true) ∧ Below w0.heap.size w0 wr)
  case atStart => exact ⟨0, by omega, rfl, fun j _ _ h => by omega, Below.refl _ _⟩
  case round =>
    obtain ⟨k, hk, rfl, hall, hB⟩ := hrel
    have HK := Lib.hid hk
    have HA := Lib.hid hall
    have HB := Lib.hid hB
    have hle : k ≤ n1 := by omega
    have k5 := cell_stays hB HC1.out
    have k6 := cell_stays hB HC2.out
    clear hk hall hB
    by_cases hlt : k < n1
    · have l1 : k < L.length := by rw [HN1.out]; exact hlt
      have l2 : k < M.length := by rw [HN2.out]; exact hlt
      obtain ⟨ad1, rfl, p1, a0, a1, a2, a3⟩ := (HF1.out.below HB.out) k l1
      obtain ⟨ad2, rfl, p2, d0, d1, d2, d3⟩ := (HF2.out.below HB.out) k l2
      have hlti : (k : Int) < (n1 : Int) := by omega
      have HNO := Lib.hid (fun h => fds_at k l1 l2 h)
      have HYES := Lib.hid (show fdEq L[k] M[k] = true → ∀ j (h1 : j < L.length) (h2 : j < M.length), j < k + 1 → fdEq L[j] M[j] = true from fun h j h1 h2 hj => by
        rcases Nat.lt_or_ge j k with h3 | h3
        · exact HA.out j h1 h2 h3
        · obtain rfl : j = k := by omega
          exact h)
      generalize L[k] = x at *
      generalize M[k] = y at *
      clear l1 l2
      cases hq : fdEq x y with
      | true =>
        have HY := Lib.hid (HYES.out hq)
        obtain rfl := (fdEq_iff x y).1 hq
        clear hq
        obtain ⟨xn, xk, xi, xs⟩ := x
        simp only at a0 a1 a2 a3 d0 d1 d2 d3
        go_wp2_with fail
        go_quiet (fail)
        go_wp2_with fail
        go_roundg (gk - 1)
        case measure => have := HK.out; omega
        case rel => exact ⟨k + 1, by have := HK.out; omega, by go_num, HY.out, below_then HB.out (below_drewN _ _)⟩
      | false =>
        have HVF := Lib.hid (show V = false by rw [HVE.out]; exact HNO.out hq)
        obtain ⟨xn, xk, xi, xs⟩ := x
        obtain ⟨yn, yk, yi, ys⟩ := y
        simp only at a0 a1 a2 a3 d0 d1 d2 d3
        have hne := fun w => fd_neq xn xs yn ys xk xi yk yi w
        rw [hq] at hne
        clear hq
        go_wp2_with fail
        go_quiet (fail)
        go_wp2_with fail
        go_ret
        exact ⟨ret_bool HVF.out.symm, below_then HBW.out (below_then HB.out (below_drewN _ _))⟩
    · have HVT := Lib.hid (show V = true by rw [HVE.out]; exact fds_all (by rw [HN1.out, HN2.out]) (fun j h1 h2 => HA.out j h1 h2 (by rw [HN1.out] at h1; omega)))
      go_wp2_with fail
      go_ret
      exact ⟨ret_bool HVT.out.symm, below_then HBW.out HB.out⟩
end Go.Proofs.YtbbdgncjpbfooaaGreatDoor
