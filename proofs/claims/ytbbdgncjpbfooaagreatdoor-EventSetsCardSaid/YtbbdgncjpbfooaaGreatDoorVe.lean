/- EventForms: what a call returns. -/
import Derived.Test.YtbbdgncjpbfooaaGreatDoorVb
import Derived.Test.YtbbdgncjpbfooaaGreatDoorVd
import Derived.Test.YtbbdgncjpbfooaaGreatDoorEu
namespace Go.Proofs.YtbbdgncjpbfooaaGreatDoor
open Go.RowKit

theorem fit_of {e : Ev} (h : grE e = false) : e.fit 9223372036854775000 ∧ e.d.length ≤ 20 := by
  unfold grE at h
  simp only [Bool.or_eq_false_iff, decide_eq_false_iff_not, List.any_eq_false] at h
  obtain ⟨h1, h2, h3, h4, h5⟩ := h
  refine ⟨⟨by omega, by omega, by omega, fun f hf => ?_⟩, by omega⟩
  have := h5 f hf
  unfold grF at this
  simp only [Bool.or_eq_true, decide_eq_true_eq, not_or] at this
  omega
theorem EB.regrown {w : World} {b : Nat} {e : Ev} {A : Option Addr} {n cap : Nat} (h : EB w b e A n cap) (d : Nat) (os : Array Obj) : EB (Go.Sort.grow (redrawn w d) os) b e A n cap := h.below (below_regrown w d os)
set_option maxHeartbeats 6400000 in
set_option maxRecDepth 100000 in
theorem eventForms_walk (e1 : Ev) (A1 : Option Addr) (n1 c1 : Nat) (e2 : Ev) (A2 : Option Addr) (n2 c2 : Nat) (w : World) (hP : PW w)
    (h1 : FdIn w A1 e1.d) (hn1 : e1.d.length = n1) (hc1 : n1 ≤ c1) (hm1 : c1 ≤ 9223372036854775807) (hf1 : e1.fit 9223372036854775807)
    (h2 : FdIn w A2 e2.d) (hn2 : e2.d.length = n2) (hc2 : n2 ≤ c2) (hm2 : c2 ≤ 9223372036854775807) (hf2 : e2.fit 9223372036854775807) :
    Calls Tryz.prog 4 #[.agg #[.string e1.c, .string e1.a, .string e1.r, .int .i64 e1.life, .int .i64 e1.time, .slice A1 n1 c1], .agg #[.string e2.c, .string e2.a, .string e2.r, .int .i64 e2.life, .int .i64 e2.time, .slice A2 n2 c2]] w fun x w' => x = .returned (.bool true) ∧ Below w.heap.size w w' := by
  have HG1 := Lib.hid (fun w h => great_any e1 A1 n1 c1 w h hn1 (by omega) hf1)
  have HG2 := Lib.hid (fun w h => great_any e2 A2 n2 c2 w h hn2 (by omega) hf2)
  have HO := Lib.hid (two_boxes w (.cells #[.string e1.c, .string e1.a, .string e1.r, .int .i64 e1.life, .int .i64 e1.time, .slice A1 n1 c1] 24) (.cells #[.string e2.c, .string e2.a, .string e2.r, .int .i64 e2.life, .int .i64 e2.time, .slice A2 n2 c2] 24))
  have HE1 := Lib.hid ((EB.new w e1 A1 n1 c1).below (below_alloc _ (.cells #[.string e2.c, .string e2.a, .string e2.r, .int .i64 e2.life, .int .i64 e2.time, .slice A2 n2 c2] 24)))
  have hE2 := EB.new (w.alloc (.cells #[.string e1.c, .string e1.a, .string e1.r, .int .i64 e1.life, .int .i64 e1.time, .slice A1 n1 c1] 24)) e2 A2 n2 c2
  rw [World.size_alloc] at hE2
  have HE2 := Lib.hid hE2
  have HP := Lib.hid (hP.below HO.out)
  have H1 := Lib.hid (h1.below HO.out)
  have H2 := Lib.hid (h2.below HO.out)
  have HS1 := Lib.hid (fun h => fit_of (e := e1) h)
  have HS2 := Lib.hid (fun h => fit_of (e := e2) h)
  have HN1 := Lib.hid hn1
  have HN2 := Lib.hid hn2
  clear hP h1 h2 hn1 hn2 hf1 hf2 hE2
  go_enter Tryz.func4, Tryz.ntmps4
  go_wp2_with fail
  generalize ((w.alloc (.cells #[.string e1.c, .string e1.a, .string e1.r, .int .i64 e1.life, .int .i64 e1.time, .slice A1 n1 c1] 24)).alloc (.cells #[.string e2.c, .string e2.a, .string e2.r, .int .i64 e2.life, .int .i64 e2.time, .slice A2 n2 c2] 24)) = w0 at *
  ((with_reducible refine (awake_any _ HP.out).mono ?_); rintro e w1 ⟨rfl, hb1⟩)
  replace HE1 := Lib.hid (HE1.out.below hb1)
  replace HE2 := Lib.hid (HE2.out.below hb1)
  replace H1 := Lib.hid (H1.out.below hb1)
  replace H2 := Lib.hid (H2.out.below hb1)
  have HB := Lib.hid (below_then HO.out hb1)
  clear hb1 HP HO
  obtain ⟨x0, x1, x2, x3, x4, x5⟩ := HE1.out.cells
  cases hg1 : grE e1 with
  | true =>
    rw [hg1] at HG1
    clear hg1
    go_wp2_with fail
    ((with_reducible refine (HG1.out _ H1.out).mono ?_); rintro e w2 ⟨rfl, hb2⟩)
    go_wp2_with fail
    go_ret
    exact ⟨rfl, below_then HB.out hb2⟩
  | false =>
    obtain ⟨hfit1, hl1⟩ := HS1.out hg1
    rw [hg1] at HG1
    clear hg1
    go_wp2_with fail
    ((with_reducible refine (HG1.out _ H1.out).mono ?_); rintro e w2 ⟨rfl, hb2⟩)
    replace HE1 := Lib.hid (HE1.out.below hb2)
    replace HE2 := Lib.hid (HE2.out.below hb2)
    replace H1 := Lib.hid (H1.out.below hb2)
    replace H2 := Lib.hid (H2.out.below hb2)
    replace HB := Lib.hid (below_then HB.out hb2)
    clear hb2 x0 x1 x2 x3 x4 x5
    obtain ⟨x0, x1, x2, x3, x4, x5⟩ := HE2.out.cells
    cases hg2 : grE e2 with
    | true =>
      rw [hg2] at HG2
      clear hg2
      go_wp2_with fail
      ((with_reducible refine (HG2.out _ H2.out).mono ?_); rintro e w3 ⟨rfl, hb3⟩)
      go_wp2_with fail
      go_ret
      exact ⟨rfl, below_then HB.out hb3⟩
    | false =>
      obtain ⟨hfit2, hl2⟩ := HS2.out hg2
      rw [hg2] at HG2
      clear hg2
      go_wp2_with fail
      ((with_reducible refine (HG2.out _ H2.out).mono ?_); rintro e w3 ⟨rfl, hb3⟩)
      replace HE1 := Lib.hid (HE1.out.below hb3)
      replace HE2 := Lib.hid (HE2.out.below hb3)
      replace H1 := Lib.hid (H1.out.below hb3)
      replace H2 := Lib.hid (H2.out.below hb3)
      replace HB := Lib.hid (below_then HB.out hb3)
      have HV1 := Lib.hid (fun d os => evalid_any e1 A1 n1 c1 (Go.Sort.grow (redrawn w3 d) os) (H1.out.below (below_regrown w3 d os)) HN1.out (by have := HN1.out; omega) hfit1)
      have HV2 := Lib.hid (fun d os => revalid_any e1 A1 n1 c1 (Go.Sort.grow (redrawn w3 d) os) (H1.out.below (below_regrown w3 d os)) HN1.out (by have := HN1.out; omega) hfit1)
      have HS3 := Lib.hid (fun d os => esame_any e1 e2 A1 A2 n1 n2 c1 c2 (Go.Sort.grow (redrawn w3 d) os) (H1.out.below (below_regrown w3 d os)) (H2.out.below (below_regrown w3 d os)) HN1.out HN2.out (by have := HN1.out; omega) (by have := HN2.out; omega))
      have HS4 := Lib.hid (fun d os => rsame_any e1 e2 A1 A2 n1 n2 c1 c2 (Go.Sort.grow (redrawn w3 d) os) (H1.out.below (below_regrown w3 d os)) (H2.out.below (below_regrown w3 d os)) HN1.out HN2.out (by have := HN1.out; omega) (by have := HN2.out; omega))
      generalize e1.ok = v at HV1 HV2
      generalize sameE e1 e2 = u at HS3 HS4
      clear hb3 x0 x1 x2 x3 x4 x5
      have y0 := fun d os => (HE1.out.regrown d os).cells.1
      have y1 := fun d os => (HE1.out.regrown d os).cells.2.1
      have y2 := fun d os => (HE1.out.regrown d os).cells.2.2.1
      have y3 := fun d os => (HE1.out.regrown d os).cells.2.2.2.1
      have y4 := fun d os => (HE1.out.regrown d os).cells.2.2.2.2.1
      have y5 := fun d os => (HE1.out.regrown d os).cells.2.2.2.2.2
      have z0 := fun d os => (HE2.out.regrown d os).cells.1
      have z1 := fun d os => (HE2.out.regrown d os).cells.2.1
      have z2 := fun d os => (HE2.out.regrown d os).cells.2.2.1
      have z3 := fun d os => (HE2.out.regrown d os).cells.2.2.2.1
      have z4 := fun d os => (HE2.out.regrown d os).cells.2.2.2.2.1
      have z5 := fun d os => (HE2.out.regrown d os).cells.2.2.2.2.2
      go_wp2_with fail
      refine wp_region_quiet_below (by kernel_rfl) (by kernel_rfl) ?_
      repeat (first | go_big_quiet_step (first | exact Calls.regrown_of (HV1.out _ _) | exact Calls.regrown_of (HV2.out _ _) | exact Calls.regrown_of (HS3.out _ _) | exact Calls.regrown_of (HS4.out _ _)) | quiet_step (first | exact Calls.regrown_of (HV1.out _ _) | exact Calls.regrown_of (HV2.out _ _) | exact Calls.regrown_of (HS3.out _ _) | exact Calls.regrown_of (HS4.out _ _)))
      refine wpQuiet_nil ?_
      intro _ hw'
      obtain ⟨⟨dq, osq⟩, hw''⟩ := hw'
      subst hw''
      go_wp2_with fail
      go_ret
      exact ⟨ret_bool (by simp), below_then HB.out (below_regrown _ _ _)⟩
end Go.Proofs.YtbbdgncjpbfooaaGreatDoor
