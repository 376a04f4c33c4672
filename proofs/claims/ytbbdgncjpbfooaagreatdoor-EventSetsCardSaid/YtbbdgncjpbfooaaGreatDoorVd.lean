/- great of the statements on events; a test of each field: what a call returns. -/
import Derived.Test.YtbbdgncjpbfooaaGreatDoorVc
namespace Go.Proofs.YtbbdgncjpbfooaaGreatDoor
open Go.RowKit

/-- a field with long strings -/
def grF (f : Fd) : Bool := decide (100 < f.nm.size) || decide (300 < f.v.s.size)
/-- an event with more than 20 fields, or long strings -/
def grE (e : Ev) : Bool := decide (20 < e.d.length) || (decide (100 < e.c.size) || (decide (100 < e.a.size) || (decide (100 < e.r.size) || e.d.any grF)))
set_option maxHeartbeats 1600000 in
theorem great1_any (f : Fd) (w : World) (h1 : f.nm.size ≤ 9223372036854775807) (h2 : f.v.s.size ≤ 9223372036854775807) : Calls Tryz.prog 30 #[.agg #[.string f.nm, .int .i64 f.v.k, .int .i64 f.v.n, .string f.v.s]] w fun e w' => e = .returned (.bool (grF f)) ∧ Below w.heap.size w w' := by
  obtain ⟨a, k, n, s⟩ := f
  simp only at *
  by_cases q1 : 100 < a.size
  · have HV := Lib.hid (show grF ⟨a, k, n, s⟩ = true by unfold grF; simp [q1])
    have q2 : (100 : Int) < (a.size : Int) := by omega
    clear q1
    go_enter Tryz.func30, Tryz.ntmps30
    go_wp2_with fail
    go_ret
    exact ⟨ret_bool (by rw [HV.out]), below_alloc w _⟩
  · by_cases q3 : 300 < s.size
    · have HV := Lib.hid (show grF ⟨a, k, n, s⟩ = true by unfold grF; simp [q3])
      have d1 : decide ((100 : Int) < (a.size : Int)) = false := by simp; omega
      have q2 : (300 : Int) < (s.size : Int) := by omega
      clear q1 q3
      go_enter Tryz.func30, Tryz.ntmps30
      go_wp2_with fail
      go_ret
      exact ⟨ret_bool (by rw [HV.out]), below_alloc w _⟩
    · have HV := Lib.hid (show grF ⟨a, k, n, s⟩ = false by unfold grF; simp; omega)
      have d1 : decide ((100 : Int) < (a.size : Int)) = false := by simp; omega
      have d2 : decide ((300 : Int) < (s.size : Int)) = false := by simp; omega
      clear q1 q3
      go_enter Tryz.func30, Tryz.ntmps30
      go_wp2_with fail
      go_ret
      exact ⟨ret_bool (by rw [HV.out]), below_alloc w _⟩
set_option maxHeartbeats 3200000 in
set_option maxRecDepth 100000 in
theorem findex_great (A : Option Addr) (n cap : Nat) (L : List Fd) (w : World) (h : FdIn w A L) (hn : L.length = n) (hn4 : n ≤ 1000000) (hs : ∀ f ∈ L, f.nm.size ≤ 9223372036854775807 ∧ f.v.s.size ≤ 9223372036854775807) :
    Calls Tryz.prog 53 #[.slice A n cap, .func (.func 30) #[] #[]] w (BIdx (!(L.any grF)) w) := by
  have H0 := Lib.hid h; clear h
  have HN := Lib.hid hn; clear hn
  have HSz := Lib.hid hs; clear hs
  go_enter Tryz.func53, Tryz.ntmps53
  go_wp2_with fail
  go_loopg [8] (n) (fun g i wr => ∃ k : Nat, k + g = n ∧ i = .int .i64 k ∧ (L.take k).any grF = false ∧ Below w.heap.size w wr)
  case atStart => exact ⟨0, by omega, rfl, by simp, Below.refl _ _⟩
  case round =>
    obtain ⟨k, hk, rfl, hno, hB⟩ := hrel
    have HK := Lib.hid hk
    have HNo := Lib.hid hno
    have HB := Lib.hid hB
    have HT := Lib.hid (H0.out.below hB)
    have hle : k ≤ n := by omega
    clear hk hno hB
    by_cases hlt : k < n
    · have hlt' : k < L.length := by rw [HN.out]; exact hlt
      obtain ⟨ad, rfl, hp, c0, c1, c2, c3⟩ := HT.out k hlt'
      have hsz := HSz.out _ (List.getElem_mem hlt')
      have HTk := Lib.hid (List.take_succ_eq_append_getElem hlt')
      have HM := Lib.hid (List.getElem_mem hlt')
      generalize L[k] = x at *
      have HX := Lib.hid (fun w => great1_any x w hsz.1 hsz.2)
      clear hsz
      cases hv : grF x with
      | true =>
        rw [hv] at HX
        have HV := Lib.hid hv; clear hv
        go_wp2_with fail
        ((with_reducible refine (HX.out _).mono ?_); rintro e w1 ⟨rfl, hb1⟩)
        go_wp2_with fail
        go_ret
        refine BIdx.yes ?_ rfl (below_then HB.out hb1)
        rw [List.any_eq_true.2 ⟨x, HM.out, HV.out⟩]; rfl
      | false =>
        rw [hv] at HX
        have HV := Lib.hid hv; clear hv
        go_wp2_with fail
        ((with_reducible refine (HX.out _).mono ?_); rintro e w1 ⟨rfl, hb1⟩)
        have HB1 := Lib.hid (below_then HB.out hb1)
        clear hb1
        go_wp2_with fail
        go_roundg (gk - 1)
        case measure => have := HK.out; omega
        case rel => exact ⟨k + 1, by have := HK.out; omega, by go_num, by rw [HTk.out, List.any_append, HNo.out]; simp [HV.out], HB1.out⟩
    · have HE := Lib.hid (show L.take k = L from List.take_of_length_le (by have := HN.out; omega))
      go_wp2_with fail
      go_ret
      refine BIdx.no ?_ rfl HB.out
      rw [← HE.out, HNo.out]; rfl
set_option maxHeartbeats 800000 in
theorem fcont_great (A : Option Addr) (n cap : Nat) (L : List Fd) (w : World) (h : FdIn w A L) (hn : L.length = n) (hn4 : n ≤ 1000000) (hs : ∀ f ∈ L, f.nm.size ≤ 9223372036854775807 ∧ f.v.s.size ≤ 9223372036854775807) :
    Calls Tryz.prog 21 #[.slice A n cap, .func (.func 30) #[] #[]] w fun e w' => e = .returned (.bool (L.any grF)) ∧ Below w.heap.size w w' := by
  have HI := Lib.hid (findex_great A n cap L w h hn hn4 hs)
  clear h hn hs
  generalize L.any grF = r at HI ⊢
  cases r with
  | false =>
    go_enter Tryz.func21, Tryz.ntmps21
    go_wp2_with fail
    ((with_reducible refine HI.out.mono ?_); rintro e w1 hP)
    obtain ⟨he, hb⟩ := hP
    have he' : e = .returned (.int .i64 (-1)) := he
    clear he; subst he'
    go_wp2_with fail
    go_ret
    exact ⟨rfl, hb⟩
  | true =>
    go_enter Tryz.func21, Tryz.ntmps21
    go_wp2_with fail
    ((with_reducible refine HI.out.mono ?_); rintro e w1 hP)
    obtain ⟨he, hb⟩ := hP
    obtain ⟨i, he'⟩ : ∃ i : Nat, e = .returned (.int .i64 i) := he
    subst he'
    go_wp2_with fail
    go_ret
    exact ⟨rfl, hb⟩
set_option maxHeartbeats 3200000 in
set_option maxRecDepth 100000 in
theorem great_any (e : Ev) (A : Option Addr) (n cap : Nat) (w : World) (h : FdIn w A e.d) (hn : e.d.length = n) (hn2 : n ≤ 9223372036854775807) (hf : e.fit 9223372036854775807) :
    Calls Tryz.prog 8 #[.agg #[.string e.c, .string e.a, .string e.r, .int .i64 e.life, .int .i64 e.time, .slice A n cap]] w fun x w' => x = .returned (.bool (grE e)) ∧ Below w.heap.size w w' := by
  obtain ⟨c, a, r, life, time, L⟩ := e
  obtain ⟨f1, f2, f3, f4⟩ := hf
  simp only at *
  have HV := Lib.hid (show grE ⟨c, a, r, life, time, L⟩ = (decide (20 < n) || (decide (100 < c.size) || (decide (100 < a.size) || (decide (100 < r.size) || L.any grF)))) by unfold grE; rw [← hn])
  generalize grE ⟨c, a, r, life, time, L⟩ = V at *
  have HO := Lib.hid (below_alloc w (.cells #[.string c, .string a, .string r, .int .i64 life, .int .i64 time, .slice A n cap] 24))
  have H0 := Lib.hid h
  have HN := Lib.hid hn
  have HS := Lib.hid f4
  clear h hn f4
  by_cases q1 : 20 < n
  · have HT := Lib.hid (show V = true by rw [HV.out, decide_eq_true q1]; rfl)
    have g1 : (20 : Int) < (n : Int) := by omega
    clear q1
    go_enter Tryz.func8, Tryz.ntmps8
    go_wp2_with fail
    go_ret
    exact ⟨ret_bool (by rw [HT.out]), HO.out⟩
  have d1 : decide ((20 : Int) < (n : Int)) = false := by simp; omega
  by_cases q2 : 100 < c.size
  · have HT := Lib.hid (show V = true by rw [HV.out, decide_eq_true q2]; simp)
    have g1 : (100 : Int) < (c.size : Int) := by omega
    clear q1 q2
    go_enter Tryz.func8, Tryz.ntmps8
    go_wp2_with fail
    go_ret
    exact ⟨ret_bool (by rw [HT.out]), HO.out⟩
  have d2 : decide ((100 : Int) < (c.size : Int)) = false := by simp; omega
  by_cases q3 : 100 < a.size
  · have HT := Lib.hid (show V = true by rw [HV.out, decide_eq_true q3]; simp)
    have g1 : (100 : Int) < (a.size : Int) := by omega
    clear q1 q2 q3
    go_enter Tryz.func8, Tryz.ntmps8
    go_wp2_with fail
    go_ret
    exact ⟨ret_bool (by rw [HT.out]), HO.out⟩
  have d3 : decide ((100 : Int) < (a.size : Int)) = false := by simp; omega
  by_cases q4 : 100 < r.size
  · have HT := Lib.hid (show V = true by rw [HV.out, decide_eq_true q4]; simp)
    have g1 : (100 : Int) < (r.size : Int) := by omega
    clear q1 q2 q3 q4
    go_enter Tryz.func8, Tryz.ntmps8
    go_wp2_with fail
    go_ret
    exact ⟨ret_bool (by rw [HT.out]), HO.out⟩
  have d4 : decide ((100 : Int) < (r.size : Int)) = false := by simp; omega
  have HT := Lib.hid (show V = L.any grF by rw [HV.out, decide_eq_false q1, decide_eq_false q2, decide_eq_false q3, decide_eq_false q4]; simp)
  have HC := Lib.hid (fcont_great A n cap L _ (H0.out.below HO.out) HN.out (by omega) HS.out)
  clear q1 q2 q3 q4
  go_enter Tryz.func8, Tryz.ntmps8
  go_wp2_with fail
  ((with_reducible refine HC.out.mono ?_); rintro e w1 ⟨rfl, hb1⟩)
  go_wp2_with fail
  go_ret
  exact ⟨ret_bool (by rw [HT.out]), below_then HO.out hb1⟩
end Go.Proofs.YtbbdgncjpbfooaaGreatDoor
