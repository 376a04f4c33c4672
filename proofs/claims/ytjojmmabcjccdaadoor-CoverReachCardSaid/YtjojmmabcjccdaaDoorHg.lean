/- ContainsFunc on transitions; small of the statements: what a call returns. -/
import Derived.Test.YtjojmmabcjccdaaDoorHf
import Derived.Test.YtjojmmabcjccdaaDoorHd
namespace Go.Proofs.YtjojmmabcjccdaaDoor
open Go.RowKit

/-- a transition is too long -/
def bigT (t : Tr) : Bool := decide (12 < t.i.length) || (decide (12 < t.o.length) || decide (100 < t.lb.size))
theorem small1_any (lb : ByteArray) (Ai Ao : Option Addr) (ni ci no co : Nat) (w : World) :
    Calls Tryd.prog 41 #[.agg #[.string lb, .slice Ai ni ci, .slice Ao no co]] w fun e w' => e = .returned (.bool (decide (12 < ni) || (decide (12 < no) || decide (100 < lb.size)))) ∧ Below w.heap.size w w' := by
  have HB := Lib.hid (below_alloc w (.cells #[.string lb, .slice Ai ni ci, .slice Ao no co] 70))
  by_cases h1 : 12 < ni
  · have q1 : decide ((12 : Int) < (ni : Int)) = true := by simp; omega
    have HV := Lib.hid (show (decide (12 < ni) || (decide (12 < no) || decide (100 < lb.size))) = true by rw [decide_eq_true h1]; rfl)
    clear h1
    go_enter Tryd.func41, Tryd.ntmps41
    go_wp2_with fail
    go_ret
    exact ⟨ret_bool HV.out.symm, HB.out⟩
  · have q1 : decide ((12 : Int) < (ni : Int)) = false := by simp; omega
    by_cases h2 : 12 < no
    · have q2 : decide ((12 : Int) < (no : Int)) = true := by simp; omega
      have HV := Lib.hid (show (decide (12 < ni) || (decide (12 < no) || decide (100 < lb.size))) = true by rw [decide_eq_true h2]; simp)
      clear h1 h2
      go_enter Tryd.func41, Tryd.ntmps41
      go_wp2_with fail
      go_ret
      exact ⟨ret_bool HV.out.symm, HB.out⟩
    · have q2 : decide ((12 : Int) < (no : Int)) = false := by simp; omega
      by_cases h3 : 100 < lb.size
      · have q3 : decide ((100 : Int) < (lb.size : Int)) = true := by simp; omega
        have HV := Lib.hid (show (decide (12 < ni) || (decide (12 < no) || decide (100 < lb.size))) = true by rw [decide_eq_true h3]; simp)
        clear h1 h2 h3
        go_enter Tryd.func41, Tryd.ntmps41
        go_wp2_with fail
        go_ret
        exact ⟨ret_bool HV.out.symm, HB.out⟩
      · have q3 : decide ((100 : Int) < (lb.size : Int)) = false := by simp; omega
        have HV := Lib.hid (show (decide (12 < ni) || (decide (12 < no) || decide (100 < lb.size))) = false by rw [decide_eq_false h1, decide_eq_false h2, decide_eq_false h3]; rfl)
        clear h1 h2 h3
        go_enter Tryd.func41, Tryd.ntmps41
        go_wp2_with fail
        go_ret
        exact ⟨ret_bool HV.out.symm, HB.out⟩
set_option maxHeartbeats 3200000 in
set_option maxRecDepth 100000 in
theorem tindex_sm (A : Option Addr) (n cap : Nat) (L : List Tr) (w : World) (h : TIn w A L) (hn : L.length = n) (hn4 : n ≤ 9223372036854775807) :
    Calls Tryd.prog 64 #[.slice A n cap, .func (.func 41) #[] #[]] w (BIdx (!(L.any bigT)) w) := by
  have H0 := Lib.hid h; clear h
  have HN := Lib.hid hn; clear hn
  go_enter Tryd.func64, Tryd.ntmps64
  go_wp2_with fail
  go_loopg [8] (n) (fun g i wr => ∃ k : Nat, k + g = n ∧ i = .int .i64 k ∧ (L.take k).any bigT = false ∧ Below w.heap.size w wr)
  case atStart => exact ⟨0, by omega, rfl, by simp, Below.refl _ _⟩
  case round =>
    obtain ⟨k, hk, rfl, hno, hB⟩ := hrel
    have HK := Lib.hid hk
    have HNo := Lib.hid hno
    have HB := Lib.hid hB
    have HT := Lib.hid (H0.out.below hB)
    have hle : k ≤ n := by omega
    clear hk hno hB
    by_cases hlt : k < n
    · have hlt' : k < L.length := by rw [HN.out]; exact hlt
      obtain ⟨ad, rfl, hp, c0, ⟨u1, c1, s1⟩, u2, c2, s2⟩ := HT.out k hlt'
      have HTk := Lib.hid (List.take_succ_eq_append_getElem hlt')
      have HM := Lib.hid (List.getElem_mem hlt')
      generalize L[k] = x at *
      clear hlt'
      obtain ⟨lb, li, lo⟩ := x
      obtain ⟨Ai, ni, ci, rfl, _, hi1, _⟩ := s1
      obtain ⟨Ao, no, co, rfl, _, ho1, _⟩ := s2
      simp only at c0 c1 c2 hi1 ho1
      subst hi1 ho1
      have HX := Lib.hid (small1_any lb Ai Ao li.length ci lo.length co wr)
      have HXe := Lib.hid (show bigT ⟨lb, li, lo⟩ = (decide (12 < li.length) || (decide (12 < lo.length) || decide (100 < lb.size))) from rfl)
      rw [← HXe.out] at HX
      cases hv : bigT ⟨lb, li, lo⟩ with
      | true =>
        rw [hv] at HX
        have HV := Lib.hid hv; clear hv
        go_wp2_with fail
        ((with_reducible refine HX.out.mono ?_); rintro e w1 ⟨rfl, hb1⟩)
        go_wp2_with fail
        go_ret
        refine BIdx.yes ?_ rfl (below_then HB.out hb1)
        rw [List.any_eq_true.2 ⟨_, HM.out, HV.out⟩]; rfl
      | false =>
        rw [hv] at HX
        have HV := Lib.hid hv; clear hv
        go_wp2_with fail
        ((with_reducible refine HX.out.mono ?_); rintro e w1 ⟨rfl, hb1⟩)
        have HB1 := Lib.hid (below_then HB.out hb1)
        clear hb1
        go_wp2_with fail
        go_roundg (gk - 1)
        case measure => have := HK.out; omega
        case rel => exact ⟨k + 1, by have := HK.out; omega, by go_num, by rw [HTk.out, List.any_append, HNo.out]; simp [HV.out], HB1.out⟩
    · have HE := Lib.hid (show L.take k = L from List.take_of_length_le (by have := HN.out; omega))
      go_wp2_with fail
      go_ret
      refine BIdx.no ?_ rfl HB.out
      rw [← HE.out, HNo.out]; rfl
set_option maxHeartbeats 800000 in
theorem tcont_sm (A : Option Addr) (n cap : Nat) (L : List Tr) (w : World) (h : TIn w A L) (hn : L.length = n) (hn4 : n ≤ 9223372036854775807) :
    Calls Tryd.prog 40 #[.slice A n cap, .func (.func 41) #[] #[]] w fun e w' => e = .returned (.bool (L.any bigT)) ∧ Below w.heap.size w w' := by
  have HI := Lib.hid (tindex_sm A n cap L w h hn hn4)
  clear h hn
  generalize L.any bigT = r at HI ⊢
  cases r with
  | false =>
    go_enter Tryd.func40, Tryd.ntmps40
    go_wp2_with fail
    ((with_reducible refine HI.out.mono ?_); rintro e w1 hP)
    obtain ⟨he, hb⟩ := hP
    have he' : e = .returned (.int .i64 (-1)) := he
    clear he; subst he'
    go_wp2_with fail
    go_ret
    exact ⟨rfl, hb⟩
  | true =>
    go_enter Tryd.func40, Tryd.ntmps40
    go_wp2_with fail
    ((with_reducible refine HI.out.mono ?_); rintro e w1 hP)
    obtain ⟨he, hb⟩ := hP
    obtain ⟨i, he'⟩ : ∃ i : Nat, e = .returned (.int .i64 i) := he
    subst he'
    go_wp2_with fail
    go_ret
    exact ⟨rfl, hb⟩
set_option maxHeartbeats 6400000 in
set_option maxRecDepth 100000 in
theorem small_any (N : Nt) (A : Option Addr) (n c : Nat) (Am : Option Addr) (m cm : Nat) (w : World) (h : NtIn w A N) (hn : N.tr.length = n) (hn2 : n ≤ 9223372036854775807) :
    Calls Tryd.prog 11 #[.agg #[.int .i64 N.pl, .slice A n c, .int .i64 N.src, .int .i64 N.snk], .slice Am m cm] w fun e w' => ∃ b, e = .returned (.bool b) ∧ Below w.heap.size w w' := by
  have HB := Lib.hid (below_alloc w (.cells #[.int .i64 N.pl, .slice A n c, .int .i64 N.src, .int .i64 N.snk] 24))
  have HC := Lib.hid (tcont_sm A n c N.tr _ (h.1.below HB.out) hn hn2)
  clear h hn
  by_cases h1 : N.pl ≤ 10
  · have q1 : decide (N.pl ≤ 10) = true := by simpa using h1
    by_cases h2 : n ≤ 10
    · have q3 : decide ((n : Int) ≤ 10) = true := by simp; omega
      by_cases h3 : m ≤ 12
      · have q4 : decide ((m : Int) ≤ 12) = true := by simp; omega
        clear h1 h2 h3
        cases hb : N.tr.any bigT with
        | true =>
          rw [hb] at HC
          go_enter Tryd.func11, Tryd.ntmps11
          go_wp2_with fail
          ((with_reducible refine HC.out.mono ?_); rintro e w1 ⟨rfl, hb1⟩)
          go_wp2_with fail
          go_ret
          exact ⟨_, rfl, below_then HB.out hb1⟩
        | false =>
          rw [hb] at HC
          go_enter Tryd.func11, Tryd.ntmps11
          go_wp2_with fail
          ((with_reducible refine HC.out.mono ?_); rintro e w1 ⟨rfl, hb1⟩)
          go_wp2_with fail
          go_ret
          exact ⟨_, rfl, below_then HB.out hb1⟩
      · have q4 : decide ((m : Int) ≤ 12) = false := by simp; omega
        clear h1 h2 h3
        go_enter Tryd.func11, Tryd.ntmps11
        go_wp2_with fail
        go_ret
        exact ⟨_, rfl, HB.out⟩
    · have q3 : decide ((n : Int) ≤ 10) = false := by simp; omega
      clear h1 h2
      go_enter Tryd.func11, Tryd.ntmps11
      go_wp2_with fail
      go_ret
      exact ⟨_, rfl, HB.out⟩
  · have q1 : decide (N.pl ≤ 10) = false := by simpa using h1
    by_cases h9 : 40 < N.pl
    · have q2 : decide (40 < N.pl) = true := by simpa using h9
      clear h9
      by_cases h2 : n ≤ 10
      · have q3 : decide ((n : Int) ≤ 10) = true := by simp; omega
        by_cases h3 : m ≤ 12
        · have q4 : decide ((m : Int) ≤ 12) = true := by simp; omega
          clear h1 h2 h3
          cases hb : N.tr.any bigT with
          | true =>
            rw [hb] at HC
            go_enter Tryd.func11, Tryd.ntmps11
            go_wp2_with fail
            ((with_reducible refine HC.out.mono ?_); rintro e w1 ⟨rfl, hb1⟩)
            go_wp2_with fail
            go_ret
            exact ⟨_, rfl, below_then HB.out hb1⟩
          | false =>
            rw [hb] at HC
            go_enter Tryd.func11, Tryd.ntmps11
            go_wp2_with fail
            ((with_reducible refine HC.out.mono ?_); rintro e w1 ⟨rfl, hb1⟩)
            go_wp2_with fail
            go_ret
            exact ⟨_, rfl, below_then HB.out hb1⟩
        · have q4 : decide ((m : Int) ≤ 12) = false := by simp; omega
          clear h1 h2 h3
          go_enter Tryd.func11, Tryd.ntmps11
          go_wp2_with fail
          go_ret
          exact ⟨_, rfl, HB.out⟩
      · have q3 : decide ((n : Int) ≤ 10) = false := by simp; omega
        clear h1 h2
        go_enter Tryd.func11, Tryd.ntmps11
        go_wp2_with fail
        go_ret
        exact ⟨_, rfl, HB.out⟩
    · have q2 : decide (40 < N.pl) = false := by simpa using h9
      clear h1 h9
      go_enter Tryd.func11, Tryd.ntmps11
      go_wp2_with fail
      go_ret
      exact ⟨_, rfl, HB.out⟩
end Go.Proofs.YtjojmmabcjccdaaDoor
