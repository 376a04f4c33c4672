/- ContainsFunc on transitions; small of the statements: what a call returns. awake of the statements: what a call returns. CoverGraphs: the walk through the statement. -/
import Derived.Test.YtjojmmabcjccdaaDoorHf
import Derived.Test.YtjojmmabcjccdaaDoorHd
namespace Go.Proofs.YtjojmmabcjccdaaDoor
section
open Go.RowKit

/-- a transition is too long -/
def bigT (t : Tr) : Bool := decide (12 < t.i.length) || (decide (12 < t.o.length) || decide (100 < t.lb.size))
theorem small1_any (lb : ByteArray) (Ai Ao : Option Addr) (ni ci no co : Nat) (w : World) :
    Calls Tryd.prog 41 #[.agg #[.string lb, .slice Ai ni ci, .slice Ao no co]] w fun e w' => e = .returned (.bool (decide (12 < ni) || (decide (12 < no) || decide (100 < lb.size)))) ∧ Below w.heap.size w w' := by
  have HB := Lib.hid (below_alloc w (.cells #[.string lb, .slice Ai ni ci, .slice Ao no co] 70))
  by_cases h1 : 12 < ni
  · have q1 : decide ((12 : Int) < (ni : Int)) = true := by simp; omega
    have HV := Lib.hid (show (decide (12 < ni) || (decide (12 < no) || decide (100 < lb.size))) = true by rw [decide_eq_true h1]; rfl)
    clear h1
    go_enter Tryd.func41, Tryd.ntmps41
    go_wp2_with fail
    go_ret
    exact ⟨ret_bool HV.out.symm, HB.out⟩
  · have q1 : decide ((12 : Int) < (ni : Int)) = false := by simp; omega
    by_cases h2 : 12 < no
    · have q2 : decide ((12 : Int) < (no : Int)) = true := by simp; omega
      have HV := Lib.hid (show (decide (12 < ni) || (decide (12 < no) || decide (100 < lb.size))) = true by rw [decide_eq_true h2]; simp)
      clear h1 h2
      go_enter Tryd.func41, Tryd.ntmps41
      go_wp2_with fail
      go_ret
      exact ⟨ret_bool HV.out.symm, HB.out⟩
    · have q2 : decide ((12 : Int) < (no : Int)) = false := by simp; omega
      by_cases h3 : 100 < lb.size
      · have q3 : decide ((100 : Int) < (lb.size : Int)) = true := by simp; omega
        have HV := Lib.hid (show (decide (12 < ni) || (decide (12 < no) || decide (100 < lb.size))) = true by rw [decide_eq_true h3]; simp)
        clear h1 h2 h3
        go_enter Tryd.func41, Tryd.ntmps41
        go_wp2_with fail
        go_ret
        exact ⟨ret_bool HV.out.symm, HB.out⟩
      · have q3 : decide ((100 : Int) < (lb.size : Int)) = false := by simp; omega
        have HV := Lib.hid (show (decide (12 < ni) || (decide (12 < no) || decide (100 < lb.size))) = false by rw [decide_eq_false h1, decide_eq_false h2, decide_eq_false h3]; rfl)
        clear h1 h2 h3
        go_enter Tryd.func41, Tryd.ntmps41
        go_wp2_with fail
        go_ret
        exact ⟨ret_bool HV.out.symm, HB.out⟩
set_option maxHeartbeats 3200000 in
set_option maxRecDepth 100000 in
theorem tindex_sm (A : Option Addr) (n cap : Nat) (L : List Tr) (w : World) (h : TIn w A L) (hn : L.length = n) (hn4 : n ≤ 9223372036854775807) :
    Calls Tryd.prog 64 #[.slice A n cap, .func (.func 41) #[] #[]] w (BIdx (!(L.any bigT)) w) := by
  have H0 := Lib.hid h; clear h
  have HN := Lib.hid hn; clear hn
  go_enter Tryd.func64, Tryd.ntmps64
  go_wp2_with fail
  go_loopg [8] (n) (fun g i wr => ∃ k : Nat, k + g = n ∧ i = .int .i64 k ∧ (L.take k).any bigT = false ∧ Below w.heap.size w wr)
  case atStart => exact ⟨0, by omega, rfl, by simp, Below.refl _ _⟩
  case round =>
    obtain ⟨k, hk, rfl, hno, hB⟩ := hrel
    have HK := Lib.hid hk
    have HNo := Lib.hid hno
    have HB := Lib.hid hB
    have HT := Lib.hid (H0.out.below hB)
    have hle : k ≤ n := by omega
    clear hk hno hB
    by_cases hlt : k < n
    · have hlt' : k < L.length := by rw [HN.out]; exact hlt
      obtain ⟨ad, rfl, hp, c0, ⟨u1, c1, s1⟩, u2, c2, s2⟩ := HT.out k hlt'
      have HTk := Lib.hid (List.take_succ_eq_append_getElem hlt')
      have HM := Lib.hid (List.getElem_mem hlt')
      generalize L[k] = x at *
      clear hlt'
      obtain ⟨lb, li, lo⟩ := x
      obtain ⟨Ai, ni, ci, rfl, _, hi1, _⟩ := s1
      obtain ⟨Ao, no, co, rfl, _, ho1, _⟩ := s2
      simp only at c0 c1 c2 hi1 ho1
      subst hi1 ho1
      have HX := Lib.hid (small1_any lb Ai Ao li.length ci lo.length co wr)
      have HXe := Lib.hid (show bigT ⟨lb, li, lo⟩ = (decide (12 < li.length) || (decide (12 < lo.length) || decide (100 < lb.size))) from rfl)
      rw [← HXe.out] at HX
      cases hv : bigT ⟨lb, li, lo⟩ with
      | true =>
        rw [hv] at HX
        have HV := Lib.hid hv; clear hv
        go_wp2_with fail
        ((with_reducible refine HX.out.mono ?_); rintro e w1 ⟨rfl, hb1⟩)
        go_wp2_with fail
        go_ret
        refine BIdx.yes ?_ rfl (below_then HB.out hb1)
        rw [List.any_eq_true.2 ⟨_, HM.out, HV.out⟩]; rfl
      | false =>
        rw [hv] at HX
        have HV := Lib.hid hv; clear hv
        go_wp2_with fail
        ((with_reducible refine HX.out.mono ?_); rintro e w1 ⟨rfl, hb1⟩)
        have HB1 := Lib.hid (below_then HB.out hb1)
        clear hb1
        go_wp2_with fail
        go_roundg (gk - 1)
        case measure => have := HK.out; omega
        case rel => exact ⟨k + 1, by have := HK.out; omega, by go_num, by rw [HTk.out, List.any_append, HNo.out]; simp [HV.out], HB1.out⟩
    · have HE := Lib.hid (show L.take k = L from List.take_of_length_le (by have := HN.out; omega))
      go_wp2_with fail
      go_ret
      refine BIdx.no ?_ rfl HB.out
      rw [← HE.out, HNo.out]; rfl
set_option maxHeartbeats 800000 in
theorem tcont_sm (A : Option Addr) (n cap : Nat) (L : List Tr) (w : World) (h : TIn w A L) (hn : L.length = n) (hn4 : n ≤ 9223372036854775807) :
    Calls Tryd.prog 40 #[.slice A n cap, .func (.func 41) #[] #[]] w fun e w' => e = .returned (.bool (L.any bigT)) ∧ Below w.heap.size w w' := by
  have HI := Lib.hid (tindex_sm A n cap L w h hn hn4)
  clear h hn
  generalize L.any bigT = r at HI ⊢
  cases r with
  | false =>
    go_enter Tryd.func40, Tryd.ntmps40
    go_wp2_with fail
    ((with_reducible refine HI.out.mono ?_); rintro e w1 hP)
    obtain ⟨he, hb⟩ := hP
    have he' : e = .returned (.int .i64 (-1)) := he
    clear he; subst he'
    go_wp2_with fail
    go_ret
    exact ⟨rfl, hb⟩
  | true =>
    go_enter Tryd.func40, Tryd.ntmps40
    go_wp2_with fail
    ((with_reducible refine HI.out.mono ?_); rintro e w1 hP)
    obtain ⟨he, hb⟩ := hP
    obtain ⟨i, he'⟩ : ∃ i : Nat, e = .returned (.int .i64 i) := he
    subst he'
    go_wp2_with fail
    go_ret
    exact ⟨rfl, hb⟩
set_option maxHeartbeats 6400000 in
set_option maxRecDepth 100000 in
theorem small_any (N : Nt) (A : Option Addr) (n c : Nat) (Am : Option Addr) (m cm : Nat) (w : World) (h : NtIn w A N) (hn : N.tr.length = n) (hn2 : n ≤ 9223372036854775807) :
    Calls Tryd.prog 11 #[.agg #[.int .i64 N.pl, .slice A n c, .int .i64 N.src, .int .i64 N.snk], .slice Am m cm] w fun e w' => ∃ b, e = .returned (.bool b) ∧ Below w.heap.size w w' := by
  have HB := Lib.hid (below_alloc w (.cells #[.int .i64 N.pl, .slice A n c, .int .i64 N.src, .int .i64 N.snk] 24))
  have HC := Lib.hid (tcont_sm A n c N.tr _ (h.1.below HB.out) hn hn2)
  clear h hn
  by_cases h1 : N.pl ≤ 10
  · have q1 : decide (N.pl ≤ 10) = true := by simpa using h1
    by_cases h2 : n ≤ 10
    · have q3 : decide ((n : Int) ≤ 10) = true := by simp; omega
      by_cases h3 : m ≤ 12
      · have q4 : decide ((m : Int) ≤ 12) = true := by simp; omega
        clear h1 h2 h3
        cases hb : N.tr.any bigT with
        | true =>
          rw [hb] at HC
          go_enter Tryd.func11, Tryd.ntmps11
          go_wp2_with fail
          ((with_reducible refine HC.out.mono ?_); rintro e w1 ⟨rfl, hb1⟩)
          go_wp2_with fail
          go_ret
          exact ⟨_, rfl, below_then HB.out hb1⟩
        | false =>
          rw [hb] at HC
          go_enter Tryd.func11, Tryd.ntmps11
          go_wp2_with fail
          ((with_reducible refine HC.out.mono ?_); rintro e w1 ⟨rfl, hb1⟩)
          go_wp2_with fail
          go_ret
          exact ⟨_, rfl, below_then HB.out hb1⟩
      · have q4 : decide ((m : Int) ≤ 12) = false := by simp; omega
        clear h1 h2 h3
        go_enter Tryd.func11, Tryd.ntmps11
        go_wp2_with fail
        go_ret
        exact ⟨_, rfl, HB.out⟩
    · have q3 : decide ((n : Int) ≤ 10) = false := by simp; omega
      clear h1 h2
      go_enter Tryd.func11, Tryd.ntmps11
      go_wp2_with fail
      go_ret
      exact ⟨_, rfl, HB.out⟩
  · have q1 : decide (N.pl ≤ 10) = false := by simpa using h1
    by_cases h9 : 40 < N.pl
    · have q2 : decide (40 < N.pl) = true := by simpa using h9
      clear h9
      by_cases h2 : n ≤ 10
      · have q3 : decide ((n : Int) ≤ 10) = true := by simp; omega
        by_cases h3 : m ≤ 12
        · have q4 : decide ((m : Int) ≤ 12) = true := by simp; omega
          clear h1 h2 h3
          cases hb : N.tr.any bigT with
          | true =>
            rw [hb] at HC
            go_enter Tryd.func11, Tryd.ntmps11
            go_wp2_with fail
            ((with_reducible refine HC.out.mono ?_); rintro e w1 ⟨rfl, hb1⟩)
            go_wp2_with fail
            go_ret
            exact ⟨_, rfl, below_then HB.out hb1⟩
          | false =>
            rw [hb] at HC
            go_enter Tryd.func11, Tryd.ntmps11
            go_wp2_with fail
            ((with_reducible refine HC.out.mono ?_); rintro e w1 ⟨rfl, hb1⟩)
            go_wp2_with fail
            go_ret
            exact ⟨_, rfl, below_then HB.out hb1⟩
        · have q4 : decide ((m : Int) ≤ 12) = false := by simp; omega
          clear h1 h2 h3
          go_enter Tryd.func11, Tryd.ntmps11
          go_wp2_with fail
          go_ret
          exact ⟨_, rfl, HB.out⟩
      · have q3 : decide ((n : Int) ≤ 10) = false := by simp; omega
        clear h1 h2
        go_enter Tryd.func11, Tryd.ntmps11
        go_wp2_with fail
        go_ret
        exact ⟨_, rfl, HB.out⟩
    · have q2 : decide (40 < N.pl) = false := by simpa using h9
      clear h1 h9
      go_enter Tryd.func11, Tryd.ntmps11
      go_wp2_with fail
      go_ret
      exact ⟨_, rfl, HB.out⟩
end
section
open Go.RowKit

/-- the chapter's example -/
def exN : Nt := ⟨2, [⟨⟨#[97]⟩, [0], [0, 1]⟩], 0, 1⟩
def exT : TS := ⟨[⟨[1, 0], [1, 0], -1, -1, 0, -1, true, false⟩, ⟨[1, 1], [1, -1], 0, 0, 1, 0, true, true⟩, ⟨[1, -1], [1, -1], 1, 0, 1, 0, false, true⟩], [[1, 0], [1, -1]]⟩
theorem ex_be : beR exN [[1, 0]] 0 10 = .inr exT := by kernel_rfl
theorem ex_mv : movesOf exT = [⟨0, 1, 0⟩, ⟨1, 1, 0⟩] := by kernel_rfl
/-- three boxes of the net -/
def exW (w : World) : World := ((w.alloc (.cells #[.int .i64 0] 3)).alloc (.cells #[.int .i64 0, .int .i64 1] 3)).alloc (.cells #[.string ⟨#[97]⟩, .slice (some ⟨w.heap.size, 0, none⟩) 1 1, .slice (some ⟨w.heap.size + 1, 0, none⟩) 2 2] 70)
theorem exW_size (w : World) : (exW w).heap.size = w.heap.size + 1 + 1 + 1 := by unfold exW; simp
theorem exW_below (w : World) : Below w.heap.size w (exW w) := below_then (below_alloc w _) (below_then (below_alloc _ _) (below_alloc _ _))
theorem lit_sl (w : World) (Z : List Int) (h : Z.length ≤ 1000000) (cs : Array Value) (hc : cs = (Z.map (Value.int .i64)).toArray) : SlIn (w.alloc (.cells cs 3)) (.slice (some ⟨w.heap.size, 0, none⟩) Z.length Z.length) Z := by
  subst hc
  exact ⟨_, _, _, rfl, lit_ints w Z h, rfl, Nat.le_refl _, by omega⟩
theorem ex_net (w : World) : NtIn (exW w) (some ⟨w.heap.size + 1 + 1, 0, none⟩) exN := by
  refine ⟨fun i hi => ?_, fun t ht => by
    have : t = ⟨⟨#[97]⟩, [0], [0, 1]⟩ := by simpa [exN] using ht
    subst this; decide⟩
  have hi0 : i = 0 := by simp [exN] at hi; omega
  subst hi0
  have h1 := lit_sl w [0] (by decide) #[.int .i64 0] rfl
  have h2 := lit_sl (w.alloc (.cells #[.int .i64 0] 3)) [0, 1] (by decide) #[.int .i64 0, .int .i64 1] rfl
  rw [World.size_alloc] at h2
  have b1 := below_alloc (w.alloc (.cells #[.int .i64 0] 3)) (.cells #[.int .i64 0, .int .i64 1] 3)
  have b2 := below_alloc ((w.alloc (.cells #[.int .i64 0] 3)).alloc (.cells #[.int .i64 0, .int .i64 1] 3)) (.cells #[.string ⟨#[97]⟩, .slice (some ⟨w.heap.size, 0, none⟩) 1 1, .slice (some ⟨w.heap.size + 1, 0, none⟩) 2 2] 70)
  have hn := heap_alloc_new ((w.alloc (.cells #[.int .i64 0] 3)).alloc (.cells #[.int .i64 0, .int .i64 1] 3)) (.cells #[.string ⟨#[97]⟩, .slice (some ⟨w.heap.size, 0, none⟩) 1 1, .slice (some ⟨w.heap.size + 1, 0, none⟩) 2 2] 70)
  simp only [World.size_alloc] at hn
  have hcell : ∀ o : Nat, (exW w).cell? ⟨w.heap.size + 1 + 1, o, none⟩ = (#[.string ⟨#[97]⟩, .slice (some ⟨w.heap.size, 0, none⟩) 1 1, .slice (some ⟨w.heap.size + 1, 0, none⟩) 2 2] : Array Value)[o]? := by
    intro o
    unfold exW
    simp only [World.cell?, hn]
    rfl
  refine ⟨⟨w.heap.size + 1 + 1, 0, none⟩, rfl, by rw [add_block, exW_size]; show w.heap.size + 1 + 1 < _; omega, ?_⟩
  rw [Nat.zero_mul, add0]
  refine ⟨hcell 0, ⟨_, hcell 1, (h1.below b1).below b2⟩, _, hcell 2, h2.below b2⟩
/-- the example's space, as it is written down -/
theorem sp_lit (w : World) : SpIn ((((w.alloc (.cells #[.int .i64 1, .int .i64 0] 3)).alloc (.cells #[.int .i64 1, .int .i64 (-1)] 3)).alloc (.cells #[.slice (some ⟨w.heap.size, 0, none⟩) 2 2, .slice (some ⟨w.heap.size + 1, 0, none⟩) 2 2] 25)).alloc (.cells #[.int .i64 0, .int .i64 1, .int .i64 0, .int .i64 1, .int .i64 1, .int .i64 0] 72))
    (.agg #[.slice (some ⟨w.heap.size + 1 + 1, 0, none⟩) 2 2, .slice (some ⟨w.heap.size + 1 + 1 + 1, 0, none⟩) 2 2, .bool true]) [[1, 0], [1, -1]] [⟨0, 1, 0⟩, ⟨1, 1, 0⟩] true := by
  have h1 := lit_sl w [1, 0] (by decide) #[.int .i64 1, .int .i64 0] rfl
  have h2 := lit_sl (w.alloc (.cells #[.int .i64 1, .int .i64 0] 3)) [1, -1] (by decide) #[.int .i64 1, .int .i64 (-1)] rfl
  rw [World.size_alloc] at h2
  have b1 := below_alloc (w.alloc (.cells #[.int .i64 1, .int .i64 0] 3)) (.cells #[.int .i64 1, .int .i64 (-1)] 3)
  have h1 := h1.below b1
  generalize hw1 : (w.alloc (.cells #[.int .i64 1, .int .i64 0] 3)).alloc (.cells #[.int .i64 1, .int .i64 (-1)] 3) = w1 at *
  have hs : w1.heap.size = w.heap.size + 1 + 1 := by rw [← hw1]; simp
  have b2 := below_alloc w1 (.cells #[.slice (some ⟨w.heap.size, 0, none⟩) 2 2, .slice (some ⟨w.heap.size + 1, 0, none⟩) 2 2] 25)
  have hn1 := heap_alloc_new w1 (.cells #[.slice (some ⟨w.heap.size, 0, none⟩) 2 2, .slice (some ⟨w.heap.size + 1, 0, none⟩) 2 2] 25)
  have b3 := below_alloc (w1.alloc (.cells #[.slice (some ⟨w.heap.size, 0, none⟩) 2 2, .slice (some ⟨w.heap.size + 1, 0, none⟩) 2 2] 25)) (.cells #[.int .i64 0, .int .i64 1, .int .i64 0, .int .i64 1, .int .i64 1, .int .i64 0] 72)
  have hn2 := heap_alloc_new (w1.alloc (.cells #[.slice (some ⟨w.heap.size, 0, none⟩) 2 2, .slice (some ⟨w.heap.size + 1, 0, none⟩) 2 2] 25)) (.cells #[.int .i64 0, .int .i64 1, .int .i64 0, .int .i64 1, .int .i64 1, .int .i64 0] 72)
  rw [World.size_alloc] at hn2
  have hn1' := b3.block w1.heap.size (by simp)
  rw [hn1] at hn1'
  rw [hs] at hn1' hn2
  generalize hw2 : (w1.alloc (.cells #[.slice (some ⟨w.heap.size, 0, none⟩) 2 2, .slice (some ⟨w.heap.size + 1, 0, none⟩) 2 2] 25)).alloc (.cells #[.int .i64 0, .int .i64 1, .int .i64 0, .int .i64 1, .int .i64 1, .int .i64 0] 72) = w2 at *
  have hs2 : w2.heap.size = w.heap.size + 1 + 1 + 1 + 1 := by rw [← hw2]; simp; omega
  have h1 := (h1.below b2).below b3
  have h2 := (h2.below b2).below b3
  refine ⟨_, _, _, _, rfl, fun i hi => ?_, by decide, fun i hi => ?_, by decide⟩
  · refine ⟨_, rfl, by rw [add_block, hs2]; show w.heap.size + 1 + 1 < _; omega, ?_⟩
    match i, hi with
    | 0, _ => exact ⟨_, by rw [add_zero]; simp only [World.cell?, hn1']; rfl, h1⟩
    | 1, _ => exact ⟨_, by rw [add_zero]; simp only [World.cell?, hn1']; rfl, h2⟩
    | i + 2, hi => exact absurd hi (by simp only [List.length_cons, List.length_nil]; omega)
  · refine ⟨_, rfl, by rw [add_block, hs2]; show w.heap.size + 1 + 1 + 1 < _; omega, fun j u hj hu => ?_⟩
    rw [add_zero]
    simp only [World.cell?, hn2]
    match i, hi with
    | 0, _ =>
      match j, hj, hu with
      | 0, _, hu => simp [mvC] at hu; subst hu; rfl
      | 1, _, hu => simp [mvC] at hu; subst hu; rfl
      | 2, _, hu => simp [mvC] at hu; subst hu; rfl
      | j + 3, hj, _ => omega
    | 1, _ =>
      match j, hj, hu with
      | 0, _, hu => simp [mvC] at hu; subst hu; rfl
      | 1, _, hu => simp [mvC] at hu; subst hu; rfl
      | 2, _, hu => simp [mvC] at hu; subst hu; rfl
      | j + 3, hj, _ => omega
    | i + 2, hi => exact absurd hi (by simp only [List.length_cons, List.length_nil]; omega)
theorem lit10 (w : World) : ZIn (w.alloc (.cells #[.int .i64 1, .int .i64 0] 3)) (some ⟨w.heap.size, 0, none⟩) [1, 0] := lit_ints w [1, 0] (by decide)
theorem below_eq {a b : Nat} {w w' : World} (h : Below a w w') (e : b = a) : Below b w w' := e ▸ h
set_option maxHeartbeats 12800000 in
set_option maxRecDepth 100000 in
theorem awake_any (w : World) (ht : Tb w) : Calls Tryd.prog 10 #[] w fun e w' => e = .returned (.bool true) ∧ Below w.heap.size w w' := by
  have HBw := Lib.hid (below_then (exW_below w) (below_alloc (exW w) (.cells #[.int .i64 2, .slice (some ⟨w.heap.size + 1 + 1, 0, none⟩) 1 1, .int .i64 0, .int .i64 1] 24)))
  have HNt := Lib.hid ((ex_net w).below (below_alloc (exW w) (.cells #[.int .i64 2, .slice (some ⟨w.heap.size + 1 + 1, 0, none⟩) 1 1, .int .i64 0, .int .i64 1] 24)))
  have hnb := NB.new (exW w) 2 (some ⟨w.heap.size + 1 + 1, 0, none⟩) 1 1 0 1
  rw [exW_size] at hnb
  have HNb := Lib.hid hnb
  have HT := Lib.hid (ht.below HBw.out)
  clear ht hnb
  unfold exW at HBw HNt HNb HT
  go_enter Tryd.func10, Tryd.ntmps10
  go_wp2_with fail
  generalize hw0 : (((w.alloc _).alloc _).alloc _).alloc _ = w0 at *
  have hs0 : w0.heap.size = w.heap.size + 1 + 1 + 1 + 1 := by rw [← hw0]; simp
  clear hw0
  have HA := Lib.hid (below_alloc w0 (.cells #[.int .i64 1, .int .i64 0] 3))
  have hgr := graph_any exN (some ⟨w.heap.size + 1 + 1, 0, none⟩) 1 1 (some ⟨w0.heap.size, 0, none⟩) 2 2 [1, 0] 10 _ (HNt.out.below HA.out) rfl (by decide) (lit10 w0) rfl (by decide) (by decide) (HT.out.below HA.out)
  rw [hs0] at hgr
  have HGr := Lib.hid (show Calls Tryd.prog 12 #[.agg #[.int .i64 2, .slice (some ⟨w.heap.size + 1 + 1, 0, none⟩) 1 1, .int .i64 0, .int .i64 1], .slice (some ⟨w.heap.size + 1 + 1 + 1 + 1, 0, none⟩) 2 2, .int .i64 10] (w0.alloc (.cells #[.int .i64 1, .int .i64 0] 3)) (GphPo exN [1, 0] 10 (w0.alloc (.cells #[.int .i64 1, .int .i64 0] 3))) from hgr)
  clear hgr
  ((with_reducible refine HGr.out.mono ?_); rintro e w2 hP)
  unfold GphPo at hP
  rw [ex_be] at hP
  obtain ⟨hb2, vS, vM, rfl, hO, hMv⟩ := hP
  rw [ex_mv] at hMv
  have HSp := Lib.hid (SpIn.mk (fl := true) hO hMv)
  obtain ⟨Aa, ca, rfl⟩ := hO.slice
  obtain ⟨Ab, cb, rfl⟩ := hMv.slice
  have HB2 := Lib.hid (below_then HA.out hb2)
  have HBw2 := Lib.hid (below_then HBw.out HB2.out)
  have HNt2 := Lib.hid (HNt.out.below HB2.out)
  have HNb2 := Lib.hid (HNb.out.below HB2.out)
  have HT2 := Lib.hid (HT.out.below HB2.out)
  have hlt2 : w.heap.size + 1 + 1 + 1 < w2.heap.size := by have := HB2.out.size; omega
  clear HGr hb2 hO hMv HA HB2 HNt HNb HT HBw
  obtain ⟨b0, b1, b2, b3⟩ := HNb2.out.cells
  go_wp2_with fail
  have HX3 := Lib.hid (SpB.new w2 (.slice Aa exT.states.length ca) (.slice Ab 2 cb) true)
  have HA3 := Lib.hid (below_alloc w2 (.cells #[.slice Aa exT.states.length ca, .slice Ab 2 cb, .bool true] 31))
  generalize hw3 : w2.alloc _ = w3 at *
  have hs3 : w3.heap.size = w2.heap.size + 1 := by rw [← hw3]; simp
  clear hw3
  have HA := Lib.hid (below_alloc w3 (.cells #[.int .i64 1, .int .i64 0] 3))
  have HSp3 := Lib.hid (HSp.out.below HA3.out)
  have HB3 := Lib.hid (below_then HA3.out HA.out)
  have hbd := bounded_any exN (some ⟨w.heap.size + 1 + 1, 0, none⟩) 1 1 (some ⟨w3.heap.size, 0, none⟩) 2 2 [1, 0] 10 _ (HNt2.out.below HB3.out) rfl (by decide) (lit10 w3) rfl (by decide) (by decide) (HT2.out.below HB3.out)
  rw [hs3] at hbd
  have HBd := Lib.hid (show Calls Tryd.prog 16 #[.agg #[.int .i64 2, .slice (some ⟨w.heap.size + 1 + 1, 0, none⟩) 1 1, .int .i64 0, .int .i64 1], .slice (some ⟨w2.heap.size + 1, 0, none⟩) 2 2, .int .i64 10] (w3.alloc (.cells #[.int .i64 1, .int .i64 0] 3)) (BdPo exN [1, 0] 10 (w3.alloc (.cells #[.int .i64 1, .int .i64 0] 3))) from hbd)
  clear hbd b0 b1 b2 b3
  ((with_reducible refine HBd.out.mono ?_); rintro e w4 hP)
  unfold BdPo at hP
  rw [ex_be] at hP
  obtain ⟨hb4, ⟨v, he, _, hno⟩ | ⟨i, d, g, z, W1, W2, p, v1, v2, hf, he, h1, h2⟩⟩ := hP
  · have h9 : (⟨[1, 1], [1, -1], 0, 0, 1, 0, true, true⟩ : Nd).om = false := hno 1 ⟨[1, 1], [1, -1], 0, 0, 1, 0, true, true⟩ (by kernel_rfl)
    exact absurd h9 (by decide)
  subst he
  obtain ⟨A1, c1, hv1⟩ := h1.slice
  obtain ⟨A2, c2, hv2⟩ := h2.slice
  rw [List.length_map] at hv1 hv2
  subst hv1 hv2
  have HB4 := Lib.hid (below_then HA.out hb4)
  have HX4 := Lib.hid (HX3.out.below HB4.out)
  have HSp4 := Lib.hid (HSp3.out.below HB4.out)
  have HBw4 := Lib.hid (below_then HBw2.out (below_then HA3.out HB4.out))
  clear hf h1 h2 hb4 HBd HA HB4 HSp3 HNt2 HNb2 HT2
  obtain ⟨x0, x1, x2⟩ := HX4.out.cells
  have hw4 : w2.heap.size < w4.heap.size := HX4.out.lt
  have HC := Lib.hid (below_alloc w4 (.cells #[.int .i64 6, .int .i64 (p : Int), .slice A1 W1.length c1, .slice A2 W2.length c2, .slice none 0 0, .slice none 0 0, .slice none 0 0, .slice none 0 0] 41))
  have HCt := Lib.hid (show CtB _ w4.heap.size #[.int .i64 6, .int .i64 (p : Int), .slice A1 W1.length c1, .slice A2 W2.length c2, .slice none 0 0, .slice none 0 0, .slice none 0 0, .slice none 0 0] from heap_alloc_new w4 (.cells #[.int .i64 6, .int .i64 (p : Int), .slice A1 W1.length c1, .slice A2 W2.length c2, .slice none 0 0, .slice none 0 0, .slice none 0 0, .slice none 0 0] 41))
  go_wp2_with fail
  generalize hw5 : w4.alloc _ = w5 at *
  have hs5 : w5.heap.size = w4.heap.size + 1 := by rw [← hw5]; simp
  clear hw5
  have hl := sp_lit w5
  have HAl := Lib.hid (below_then (below_alloc w5 (.cells #[.int .i64 1, .int .i64 0] 3)) (below_then (below_alloc _ (.cells #[.int .i64 1, .int .i64 (-1)] 3)) (below_then (below_alloc _ (.cells #[.slice (some ⟨w5.heap.size, 0, none⟩) 2 2, .slice (some ⟨w5.heap.size + 1, 0, none⟩) 2 2] 25)) (below_alloc _ (.cells #[.int .i64 0, .int .i64 1, .int .i64 0, .int .i64 1, .int .i64 1, .int .i64 0] 72)))))
  have HSm := Lib.hid (sameSpace_any _ _ _ _ _ _ _ _ _ ((HSp4.out.below HC.out).below HAl.out) hl)
  rw [hs5] at HSm HAl
  have HSe := Lib.hid (show sameSp exT.states [[1, 0], [1, -1]] [⟨0, 1, 0⟩, ⟨1, 1, 0⟩] [⟨0, 1, 0⟩, ⟨1, 1, 0⟩] true true = true by simp [sameSp, exT])
  rw [HSe.out] at HSm
  clear hl HSe x0 x1 x2
  ((refine HSm.out.mono ?_); rintro e w6 ⟨rfl, hb6⟩)
  have HB6 := Lib.hid (below_then HBw4.out (below_then HC.out (below_then (below_eq HAl.out hs5) hb6)))
  obtain ⟨x0, _⟩ := (HCt.out.below (below_then (below_eq HAl.out hs5) hb6)).cells
  clear HSm hb6
  go_wp2_with fail
  go_ret
  exact ⟨rfl, HB6.out⟩
end
section
open Go.RowKit

theorem fault_parts (N : Nt) (M : List Int) (most : Int) :
    (∃ k : Int, faultR N M none 0 most = k ∧ (k = 1 ∨ k = 2) ∧ beR N [M] 0 most = .inl k) ∨
    (faultR N M none 0 most = 0 ∧ mkB N M = true ∧ 1 ≤ most ∧ most ≤ 1000 ∧ ((growT N M most.toNat = none ∧ beR N [M] 0 most = .inl 13) ∨ ∃ T, growT N M most.toNat = some T ∧ beR N [M] 0 most = .inr T)) := by
  unfold faultR beR
  simp only [List.all_cons, List.all_nil, Bool.and_true, List.headD_cons]
  cases hm : mkB N M with
  | false => exact .inl ⟨1, rfl, .inl rfl, rfl⟩
  | true =>
    simp only [if_true]
    cases hb : badR N 0 most with
    | true => exact .inl ⟨2, rfl, .inr rfl, rfl⟩
    | false =>
      have h1 : 1 ≤ most ∧ most ≤ 1000 := by
        unfold badR at hb
        simp only [Bool.or_eq_false_iff, decide_eq_false_iff_not] at hb
        omega
      refine .inr ⟨rfl, trivial, h1.1, h1.2, ?_⟩
      simp only [Bool.false_eq_true, if_false]
      cases hg : growT N M most.toNat with
      | none => exact .inl ⟨rfl, rfl⟩
      | some T => exact .inr ⟨T, rfl, rfl⟩
set_option maxHeartbeats 12800000 in
set_option maxRecDepth 100000 in
theorem coverGraphs_walk (N : Nt) (A : Option Addr) (n c : Nat) (Am : Option Addr) (m cm : Nat) (M : List Int) (most : Int) (w : World) (ht : Tb w) (h : NtIn w A N) (hn : N.tr.length = n) (hn2 : n ≤ 9223372036854775807) (hM : ZIn w Am M) (hm : M.length = m) (hm1 : m ≤ cm) (hm2 : cm ≤ 9223372036854775807) (_hz : ∀ z ∈ M, -9223372036854775808 ≤ z ∧ z ≤ 9223372036854775807) (_b : -9223372036854775808 ≤ most) (_B : most ≤ 9223372036854775807) :
    Calls Tryd.prog 3 #[.agg #[.int .i64 N.pl, .slice A n c, .int .i64 N.src, .int .i64 N.snk], .slice Am m cm, .int .i64 most] w fun e w' => e = .returned (.bool true) ∧ Below w.heap.size w w' := by
  have HB := Lib.hid (below_alloc w (.cells #[.int .i64 N.pl, .slice A n c, .int .i64 N.src, .int .i64 N.snk] 24))
  have HNb := Lib.hid (NB.new w N.pl A n c N.src N.snk)
  have HIn := Lib.hid (h.below HB.out)
  have HZ := Lib.hid (hM.below HB.out)
  have HT := Lib.hid (ht.below HB.out)
  have HM := Lib.hid hm
  have HNl := Lib.hid hn
  clear h hM ht hm hn
  go_enter Tryd.func3, Tryd.ntmps3
  go_wp2_with fail
  generalize w.alloc _ = w0 at *
  have HAw := Lib.hid (awake_any w0 HT.out)
  ((with_reducible refine HAw.out.mono ?_); rintro e w1 ⟨rfl, hb1⟩)
  have HB1 := Lib.hid (below_then HB.out hb1)
  have HNb1 := Lib.hid (HNb.out.below hb1)
  have HIn1 := Lib.hid (HIn.out.below hb1)
  have HZ1 := Lib.hid (HZ.out.below hb1)
  have HT1 := Lib.hid (HT.out.below hb1)
  clear HAw hb1 HB HNb HIn HZ HT
  obtain ⟨b0, b1, b2, b3⟩ := HNb1.out.cells
  have HSm := Lib.hid (small_any N A n c Am m cm w1 HIn1.out HNl.out hn2)
  go_wp2_with fail
  ((with_reducible refine HSm.out.mono ?_); rintro e w2 ⟨b, rfl, hb2⟩)
  have HB2 := Lib.hid (below_then HB1.out hb2)
  have HNb2 := Lib.hid (HNb1.out.below hb2)
  have HIn2 := Lib.hid (HIn1.out.below hb2)
  have HZ2 := Lib.hid (HZ1.out.below hb2)
  have HT2 := Lib.hid (HT1.out.below hb2)
  clear HSm hb2 HB1 HNb1 HIn1 HZ1 HT1 b0 b1 b2 b3
  obtain ⟨b0, b1, b2, b3⟩ := HNb2.out.cells
  have HAw := Lib.hid (awake_any w2 HT2.out)
  cases b with
  | false =>
    go_wp2_with fail
    ((with_reducible refine HAw.out.mono ?_); rintro e w3 ⟨rfl, hb3⟩)
    have HB3 := Lib.hid (below_then HB2.out hb3)
    go_wp2_with fail
    go_ret
    exact ⟨rfl, HB3.out⟩
  | true =>
    by_cases h6 : 60 < most
    · by_cases h10 : most ≤ 1000
      · have q6 : decide (60 < most) = true := by simpa using h6
        have q10 : decide (most ≤ 1000) = true := by simpa using h10
        clear h6 h10
        go_wp2_with fail
        ((with_reducible refine HAw.out.mono ?_); rintro e w3 ⟨rfl, hb3⟩)
        have HB3 := Lib.hid (below_then HB2.out hb3)
        go_wp2_with fail
        go_ret
        exact ⟨rfl, HB3.out⟩
      · have q6 : decide (60 < most) = true := by simpa using h6
        have q10 : decide (most ≤ 1000) = false := by simpa using h10
        clear h6
        have hgr := graph_any N A n c Am m cm M most w2 HIn2.out HNl.out hn2 HZ2.out HM.out hm1 hm2 HT2.out
        have HGr := Lib.hid hgr
        clear hgr HAw
        go_wp2_with fail
        ((with_reducible refine HGr.out.mono ?_); rintro e w3 ⟨hb3, hP⟩)
        have HB3 := Lib.hid (below_then HB2.out hb3)
        have HNb3 := Lib.hid (HNb2.out.below hb3)
        have HIn3 := Lib.hid (HIn2.out.below hb3)
        have HZ3 := Lib.hid (HZ2.out.below hb3)
        have HT3 := Lib.hid (HT2.out.below hb3)
        clear hb3 HGr HB2 HNb2 HIn2 HZ2 HT2 b0 b1 b2 b3
        rcases fault_parts N M most with ⟨f, hf, hf12, hbe⟩ | ⟨hf, hmk, hmo1, hmo2, ⟨hg, hbe⟩ | ⟨T, hg, hbe⟩⟩
        · rw [hbe] at hP
          have he : e = .returned (.tuple #[.agg #[.slice none 0 0, .slice none 0 0, .bool false], .int .i64 f]) := hP
          subst he
          clear hP
          have HA := Lib.hid (below_alloc w3 (.cells #[.slice none 0 0, .slice none 0 0, .bool false] 31))
          have HX := Lib.hid (SpB.new w3 (.slice none 0 0) (.slice none 0 0) false)
          obtain ⟨b0, b1, b2, b3⟩ := HNb3.out.cells
          have hlt3 := HNb3.out.lt
          have q1 : (f != 0) = true := by rcases hf12 with rfl | rfl <;> rfl
          have HFa := Lib.hid (fault_nil N A n c Am m cm M 0 most _ (HIn3.out.below HA.out) HNl.out hn2 (HZ3.out.below HA.out) HM.out (by omega))
          rw [hf] at HFa
          clear hf hbe hf12
          go_wp2_with fail
          ((with_reducible refine HFa.out.mono ?_); rintro e w4 ⟨rfl, hb4⟩)
          have HB4 := Lib.hid (below_then HB3.out (below_then HA.out hb4))
          obtain ⟨x0, x1, x2⟩ := (HX.out.below hb4).cells
          go_wp2_with fail
          go_ret
          exact ⟨ret_bool (by simp), HB4.out⟩
        · omega
        · omega
    · have q6 : decide (60 < most) = false := by simpa using h6
      clear h6
      have hgr := graph_any N A n c Am m cm M most w2 HIn2.out HNl.out hn2 HZ2.out HM.out hm1 hm2 HT2.out
      have HGr := Lib.hid hgr
      clear hgr HAw
      go_wp2_with fail
      ((with_reducible refine HGr.out.mono ?_); rintro e w3 ⟨hb3, hP⟩)
      have HB3 := Lib.hid (below_then HB2.out hb3)
      have HNb3 := Lib.hid (HNb2.out.below hb3)
      have HIn3 := Lib.hid (HIn2.out.below hb3)
      have HZ3 := Lib.hid (HZ2.out.below hb3)
      have HT3 := Lib.hid (HT2.out.below hb3)
      clear hb3 HGr HB2 HNb2 HIn2 HZ2 HT2 b0 b1 b2 b3
      rcases fault_parts N M most with ⟨f, hf, hf12, hbe⟩ | ⟨hf, hmk, hmo1, hmo2, ⟨hg, hbe⟩ | ⟨T, hg, hbe⟩⟩
      · rw [hbe] at hP
        have he : e = .returned (.tuple #[.agg #[.slice none 0 0, .slice none 0 0, .bool false], .int .i64 f]) := hP
        subst he
        clear hP
        have HA := Lib.hid (below_alloc w3 (.cells #[.slice none 0 0, .slice none 0 0, .bool false] 31))
        have HX := Lib.hid (SpB.new w3 (.slice none 0 0) (.slice none 0 0) false)
        obtain ⟨b0, b1, b2, b3⟩ := HNb3.out.cells
        have hlt3 := HNb3.out.lt
        have q1 : (f != 0) = true := by rcases hf12 with rfl | rfl <;> rfl
        have HFa := Lib.hid (fault_nil N A n c Am m cm M 0 most _ (HIn3.out.below HA.out) HNl.out hn2 (HZ3.out.below HA.out) HM.out (by omega))
        rw [hf] at HFa
        clear hf hbe hf12
        go_wp2_with fail
        ((with_reducible refine HFa.out.mono ?_); rintro e w4 ⟨rfl, hb4⟩)
        have HB4 := Lib.hid (below_then HB3.out (below_then HA.out hb4))
        obtain ⟨x0, x1, x2⟩ := (HX.out.below hb4).cells
        go_wp2_with fail
        go_ret
        exact ⟨ret_bool (by simp), HB4.out⟩
      · rw [hbe] at hP
        have he : e = .returned (.tuple #[.agg #[.slice none 0 0, .slice none 0 0, .bool false], .int .i64 13]) := hP
        subst he
        clear hP
        have HA := Lib.hid (below_alloc w3 (.cells #[.slice none 0 0, .slice none 0 0, .bool false] 31))
        have HX := Lib.hid (SpB.new w3 (.slice none 0 0) (.slice none 0 0) false)
        obtain ⟨b0, b1, b2, b3⟩ := HNb3.out.cells
        have hlt3 := HNb3.out.lt
        have HFa := Lib.hid (fault_nil N A n c Am m cm M 0 most _ (HIn3.out.below HA.out) HNl.out hn2 (HZ3.out.below HA.out) HM.out (by omega))
        rw [hf] at HFa
        have HMk := Lib.hid hmk
        have HG := Lib.hid hg
        clear hf hbe hmk hg
        go_wp2_with fail
        ((with_reducible refine HFa.out.mono ?_); rintro e w4 ⟨rfl, hb4⟩)
        have hb34 := below_then HA.out hb4
        have HB4 := Lib.hid (below_then HB3.out hb34)
        have HNb4 := Lib.hid (HNb3.out.below hb34)
        have HIn4 := Lib.hid (HIn3.out.below hb34)
        have HZ4 := Lib.hid (HZ3.out.below hb34)
        have HT4 := Lib.hid (HT3.out.below hb34)
        have HX4 := Lib.hid (HX.out.below hb4)
        clear hb34 hb4 HFa HA HX HB3 HNb3 HIn3 HZ3 HT3 b0 b1 b2 b3 hlt3
        obtain ⟨b0, b1, b2, b3⟩ := HNb4.out.cells
        obtain ⟨mo, rfl⟩ := Int.eq_ofNat_of_zero_le (show 0 ≤ most by omega)
        have HRg := Lib.hid (rgraph_any N A n c Am m cm M mo w4 HIn4.out.1 HNl.out HZ4.out HM.out hm1 hm2 HMk.out (by omega))
        go_wp2_with fail
        ((with_reducible refine HRg.out.mono ?_); rintro e w5 ⟨hb5, hP⟩)
        have hg9 := HG.out
        rw [Int.toNat_natCast] at hg9
        rw [hg9] at hP
        have he : e = .returned (.tuple #[.agg #[.slice none 0 0, .slice none 0 0, .bool false], .bool false]) := hP
        subst he
        have HB5 := Lib.hid (below_then HB4.out (below_then hb5 (below_alloc w5 (.cells #[.slice none 0 0, .slice none 0 0, .bool false] 31))))
        have HX5 := Lib.hid (HX4.out.below hb5)
        have hx5 := HX5.out.lt
        clear hP hb5 b0 b1 b2 b3
        obtain ⟨x0, x1, x2⟩ := HX5.out.cells
        go_wp2_with fail
        go_ret
        exact ⟨ret_bool (by simp), HB5.out⟩
      · rw [hbe] at hP
        obtain ⟨vS, vM, rfl, hO, hMv⟩ := hP
        have HSp := Lib.hid (SpIn.mk (fl := true) hO hMv)
        obtain ⟨Aa, ca, rfl⟩ := hO.slice
        obtain ⟨Ab, cb, rfl⟩ := hMv.slice
        clear hO hMv
        have HA := Lib.hid (below_alloc w3 (.cells #[.slice Aa T.states.length ca, .slice Ab (movesOf T).length cb, .bool true] 31))
        have HX := Lib.hid (SpB.new w3 (.slice Aa T.states.length ca) (.slice Ab (movesOf T).length cb) true)
        obtain ⟨b0, b1, b2, b3⟩ := HNb3.out.cells
        have hlt3 := HNb3.out.lt
        have HFa := Lib.hid (fault_nil N A n c Am m cm M 0 most _ (HIn3.out.below HA.out) HNl.out hn2 (HZ3.out.below HA.out) HM.out (by omega))
        rw [hf] at HFa
        have HMk := Lib.hid hmk
        have HG := Lib.hid hg
        clear hf hbe hmk hg
        go_wp2_with fail
        ((with_reducible refine HFa.out.mono ?_); rintro e w4 ⟨rfl, hb4⟩)
        have hb34 := below_then HA.out hb4
        have HB4 := Lib.hid (below_then HB3.out hb34)
        have HNb4 := Lib.hid (HNb3.out.below hb34)
        have HIn4 := Lib.hid (HIn3.out.below hb34)
        have HZ4 := Lib.hid (HZ3.out.below hb34)
        have HT4 := Lib.hid (HT3.out.below hb34)
        have HX4 := Lib.hid (HX.out.below hb4)
        have HSp4 := Lib.hid (HSp.out.below hb34)
        clear hb34 hb4 HFa HA HX HB3 HNb3 HIn3 HZ3 HT3 b0 b1 b2 b3 hlt3 HSp
        obtain ⟨b0, b1, b2, b3⟩ := HNb4.out.cells
        obtain ⟨mo, rfl⟩ := Int.eq_ofNat_of_zero_le (show 0 ≤ most by omega)
        have HRg := Lib.hid (rgraph_any N A n c Am m cm M mo w4 HIn4.out.1 HNl.out HZ4.out HM.out hm1 hm2 HMk.out (by omega))
        go_wp2_with fail
        ((with_reducible refine HRg.out.mono ?_); rintro e w5 ⟨hb5, hP⟩)
        have hg9 := HG.out
        rw [Int.toNat_natCast] at hg9
        rw [hg9] at hP
        obtain ⟨v, rfl, hs⟩ := hP
        have HS2 := Lib.hid hs
        obtain ⟨Ac, cc, Ad, cd, rfl, _⟩ := hs
        have HX5 := Lib.hid (HX4.out.below hb5)
        have HSp5 := Lib.hid (HSp4.out.below hb5)
        have hx5 := HX5.out.lt
        have HB5 := Lib.hid (below_then HB4.out hb5)
        have HA5 := Lib.hid (below_alloc w5 (.cells #[.slice Ac T.states.length cc, .slice Ad (movesOf T).length cd, .bool true] 31))
        clear hb5 b0 b1 b2 b3 HX4 HSp4
        obtain ⟨x0, x1, x2⟩ := HX5.out.cells
        have HSs := Lib.hid (sameSpace_any _ _ _ _ _ _ _ _ _ (HSp5.out.below HA5.out) (HS2.out.below HA5.out))
        have HE := Lib.hid (show sameSp T.states T.states (movesOf T) (movesOf T) true true = true by simp [sameSp])
        rw [HE.out] at HSs
        go_wp2_with fail
        ((with_reducible refine HSs.out.mono ?_); rintro e w6 ⟨rfl, hb6⟩)
        have HB6 := Lib.hid (below_then HB5.out (below_then HA5.out hb6))
        go_wp2_with fail
        go_ret
        exact ⟨rfl, HB6.out⟩
end
end Go.Proofs.YtjojmmabcjccdaaDoor
