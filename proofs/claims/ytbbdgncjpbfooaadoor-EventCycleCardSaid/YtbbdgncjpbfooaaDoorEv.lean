/- slices.Equal at two rows of the same numbers; EventLives: what a call returns. -/
import Derived.Test.YtbbdgncjpbfooaaDoorEu
namespace Go.Proofs.YtbbdgncjpbfooaaDoor
open Go.RowKit

/-- slices.Equal at two rows of one's own that hold the same numbers -/
theorem equal_ints {Z : List Int} {v1 v2 : Value} {b1 b2 : Nat} (w : World) (hl : Z.length ≤ 9223372036854775807) (h1 : w.ownsRow b1 3 1 v1 Z.length (Z.map (Value.int .i64))) (h2 : w.ownsRow b2 3 1 v2 Z.length (Z.map (Value.int .i64))) :
    Calls Tryd.prog 10 #[v1, v2] w fun e w' => e = .returned (.bool true) ∧ Below w.heap.size w w' := by
  obtain ⟨A1, c1, rfl, _, _, _, _, g1⟩ := own_ints h1
  obtain ⟨A2, c2, rfl, _, _, _, _, g2⟩ := own_ints h2
  rcases Nat.eq_zero_or_pos Z.length with h0 | h0
  · rw [h0]
    exact (Tryd.slices_Equal_int_empty A1 A2 c1 0 c2 w (by omega)).mono fun e w' ⟨he, hw⟩ => ⟨he, by subst hw; exact Below.refl _ _⟩
  · obtain ⟨a1, rfl, _, _, k1⟩ := g1 h0
    obtain ⟨a2, rfl, _, _, k2⟩ := g2 h0
    exact (Tryd.slices_Equal_int a1 0 Z.length c1 a2 0 Z.length c2 Z Z w (Nat.le_refl _) (Nat.le_refl _) hl hl k1 k2).mono fun e w' ⟨he, q, hw⟩ => ⟨by rw [he]; simp, by subst hw; exact below_drewN w q⟩
theorem nextV_len (Z : List Int) : (nextV Z).length ≤ 7 := by
  unfold nextV
  split
  · exact nxt_len _ _
  · simp
set_option maxHeartbeats 3200000 in
set_option maxRecDepth 100000 in
theorem eventLives_walk (A : Option Addr) (n cap : Nat) (Z : List Int) (w : World) (hP : PW w) (h : ZIn w A Z) (hn : Z.length = n) (_hc : n ≤ cap) (hm : cap ≤ 9223372036854775807) (_hz : ∀ z ∈ Z, -9223372036854775808 ≤ z ∧ z ≤ 9223372036854775807) :
    Calls Tryd.prog 3 #[.slice A n cap] w fun e w' => e = .returned (.bool true) ∧ Below w.heap.size w w' := by
  have HP := Lib.hid hP; clear hP
  have H0 := Lib.hid h; clear h
  have hn2 : n ≤ 9223372036854775807 := by omega
  have HL := Lib.hid (fun w h => lives_any A n cap Z w h hn hn2)
  have HR := Lib.hid (fun w h => rlives_any A n cap Z w h hn hn2)
  have HN := Lib.hid (fun w h => enext_any A n cap Z w h hn hn2)
  have HM := Lib.hid (fun w h => renext_any A n cap Z w h hn hn2)
  have hX := nextV_len Z
  generalize livesV Z = R at *
  generalize nextV Z = X at *
  obtain ⟨st, er⟩ := R
  clear hn _hc _hz
  by_cases h1 : 1100 < n
  · have q1 : (1100 : Int) < (n : Int) := by omega
    have q2 : (60 : Int) < (n : Int) := by omega
    have q3 : (1000 : Int) < (n : Int) := by omega
    go_enter Tryd.func3, Tryd.ntmps3
    go_wp2_with fail
    ((with_reducible refine (awake_any _ HP.out).mono ?_); rintro e w1 ⟨rfl, hb1⟩)
    go_wp2_with fail
    go_ret
    exact ⟨rfl, hb1⟩
  by_cases h2 : 60 < n ∧ n ≤ 1000
  · have q1 : (60 : Int) < (n : Int) := by omega
    have q2 : (n : Int) ≤ 1000 := by omega
    go_enter Tryd.func3, Tryd.ntmps3
    go_wp2_with fail
    ((with_reducible refine (awake_any _ HP.out).mono ?_); rintro e w1 ⟨rfl, hb1⟩)
    go_wp2_with fail
    go_ret
    exact ⟨rfl, hb1⟩
  have hz : ((n : Int) ≤ 60) ∨ ((60 : Int) < (n : Int) ∧ (1000 : Int) < (n : Int)) := by omega
  have q0 : (n : Int) ≤ 1100 := by omega
  clear h1 h2
  rcases hz with q1 | ⟨q1, q2⟩
  all_goals
    go_enter Tryd.func3, Tryd.ntmps3
    go_wp2_with fail
    ((with_reducible refine (awake_any _ HP.out).mono ?_); rintro e w1 ⟨rfl, hb1⟩)
    have HB := Lib.hid hb1
    clear hb1
    go_wp2_with fail
    ((with_reducible refine (HL.out _ (H0.out.below HB.out)).mono ?_); rintro e w2 ⟨rfl, hb2⟩)
    replace HB := Lib.hid (below_then HB.out hb2)
    clear hb2
    go_wp2_with fail
    ((with_reducible refine (HR.out _ (H0.out.below HB.out)).mono ?_); rintro e w3 ⟨rfl, hb3⟩)
    replace HB := Lib.hid (below_then HB.out hb3)
    clear hb3
    go_wp2_with fail
    ((with_reducible refine (HN.out _ (H0.out.below HB.out)).mono ?_); rintro e w4 ⟨v, rfl, ho, hb4⟩)
    have HO1 := Lib.hid ho
    replace HB := Lib.hid (below_then HB.out hb4)
    clear hb4 ho
    go_wp2_with fail
    ((with_reducible refine (HM.out _ (H0.out.below HB.out)).mono ?_); rintro e w5 ⟨v', rfl, ho, hb5⟩)
    have HE := Lib.hid (equal_ints w5 (by omega) (own_stays HO1.out hb5) ho)
    replace HB := Lib.hid (below_then HB.out hb5)
    clear hb5 ho
    go_wp2_with fail
    ((with_reducible refine HE.out.mono ?_); rintro e w6 ⟨rfl, hb6⟩)
    go_wp2_with fail
    go_ret
    exact ⟨rfl, below_then HB.out hb6⟩
end Go.Proofs.YtbbdgncjpbfooaaDoor
