/- The life cycle of an execution: after, Lives, Next of both texts: what a call returns. -/
import Derived.Test.YtbbdgncjpbfooaaGreatDoorEj
import Derived.Deep.Cut
import Derived.Laws.Tables
import Derived.Laws.CopyOwn
namespace Go.Proofs.YtbbdgncjpbfooaaGreatDoor
open Go.RowKit

/-- the state after a step -/
def aftZ (s t : Int) : Int :=
  if t = 1 ∧ s = 0 then 1 else if t = 2 ∧ s ≤ 1 then 2 else if t = 3 ∧ s = 2 then 3 else if t = 4 ∧ s = 3 then 2 else if t = 5 ∧ s ≤ 2 then 4 else if t = 6 ∧ 1 ≤ s ∧ s ≤ 3 then 5 else -1
theorem aft_in (s t : Int) : aftZ s t = -1 ∨ (0 ≤ aftZ s t ∧ aftZ s t ≤ 5) := by
  unfold aftZ
  by_cases h1 : t = 1 ∧ s = 0
  · rw [if_pos h1]; omega
  rw [if_neg h1]
  by_cases h2 : t = 2 ∧ s ≤ 1
  · rw [if_pos h2]; omega
  rw [if_neg h2]
  by_cases h3 : t = 3 ∧ s = 2
  · rw [if_pos h3]; omega
  rw [if_neg h3]
  by_cases h4 : t = 4 ∧ s = 3
  · rw [if_pos h4]; omega
  rw [if_neg h4]
  by_cases h5 : t = 5 ∧ s ≤ 2
  · rw [if_pos h5]; omega
  rw [if_neg h5]
  by_cases h6 : t = 6 ∧ 1 ≤ s ∧ s ≤ 3
  · rw [if_pos h6]; omega
  rw [if_neg h6]; omega
theorem six_of (s : Int) (h0 : 0 ≤ s) (h5 : s ≤ 5) : s = 0 ∨ s = 1 ∨ s = 2 ∨ s = 3 ∨ s = 4 ∨ s = 5 := by omega
theorem step_of (s : Int) (h0 : 1 ≤ s) (h5 : s ≤ 6) : s = 1 ∨ s = 2 ∨ s = 3 ∨ s = 4 ∨ s = 5 ∨ s = 6 := by omega
/-- the table -/
def aftTab : Array Value := #[.int .i64 1, .int .i64 2, .int .i64 (-1), .int .i64 (-1), .int .i64 4, .int .i64 (-1), .int .i64 (-1), .int .i64 2, .int .i64 (-1), .int .i64 (-1), .int .i64 4, .int .i64 5, .int .i64 (-1), .int .i64 (-1), .int .i64 3, .int .i64 (-1), .int .i64 4, .int .i64 5, .int .i64 (-1), .int .i64 (-1), .int .i64 (-1), .int .i64 2, .int .i64 (-1), .int .i64 5, .int .i64 (-1), .int .i64 (-1), .int .i64 (-1), .int .i64 (-1), .int .i64 (-1), .int .i64 (-1), .int .i64 (-1), .int .i64 (-1), .int .i64 (-1), .int .i64 (-1), .int .i64 (-1), .int .i64 (-1)]
theorem aft_at (i j : Nat) (hi : i < 6) (hj : j < 6) : aftTab[i * 6 + j]? = some (.int .i64 (aftZ i (j + 1))) := by
  obtain rfl | rfl | rfl | rfl | rfl | rfl : i = 0 ∨ i = 1 ∨ i = 2 ∨ i = 3 ∨ i = 4 ∨ i = 5 := by omega
  all_goals
    obtain rfl | rfl | rfl | rfl | rfl | rfl : j = 0 ∨ j = 1 ∨ j = 2 ∨ j = 3 ∨ j = 4 ∨ j = 5 := by omega
    all_goals rfl
set_option maxHeartbeats 1600000 in
set_option maxRecDepth 100000 in
theorem after_any (s t : Int) (w : World) (hs0 : 0 ≤ s) (hs5 : s ≤ 5) (ht1 : 1 ≤ t) (ht6 : t ≤ 6) :
    Calls Tryz.prog 58 #[.int .i64 s, .int .i64 t] w fun e w' => e = .returned (.int .i64 (aftZ s t)) ∧ Below w.heap.size w w' := by
  obtain ⟨i, rfl⟩ := Int.eq_ofNat_of_zero_le hs0
  obtain ⟨j, hj⟩ := Int.eq_ofNat_of_zero_le (show 0 ≤ t - 1 by omega)
  obtain rfl : t = (j : Int) + 1 := by omega
  clear hj hs0
  have hcell : ∀ old : Array Value, ((w.alloc (.cells old 116)).setRow w.heap.size aftTab).cell? ⟨w.heap.size, i * 6 + j, none⟩ = some (.int .i64 (aftZ i (j + 1))) := fun old => by
    rw [cell_of_row _ _ _ aftTab 116 (0, 0) (setRow_heap _ _ old _ _ _ (heap_alloc_new w _))]
    exact aft_at i j (by omega) (by omega)
  go_enter Tryz.func58, Tryz.ntmps58
  go_wp2_with (refine wpList_store_row (by rfl) 116 (.tmp 5) (.tmp 12) (by rfl) w.heap.size aftTab (by rfl) (by rfl) 116 _ (heap_alloc_new w _) (by kernel_rfl) (by rfl) (by kernel_rfl) ?_)
  go_ret
  exact ⟨rfl, below_setRow (below_alloc w _) (Nat.le_refl _) _⟩
/-- the state after steps, or the place of a fault, and the error number -/
def livesZ : Nat → Int → List Int → Int × Int
  | _, st, [] => (st, 0)
  | k, st, x :: l => if x < 1 ∨ 6 < x then ((k : Int), 2) else if aftZ st x = -1 then ((k : Int), 20) else livesZ (k + 1) (aftZ st x) l
def livesV (l : List Int) : Int × Int := if 1000 < l.length then (0, 5) else livesZ 0 0 l
theorem lives_nil (k : Nat) (st : Int) : livesZ k st [] = (st, 0) := rfl
theorem lives_range (k : Nat) (st x : Int) (l : List Int) (h : x < 1 ∨ 6 < x) : livesZ k st (x :: l) = ((k : Int), 2) := by rw [livesZ, if_pos h]
theorem lives_no (k : Nat) (st x : Int) (l : List Int) (h1 : 1 ≤ x) (h6 : x ≤ 6) (h : aftZ st x = -1) : livesZ k st (x :: l) = ((k : Int), 20) := by rw [livesZ, if_neg (by omega), if_pos h]
theorem lives_on (k : Nat) (st x : Int) (l : List Int) (h1 : 1 ≤ x) (h6 : x ≤ 6) (h : aftZ st x ≠ -1) : livesZ k st (x :: l) = livesZ (k + 1) (aftZ st x) l := by rw [livesZ, if_neg (by omega), if_neg h]
/-- a slice of numbers reads as a list -/
def ZIn (w : World) (A : Option Addr) (Z : List Int) : Prop := ∀ i (h : i < Z.length), ∃ ad, A = some ad ∧ (ad.add i).block < w.heap.size ∧ w.cell? (ad.add i) = some (.int .i64 Z[i])
theorem ZIn.below {w w' : World} {A : Option Addr} {Z : List Int} (h : ZIn w A Z) (hb : Below w.heap.size w w') : ZIn w' A Z := by
  intro i hi
  obtain ⟨ad, e, h1, h2⟩ := h i hi
  exact ⟨ad, e, by have := hb.size; omega, by rw [hb.cell h1]; exact h2⟩
theorem ret_ii {a b c d : Int} (h : (c, d) = (a, b)) : Ending.returned (.tuple #[.int .i64 a, .int .i64 b]) = .returned (.tuple #[.int .i64 c, .int .i64 d]) := by cases h; rfl
theorem drop_at (Z : List Int) (k : Nat) (h : k < Z.length) : Z.drop k = Z[k] :: Z.drop (k + 1) := List.drop_eq_getElem_cons h
set_option maxHeartbeats 3200000 in
set_option maxRecDepth 100000 in
theorem lives_any (A : Option Addr) (n cap : Nat) (Z : List Int) (w : World) (h : ZIn w A Z) (hn : Z.length = n) (hn2 : n ≤ 9223372036854775807) :
    Calls Tryz.prog 27 #[.slice A n cap] w fun e w' => e = .returned (.tuple #[.int .i64 (livesV Z).1, .int .i64 (livesV Z).2]) ∧ Below w.heap.size w w' := by
  by_cases h1000 : n ≤ 1000
  · have q : (n : Int) ≤ 1000 := by omega
    have HV := Lib.hid (show livesV Z = livesZ 0 0 Z by unfold livesV; rw [if_neg (by omega)])
    generalize livesV Z = R at *
    have H0 := Lib.hid h; clear h
    have HN := Lib.hid hn; clear hn
    go_enter Tryz.func27, Tryz.ntmps27
    go_wp2_with fail
    go_loopg [4, 12] (n) (fun g sv i wr => ∃ (k : Nat) (st : Int), k + g = n ∧ sv = .int .i64 st ∧ i = .int .i64 k ∧ 0 ≤ st ∧ st ≤ 5 ∧ livesZ k st (Z.drop k) = R ∧ Below w.heap.size w wr)
    case atStart => exact ⟨0, 0, by omega, rfl, rfl, by omega, by omega, HV.out.symm, Below.refl _ _⟩
    case round =>
      obtain ⟨k, st, hk, rfl, rfl, hs0, hs5, hI, hB⟩ := hrel
      have HK := Lib.hid hk
      have HI := Lib.hid hI
      have HB := Lib.hid hB
      have hle : k ≤ n := by omega
      clear hk hI hB
      by_cases hlt : k < n
      · have hlt' : k < Z.length := by rw [HN.out]; exact hlt
        obtain ⟨ad, rfl, hp, c0⟩ := (H0.out.below HB.out) k hlt'
        have HD := Lib.hid (drop_at Z k hlt')
        generalize Z[k] = x at *
        rw [HD.out] at HI
        clear hlt'
        by_cases hr : x < 1 ∨ 6 < x
        · have HR := Lib.hid (show R = ((k : Int), 2) by rw [← HI.out, lives_range _ _ _ _ hr])
          rcases hr with hr | hr
          · go_wp2_with fail
            go_ret2
            exact ⟨ret_ii (by rw [HR.out]), HB.out⟩
          · have d1 : decide (x < 1) = false := by simp; omega
            go_wp2_with fail
            go_ret2
            exact ⟨ret_ii (by rw [HR.out]), HB.out⟩
        · have g1 : 1 ≤ x := by omega
          have g6 : x ≤ 6 := by omega
          have d1 : decide (x < 1) = false := by simp; omega
          have d2 : decide (6 < x) = false := by simp; omega
          clear hr
          have HA := Lib.hid (fun w => after_any st x w hs0 hs5 g1 g6)
          have hin := aft_in st x
          by_cases ha : aftZ st x = -1
          · have HR := Lib.hid (show R = ((k : Int), 20) by rw [← HI.out, lives_no _ _ _ _ g1 g6 ha])
            rw [ha] at HA
            clear ha hin
            go_wp2_with fail
            ((with_reducible refine (HA.out _).mono ?_); rintro e w1 ⟨rfl, hb1⟩)
            go_wp2_with fail
            go_ret2
            exact ⟨ret_ii (by rw [HR.out]), below_then HB.out hb1⟩
          · have HR := Lib.hid (show livesZ (k + 1) (aftZ st x) (Z.drop (k + 1)) = R by rw [← HI.out, lives_on _ _ _ _ g1 g6 ha])
            generalize aftZ st x = st2 at *
            have q1 : (st2 == -1) = false := by simpa using ha
            have q2 : 0 ≤ st2 := by omega
            have q3 : st2 ≤ 5 := by omega
            clear ha hin
            go_wp2_with fail
            ((with_reducible refine (HA.out _).mono ?_); rintro e w1 ⟨rfl, hb1⟩)
            go_wp2_with fail
            go_roundg (gk - 1)
            case measure => have := HK.out; omega
            case rel => exact ⟨k + 1, st2, by have := HK.out; omega, rfl, by go_num, by omega, by omega, HR.out, below_then HB.out hb1⟩
      · obtain rfl : k = n := by omega
        have HR := Lib.hid (show R = (st, 0) by rw [← HI.out, List.drop_eq_nil_of_le (by have := HN.out; omega)]; rfl)
        go_wp2_with fail
        go_ret2
        exact ⟨ret_ii (by rw [HR.out]), HB.out⟩
  · have q : (1000 : Int) < (n : Int) := by omega
    have HV := Lib.hid (show livesV Z = (0, 5) by unfold livesV; rw [if_pos (by omega)])
    clear h
    go_enter Tryz.func27, Tryz.ntmps27
    go_wp2_with fail
    go_ret2
    exact ⟨ret_ii (by rw [HV.out]), Below.refl _ _⟩
end Go.Proofs.YtbbdgncjpbfooaaGreatDoor
