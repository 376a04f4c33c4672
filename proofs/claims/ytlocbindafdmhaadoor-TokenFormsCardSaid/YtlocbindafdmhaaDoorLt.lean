/- TokenReads: what a call returns. -/
import Derived.Test.YtlocbindafdmhaaDoorKz
namespace Go.Proofs.YtlocbindafdmhaaDoor
open Go.RowKit

theorem toks_len (f : Nat) : ∀ (l : List UInt8) (p : Nat × Nat) (out L : List Tk), out.length ≤ 4000 → toks f l p out = .ok L → L.length ≤ 4001 := by
  induction f with
  | zero => intro l p out L _ h; rw [toks] at h; cases h
  | succ f ih =>
    intro l p out L ho h
    by_cases h0 : l.drop (skipN l false) = []
    · rw [toks_end f l p out h0] at h
      cases h
      rw [List.length_append]; simp; omega
    · cases hM : readTok (l.drop (skipN l false)) with
      | error e => rw [toks_err f l p out e h0 hM] at h; cases h
      | ok x =>
        obtain ⟨t, n⟩ := x
        by_cases h4 : out.length = 4000
        · rw [toks_full f l p out t n h0 hM h4] at h; cases h
        · rw [toks_next f l p out t n h0 hM h4] at h
          exact ih _ _ _ _ (by simp; omega) h
theorem tokens_len (l : List UInt8) : (tokens l).1.length ≤ 4001 := by
  by_cases h : 16384 < l.length
  · unfold tokens; rw [if_pos h]; simp
  · rw [tokens_short l (by omega)]
    cases hR : toks (l.length + 1) l (1, 1) [] with
    | error x => obtain ⟨p, e⟩ := x; simp [tokX]
    | ok L => exact toks_len _ _ _ _ _ (by simp) hR
theorem own_below {w w' : World} {b n : Nat} {v : Value} {xs : List Value} (h : w.ownsRow b 33 5 v n xs) (hb : Below w.heap.size w w') : w'.ownsRow b 33 5 v n xs := by
  refine h.kept (row := none) ⟨hb.os, hb.tape, hb.output, hb.size, fun k hk _ => hb.block k hk⟩ ?_
  cases hv : v.ownBlock
  · exact .inl rfl
  · right; simp
/-- two cells of a new block, behind calls that only make memory -/
theorem two_cells {w w' : World} {a b : Value} {T : TypeId} (hb : Below (w.alloc (.cells #[a, b] T)).heap.size (w.alloc (.cells #[a, b] T)) w') :
    w'.cell? ⟨w.heap.size, 0, none⟩ = some a ∧ w'.cell? ⟨w.heap.size, 0 + 1, none⟩ = some b := by
  have b0 : w'.heap[w.heap.size]? = some (.cells #[a, b] T (0, 0)) := by
    rw [hb.block _ (by simp)]; exact Array.getElem?_push_size ..
  exact ⟨by rw [Lib.cell_of_heap b0]; rfl, by rw [Lib.cell_of_heap b0]; rfl⟩

set_option maxHeartbeats 3200000 in
set_option maxRecDepth 100000 in
theorem reads_awake (s : ByteArray) (w : World) (hP : PR w) (h : (600 < s.size ∧ s.size ≤ 16384) ∨ 16394 < s.size) (hs : s.size ≤ 9223372036854775807) :
    Calls Tryd.prog 3 #[.string s] w fun e w' => e = .returned (.bool true) ∧ Below w.heap.size w w' := by
  have HP := Lib.hid hP; clear hP
  rcases h with ⟨h1, h2⟩ | h1
  · have q1 : (600 : Int) < (s.size : Int) := by omega
    have q2 : (s.size : Int) ≤ 16384 := by omega
    go_enter Tryd.func3, Tryd.ntmps3
    go_wp2_with fail
    ((with_reducible refine (awake_any _ HP.out).mono ?_); rintro e w1 ⟨rfl, hb1⟩)
    have HB := Lib.hid hb1
    have HP1 := Lib.hid (HP.out.below hb1)
    clear hb1
    go_wp2_with fail
    ((with_reducible refine (awake_any _ HP1.out).mono ?_); rintro e w2 ⟨rfl, hb2⟩)
    go_wp2_with fail
    go_ret
    exact ⟨rfl, below_then HB.out hb2⟩
  · have q1 : (600 : Int) < (s.size : Int) := by omega
    have q2 : (16384 : Int) < (s.size : Int) := by omega
    have q3 : (16394 : Int) < (s.size : Int) := by omega
    go_enter Tryd.func3, Tryd.ntmps3
    go_wp2_with fail
    ((with_reducible refine (awake_any _ HP.out).mono ?_); rintro e w1 ⟨rfl, hb1⟩)
    have HB := Lib.hid hb1
    have HP1 := Lib.hid (HP.out.below hb1)
    clear hb1
    go_wp2_with fail
    ((with_reducible refine (awake_any _ HP1.out).mono ?_); rintro e w2 ⟨rfl, hb2⟩)
    go_wp2_with fail
    go_ret
    exact ⟨rfl, below_then HB.out hb2⟩
set_option maxHeartbeats 3200000 in
set_option maxRecDepth 100000 in
theorem reads_do (s : ByteArray) (w : World) (hP : PR w) (h : s.size ≤ 600 ∨ (16384 < s.size ∧ s.size ≤ 16394)) :
    Calls Tryd.prog 3 #[.string s] w fun e w' => e = .returned (.bool true) ∧ Below w.heap.size w w' := by
  have HP := Lib.hid hP; clear hP
  have HT := Lib.hid (fun w hp => tokens_any s w hp)
  have HR := Lib.hid (fun w => rtokens_any s w)
  have hL := tokens_len s.data.toList
  generalize tokens s.data.toList = X at HT HR hL
  obtain ⟨L, ⟨p1, p2⟩, k⟩ := X
  simp only at hL
  rcases h with h | ⟨h1, h2⟩
  · have q1 : (s.size : Int) ≤ 600 := by omega
    go_enter Tryd.func3, Tryd.ntmps3
    go_wp2_with fail
    ((with_reducible refine (awake_any _ HP.out).mono ?_); rintro e w1 ⟨rfl, hb1⟩)
    have HB := Lib.hid hb1
    have HP1 := Lib.hid (HP.out.below hb1)
    clear hb1
    go_wp2_with fail
    ((with_reducible refine (HT.out _ HP1.out).mono ?_); rintro e w2 ⟨v, rfl, hown, hb2⟩)
    simp only at hown
    have HO := Lib.hid hown
    have HB2 := Lib.hid (below_then HB.out hb2)
    clear hown hb2
    go_wp2_with fail
    ((with_reducible refine (HR.out _).mono ?_); rintro e w4 ⟨v', rfl, hown, hb4⟩)
    simp only at hown
    have HO1 := Lib.hid ((own_below (HO.out.alloc _) hb4).alloc (.cells #[.int .i64 (p1 : Int), .int .i64 (p2 : Int)] 25))
    have HO2 := Lib.hid (hown.alloc (.cells #[.int .i64 (p1 : Int), .int .i64 (p2 : Int)] 25))
    have HB4 := Lib.hid (below_then (below_then HB2.out (below_alloc w2 _)) hb4)
    have HC := Lib.hid hb4
    clear hown hb4
    go_wp2_with fail
    ((with_reducible refine (equal_same L _ _ _ _ _ (by omega) HO1.out HO2.out).mono ?_); rintro e w6 ⟨rfl, hb6⟩)
    obtain ⟨x0, x1⟩ := two_cells hb6
    obtain ⟨y0, y1⟩ := two_cells (below_then HC.out (below_then (below_alloc w4 _) hb6))
    have HB6 := Lib.hid (below_then (below_then HB4.out (below_alloc w4 _)) hb6)
    clear hb6
    go_wp2_with fail
    go_ret
    exact ⟨rfl, HB6.out⟩
  · have q1 : (600 : Int) < (s.size : Int) := by omega
    have q2 : (16384 : Int) < (s.size : Int) := by omega
    have q3 : (s.size : Int) ≤ 16394 := by omega
    go_enter Tryd.func3, Tryd.ntmps3
    go_wp2_with fail
    ((with_reducible refine (awake_any _ HP.out).mono ?_); rintro e w1 ⟨rfl, hb1⟩)
    have HB := Lib.hid hb1
    have HP1 := Lib.hid (HP.out.below hb1)
    clear hb1
    go_wp2_with fail
    ((with_reducible refine (HT.out _ HP1.out).mono ?_); rintro e w2 ⟨v, rfl, hown, hb2⟩)
    simp only at hown
    have HO := Lib.hid hown
    have HB2 := Lib.hid (below_then HB.out hb2)
    clear hown hb2
    go_wp2_with fail
    ((with_reducible refine (HR.out _).mono ?_); rintro e w4 ⟨v', rfl, hown, hb4⟩)
    simp only at hown
    have HO1 := Lib.hid ((own_below (HO.out.alloc _) hb4).alloc (.cells #[.int .i64 (p1 : Int), .int .i64 (p2 : Int)] 25))
    have HO2 := Lib.hid (hown.alloc (.cells #[.int .i64 (p1 : Int), .int .i64 (p2 : Int)] 25))
    have HB4 := Lib.hid (below_then (below_then HB2.out (below_alloc w2 _)) hb4)
    have HC := Lib.hid hb4
    clear hown hb4
    go_wp2_with fail
    ((with_reducible refine (equal_same L _ _ _ _ _ (by omega) HO1.out HO2.out).mono ?_); rintro e w6 ⟨rfl, hb6⟩)
    obtain ⟨x0, x1⟩ := two_cells hb6
    obtain ⟨y0, y1⟩ := two_cells (below_then HC.out (below_then (below_alloc w4 _) hb6))
    have HB6 := Lib.hid (below_then (below_then HB4.out (below_alloc w4 _)) hb6)
    clear hb6
    go_wp2_with fail
    go_ret
    exact ⟨rfl, HB6.out⟩
theorem tokenReads_walk (s : ByteArray) (w : World) (hP : PR w) (hs : s.size ≤ 9223372036854775807) :
    Calls Tryd.prog 3 #[.string s] w fun e w' => e = .returned (.bool true) ∧ Below w.heap.size w w' := by
  by_cases h : s.size ≤ 600 ∨ (16384 < s.size ∧ s.size ≤ 16394)
  · exact reads_do s w hP h
  · exact reads_awake s w hP (by omega) hs
end Go.Proofs.YtlocbindafdmhaaDoor
