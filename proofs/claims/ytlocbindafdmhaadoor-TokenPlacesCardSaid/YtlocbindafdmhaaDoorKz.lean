/- awake of the statements on tokens, and TokenReads: what a call returns. -/
import Derived.Test.YtlocbindafdmhaaDoorKx
import Derived.Test.YtlocbindafdmhaaDoorKy
namespace Go.Proofs.YtlocbindafdmhaaDoor
open Go.RowKit

/-- the tokens of the chapter's example -/
def awL : List Tk := [(⟨1, [97, 98], 0⟩, (1, 1)), (⟨4, [60, 61], 0⟩, (1, 4)), (⟨2, [], 12⟩, (1, 7)), (⟨3, [120], 0⟩, (2, 1)), (⟨5, [], 0⟩, (2, 4))]
set_option maxRecDepth 100000 in
theorem aw_tokens : tokens [97, 98, 32, 60, 61, 32, 49, 50, 32, 35, 32, 99, 10, 34, 120, 34] = (awL, (0, 0), 0) := by decide +kernel
/-- a slice literal of the example's tokens -/
abbrev awCells : Array Value := #[.int .i64 1, .string ⟨#[97, 98]⟩, .int .i64 0, .int .i64 1, .int .i64 1, .int .i64 4, .string ⟨#[60, 61]⟩, .int .i64 0, .int .i64 1, .int .i64 4, .int .i64 2, .string ⟨#[]⟩, .int .i64 12, .int .i64 1, .int .i64 7, .int .i64 3, .string ⟨#[120]⟩, .int .i64 0, .int .i64 2, .int .i64 1, .int .i64 5, .string ⟨#[]⟩, .int .i64 0, .int .i64 2, .int .i64 4]
theorem aw_own (w : World) (b : Nat) (h : b ≤ w.heap.size) : (w.alloc (.cells awCells 33)).ownsRow b 33 5 (.slice (some ⟨w.heap.size, 0, none⟩) 5 5) awL.length (tkRow awL) := by
  refine ⟨rfl, .inr ⟨w.heap.size, 5, awCells, rfl, h, Array.getElem?_push_size .., Nat.le_refl _, by unfold maxLen; omega, rfl, rfl⟩⟩

set_option maxHeartbeats 3200000 in
set_option maxRecDepth 100000 in
theorem awake_any (w : World) (hP : PR w) : Calls Tryd.prog 10 #[] w fun e w' => e = .returned (.bool true) ∧ Below w.heap.size w w' := by
  have HP := Lib.hid hP; clear hP
  go_enter Tryd.func10, Tryd.ntmps10
  go_wp2_with fail
  ((with_reducible refine (tokens_any _ _ HP.out).mono ?_); rintro e w1 hQ)
  have hX : tokens (⟨#[97, 98, 32, 60, 61, 32, 49, 50, 32, 35, 32, 99, 10, 34, 120, 34]⟩ : ByteArray).data.toList = (awL, (0, 0), 0) := aw_tokens
  rw [hX] at hQ
  obtain ⟨v, he, hown, hb1⟩ := hQ
  have he' : e = .returned (.tuple #[v, .agg #[.int .i64 0, .int .i64 0], .int .i64 0]) := he
  clear he hX
  subst he'
  have HO := Lib.hid hown
  have HB := Lib.hid hb1
  obtain ⟨o, c, rfl⟩ : ∃ o c, v = .slice o 5 c := by
    rcases hown.2 with ⟨_, hn⟩ | ⟨g, cap, cur, hv, _⟩
    · cases hn
    · exact ⟨_, _, hv⟩
  have hE := equal_same awL _ _ _ _ ((w1.alloc (.cells #[.int .i64 0, .int .i64 0] 25)).alloc (.cells awCells 33)) (by decide) ((HO.out.alloc _).alloc _) (aw_own (w1.alloc (.cells #[.int .i64 0, .int .i64 0] 25)) w.heap.size (by have := hb1.size; simp; omega))
  simp only [World.size_alloc] at hE
  have HE := Lib.hid hE
  clear hown hb1 hE
  go_wp2_with fail
  ((with_reducible refine (HE.out).mono ?_); rintro e w4 ⟨rfl, hb4⟩)
  have HB4 := Lib.hid (show Below w.heap.size w w4 from HB.out.trans ((((Below.refl _ _).alloc HB.out.size _).alloc (by have := HB.out.size; simp; omega) _).trans (hb4.mono (by have := HB.out.size; omega))))
  have hc0 : w4.cell? ⟨w1.heap.size, 0, none⟩ = some (.int .i64 0) := by
    rw [hb4.cell (p := ⟨w1.heap.size, 0, none⟩) (show w1.heap.size < _ by omega)]; simp
  have hc1 : w4.cell? ⟨w1.heap.size, 0 + 1, none⟩ = some (.int .i64 0) := by
    rw [hb4.cell (p := ⟨w1.heap.size, 0 + 1, none⟩) (show w1.heap.size < _ by omega)]; simp
  clear hb4
  go_wp2_with fail
  go_ret
  exact ⟨rfl, HB4.out⟩
end Go.Proofs.YtlocbindafdmhaaDoor
