/- abs, fit and Make of package frac: what a call returns. -/
import Derived.Test.YtbdihcpehadbjaaDoorFa
namespace Go.Proofs.YtbdihcpehadbjaaDoor
open Go.RowKit

theorem abs_wrap (n : Int) (h : -9223372036854775808 ≤ n) (h0 : n < 0) : IntKind.u64.wrap (-IntKind.u64.wrap n) = (n.natAbs : Int) := by
  rw [IntKind.wrap_u64, IntKind.wrap_u64]; omega
theorem abs_id (n : Int) (h0 : 0 ≤ n) : n = (n.natAbs : Int) := by omega

set_option maxHeartbeats 400000 in
theorem abs_any (n : Int) (w : World) (h : -9223372036854775808 ≤ n) (h' : n ≤ 9223372036854775807) :
    Calls Tryd.prog 40 #[.int .i64 n] w fun e w' => e = .returned (.int .u64 (n.natAbs : Int)) ∧ w = w' := by
  by_cases h0 : n < 0
  · go_enter Tryd.func40, Tryd.ntmps40
    go_wp2
    go_ret
    exact ⟨ret_int (abs_wrap n h h0), rfl⟩
  · go_enter Tryd.func40, Tryd.ntmps40
    go_wp2
    go_ret
    exact ⟨ret_int (abs_id n (by omega)), rfl⟩

theorem gcv_pos (a b : Int) (hb : b ≠ 0) : 1 ≤ gcv a b := by
  unfold gcv; have := Nat.gcd_pos_of_pos_right a.natAbs (show 0 < b.natAbs by omega); omega
theorem gcv_le (a b : Int) (hb : 0 < b) : gcv a b ≤ b := by
  unfold gcv; have := Nat.gcd_le_right a.natAbs (show 0 < b.natAbs by omega); omega

/-- what fit returns: the fraction's two numbers and the error number -/
def fitv (neg : Bool) (num den : Int) : Int × Int × Int :=
  if num / gcv num den ≤ 1073741824 ∧ den / gcv num den ≤ 1073741824 then
    (if neg then -(num / gcv num den) else num / gcv num den, den / gcv num den, 0)
  else (0, 0, 6)
/-- a fraction and an error number, as a call returns them -/
def ret3 (t : Int × Int × Int) : Ending := .returned (.tuple #[.agg #[.int .i64 t.1, .int .i64 t.2.1], .int .i64 t.2.2])

theorem fitv_yes (num den g : Int) (hg : g = gcv num den) (h1 : num / g ≤ 1073741824) (h2 : den / g ≤ 1073741824) : fitv false num den = (num / g, den / g, 0) := by
  subst hg; unfold fitv; rw [if_pos ⟨h1, h2⟩]; rfl
theorem fitv_neg (num den g : Int) (hg : g = gcv num den) (h1 : num / g ≤ 1073741824) (h2 : den / g ≤ 1073741824) : fitv true num den = (-(num / g), den / g, 0) := by
  subst hg; unfold fitv; rw [if_pos ⟨h1, h2⟩]; rfl
theorem fitv_big (b : Bool) (num den g : Int) (hg : g = gcv num den) (h : ¬ (num / g ≤ 1073741824 ∧ den / g ≤ 1073741824)) : fitv b num den = (0, 0, 6) := by
  subst hg; unfold fitv; rw [if_neg h]

/-- the world inside fit: the result's cell lies above what was there, and holds zeros -/
def FitS (w wr : World) : Prop := Below w.heap.size w wr ∧ w.heap.size < wr.heap.size ∧ wr.cell? ⟨w.heap.size, 0, none⟩ = some (.int .i64 0) ∧ wr.cell? ⟨w.heap.size, 0 + 1, none⟩ = some (.int .i64 0) ∧ wr.frozen? ⟨w.heap.size, 0, none⟩ = false ∧ wr.frozen? ⟨w.heap.size, 0 + 1, none⟩ = false
theorem FitS.drewN {w wr : World} (h : FitS w wr) (n : Nat) : FitS w (wr.drewN n) :=
  ⟨below_drewN h.1 _, h.2.1, h.2.2.1, h.2.2.2.1, h.2.2.2.2.1, h.2.2.2.2.2⟩
theorem FitS.start (w : World) : FitS w (w.alloc (.cells #[.int .i64 0, .int .i64 0] 24)) :=
  ⟨(Below.refl _ _).alloc (Nat.le_refl _) _, by simp, by simp, by simp, by simp, by simp⟩

set_option maxHeartbeats 800000 in
theorem fit_any (b : Bool) (num den : Int) (w : World) (h : 0 ≤ num) (h' : num ≤ 18446744073709551615) (hd : 1 ≤ den) (hd' : den ≤ 18446744073709551615) :
    Calls Tryd.prog 39 #[.bool b, .int .u64 num, .int .u64 den] w fun e w' => e = ret3 (fitv b num den) ∧ Below w.heap.size w w' := by
  have hpos := gcv_pos num den (by omega)
  have hle := gcv_le num den (by omega)
  go_enter Tryd.func39, Tryd.ntmps39
  go_wp2
  go_loopw [8, 9] (fun x y wr => ∃ m n : Int, 0 ≤ m ∧ m ≤ 18446744073709551615 ∧ 0 ≤ n ∧ n ≤ 18446744073709551615 ∧ x = .int .u64 m ∧ y = .int .u64 n ∧ gcv m n = gcv num den ∧ FitS w wr) (fun _ y _ => (intOf y).toNat)
  case atStart => exact ⟨num, den, h, h', by omega, by omega, rfl, rfl, rfl, FitS.start w⟩
  case round =>
    obtain ⟨m, n, hm, hm', hn, hn', rfl, rfl, hg, hS⟩ := hrel
    have HG := Lib.hid hg; clear hg
    by_cases h0 : n = 0
    · have hz : (n != 0) = false := by simp [h0]
      have hm1 : 1 ≤ m := by have := HG.out; rw [h0, gcv_zero m hm] at this; omega
      have HM := Lib.hid (show m = gcv num den by have := HG.out; rw [h0, gcv_zero m hm] at this; exact this)
      clear hpos hle h0
      have q1 : 0 ≤ num / m := Int.ediv_nonneg h (by omega)
      have q2 : 0 ≤ den / m := Int.ediv_nonneg (by omega) (by omega)
      by_cases b1 : num / m ≤ 1073741824
      · by_cases b2 : den / m ≤ 1073741824
        · cases b
          · have HF := Lib.hid (fitv_yes num den m HM.out b1 b2)
            go_wp2
            go_quiet (fail)
            have hS2 := hS.drewN nq; clear hS
            generalize wr.drewN nq = w2 at hS2 ⊢
            obtain ⟨hbl, hsz, hc0, hc1, hf0, hf1⟩ := hS2
            go_wp2
            exact bodyPost_ret (v := .tuple #[.agg #[.int .i64 (num / m), .int .i64 (den / m)], .int .i64 0]) (by simp [results, Tryd.results39, go_sem, hc0, hc1, hsz]) rfl ⟨by rw [HF.out]; rfl, ((hbl.setCell (Nat.le_refl _) _).setCell (Nat.le_refl _) _).alloc (by simp; omega) _⟩
          · have HF := Lib.hid (fitv_neg num den m HM.out b1 b2)
            go_wp2
            go_quiet (fail)
            have hS2 := hS.drewN nq; clear hS
            generalize wr.drewN nq = w2 at hS2 ⊢
            obtain ⟨hbl, hsz, hc0, hc1, hf0, hf1⟩ := hS2
            go_wp2
            exact bodyPost_ret (v := .tuple #[.agg #[.int .i64 (-(num / m)), .int .i64 (den / m)], .int .i64 0]) (by simp [results, Tryd.results39, go_sem, hc0, hc1, hsz]) rfl ⟨by rw [HF.out]; rfl, ((hbl.setCell (Nat.le_refl _) _).setCell (Nat.le_refl _) _).alloc (by simp; omega) _⟩
        · have HF := Lib.hid (fitv_big b num den m HM.out (fun c => b2 c.2))
          go_wp2
          go_quiet (fail)
          have hS2 := hS.drewN nq; clear hS
          generalize wr.drewN nq = w2 at hS2 ⊢
          obtain ⟨hbl, hsz, hc0, hc1, hf0, hf1⟩ := hS2
          go_wp2
          exact bodyPost_ret (v := .tuple #[.agg #[.int .i64 0, .int .i64 0], .int .i64 6]) (by simp [results, Tryd.results39, go_sem, hc0, hc1]) rfl ⟨by rw [HF.out]; rfl, (hbl.setCell (Nat.le_refl _) _).setCell (Nat.le_refl _) _⟩
      · have HF := Lib.hid (fitv_big b num den m HM.out (fun c => b1 c.1))
        go_wp2
        go_quiet (fail)
        have hS2 := hS.drewN nq; clear hS
        generalize wr.drewN nq = w2 at hS2 ⊢
        obtain ⟨hbl, hsz, hc0, hc1, hf0, hf1⟩ := hS2
        go_wp2
        exact bodyPost_ret (v := .tuple #[.agg #[.int .i64 0, .int .i64 0], .int .i64 6]) (by simp [results, Tryd.results39, go_sem, hc0, hc1]) rfl ⟨by rw [HF.out]; rfl, (hbl.setCell (Nat.le_refl _) _).setCell (Nat.le_refl _) _⟩
    · have hz : (n != 0) = true := by simp [h0]
      have hp : 1 ≤ n := by omega
      clear h0 hpos hle
      go_wp2
      go_quiet (fail)
      go_wp2
      go_roundw
      case rel => exact ⟨n, m % n, by omega, by omega, Int.emod_nonneg _ (by omega), by have := Int.emod_lt_of_pos m (show 0 < n by omega); omega, rfl, rfl, by rw [gcv_step m n hm (by omega)]; exact HG.out, hS.drewN _⟩
      case measure => simp [intOf]; have := Int.emod_lt_of_pos m (show 0 < n by omega); have := Int.emod_nonneg m (show n ≠ 0 by omega); omega
end Go.Proofs.YtbdihcpehadbjaaDoor
