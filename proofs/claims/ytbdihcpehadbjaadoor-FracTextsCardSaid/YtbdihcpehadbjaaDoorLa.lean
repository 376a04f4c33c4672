/- The law FracMakes: the walk. -/
import Derived.Test.YtbdihcpehadbjaaDoorFi
import Derived.Lib.QuietBelow
namespace Go.Proofs.YtbdihcpehadbjaaDoor
open Go.RowKit Go.Sort

theorem fitv_bd (b : Bool) (num den : Int) (h : 0 ≤ num) (hd : 1 ≤ den) : -1073741824 ≤ (fitv b num den).1 ∧ (fitv b num den).1 ≤ 1073741824 ∧ 0 ≤ (fitv b num den).2.1 ∧ (fitv b num den).2.1 ≤ 1073741824 := by
  have hg := gcv_pos num den (by omega)
  have h1 : 0 ≤ num / gcv num den := Int.ediv_nonneg h (by omega)
  have h2 : 0 ≤ den / gcv num den := Int.ediv_nonneg (by omega) (by omega)
  unfold fitv
  split
  · rename_i hc
    refine ⟨?_, ?_, h2, hc.2⟩ <;> (show _ ≤ _; simp only; split <;> omega)
  · simp
theorem fitv_ok (b : Bool) (num den : Int) (h : 0 ≤ num) (hd : 1 ≤ den) (h0 : (fitv b num den).2.2 = 0) : vldB (fitv b num den).1 (fitv b num den).2.1 = true := by
  have hbd := fitv_bd b num den h hd
  have hg := gcv_pos num den (by omega)
  unfold fitv at *
  split
  · rename_i hc
    rw [if_pos hc] at hbd
    simp only at hbd ⊢
    have e1 := gcv_left num den
    have e2 := gcv_right num den
    have hd0 : 0 ≤ den / gcv num den := Int.ediv_nonneg (by omega) (by omega)
    have hd1 : den / gcv num den ≠ 0 := by intro e; rw [e] at e2; simp at e2; omega
    have hgg : gcv (num / gcv num den) (den / gcv num den) = 1 := by
      have := gcv_scale (gcv num den) (num / gcv num den) (den / gcv num den) hg
      rw [e1, e2] at this
      have h3 : gcv num den * (gcv (num / gcv num den) (den / gcv num den) - 1) = 0 := by rw [Int.mul_sub]; omega
      rcases Int.mul_eq_zero.1 h3 with h | h <;> omega
    have hgn : gcv (if b = true then -(num / gcv num den) else num / gcv num den) (den / gcv num den) = 1 := by
      split
      · rw [gcv_neg]; exact hgg
      · exact hgg
    unfold vldB
    simp only [decide_eq_true_eq]
    exact ⟨hbd.1, hbd.2.1, by omega, hbd.2.2.2, hgn⟩
  · rename_i hc
    rw [if_neg hc] at h0
    simp at h0
theorem mkv_bd (num den : Int) : -1073741824 ≤ (mkv num den).1 ∧ (mkv num den).1 ≤ 1073741824 ∧ 0 ≤ (mkv num den).2.1 ∧ (mkv num den).2.1 ≤ 1073741824 := by
  unfold mkv
  split
  · simp
  · exact fitv_bd _ _ _ (by omega) (by omega)
theorem mkv_ok (num den : Int) (h0 : (mkv num den).2.2 = 0) : vldB (mkv num den).1 (mkv num den).2.1 = true := by
  unfold mkv at *
  split
  · rename_i h; rw [if_pos h] at h0; simp at h0
  · rename_i h; rw [if_neg h] at h0; exact fitv_ok _ _ _ (by omega) (by omega) h0

set_option maxHeartbeats 1600000 in
theorem fracMakes_walk (num den : Int) (w : World) (ht : Tb w) (h : -9223372036854775808 ≤ num) (h' : num ≤ 9223372036854775807) (hd : -9223372036854775808 ≤ den) (hd' : den ≤ 9223372036854775807) :
    Calls Tryd.prog 3 #[.int .i64 num, .int .i64 den] w fun e w' => e = .returned (.bool true) ∧ Below w.heap.size w w' := by
  obtain ⟨p, q, r, hm⟩ : ∃ p q r, mkv num den = (p, q, r) := ⟨_, _, _, rfl⟩
  have hbd := mkv_bd num den
  have hok := mkv_ok num den
  rw [hm] at hbd hok
  have HM := Lib.hid hm; clear hm
  simp only at hbd hok
  obtain ⟨p1, p2, q1, q2⟩ := hbd
  have HOK := Lib.hid hok; clear hok
  go_enter Tryd.func3, Tryd.ntmps3
  go_wp2_with fail
  ((with_reducible refine (awake_any _ ht).mono ?_); rintro e w1 ⟨rfl, hb1⟩)
  go_wp2_with fail
  ((with_reducible refine (make_any _ _ _ h h' hd hd').mono ?_); rintro e w2 ⟨rfl, hb2⟩)
  rw [HM.out]
  have hw2 := below_then hb1 hb2
  clear hb1 hb2
  unfold ret3
  go_wp2_with fail
  ((with_reducible refine (rmake_any _ _ _ h h' hd hd').mono ?_); rintro e w3 ⟨rfl, hb3⟩)
  rw [HM.out]
  unfold ret3
  have hB3 := (Bx.new w2 p q).below hb3
  have hw3 := below_then (below_then hw2 (below_alloc w2 _)) hb3
  clear hb3 hw2
  go_wp2_with fail
  have hA4 := ((Bx.new w3 p q).alloc (.cells #[.int .i64 num, .int .i64 den] 24))
  have hX4 : Bx ((w3.alloc (.cells #[.int .i64 p, .int .i64 q] 24)).alloc (.cells #[.int .i64 num, .int .i64 den] 24)) (w3.heap.size + 1) num den := by have := Bx.new (w3.alloc (.cells #[.int .i64 p, .int .i64 q] 24)) num den; simpa using this
  have hB4 := (hB3.alloc (.cells #[.int .i64 p, .int .i64 q] 24)).alloc (.cells #[.int .i64 num, .int .i64 den] 24)
  have hw4 := below_then (below_then hw3 (below_alloc w3 (.cells #[.int .i64 p, .int .i64 q] 24))) (below_alloc _ (.cells #[.int .i64 num, .int .i64 den] 24))
  clear hB3 hw3
  generalize (w3.alloc (.cells #[.int .i64 p, .int .i64 q] 24)).alloc (.cells #[.int .i64 num, .int .i64 den] 24) = W at hA4 hX4 hB4 hw4 ⊢
  have a0 := cell_regrown hA4.2.1
  have a1 := cell_regrown hA4.2.2
  have b0 := cell_regrown hB4.2.1
  have b1 := cell_regrown hB4.2.2
  have x0 := cell_regrown hX4.2.1
  have x1 := cell_regrown hX4.2.2
  clear hA4 hX4 hB4
  by_cases hr : r = 0
  · have hrb : (r != 0) = false := by simp [hr]
    have hv := HOK.out hr
    clear hr
    refine wp_region_quiet_below (by kernel_rfl) (by kernel_rfl) ?_
    repeat (quiet_step (first | exact Calls.regrown_of (valid1_any _ _ _ (by omega) (by omega) (by omega) (by omega)) | exact Calls.regrown_of (rvalid_any _ _ _ ⟨h, h', hd, hd'⟩)))
    refine wpQuiet_nil ?_
    intro _ hw'
    obtain ⟨⟨dq, osq⟩, hw''⟩ := hw'
    subst hw''
    go_wp2_with fail
    go_ret
    exact ⟨rfl, below_then hw4 (below_regrown _ _ _)⟩
  · have hrb : (r != 0) = true := by simp [hr]
    clear hr
    refine wp_region_quiet_below (by kernel_rfl) (by kernel_rfl) ?_
    repeat (quiet_step (first | exact Calls.regrown_of (valid1_any _ _ _ (by omega) (by omega) (by omega) (by omega)) | exact Calls.regrown_of (rvalid_any _ _ _ ⟨h, h', hd, hd'⟩)))
    refine wpQuiet_nil ?_
    intro _ hw'
    obtain ⟨⟨dq, osq⟩, hw''⟩ := hw'
    subst hw''
    go_wp2_with fail
    go_ret
    exact ⟨rfl, below_then hw4 (below_regrown _ _ _)⟩
end Go.Proofs.YtbdihcpehadbjaaDoor
