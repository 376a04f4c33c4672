/- Make of the reference: what a call returns. -/
import Derived.Test.YtbdihcpehadbjaaDoorFe
import Derived.Test.YtbdihcpehadbjaaDoorPb
namespace Go.Proofs.YtbdihcpehadbjaaDoor
open Go.RowKit

theorem gcv_tstep (a b : Int) : gcv b (a.tmod b) = gcv a b := by
  unfold gcv
  rw [Int.natAbs_tmod, Nat.gcd_comm a.natAbs b.natAbs, Nat.gcd_rec b.natAbs a.natAbs, Nat.gcd_comm]
theorem tmod_bd (a b : Int) (ha : a ≤ 0) (hb : b < 0) : b < a.tmod b ∧ a.tmod b ≤ 0 := by
  have h1 : (a.tmod b).natAbs = a.natAbs % b.natAbs := Int.natAbs_tmod a b
  have h2 := Nat.mod_lt a.natAbs (show 0 < b.natAbs by omega)
  have h3 : a.tmod b ≤ 0 := by
    have : (-a).tmod b = -(a.tmod b) := Int.neg_tmod a b
    have := Int.tmod_nonneg b (show 0 ≤ -a by omega)
    omega
  omega

set_option maxHeartbeats 800000 in
theorem rmake_any (num den : Int) (w : World) (h : -9223372036854775808 ≤ num) (h' : num ≤ 9223372036854775807) (hd : -9223372036854775808 ≤ den) (hd' : den ≤ 9223372036854775807) :
    Calls Tryd.prog 13 #[.int .i64 num, .int .i64 den] w fun e w' => e = ret3 (mkv num den) ∧ Below w.heap.size w w' := by
  by_cases h0 : den = 0
  · have hz : (den == 0) = true := by simp [h0]
    have HM := Lib.hid (show mkv num den = (0, 0, 7) by unfold mkv; rw [if_pos h0])
    clear h0
    go_enter Tryd.func13, Tryd.ntmps13
    go_wp2_with fail
    exact bodyPost_ret (v := .tuple #[.agg #[.int .i64 0, .int .i64 0], .int .i64 7]) (by simp [results, Tryd.results13, go_sem]) rfl ⟨by rw [HM.out]; rfl, (Below.refl _ _).alloc (Nat.le_refl _) _⟩
  · have hz : (den == 0) = false := by simp [h0]
    by_cases s1 : 0 < num <;> by_cases s2 : 0 < den
    all_goals
      go_enter Tryd.func13, Tryd.ntmps13
      go_wp2_with fail
      go_loopw [6, 7] (fun x y wr => ∃ m n : Int, m ≤ 0 ∧ -9223372036854775808 ≤ m ∧ n ≤ 0 ∧ -9223372036854775808 ≤ n ∧ x = .int .i64 m ∧ y = .int .i64 n ∧ gcv m n = gcv num den ∧ FitS w wr) (fun _ y _ => (-(intOf y)).toNat)
      case atStart => exact ⟨_, _, by omega, by omega, by omega, by omega, rfl, rfl, by unfold gcv; first | rfl | simp only [Int.natAbs_neg], FitS.start w⟩
      case round =>
        obtain ⟨m, n, hm, hm', hn, hn', rfl, rfl, hg, hS⟩ := hrel
        have HG := Lib.hid hg; clear hg
        by_cases hn0 : n = 0
        · have hz : (n != 0) = false := by simp [hn0]
          have HM := Lib.hid (show -m = gcv num den by have := HG.out; rw [hn0] at this; unfold gcv at this ⊢; simp at this; omega)
          have hm1 : m ≤ -1 := by have := HM.out; have := gcv_pos num den h0; omega
          have hmz : (m == 0) = false := by simp; omega
          clear hm HG hn0
          have H0 := Lib.hid h0; clear h0
          obtain ⟨hbl, hsz, hc0, hc1, hf0, hf1⟩ := hS
          by_cases hneg : wrap64 (den.tdiv m) < 0
          · go_wp2_with fail
            all_goals first
              | exact bodyPost_ret (v := .tuple #[.agg #[.int .i64 (wrap64 (-wrap64 (num.tdiv m))), .int .i64 (wrap64 (-wrap64 (den.tdiv m)))], .int .i64 0]) (by simp [results, Tryd.results13, go_sem, hc0, hc1]) rfl ⟨by rw [ref_ok1 num den m h h' hd hd' H0.out HM.out (by omega) (by omega) (by omega) (by omega) (by omega)]; rfl, (hbl.setCell (Nat.le_refl _) _).setCell (Nat.le_refl _) _⟩
              | exact bodyPost_ret (v := .tuple #[.agg #[.int .i64 0, .int .i64 0], .int .i64 6]) (by simp [results, Tryd.results13, go_sem, hc0, hc1]) rfl ⟨by rw [ref_big1 num den m h h' hd hd' H0.out HM.out (by omega) (by omega)]; rfl, (hbl.setCell (Nat.le_refl _) _).setCell (Nat.le_refl _) _⟩
          · go_wp2_with fail
            all_goals first
              | exact bodyPost_ret (v := .tuple #[.agg #[.int .i64 (wrap64 (num.tdiv m)), .int .i64 (wrap64 (den.tdiv m))], .int .i64 0]) (by simp [results, Tryd.results13, go_sem, hc0, hc1]) rfl ⟨by rw [ref_ok0 num den m h h' hd hd' H0.out HM.out (by omega) (by omega) (by omega) (by omega) (by omega)]; rfl, (hbl.setCell (Nat.le_refl _) _).setCell (Nat.le_refl _) _⟩
              | exact bodyPost_ret (v := .tuple #[.agg #[.int .i64 0, .int .i64 0], .int .i64 6]) (by simp [results, Tryd.results13, go_sem, hc0, hc1]) rfl ⟨by rw [ref_big0 num den m h h' hd hd' H0.out HM.out (by omega) (by omega)]; rfl, (hbl.setCell (Nat.le_refl _) _).setCell (Nat.le_refl _) _⟩
        · have hz : (n != 0) = true := by simp [hn0]
          obtain ⟨t1, t2⟩ := tmod_bd m n hm (by omega)
          have hp : n ≤ -1 := by omega
          have hnz : (n == 0) = false := by simp [hn0]
          go_wp2_with fail
          go_quiet (fail)
          go_wp2_with fail
          go_roundw
          case rel => exact ⟨n, m.tmod n, by omega, by omega, by omega, by omega, rfl, rfl, by rw [gcv_tstep]; exact HG.out, hS.drewN _⟩
          case measure => simp [intOf]; omega
end Go.Proofs.YtbdihcpehadbjaaDoor
