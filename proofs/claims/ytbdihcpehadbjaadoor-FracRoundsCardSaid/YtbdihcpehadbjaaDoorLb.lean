/- The law FracRounds: the walk. -/
import Derived.Test.YtbdihcpehadbjaaDoorFj
namespace Go.Proofs.YtbdihcpehadbjaaDoor
open Go.RowKit

/-- a valid fraction between its floor and the next integer -/
theorem rounds_plain (n d : Int) (hv : vldB n d = true) :
    n / d * d ≤ n ∧ n < (n / d + 1) * d ∧ ((d = 1 ∧ -((-n) / d) = n / d) ∨ (d ≠ 1 ∧ -((-n) / d) = n / d + 1)) := by
  obtain ⟨p1, p2, p3, p4, p5⟩ := vldB_parts hv
  have h1 := Int.ediv_mul_le n (show d ≠ 0 by omega)
  have h2 := Int.lt_ediv_add_one_mul_self n (show 0 < d by omega)
  refine ⟨h1, h2, ?_⟩
  by_cases hd : d = 1
  · left; refine ⟨hd, ?_⟩; rw [hd]; simp
  · right; refine ⟨hd, ?_⟩
    have hne : n / d * d ≠ n := by
      intro e
      have hdv : d ∣ n := ⟨n / d, by rw [Int.mul_comm]; exact e.symm⟩
      have hd2 : d.natAbs ∣ n.natAbs := Int.natAbs_dvd_natAbs.2 hdv
      have := Nat.gcd_eq_right hd2
      unfold gcv at p5
      omega
    have e2 : (-n) / d = -(n / d) - 1 := by
      rw [Int.ediv_eq_iff_of_pos (by omega : 0 < d), Int.sub_mul, Int.neg_mul, Int.one_mul]
      rw [Int.add_mul, Int.one_mul] at h2
      omega
    omega

set_option maxHeartbeats 1600000 in
theorem fracRounds_walk (n d : Int) (w : World) (ht : Tb w) (hi : i64p (n, d)) :
    Calls Tryd.prog 4 #[.agg #[.int .i64 n, .int .i64 d]] w fun e w' => e = .returned (.bool true) ∧ Below w.heap.size w w' := by
  have hw := below_alloc w (.cells #[.int .i64 n, .int .i64 d] 24)
  have HB := Lib.hid (Bx.new w n d)
  have z1 := trivial
  have a0 := trivial
  have a1 := trivial
  cases hv : vldB n d
  · go_enter Tryd.func4, Tryd.ntmps4
    go_wp2_with fail
    ((with_reducible refine (awake_any _ (ht.below hw)).mono ?_); rintro e wn ⟨rfl, hbn⟩)
    replace hw := below_then hw hbn
    replace HB := Lib.hid (HB.out.below hbn)
    clear hbn z1 a0 a1
    obtain ⟨z1, a0, a1⟩ := HB.out
    go_wp2_with fail
    ((with_reducible refine (rvalid_any _ _ _ hi).mono ?_); rintro e wn ⟨rfl, hbn⟩)
    replace hw := below_then hw hbn
    replace HB := Lib.hid (HB.out.below hbn)
    clear hbn z1 a0 a1
    obtain ⟨z1, a0, a1⟩ := HB.out
    go_wp2_with fail
    go_ret
    exact ⟨rfl, hw⟩
  · obtain ⟨r1, r2, r3⟩ := rounds_plain n d hv
    obtain ⟨p1, p2, p3, p4, p5⟩ := vldB_parts hv
    clear p5
    obtain ⟨f1, f2⟩ := ediv_bd n d p3 p1 p2
    obtain ⟨g1, g2⟩ := ediv_bd (-n) d p3 (by omega) (by omega)
    have hvn := vldB_neg n d hv
    obtain ⟨F, hF⟩ : ∃ F, n / d = F := ⟨_, rfl⟩
    obtain ⟨G, hG⟩ : ∃ G, (-n) / d = G := ⟨_, rfl⟩
    rw [hF] at r1 r2 r3 f1 f2
    rw [hG] at r3 g1 g2
    obtain ⟨m1, m2⟩ := mul_bd F d f1 f2 (by omega) p4
    have m3 : (F + 1) * d = F * d + d := by rw [Int.add_mul, Int.one_mul]
    have m4 : (F + 1) * d ≤ 1152921505680588800 := by omega
    have m5 : -1152921505680588800 ≤ (F + 1) * d := by omega
    clear m3
    have HF := Lib.hid hF; clear hF
    have HG := Lib.hid hG; clear hG
    have hc : ((d == 1) = true ∧ (-G == F) = true ∧ True) ∨ ((d == 1) = false ∧ (-G == F) = false ∧ (-G == F + 1) = true) := by
      rcases r3 with ⟨hd, hw⟩ | ⟨hd, hw⟩
      · exact .inl ⟨by simp [hd], by simp [hw], trivial⟩
      · exact .inr ⟨by simp [hd], by simp; omega, by simp [hw]⟩
    clear r3
    rcases hc with ⟨d1, e1, e2⟩ | ⟨d1, e1, e2⟩
    all_goals
      go_enter Tryd.func4, Tryd.ntmps4
      go_wp2_with fail
      ((with_reducible refine (awake_any _ (ht.below hw)).mono ?_); rintro e wn ⟨rfl, hbn⟩)
      replace hw := below_then hw hbn
      replace HB := Lib.hid (HB.out.below hbn)
      clear hbn z1 a0 a1
      obtain ⟨z1, a0, a1⟩ := HB.out
      go_wp2_with fail
      ((with_reducible refine (rvalid_any _ _ _ hi).mono ?_); rintro e wn ⟨rfl, hbn⟩)
      replace hw := below_then hw hbn
      replace HB := Lib.hid (HB.out.below hbn)
      clear hbn z1 a0 a1
      obtain ⟨z1, a0, a1⟩ := HB.out
      go_wp2_with fail
      ((with_reducible refine (floor_ok _ _ _ hv).mono ?_); rintro e wn ⟨rfl, hbn⟩)
      replace hw := below_then hw hbn
      replace HB := Lib.hid (HB.out.below hbn)
      clear hbn z1 a0 a1
      obtain ⟨z1, a0, a1⟩ := HB.out
      rw [HF.out]
      go_wp2_with fail
      ((with_reducible refine (ceil_ok _ _ _ hv).mono ?_); rintro e wn ⟨rfl, hbn⟩)
      replace hw := below_then hw hbn
      replace HB := Lib.hid (HB.out.below hbn)
      clear hbn z1 a0 a1
      obtain ⟨z1, a0, a1⟩ := HB.out
      rw [HG.out]
      go_wp2_with fail
      ((with_reducible refine (rneg_any _ _ _ p1 p2).mono ?_); rintro e wn ⟨rfl, hbn⟩)
      replace hw := below_then hw hbn
      replace HB := Lib.hid (HB.out.below hbn)
      clear hbn z1 a0 a1
      obtain ⟨z1, a0, a1⟩ := HB.out
      go_wp2_with fail
      ((with_reducible refine (floor_ok _ _ _ hvn).mono ?_); rintro e wn ⟨rfl, hbn⟩)
      replace hw := below_then hw hbn
      replace HB := Lib.hid (HB.out.below hbn)
      clear hbn z1 a0 a1
      obtain ⟨z1, a0, a1⟩ := HB.out
      rw [HG.out]
      go_wp2_with fail
      go_ret
      exact ⟨rfl, hw⟩
end Go.Proofs.YtbdihcpehadbjaaDoor
