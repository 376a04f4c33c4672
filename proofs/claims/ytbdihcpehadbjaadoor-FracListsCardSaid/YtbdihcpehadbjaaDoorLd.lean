/- The law FracOrder: the walk. -/
import Derived.Test.YtbdihcpehadbjaaDoorPc
import Derived.Deep.DeepCutAuto
namespace Go.Proofs.YtbdihcpehadbjaaDoor
open Go.RowKit

/-- three fractions lie in three new blocks -/
def Box3 (w w1 : World) (an ad bn bd cn cd : Int) : Prop := Below w.heap.size w w1 ∧ Bx w1 w.heap.size an ad ∧ Bx w1 (w.heap.size + 1) bn bd ∧ Bx w1 (w.heap.size + 1 + 1) cn cd
theorem Box3.below {w w1 w2 : World} {an ad bn bd cn cd : Int} (h : Box3 w w1 an ad bn bd cn cd) (hb : Below w1.heap.size w1 w2) : Box3 w w2 an ad bn bd cn cd :=
  ⟨below_then h.1 hb, h.2.1.below hb, h.2.2.1.below hb, h.2.2.2.below hb⟩
theorem Box3.start (w : World) (an ad bn bd cn cd : Int) : Box3 w (((w.alloc (.cells #[.int .i64 an, .int .i64 ad] 24)).alloc (.cells #[.int .i64 bn, .int .i64 bd] 24)).alloc (.cells #[.int .i64 cn, .int .i64 cd] 24)) an ad bn bd cn cd := by
  have h := (Box1.start w an ad bn bd).below (below_alloc _ (.cells #[.int .i64 cn, .int .i64 cd] 24))
  refine ⟨h.1, h.2.1, h.2.2, ?_⟩
  have := Bx.new ((w.alloc (.cells #[.int .i64 an, .int .i64 ad] 24)).alloc (.cells #[.int .i64 bn, .int .i64 bd] 24)) cn cd
  simpa using this

set_option maxRecDepth 100000 in
set_option maxHeartbeats 3200000 in
theorem fracOrder_walk (an ad bn bd cn cd : Int) (w : World) (ht : Tb w) (ha : i64p (an, ad)) (hb : i64p (bn, bd)) (hc : i64p (cn, cd)) :
    Calls Tryd.prog 6 #[.agg #[.int .i64 an, .int .i64 ad], .agg #[.int .i64 bn, .int .i64 bd], .agg #[.int .i64 cn, .int .i64 cd]] w fun e w' => e = .returned (.bool true) ∧ Below w.heap.size w w' := by
  have HB := Lib.hid (Box3.start w an ad bn bd cn cd)
  have hw := HB.out.1
  have z1 := trivial
  have a0 := trivial
  have a1 := trivial
  have z2 := trivial
  have b0 := trivial
  have b1 := trivial
  have z3 := trivial
  have c0 := trivial
  have c1 := trivial
  by_cases hv : vldB an ad = true ∧ vldB bn bd = true ∧ vldB cn cd = true
  · obtain ⟨hva, hvb, hvc⟩ := hv
    have hcb := cmpv_bd an ad bn bd
    have hcz := cmpv_zero an ad bn bd hva hvb
    have hca := cmpv_anti bn bd an ad
    have hct := cmpv_trans an ad bn bd cn cd (vldB_parts hva).2.2.1 (vldB_parts hvb).2.2.1 (vldB_parts hvc).2.2.1
    have hadd := cmpv_add an ad bn bd cn cd
    obtain ⟨x, hx⟩ : ∃ x, cmpv an ad bn bd = x := ⟨_, rfl⟩
    obtain ⟨y, hy⟩ : ∃ y, cmpv bn bd cn cd = y := ⟨_, rfl⟩
    obtain ⟨z, hz⟩ : ∃ z, cmpv an ad cn cd = z := ⟨_, rfl⟩
    rw [hx] at hcb hcz hca hct
    rw [hy] at hct
    rw [hz] at hct
    have HX := Lib.hid hx; clear hx
    have HY := Lib.hid hy; clear hy
    have HZ := Lib.hid hz; clear hz
    have HA := Lib.hid hca; clear hca
    have hE : ((x == 0) = true ∧ an = bn ∧ ad = bd) ∨ ((x == 0) = false ∧ ¬ an = bn) ∨ ((x == 0) = false ∧ an = bn ∧ ¬ ad = bd) := by
      by_cases e1 : an = bn
      · by_cases e2 : ad = bd
        · exact .inl ⟨by simp [hcz.2 ⟨e1, e2⟩], e1, e2⟩
        · exact .inr (.inr ⟨by simp; intro h; exact e2 (hcz.1 h).2, e1, e2⟩)
      · exact .inr (.inl ⟨by simp; intro h; exact e1 (hcz.1 h).1, e1⟩)
    clear hcz
    have HE := Lib.hid hE; clear hE
    have HT := Lib.hid hct; clear hct
    have HADD := Lib.hid hadd; clear hadd
    obtain ⟨x1, x2⟩ := hcb
    go_enter Tryd.func6, Tryd.ntmps6
    go_wp2_with fail
    ((with_reducible refine (awake_any _ (ht.below hw)).mono ?_); rintro e wn ⟨rfl, hbn⟩)
    replace hw := below_then hw hbn
    replace HB := Lib.hid (HB.out.below hbn)
    clear hbn z1 a0 a1 z2 b0 b1 z3 c0 c1
    obtain ⟨-, ⟨z1, a0, a1⟩, ⟨z2, b0, b1⟩, ⟨z3, c0, c1⟩⟩ := HB.out
    go_wp2_with fail
    ((with_reducible refine (rvalid_any _ _ _ ha).mono ?_); rintro e wn ⟨rfl, hbn⟩)
    replace hw := below_then hw hbn
    replace HB := Lib.hid (HB.out.below hbn)
    clear hbn z1 a0 a1 z2 b0 b1 z3 c0 c1
    obtain ⟨-, ⟨z1, a0, a1⟩, ⟨z2, b0, b1⟩, ⟨z3, c0, c1⟩⟩ := HB.out
    go_wp2_with fail
    ((with_reducible refine (rvalid_any _ _ _ hb).mono ?_); rintro e wn ⟨rfl, hbn⟩)
    replace hw := below_then hw hbn
    replace HB := Lib.hid (HB.out.below hbn)
    clear hbn z1 a0 a1 z2 b0 b1 z3 c0 c1
    obtain ⟨-, ⟨z1, a0, a1⟩, ⟨z2, b0, b1⟩, ⟨z3, c0, c1⟩⟩ := HB.out
    go_wp2_with fail
    ((with_reducible refine (rvalid_any _ _ _ hc).mono ?_); rintro e wn ⟨rfl, hbn⟩)
    replace hw := below_then hw hbn
    replace HB := Lib.hid (HB.out.below hbn)
    clear hbn z1 a0 a1 z2 b0 b1 z3 c0 c1
    obtain ⟨-, ⟨z1, a0, a1⟩, ⟨z2, b0, b1⟩, ⟨z3, c0, c1⟩⟩ := HB.out
    go_wp2_with fail
    ((with_reducible refine (cmp_ok _ _ _ _ _ hva hvb).mono ?_); rintro e wn ⟨rfl, hbn⟩)
    replace hw := below_then hw hbn
    replace HB := Lib.hid (HB.out.below hbn)
    clear hbn z1 a0 a1 z2 b0 b1 z3 c0 c1
    obtain ⟨-, ⟨z1, a0, a1⟩, ⟨z2, b0, b1⟩, ⟨z3, c0, c1⟩⟩ := HB.out
    rw [HX.out]
    go_wp2_with fail
    ((with_reducible refine (cmp_ok _ _ _ _ _ hvb hva).mono ?_); rintro e wn ⟨rfl, hbn⟩)
    replace hw := below_then hw hbn
    replace HB := Lib.hid (HB.out.below hbn)
    clear hbn z1 a0 a1 z2 b0 b1 z3 c0 c1
    obtain ⟨-, ⟨z1, a0, a1⟩, ⟨z2, b0, b1⟩, ⟨z3, c0, c1⟩⟩ := HB.out
    rw [HA.out]
    go_wp2_with fail
    ((with_reducible refine (cmp_ok _ _ _ _ _ hvb hvc).mono ?_); rintro e wn ⟨rfl, hbn⟩)
    replace hw := below_then hw hbn
    replace HB := Lib.hid (HB.out.below hbn)
    clear hbn z1 a0 a1 z2 b0 b1 z3 c0 c1
    obtain ⟨-, ⟨z1, a0, a1⟩, ⟨z2, b0, b1⟩, ⟨z3, c0, c1⟩⟩ := HB.out
    rw [HY.out]
    go_wp2_with fail
    ((with_reducible refine (cmp_ok _ _ _ _ _ hva hvc).mono ?_); rintro e wn ⟨rfl, hbn⟩)
    replace hw := below_then hw hbn
    replace HB := Lib.hid (HB.out.below hbn)
    clear hbn z1 a0 a1 z2 b0 b1 z3 c0 c1
    obtain ⟨-, ⟨z1, a0, a1⟩, ⟨z2, b0, b1⟩, ⟨z3, c0, c1⟩⟩ := HB.out
    rw [HZ.out]
    have hcut : (x ≤ 0 ∧ y ≤ 0 ∧ z < 0 ∧ (z == 0) = false) ∨ 0 < x ∨ 0 < y ∨ (0 ≤ x ∧ 0 ≤ y ∧ x ≤ 0 ∧ y ≤ 0 ∧ z ≤ 0 ∧ (z == 0) = true) := by
      have := HT.out
      by_cases c1 : 0 < x
      · exact .inr (.inl c1)
      · by_cases c2 : 0 < y
        · exact .inr (.inr (.inl c2))
        · have h := this (by omega) (by omega)
          by_cases c3 : z < 0
          · exact .inl ⟨by omega, by omega, c3, by simp; omega⟩
          · have h2 := h.2 (by omega)
            exact .inr (.inr (.inr ⟨by omega, by omega, by omega, by omega, by omega, by simp; omega⟩))
    have HCUT := Lib.hid hcut; clear hcut
    go_upto_region 9 with fail
    go_cut [95] (fun s wx => s = .bool false ∧ wn = wx)
    case first =>
      rcases HE.out with ⟨hx0, e1, e2⟩ | ⟨hx0, hne⟩ | ⟨hx0, e1, hne⟩
      · subst e1 e2
        go_wp2_with fail
        go_meet
        exact ⟨by simp; omega, rfl⟩
      · go_wp2_with fail
        go_meet
        exact ⟨by simp; omega, rfl⟩
      · subst e1
        go_wp2_with fail
        go_meet
        exact ⟨by simp; omega, rfl⟩
    case rest =>
    obtain ⟨rfl, rfl⟩ := hcut
    go_upto_region 11 with fail
    go_cut [117] (fun s wx => s = .bool false ∧ wn = wx)
    case first =>
      rcases HCUT.out with ⟨g1, g2, g3, g4⟩ | g1 | g1 | ⟨g1, g2, g3, g4, g5, g6⟩
      all_goals
        go_wp2_with fail
        all_goals
          go_meet
          exact ⟨by first | rfl | (simp; omega), rfl⟩
    case rest =>
      obtain ⟨rfl, rfl⟩ := hcut
      go_wp2_with fail
      obtain ⟨xn, xd, xe, hxa⟩ : ∃ xn xd xe, addv an ad cn cd = (xn, xd, xe) := ⟨_, _, _, rfl⟩
      have HXA := Lib.hid hxa; clear hxa
      obtain ⟨yn, yd, ye, hya⟩ : ∃ yn yd ye, addv bn bd cn cd = (yn, yd, ye) := ⟨_, _, _, rfl⟩
      have HYA := Lib.hid hya; clear hya
      ((with_reducible refine (add_any _ _ _ _ _ ha hc).mono ?_); rintro e wn ⟨rfl, hbn⟩)
      replace hw := below_then hw hbn
      replace HB := Lib.hid (HB.out.below hbn)
      clear hbn z1 a0 a1 z2 b0 b1 z3 c0 c1
      obtain ⟨-, ⟨z1, a0, a1⟩, ⟨z2, b0, b1⟩, ⟨z3, c0, c1⟩⟩ := HB.out
      rw [HXA.out]
      unfold ret3
      go_wp2_with fail
      have HP := Lib.hid (Bx.new wn xn xd)
      replace HB := Lib.hid (HB.out.below (below_alloc wn (.cells #[.int .i64 xn, .int .i64 xd] 24)))
      replace hw := below_then hw (below_alloc wn (.cells #[.int .i64 xn, .int .i64 xd] 24))
      ((with_reducible refine (add_any _ _ _ _ _ hb hc).mono ?_); rintro e wm ⟨rfl, hbm⟩)
      rw [HYA.out]
      unfold ret3
      replace HP := Lib.hid ((HP.out.below hbm).alloc (.cells #[.int .i64 yn, .int .i64 yd] 24))
      have HQ := Lib.hid (Bx.new wm yn yd)
      replace hw := below_then (below_then hw hbm) (below_alloc wm (.cells #[.int .i64 yn, .int .i64 yd] 24))
      clear hbm HB z1 a0 a1 z2 b0 b1 z3 c0 c1
      by_cases hxe : xe = 0
      · by_cases hye : ye = 0
        · subst hxe hye
          obtain ⟨vx, vy, hcm⟩ := HADD.out xn xd yn yd hva hvb hvc HXA.out HYA.out
          have HCM := Lib.hid (hcm.trans HX.out); clear hcm
          obtain ⟨z4, d0, d1⟩ := HP.out
          obtain ⟨z5, f0, f1⟩ := HQ.out
          go_wp2_with fail
          ((with_reducible refine (cmp_ok _ _ _ _ _ vx vy).mono ?_); rintro e wk ⟨rfl, hbk⟩)
          rw [HCM.out]
          go_wp2_with fail
          go_ret
          exact ⟨rfl, below_then hw hbk⟩
        · have hyb : (ye != 0) = true := by simp [hye]
          clear hye
          subst hxe
          go_wp2_with fail
          go_ret
          exact ⟨rfl, hw⟩
      · have hxb : (xe != 0) = true := by simp [hxe]
        clear hxe
        go_wp2_with fail
        go_ret
        exact ⟨rfl, hw⟩
  · cases hva : vldB an ad
    · go_enter Tryd.func6, Tryd.ntmps6
      go_wp2_with fail
      ((with_reducible refine (awake_any _ (ht.below hw)).mono ?_); rintro e wn ⟨rfl, hbn⟩)
      replace hw := below_then hw hbn
      replace HB := Lib.hid (HB.out.below hbn)
      clear hbn z1 a0 a1 z2 b0 b1 z3 c0 c1
      obtain ⟨-, ⟨z1, a0, a1⟩, ⟨z2, b0, b1⟩, ⟨z3, c0, c1⟩⟩ := HB.out
      go_wp2_with fail
      ((with_reducible refine (rvalid_any _ _ _ ha).mono ?_); rintro e wn ⟨rfl, hbn⟩)
      replace hw := below_then hw hbn
      replace HB := Lib.hid (HB.out.below hbn)
      clear hbn z1 a0 a1 z2 b0 b1 z3 c0 c1
      obtain ⟨-, ⟨z1, a0, a1⟩, ⟨z2, b0, b1⟩, ⟨z3, c0, c1⟩⟩ := HB.out
      go_wp2_with fail
      go_ret
      exact ⟨rfl, hw⟩
    · cases hvb : vldB bn bd
      · go_enter Tryd.func6, Tryd.ntmps6
        go_wp2_with fail
        ((with_reducible refine (awake_any _ (ht.below hw)).mono ?_); rintro e wn ⟨rfl, hbn⟩)
        replace hw := below_then hw hbn
        replace HB := Lib.hid (HB.out.below hbn)
        clear hbn z1 a0 a1 z2 b0 b1 z3 c0 c1
        obtain ⟨-, ⟨z1, a0, a1⟩, ⟨z2, b0, b1⟩, ⟨z3, c0, c1⟩⟩ := HB.out
        go_wp2_with fail
        ((with_reducible refine (rvalid_any _ _ _ ha).mono ?_); rintro e wn ⟨rfl, hbn⟩)
        replace hw := below_then hw hbn
        replace HB := Lib.hid (HB.out.below hbn)
        clear hbn z1 a0 a1 z2 b0 b1 z3 c0 c1
        obtain ⟨-, ⟨z1, a0, a1⟩, ⟨z2, b0, b1⟩, ⟨z3, c0, c1⟩⟩ := HB.out
        go_wp2_with fail
        ((with_reducible refine (rvalid_any _ _ _ hb).mono ?_); rintro e wn ⟨rfl, hbn⟩)
        replace hw := below_then hw hbn
        replace HB := Lib.hid (HB.out.below hbn)
        clear hbn z1 a0 a1 z2 b0 b1 z3 c0 c1
        obtain ⟨-, ⟨z1, a0, a1⟩, ⟨z2, b0, b1⟩, ⟨z3, c0, c1⟩⟩ := HB.out
        go_wp2_with fail
        go_ret
        exact ⟨rfl, hw⟩
      · cases hvc : vldB cn cd
        · go_enter Tryd.func6, Tryd.ntmps6
          go_wp2_with fail
          ((with_reducible refine (awake_any _ (ht.below hw)).mono ?_); rintro e wn ⟨rfl, hbn⟩)
          replace hw := below_then hw hbn
          replace HB := Lib.hid (HB.out.below hbn)
          clear hbn z1 a0 a1 z2 b0 b1 z3 c0 c1
          obtain ⟨-, ⟨z1, a0, a1⟩, ⟨z2, b0, b1⟩, ⟨z3, c0, c1⟩⟩ := HB.out
          go_wp2_with fail
          ((with_reducible refine (rvalid_any _ _ _ ha).mono ?_); rintro e wn ⟨rfl, hbn⟩)
          replace hw := below_then hw hbn
          replace HB := Lib.hid (HB.out.below hbn)
          clear hbn z1 a0 a1 z2 b0 b1 z3 c0 c1
          obtain ⟨-, ⟨z1, a0, a1⟩, ⟨z2, b0, b1⟩, ⟨z3, c0, c1⟩⟩ := HB.out
          go_wp2_with fail
          ((with_reducible refine (rvalid_any _ _ _ hb).mono ?_); rintro e wn ⟨rfl, hbn⟩)
          replace hw := below_then hw hbn
          replace HB := Lib.hid (HB.out.below hbn)
          clear hbn z1 a0 a1 z2 b0 b1 z3 c0 c1
          obtain ⟨-, ⟨z1, a0, a1⟩, ⟨z2, b0, b1⟩, ⟨z3, c0, c1⟩⟩ := HB.out
          go_wp2_with fail
          ((with_reducible refine (rvalid_any _ _ _ hc).mono ?_); rintro e wn ⟨rfl, hbn⟩)
          replace hw := below_then hw hbn
          replace HB := Lib.hid (HB.out.below hbn)
          clear hbn z1 a0 a1 z2 b0 b1 z3 c0 c1
          obtain ⟨-, ⟨z1, a0, a1⟩, ⟨z2, b0, b1⟩, ⟨z3, c0, c1⟩⟩ := HB.out
          go_wp2_with fail
          go_ret
          exact ⟨rfl, hw⟩
        · exact absurd ⟨hva, hvb, hvc⟩ hv
end Go.Proofs.YtbdihcpehadbjaaDoor
