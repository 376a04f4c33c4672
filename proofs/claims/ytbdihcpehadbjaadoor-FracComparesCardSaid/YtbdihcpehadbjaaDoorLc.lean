/- The law FracCompares: the walk. -/
import Derived.Test.YtbdihcpehadbjaaDoorFj
namespace Go.Proofs.YtbdihcpehadbjaaDoor
open Go.RowKit

set_option maxHeartbeats 1600000 in
theorem fracCompares_walk (an ad bn bd : Int) (w : World) (ht : Tb w) (ha : i64p (an, ad)) (hb : i64p (bn, bd)) :
    Calls Tryd.prog 5 #[.agg #[.int .i64 an, .int .i64 ad], .agg #[.int .i64 bn, .int .i64 bd]] w fun e w' => e = .returned (.bool true) ∧ Below w.heap.size w w' := by
  have HB := Lib.hid (Box1.start w an ad bn bd)
  have hw := HB.out.1
  have z1 := trivial
  have a0 := trivial
  have a1 := trivial
  have z2 := trivial
  have b0 := trivial
  have b1 := trivial
  cases hva : vldB an ad
  · have hv2 : (vldB an ad && vldB bn bd) = false := by rw [hva]; rfl
    go_enter Tryd.func5, Tryd.ntmps5
    go_wp2_with fail
    ((with_reducible refine (awake_any _ (ht.below hw)).mono ?_); rintro e wn ⟨rfl, hbn⟩)
    replace hw := below_then hw hbn
    replace HB := Lib.hid (HB.out.below hbn)
    clear hbn z1 a0 a1 z2 b0 b1
    obtain ⟨_, ⟨z1, a0, a1⟩, ⟨z2, b0, b1⟩⟩ := HB.out
    go_wp2_with fail
    ((with_reducible refine (cmp_bad _ _ _ _ _ ha hb hv2).mono ?_); rintro e wn ⟨rfl, hbn⟩)
    replace hw := below_then hw hbn
    replace HB := Lib.hid (HB.out.below hbn)
    clear hbn z1 a0 a1 z2 b0 b1
    obtain ⟨_, ⟨z1, a0, a1⟩, ⟨z2, b0, b1⟩⟩ := HB.out
    go_wp2_with fail
    ((with_reducible refine (floor_bad _ _ _ ha hva).mono ?_); rintro e wn ⟨rfl, hbn⟩)
    replace hw := below_then hw hbn
    replace HB := Lib.hid (HB.out.below hbn)
    clear hbn z1 a0 a1 z2 b0 b1
    obtain ⟨_, ⟨z1, a0, a1⟩, ⟨z2, b0, b1⟩⟩ := HB.out
    go_wp2_with fail
    ((with_reducible refine (ceil_bad _ _ _ ha hva).mono ?_); rintro e wn ⟨rfl, hbn⟩)
    replace hw := below_then hw hbn
    replace HB := Lib.hid (HB.out.below hbn)
    clear hbn z1 a0 a1 z2 b0 b1
    obtain ⟨_, ⟨z1, a0, a1⟩, ⟨z2, b0, b1⟩⟩ := HB.out
    go_wp2_with fail
    ((with_reducible refine (rvalid_any _ _ _ ha).mono ?_); rintro e wn ⟨rfl, hbn⟩)
    replace hw := below_then hw hbn
    replace HB := Lib.hid (HB.out.below hbn)
    clear hbn z1 a0 a1 z2 b0 b1
    obtain ⟨_, ⟨z1, a0, a1⟩, ⟨z2, b0, b1⟩⟩ := HB.out
    go_wp2_with fail
    go_ret
    exact ⟨rfl, hw⟩
  · obtain ⟨p1, p2, p3, p4, p5⟩ := vldB_parts hva
    clear p5
    cases hvb : vldB bn bd
    · have hv2 : (vldB an ad && vldB bn bd) = false := by rw [hvb, Bool.and_false]
      go_enter Tryd.func5, Tryd.ntmps5
      go_wp2_with fail
      ((with_reducible refine (awake_any _ (ht.below hw)).mono ?_); rintro e wn ⟨rfl, hbn⟩)
      replace hw := below_then hw hbn
      replace HB := Lib.hid (HB.out.below hbn)
      clear hbn z1 a0 a1 z2 b0 b1
      obtain ⟨_, ⟨z1, a0, a1⟩, ⟨z2, b0, b1⟩⟩ := HB.out
      go_wp2_with fail
      ((with_reducible refine (cmp_bad _ _ _ _ _ ha hb hv2).mono ?_); rintro e wn ⟨rfl, hbn⟩)
      replace hw := below_then hw hbn
      replace HB := Lib.hid (HB.out.below hbn)
      clear hbn z1 a0 a1 z2 b0 b1
      obtain ⟨_, ⟨z1, a0, a1⟩, ⟨z2, b0, b1⟩⟩ := HB.out
      go_wp2_with fail
      ((with_reducible refine (floor_ok _ _ _ hva).mono ?_); rintro e wn ⟨rfl, hbn⟩)
      replace hw := below_then hw hbn
      replace HB := Lib.hid (HB.out.below hbn)
      clear hbn z1 a0 a1 z2 b0 b1
      obtain ⟨_, ⟨z1, a0, a1⟩, ⟨z2, b0, b1⟩⟩ := HB.out
      go_wp2_with fail
      ((with_reducible refine (ceil_ok _ _ _ hva).mono ?_); rintro e wn ⟨rfl, hbn⟩)
      replace hw := below_then hw hbn
      replace HB := Lib.hid (HB.out.below hbn)
      clear hbn z1 a0 a1 z2 b0 b1
      obtain ⟨_, ⟨z1, a0, a1⟩, ⟨z2, b0, b1⟩⟩ := HB.out
      go_wp2_with fail
      ((with_reducible refine (rvalid_any _ _ _ ha).mono ?_); rintro e wn ⟨rfl, hbn⟩)
      replace hw := below_then hw hbn
      replace HB := Lib.hid (HB.out.below hbn)
      clear hbn z1 a0 a1 z2 b0 b1
      obtain ⟨_, ⟨z1, a0, a1⟩, ⟨z2, b0, b1⟩⟩ := HB.out
      go_wp2_with fail
      ((with_reducible refine (rfloor_ok _ _ _ p1 p2 p3 p4).mono ?_); rintro e wn ⟨rfl, hbn⟩)
      replace hw := below_then hw hbn
      replace HB := Lib.hid (HB.out.below hbn)
      clear hbn z1 a0 a1 z2 b0 b1
      obtain ⟨_, ⟨z1, a0, a1⟩, ⟨z2, b0, b1⟩⟩ := HB.out
      go_wp2_with fail
      ((with_reducible refine (rceil_ok _ _ _ p1 p2 p3 p4).mono ?_); rintro e wn ⟨rfl, hbn⟩)
      replace hw := below_then hw hbn
      replace HB := Lib.hid (HB.out.below hbn)
      clear hbn z1 a0 a1 z2 b0 b1
      obtain ⟨_, ⟨z1, a0, a1⟩, ⟨z2, b0, b1⟩⟩ := HB.out
      go_wp2_with fail
      ((with_reducible refine (rvalid_any _ _ _ hb).mono ?_); rintro e wn ⟨rfl, hbn⟩)
      replace hw := below_then hw hbn
      replace HB := Lib.hid (HB.out.below hbn)
      clear hbn z1 a0 a1 z2 b0 b1
      obtain ⟨_, ⟨z1, a0, a1⟩, ⟨z2, b0, b1⟩⟩ := HB.out
      go_wp2_with fail
      go_ret
      exact ⟨rfl, hw⟩
    · go_enter Tryd.func5, Tryd.ntmps5
      go_wp2_with fail
      ((with_reducible refine (awake_any _ (ht.below hw)).mono ?_); rintro e wn ⟨rfl, hbn⟩)
      replace hw := below_then hw hbn
      replace HB := Lib.hid (HB.out.below hbn)
      clear hbn z1 a0 a1 z2 b0 b1
      obtain ⟨_, ⟨z1, a0, a1⟩, ⟨z2, b0, b1⟩⟩ := HB.out
      go_wp2_with fail
      ((with_reducible refine (cmp_ok _ _ _ _ _ hva hvb).mono ?_); rintro e wn ⟨rfl, hbn⟩)
      replace hw := below_then hw hbn
      replace HB := Lib.hid (HB.out.below hbn)
      clear hbn z1 a0 a1 z2 b0 b1
      obtain ⟨_, ⟨z1, a0, a1⟩, ⟨z2, b0, b1⟩⟩ := HB.out
      go_wp2_with fail
      ((with_reducible refine (floor_ok _ _ _ hva).mono ?_); rintro e wn ⟨rfl, hbn⟩)
      replace hw := below_then hw hbn
      replace HB := Lib.hid (HB.out.below hbn)
      clear hbn z1 a0 a1 z2 b0 b1
      obtain ⟨_, ⟨z1, a0, a1⟩, ⟨z2, b0, b1⟩⟩ := HB.out
      go_wp2_with fail
      ((with_reducible refine (ceil_ok _ _ _ hva).mono ?_); rintro e wn ⟨rfl, hbn⟩)
      replace hw := below_then hw hbn
      replace HB := Lib.hid (HB.out.below hbn)
      clear hbn z1 a0 a1 z2 b0 b1
      obtain ⟨_, ⟨z1, a0, a1⟩, ⟨z2, b0, b1⟩⟩ := HB.out
      go_wp2_with fail
      ((with_reducible refine (rvalid_any _ _ _ ha).mono ?_); rintro e wn ⟨rfl, hbn⟩)
      replace hw := below_then hw hbn
      replace HB := Lib.hid (HB.out.below hbn)
      clear hbn z1 a0 a1 z2 b0 b1
      obtain ⟨_, ⟨z1, a0, a1⟩, ⟨z2, b0, b1⟩⟩ := HB.out
      go_wp2_with fail
      ((with_reducible refine (rfloor_ok _ _ _ p1 p2 p3 p4).mono ?_); rintro e wn ⟨rfl, hbn⟩)
      replace hw := below_then hw hbn
      replace HB := Lib.hid (HB.out.below hbn)
      clear hbn z1 a0 a1 z2 b0 b1
      obtain ⟨_, ⟨z1, a0, a1⟩, ⟨z2, b0, b1⟩⟩ := HB.out
      go_wp2_with fail
      ((with_reducible refine (rceil_ok _ _ _ p1 p2 p3 p4).mono ?_); rintro e wn ⟨rfl, hbn⟩)
      replace hw := below_then hw hbn
      replace HB := Lib.hid (HB.out.below hbn)
      clear hbn z1 a0 a1 z2 b0 b1
      obtain ⟨_, ⟨z1, a0, a1⟩, ⟨z2, b0, b1⟩⟩ := HB.out
      go_wp2_with fail
      ((with_reducible refine (rvalid_any _ _ _ hb).mono ?_); rintro e wn ⟨rfl, hbn⟩)
      replace hw := below_then hw hbn
      replace HB := Lib.hid (HB.out.below hbn)
      clear hbn z1 a0 a1 z2 b0 b1
      obtain ⟨_, ⟨z1, a0, a1⟩, ⟨z2, b0, b1⟩⟩ := HB.out
      go_wp2_with fail
      ((with_reducible refine (rcmp_any _ _ _ _ _ hva hvb).mono ?_); rintro e wn ⟨rfl, hbn⟩)
      replace hw := below_then hw hbn
      replace HB := Lib.hid (HB.out.below hbn)
      clear hbn z1 a0 a1 z2 b0 b1
      obtain ⟨_, ⟨z1, a0, a1⟩, ⟨z2, b0, b1⟩⟩ := HB.out
      go_wp2_with fail
      go_ret
      exact ⟨rfl, hw⟩
end Go.Proofs.YtbdihcpehadbjaaDoor
