/- The law FracField: the walk, whatever the fractions. -/
import Derived.Test.YtbdihcpehadbjaaDoorLf
namespace Go.Proofs.YtbdihcpehadbjaaDoor
open Go.RowKit

set_option maxRecDepth 100000 in
set_option maxHeartbeats 1600000 in
theorem fracField_all (an ad bn bd cn cd : Int) (w : World) (ht : Tb w) (ha : i64p (an, ad)) (hb : i64p (bn, bd)) (hc : i64p (cn, cd)) :
    Calls Tryd.prog 8 #[.agg #[.int .i64 an, .int .i64 ad], .agg #[.int .i64 bn, .int .i64 bd], .agg #[.int .i64 cn, .int .i64 cd]] w fun e w' => e = .returned (.bool true) ∧ Below w.heap.size w w' := by
  have HB := Lib.hid (Box3.start w an ad bn bd cn cd)
  have hw := HB.out.1
  have z1 := trivial
  have a0 := trivial
  have a1 := trivial
  have z2 := trivial
  have b0 := trivial
  have b1 := trivial
  have z3 := trivial
  have c0 := trivial
  have c1 := trivial
  cases hva : vldB an ad
  · go_enter Tryd.func8, Tryd.ntmps8
    go_wp2_with fail
    ((with_reducible refine (awake_any _ (ht.below hw)).mono ?_); rintro e wn ⟨rfl, hbn⟩)
    replace hw := below_then hw hbn
    replace HB := Lib.hid (HB.out.below hbn)
    clear hbn z1 a0 a1 z2 b0 b1 z3 c0 c1
    obtain ⟨-, ⟨z1, a0, a1⟩, ⟨z2, b0, b1⟩, ⟨z3, c0, c1⟩⟩ := HB.out
    go_wp2_with fail
    ((with_reducible refine (rvalid_any _ _ _ ha).mono ?_); rintro e wn ⟨rfl, hbn⟩)
    replace hw := below_then hw hbn
    replace HB := Lib.hid (HB.out.below hbn)
    clear hbn z1 a0 a1 z2 b0 b1 z3 c0 c1
    obtain ⟨-, ⟨z1, a0, a1⟩, ⟨z2, b0, b1⟩, ⟨z3, c0, c1⟩⟩ := HB.out
    go_wp2_with fail
    go_ret
    exact ⟨rfl, hw⟩
  · cases hvb : vldB bn bd
    · go_enter Tryd.func8, Tryd.ntmps8
      go_wp2_with fail
      ((with_reducible refine (awake_any _ (ht.below hw)).mono ?_); rintro e wn ⟨rfl, hbn⟩)
      replace hw := below_then hw hbn
      replace HB := Lib.hid (HB.out.below hbn)
      clear hbn z1 a0 a1 z2 b0 b1 z3 c0 c1
      obtain ⟨-, ⟨z1, a0, a1⟩, ⟨z2, b0, b1⟩, ⟨z3, c0, c1⟩⟩ := HB.out
      go_wp2_with fail
      ((with_reducible refine (rvalid_any _ _ _ ha).mono ?_); rintro e wn ⟨rfl, hbn⟩)
      replace hw := below_then hw hbn
      replace HB := Lib.hid (HB.out.below hbn)
      clear hbn z1 a0 a1 z2 b0 b1 z3 c0 c1
      obtain ⟨-, ⟨z1, a0, a1⟩, ⟨z2, b0, b1⟩, ⟨z3, c0, c1⟩⟩ := HB.out
      go_wp2_with fail
      ((with_reducible refine (rvalid_any _ _ _ hb).mono ?_); rintro e wn ⟨rfl, hbn⟩)
      replace hw := below_then hw hbn
      replace HB := Lib.hid (HB.out.below hbn)
      clear hbn z1 a0 a1 z2 b0 b1 z3 c0 c1
      obtain ⟨-, ⟨z1, a0, a1⟩, ⟨z2, b0, b1⟩, ⟨z3, c0, c1⟩⟩ := HB.out
      go_wp2_with fail
      go_ret
      exact ⟨rfl, hw⟩
    · cases hvc : vldB cn cd
      · go_enter Tryd.func8, Tryd.ntmps8
        go_wp2_with fail
        ((with_reducible refine (awake_any _ (ht.below hw)).mono ?_); rintro e wn ⟨rfl, hbn⟩)
        replace hw := below_then hw hbn
        replace HB := Lib.hid (HB.out.below hbn)
        clear hbn z1 a0 a1 z2 b0 b1 z3 c0 c1
        obtain ⟨-, ⟨z1, a0, a1⟩, ⟨z2, b0, b1⟩, ⟨z3, c0, c1⟩⟩ := HB.out
        go_wp2_with fail
        ((with_reducible refine (rvalid_any _ _ _ ha).mono ?_); rintro e wn ⟨rfl, hbn⟩)
        replace hw := below_then hw hbn
        replace HB := Lib.hid (HB.out.below hbn)
        clear hbn z1 a0 a1 z2 b0 b1 z3 c0 c1
        obtain ⟨-, ⟨z1, a0, a1⟩, ⟨z2, b0, b1⟩, ⟨z3, c0, c1⟩⟩ := HB.out
        go_wp2_with fail
        ((with_reducible refine (rvalid_any _ _ _ hb).mono ?_); rintro e wn ⟨rfl, hbn⟩)
        replace hw := below_then hw hbn
        replace HB := Lib.hid (HB.out.below hbn)
        clear hbn z1 a0 a1 z2 b0 b1 z3 c0 c1
        obtain ⟨-, ⟨z1, a0, a1⟩, ⟨z2, b0, b1⟩, ⟨z3, c0, c1⟩⟩ := HB.out
        go_wp2_with fail
        ((with_reducible refine (rvalid_any _ _ _ hc).mono ?_); rintro e wn ⟨rfl, hbn⟩)
        replace hw := below_then hw hbn
        replace HB := Lib.hid (HB.out.below hbn)
        clear hbn z1 a0 a1 z2 b0 b1 z3 c0 c1
        obtain ⟨-, ⟨z1, a0, a1⟩, ⟨z2, b0, b1⟩, ⟨z3, c0, c1⟩⟩ := HB.out
        go_wp2_with fail
        go_ret
        exact ⟨rfl, hw⟩
      · exact fracField_walk an ad bn bd cn cd w ht ha hb hc hva hvb hvc
end Go.Proofs.YtbdihcpehadbjaaDoor
