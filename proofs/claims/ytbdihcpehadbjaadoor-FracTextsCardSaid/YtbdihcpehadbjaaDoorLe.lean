/- The law FracOps: the walk. -/
import Derived.Test.YtbdihcpehadbjaaDoorFm
import Derived.Deep.DeepCutAuto
namespace Go.Proofs.YtbdihcpehadbjaaDoor
open Go.RowKit

/-- fractions lie in blocks -/
def Bxs (w : World) (l : List (Nat × Int × Int)) : Prop := ∀ x ∈ l, Bx w x.1 x.2.1 x.2.2
theorem Bxs.below {w w' : World} {l : List (Nat × Int × Int)} (h : Bxs w l) (hb : Below w.heap.size w w') : Bxs w' l := fun x hx => (h x hx).below hb
theorem Bxs.push {w : World} {l : List (Nat × Int × Int)} (h : Bxs w l) (n d : Int) : Bxs (w.alloc (.cells #[.int .i64 n, .int .i64 d] 24)) ((w.heap.size, n, d) :: l) := fun x hx => by
  rcases List.mem_cons.1 hx with rfl | hx
  · exact Bx.new w n d
  · exact (h x hx).alloc _
theorem Bxs.nil (w : World) : Bxs w [] := fun x hx => by cases hx
theorem Bxs.head {w : World} {B : Nat} {n d : Int} {l : List (Nat × Int × Int)} (h : Bxs w ((B, n, d) :: l)) : Bx w B n d := h (B, n, d) (List.mem_cons_self ..)
theorem Bxs.tail {w : World} {x : Nat × Int × Int} {l : List (Nat × Int × Int)} (h : Bxs w (x :: l)) : Bxs w l := fun y hy => h y (List.mem_cons_of_mem _ hy)

set_option maxRecDepth 100000 in
set_option maxHeartbeats 3200000 in
theorem fracOps_walk (an ad bn bd : Int) (w : World) (ht : Tb w) (ha : i64p (an, ad)) (hb : i64p (bn, bd)) :
    Calls Tryd.prog 7 #[.agg #[.int .i64 an, .int .i64 ad], .agg #[.int .i64 bn, .int .i64 bd]] w fun e w' => e = .returned (.bool true) ∧ Below w.heap.size w w' := by
  have HB := Lib.hid (Box1.start w an ad bn bd)
  have hw := HB.out.1
  have z1 := trivial
  have a0 := trivial
  have a1 := trivial
  have z2 := trivial
  have b0 := trivial
  have b1 := trivial
  obtain ⟨p1, q1, r1, ht1⟩ : ∃ p q r, addv an ad bn bd = (p, q, r) := ⟨_, _, _, rfl⟩
  obtain ⟨p2, q2, r2, ht2⟩ : ∃ p q r, subv an ad bn bd = (p, q, r) := ⟨_, _, _, rfl⟩
  obtain ⟨p3, q3, r3, ht3⟩ : ∃ p q r, mulv an ad bn bd = (p, q, r) := ⟨_, _, _, rfl⟩
  obtain ⟨p4, q4, r4, ht4⟩ : ∃ p q r, divv an ad bn bd = (p, q, r) := ⟨_, _, _, rfl⟩
  have H1 := Lib.hid ht1; clear ht1
  have H2 := Lib.hid ht2; clear ht2
  have H3 := Lib.hid ht3; clear ht3
  have H4 := Lib.hid ht4; clear ht4
  go_enter Tryd.func7, Tryd.ntmps7
  go_wp2_with fail
  ((with_reducible refine (awake_any _ (ht.below hw)).mono ?_); rintro e wn ⟨rfl, hbn⟩)
  replace hw := below_then hw hbn
  replace HB := Lib.hid (HB.out.below hbn)
  clear hbn z1 a0 a1 z2 b0 b1
  obtain ⟨-, ⟨z1, a0, a1⟩, ⟨z2, b0, b1⟩⟩ := HB.out
  have HL := Lib.hid (Bxs.nil wn)
  have HLn := trivial
  go_wp2_with fail
  ((with_reducible refine (add_any _ _ _ _ _ ha hb).mono ?_); rintro e wn ⟨rfl, hbn⟩)
  rw [H1.out]
  have hbx := HB.out.below hbn
  replace hw := below_then (below_then hw hbn) (below_alloc wn (.cells #[.int .i64 p1, .int .i64 q1] 24))
  replace HB := Lib.hid (hbx.below (below_alloc wn (.cells #[.int .i64 p1, .int .i64 q1] 24)))
  replace HLn := Lib.hid (HL.out.below hbn)
  replace HL := Lib.hid (HLn.out.push p1 q1)
  clear hbn z1 a0 a1 z2 b0 b1
  obtain ⟨-, ⟨z1, a0, a1⟩, ⟨z2, b0, b1⟩⟩ := hbx
  unfold ret3
  go_wp2_with fail
  ((with_reducible refine (sub_any _ _ _ _ _ ha hb).mono ?_); rintro e wn ⟨rfl, hbn⟩)
  rw [H2.out]
  have hbx := HB.out.below hbn
  replace hw := below_then (below_then hw hbn) (below_alloc wn (.cells #[.int .i64 p2, .int .i64 q2] 24))
  replace HB := Lib.hid (hbx.below (below_alloc wn (.cells #[.int .i64 p2, .int .i64 q2] 24)))
  replace HLn := Lib.hid (HL.out.below hbn)
  replace HL := Lib.hid (HLn.out.push p2 q2)
  clear hbn z1 a0 a1 z2 b0 b1
  obtain ⟨-, ⟨z1, a0, a1⟩, ⟨z2, b0, b1⟩⟩ := hbx
  unfold ret3
  go_wp2_with fail
  ((with_reducible refine (mul_any _ _ _ _ _ ha hb).mono ?_); rintro e wn ⟨rfl, hbn⟩)
  rw [H3.out]
  have hbx := HB.out.below hbn
  replace hw := below_then (below_then hw hbn) (below_alloc wn (.cells #[.int .i64 p3, .int .i64 q3] 24))
  replace HB := Lib.hid (hbx.below (below_alloc wn (.cells #[.int .i64 p3, .int .i64 q3] 24)))
  replace HLn := Lib.hid (HL.out.below hbn)
  replace HL := Lib.hid (HLn.out.push p3 q3)
  clear hbn z1 a0 a1 z2 b0 b1
  obtain ⟨-, ⟨z1, a0, a1⟩, ⟨z2, b0, b1⟩⟩ := hbx
  unfold ret3
  go_wp2_with fail
  ((with_reducible refine (div_any _ _ _ _ _ ha hb).mono ?_); rintro e wn ⟨rfl, hbn⟩)
  rw [H4.out]
  have hbx := HB.out.below hbn
  replace hw := below_then (below_then hw hbn) (below_alloc wn (.cells #[.int .i64 p4, .int .i64 q4] 24))
  replace HB := Lib.hid (hbx.below (below_alloc wn (.cells #[.int .i64 p4, .int .i64 q4] 24)))
  replace HLn := Lib.hid (HL.out.below hbn)
  replace HL := Lib.hid (HLn.out.push p4 q4)
  clear hbn z1 a0 a1 z2 b0 b1
  obtain ⟨-, ⟨z1, a0, a1⟩, ⟨z2, b0, b1⟩⟩ := hbx
  unfold ret3
  go_wp2_with fail
  ((with_reducible refine (radd_any _ _ _ _ _ ha hb).mono ?_); rintro e wn ⟨rfl, hbn⟩)
  rw [H1.out]
  have hbx := HB.out.below hbn
  replace hw := below_then (below_then hw hbn) (below_alloc wn (.cells #[.int .i64 p1, .int .i64 q1] 24))
  replace HB := Lib.hid (hbx.below (below_alloc wn (.cells #[.int .i64 p1, .int .i64 q1] 24)))
  replace HLn := Lib.hid (HL.out.below hbn)
  replace HL := Lib.hid (HLn.out.push p1 q1)
  clear hbn z1 a0 a1 z2 b0 b1
  obtain ⟨-, ⟨z1, a0, a1⟩, ⟨z2, b0, b1⟩⟩ := hbx
  unfold ret3
  go_wp2_with fail
  ((with_reducible refine (rsub_any _ _ _ _ _ ha hb).mono ?_); rintro e wn ⟨rfl, hbn⟩)
  rw [H2.out]
  have hbx := HB.out.below hbn
  replace hw := below_then (below_then hw hbn) (below_alloc wn (.cells #[.int .i64 p2, .int .i64 q2] 24))
  replace HB := Lib.hid (hbx.below (below_alloc wn (.cells #[.int .i64 p2, .int .i64 q2] 24)))
  replace HLn := Lib.hid (HL.out.below hbn)
  replace HL := Lib.hid (HLn.out.push p2 q2)
  clear hbn z1 a0 a1 z2 b0 b1
  obtain ⟨-, ⟨z1, a0, a1⟩, ⟨z2, b0, b1⟩⟩ := hbx
  unfold ret3
  go_wp2_with fail
  ((with_reducible refine (rmul_any _ _ _ _ _ ha hb).mono ?_); rintro e wn ⟨rfl, hbn⟩)
  rw [H3.out]
  have hbx := HB.out.below hbn
  replace hw := below_then (below_then hw hbn) (below_alloc wn (.cells #[.int .i64 p3, .int .i64 q3] 24))
  replace HB := Lib.hid (hbx.below (below_alloc wn (.cells #[.int .i64 p3, .int .i64 q3] 24)))
  replace HLn := Lib.hid (HL.out.below hbn)
  replace HL := Lib.hid (HLn.out.push p3 q3)
  clear hbn z1 a0 a1 z2 b0 b1
  obtain ⟨-, ⟨z1, a0, a1⟩, ⟨z2, b0, b1⟩⟩ := hbx
  unfold ret3
  go_wp2_with fail
  ((with_reducible refine (rdiv_any _ _ _ _ _ ha hb).mono ?_); rintro e wn ⟨rfl, hbn⟩)
  rw [H4.out]
  have hbx := HB.out.below hbn
  replace hw := below_then (below_then hw hbn) (below_alloc wn (.cells #[.int .i64 p4, .int .i64 q4] 24))
  replace HB := Lib.hid (hbx.below (below_alloc wn (.cells #[.int .i64 p4, .int .i64 q4] 24)))
  replace HLn := Lib.hid (HL.out.below hbn)
  replace HL := Lib.hid (HLn.out.push p4 q4)
  clear hbn z1 a0 a1 z2 b0 b1
  obtain ⟨-, ⟨z1, a0, a1⟩, ⟨z2, b0, b1⟩⟩ := hbx
  unfold ret3
  go_upto_region 11 with fail
  generalize wn.alloc (.cells #[.int .i64 p4, .int .i64 q4] 24) = W at HL hw ⊢
  have hl := HL.out
  clear HL HB z1 a0 a1 z2 b0 b1
  obtain ⟨z1, a0, a1⟩ := hl.head
  obtain ⟨z2, b0, b1⟩ := hl.tail.head
  obtain ⟨z3, c0, c1⟩ := hl.tail.tail.head
  obtain ⟨z4, d0, d1⟩ := hl.tail.tail.tail.head
  obtain ⟨z5, e0, e1⟩ := hl.tail.tail.tail.tail.head
  obtain ⟨z6, f0, f1⟩ := hl.tail.tail.tail.tail.tail.head
  obtain ⟨z7, g0, g1⟩ := hl.tail.tail.tail.tail.tail.tail.head
  obtain ⟨z8, h0, h1⟩ := hl.tail.tail.tail.tail.tail.tail.tail.head
  clear hl
  go_wp2_with fail
  go_ret
  exact ⟨rfl, hw⟩
end Go.Proofs.YtbdihcpehadbjaaDoor
