/- The law FracField: the walk. -/
import Derived.Test.YtbdihcpehadbjaaDoorLd
import Derived.Test.YtbdihcpehadbjaaDoorLe
import Derived.Test.YtbdihcpehadbjaaDoorPd
namespace Go.Proofs.YtbdihcpehadbjaaDoor
open Go.RowKit

/-- the two operations lie in a block -/
def FnS (w : World) (F : Nat) : Prop := F < w.heap.size ∧ w.cell? ⟨F, 0, none⟩ = some (.func (.func 23) #[] #[]) ∧ w.cell? ⟨F, 1, none⟩ = some (.func (.func 25) #[] #[])
theorem FnS.below {w w' : World} {F : Nat} (h : FnS w F) (hb : Below w.heap.size w w') : FnS w' F :=
  ⟨Nat.lt_of_lt_of_le h.1 hb.size, by rw [hb.cell (p := ⟨F, 0, none⟩) h.1]; exact h.2.1, by rw [hb.cell (p := ⟨F, 1, none⟩) h.1]; exact h.2.2⟩
theorem FnS.new (w : World) (t : TypeId) : FnS (w.alloc (.cells #[.func (.func 23) #[] #[], .func (.func 25) #[] #[]] t)) w.heap.size := ⟨by simp, by simp, by simp⟩
/-- a fraction lies in a block that may be written -/
def Bw (w : World) (B : Nat) (n d : Int) : Prop := Bx w B n d ∧ w.frozen? ⟨B, 0, none⟩ = false ∧ w.frozen? ⟨B, 1, none⟩ = false
theorem Bw.below {w w' : World} {B : Nat} {n d : Int} (h : Bw w B n d) (hb : Below w.heap.size w w') : Bw w' B n d :=
  ⟨h.1.below hb, by rw [hb.frozen (p := ⟨B, 0, none⟩) h.1.1]; exact h.2.1, by rw [hb.frozen (p := ⟨B, 1, none⟩) h.1.1]; exact h.2.2⟩
theorem Bw.new (w : World) (n d : Int) : Bw (w.alloc (.cells #[.int .i64 n, .int .i64 d] 24)) w.heap.size n d := ⟨Bx.new w n d, by simp, by simp⟩
/-- what the loop keeps -/
def FieldS (w wr : World) (F : Nat) (an ad bn bd cn cd : Int) : Prop := Box3 w wr an ad bn bd cn cd ∧ FnS wr F
theorem FieldS.below {w w1 w2 : World} {F : Nat} {an ad bn bd cn cd : Int} (h : FieldS w w1 F an ad bn bd cn cd) (hb : Below w1.heap.size w1 w2) : FieldS w w2 F an ad bn bd cn cd := ⟨h.1.below hb, h.2.below hb⟩

set_option maxRecDepth 100000 in
set_option maxHeartbeats 6400000 in
theorem fracField_walk (an ad bn bd cn cd : Int) (w : World) (ht : Tb w) (ha : i64p (an, ad)) (hb : i64p (bn, bd)) (hc : i64p (cn, cd)) (hva : vldB an ad = true) (hvb : vldB bn bd = true) (hvc : vldB cn cd = true) :
    Calls Tryd.prog 8 #[.agg #[.int .i64 an, .int .i64 ad], .agg #[.int .i64 bn, .int .i64 bd], .agg #[.int .i64 cn, .int .i64 cd]] w fun e w' => e = .returned (.bool true) ∧ Below w.heap.size w w' := by
  have HB := Lib.hid (Box3.start w an ad bn bd cn cd)
  have hw := HB.out.1
  have z1 := trivial
  have a0 := trivial
  have a1 := trivial
  have z2 := trivial
  have b0 := trivial
  have b1 := trivial
  have z3 := trivial
  have c0 := trivial
  have c1 := trivial
  go_enter Tryd.func8, Tryd.ntmps8
  go_wp2_with fail
  ((with_reducible refine (awake_any _ (ht.below hw)).mono ?_); rintro e wn ⟨rfl, hbn⟩)
  replace hw := below_then hw hbn
  replace HB := Lib.hid (HB.out.below hbn)
  clear hbn z1 a0 a1 z2 b0 b1 z3 c0 c1
  obtain ⟨-, ⟨z1, a0, a1⟩, ⟨z2, b0, b1⟩, ⟨z3, c0, c1⟩⟩ := HB.out
  go_wp2_with fail
  ((with_reducible refine (rvalid_any _ _ _ ha).mono ?_); rintro e wn ⟨rfl, hbn⟩)
  replace hw := below_then hw hbn
  replace HB := Lib.hid (HB.out.below hbn)
  clear hbn z1 a0 a1 z2 b0 b1 z3 c0 c1
  obtain ⟨-, ⟨z1, a0, a1⟩, ⟨z2, b0, b1⟩, ⟨z3, c0, c1⟩⟩ := HB.out
  go_wp2_with fail
  ((with_reducible refine (rvalid_any _ _ _ hb).mono ?_); rintro e wn ⟨rfl, hbn⟩)
  replace hw := below_then hw hbn
  replace HB := Lib.hid (HB.out.below hbn)
  clear hbn z1 a0 a1 z2 b0 b1 z3 c0 c1
  obtain ⟨-, ⟨z1, a0, a1⟩, ⟨z2, b0, b1⟩, ⟨z3, c0, c1⟩⟩ := HB.out
  go_wp2_with fail
  ((with_reducible refine (rvalid_any _ _ _ hc).mono ?_); rintro e wn ⟨rfl, hbn⟩)
  replace hw := below_then hw hbn
  replace HB := Lib.hid (HB.out.below hbn)
  clear hbn z1 a0 a1 z2 b0 b1 z3 c0 c1
  obtain ⟨-, ⟨z1, a0, a1⟩, ⟨z2, b0, b1⟩, ⟨z3, c0, c1⟩⟩ := HB.out
  go_wp2_with fail
  replace HB := Lib.hid (⟨HB.out.below (below_alloc wn (.cells #[.func (.func 23) #[] #[], .func (.func 25) #[] #[]] 39)), FnS.new wn 39⟩ : FieldS w (wn.alloc (.cells #[.func (.func 23) #[] #[], .func (.func 25) #[] #[]] 39)) wn.heap.size an ad bn bd cn cd)
  clear z1 a0 a1 z2 b0 b1 z3 c0 c1 hw
  generalize wn.heap.size = F at HB ⊢
  go_loopw [53] (fun i wr => ∃ k : Int, (k = 0 ∨ k = 1 ∨ k = 2) ∧ i = .int .i64 k ∧ FieldS w wr F an ad bn bd cn cd) (fun i _ => (2 - intOf i).toNat)
  case atStart => exact ⟨0, .inl rfl, rfl, HB.out⟩
  case round =>
    clear HB
    obtain ⟨k, hk, rfl, hS⟩ := hrel
    have hw := hS.1.1
    have HB := Lib.hid hS
    obtain ⟨⟨-, ⟨z1, a0, a1⟩, ⟨z2, b0, b1⟩, ⟨z3, c0, c1⟩⟩, ⟨zf, f0, f1⟩⟩ := hS
    rcases hk with rfl | rfl | rfl
    · obtain ⟨p1, q1, r1, ht1⟩ : ∃ p q r, addv an ad bn bd = (p, q, r) := ⟨_, _, _, rfl⟩
      have ht2 : addv bn bd an ad = (p1, q1, r1) := by rw [addv_comm]; exact ht1
      obtain ⟨p3, q3, r3, ht3⟩ : ∃ p q r, addv p1 q1 cn cd = (p, q, r) := ⟨_, _, _, rfl⟩
      obtain ⟨p4, q4, r4, ht4⟩ : ∃ p q r, addv bn bd cn cd = (p, q, r) := ⟨_, _, _, rfl⟩
      obtain ⟨p5, q5, r5, ht5⟩ : ∃ p q r, addv an ad p4 q4 = (p, q, r) := ⟨_, _, _, rfl⟩
      have hx := addv_i64 ht1
      have hm := addv_i64 ht4
      have HQ := Lib.hid (fun (e1 : r1 = 0) (e3 : r3 = 0) (e4 : r4 = 0) (e5 : r5 = 0) => by subst e1 e3 e4 e5; exact addv_assoc hva hvb hvc ht1 ht3 ht4 ht5 : r1 = 0 → r3 = 0 → r4 = 0 → r5 = 0 → p3 = p5 ∧ q3 = q5)
      have H1 := Lib.hid ht1; clear ht1
      have H2 := Lib.hid ht2; clear ht2
      have H3 := Lib.hid ht3; clear ht3
      have H4 := Lib.hid ht4; clear ht4
      have H5 := Lib.hid ht5; clear ht5
      have HL := Lib.hid (Bxs.nil wr)
      have HLn := trivial
      go_wp2_with fail
      ((with_reducible refine (add_any _ _ _ _ _ ha hb).mono ?_); rintro e wn ⟨rfl, hbn⟩)
      rw [H1.out]
      have hbx := HB.out.below hbn
      replace hw := below_then (below_then hw hbn) (below_alloc wn (.cells #[.int .i64 p1, .int .i64 q1] 24))
      replace HB := Lib.hid (hbx.below (below_alloc wn (.cells #[.int .i64 p1, .int .i64 q1] 24)))
      replace HLn := Lib.hid (HL.out.below hbn)
      replace HL := Lib.hid (HLn.out.push p1 q1)
      clear hbn z1 a0 a1 z2 b0 b1 z3 c0 c1 zf f0 f1
      obtain ⟨⟨-, ⟨z1, a0, a1⟩, ⟨z2, b0, b1⟩, ⟨z3, c0, c1⟩⟩, ⟨zf, f0, f1⟩⟩ := hbx
      unfold ret3
      go_wp2_with fail
      ((with_reducible refine (add_any _ _ _ _ _ hb ha).mono ?_); rintro e wn ⟨rfl, hbn⟩)
      rw [H2.out]
      have hbx := HB.out.below hbn
      replace hw := below_then (below_then hw hbn) (below_alloc wn (.cells #[.int .i64 p1, .int .i64 q1] 24))
      replace HB := Lib.hid (hbx.below (below_alloc wn (.cells #[.int .i64 p1, .int .i64 q1] 24)))
      replace HLn := Lib.hid (HL.out.below hbn)
      replace HL := Lib.hid (HLn.out.push p1 q1)
      clear hbn z1 a0 a1 z2 b0 b1 z3 c0 c1 zf f0 f1
      obtain ⟨⟨-, ⟨z1, a0, a1⟩, ⟨z2, b0, b1⟩, ⟨z3, c0, c1⟩⟩, ⟨zf, f0, f1⟩⟩ := hbx
      unfold ret3
      obtain ⟨zx, x0, x1⟩ := HLn.out.head
      go_wp2_with fail
      clear zx x0 x1
      ((with_reducible refine (add_any _ _ _ _ _ hx hc).mono ?_); rintro e wn ⟨rfl, hbn⟩)
      rw [H3.out]
      have hbx := HB.out.below hbn
      replace hw := below_then (below_then hw hbn) (below_alloc wn (.cells #[.int .i64 p3, .int .i64 q3] 24))
      replace HB := Lib.hid (hbx.below (below_alloc wn (.cells #[.int .i64 p3, .int .i64 q3] 24)))
      replace HLn := Lib.hid (HL.out.below hbn)
      replace HL := Lib.hid (HLn.out.push p3 q3)
      clear hbn z1 a0 a1 z2 b0 b1 z3 c0 c1 zf f0 f1
      obtain ⟨⟨-, ⟨z1, a0, a1⟩, ⟨z2, b0, b1⟩, ⟨z3, c0, c1⟩⟩, ⟨zf, f0, f1⟩⟩ := hbx
      unfold ret3
      go_wp2_with fail
      ((with_reducible refine (add_any _ _ _ _ _ hb hc).mono ?_); rintro e wn ⟨rfl, hbn⟩)
      rw [H4.out]
      have hbx := HB.out.below hbn
      replace hw := below_then (below_then hw hbn) (below_alloc wn (.cells #[.int .i64 p4, .int .i64 q4] 24))
      replace HB := Lib.hid (hbx.below (below_alloc wn (.cells #[.int .i64 p4, .int .i64 q4] 24)))
      replace HLn := Lib.hid (HL.out.below hbn)
      replace HL := Lib.hid (HLn.out.push p4 q4)
      clear hbn z1 a0 a1 z2 b0 b1 z3 c0 c1 zf f0 f1
      obtain ⟨⟨-, ⟨z1, a0, a1⟩, ⟨z2, b0, b1⟩, ⟨z3, c0, c1⟩⟩, ⟨zf, f0, f1⟩⟩ := hbx
      unfold ret3
      go_wp2_with fail
      ((with_reducible refine (add_any _ _ _ _ _ ha hm).mono ?_); rintro e wn ⟨rfl, hbn⟩)
      rw [H5.out]
      have hbx := HB.out.below hbn
      replace hw := below_then (below_then hw hbn) (below_alloc wn (.cells #[.int .i64 p5, .int .i64 q5] 24))
      replace HB := Lib.hid (hbx.below (below_alloc wn (.cells #[.int .i64 p5, .int .i64 q5] 24)))
      replace HLn := Lib.hid (HL.out.below hbn)
      replace HL := Lib.hid (HLn.out.push p5 q5)
      clear hbn z1 a0 a1 z2 b0 b1 z3 c0 c1 zf f0 f1
      obtain ⟨⟨-, ⟨z1, a0, a1⟩, ⟨z2, b0, b1⟩, ⟨z3, c0, c1⟩⟩, ⟨zf, f0, f1⟩⟩ := hbx
      unfold ret3
      go_upto_region 15 with fail
      clear z1 a0 a1 z2 b0 b1 z3 c0 c1 zf f0 f1 HLn
      generalize wn.alloc (.cells #[.int .i64 p5, .int .i64 q5] 24) = W at HL HB hw ⊢
      go_cut [118] (fun s wx => s = .bool false ∧ W = wx)
      case first =>
        obtain ⟨zr, x0, x1⟩ := HL.out.head
        obtain ⟨zl, y0, y1⟩ := HL.out.tail.tail.head
        by_cases e1 : r1 = 0
        · by_cases e3 : r3 = 0
          · by_cases e4 : r4 = 0
            · by_cases e5 : r5 = 0
              · obtain ⟨g1, g2⟩ := HQ.out e1 e3 e4 e5
                have d1 : (r1 == 0) = true := by simp [e1]
                have d3 : (r3 == 0) = true := by simp [e3]
                have d4 : (r4 == 0) = true := by simp [e4]
                have d5 : (r5 == 0) = true := by simp [e5]
                clear e1 e3 e4 e5
                subst g1 g2
                go_wp2_with fail
                go_meet
                exact ⟨rfl, rfl⟩
              · have d1 : (r1 == 0) = true := by simp [e1]
                have d3 : (r3 == 0) = true := by simp [e3]
                have d4 : (r4 == 0) = true := by simp [e4]
                have d5 : (r5 == 0) = false := by simp [e5]
                clear e1 e3 e4 e5
                go_wp2_with fail
                go_meet
                exact ⟨rfl, rfl⟩
            · have d1 : (r1 == 0) = true := by simp [e1]
              have d3 : (r3 == 0) = true := by simp [e3]
              have d4 : (r4 == 0) = false := by simp [e4]
              clear e1 e3 e4
              go_wp2_with fail
              go_meet
              exact ⟨rfl, rfl⟩
          · have d1 : (r1 == 0) = true := by simp [e1]
            have d3 : (r3 == 0) = false := by simp [e3]
            clear e1 e3
            go_wp2_with fail
            go_meet
            exact ⟨rfl, rfl⟩
        · have d1 : (r1 == 0) = false := by simp [e1]
          clear e1
          go_wp2_with fail
          go_meet
          exact ⟨rfl, rfl⟩
      case rest =>
        obtain ⟨rfl, rfl⟩ := hcut
        go_wp2_with fail
        go_roundw
        case rel => exact ⟨1, by decide, rfl, HB.out⟩
        case measure => decide
    · obtain ⟨p1, q1, r1, ht1⟩ : ∃ p q r, mulv an ad bn bd = (p, q, r) := ⟨_, _, _, rfl⟩
      have ht2 : mulv bn bd an ad = (p1, q1, r1) := by rw [mulv_comm]; exact ht1
      obtain ⟨p3, q3, r3, ht3⟩ : ∃ p q r, mulv p1 q1 cn cd = (p, q, r) := ⟨_, _, _, rfl⟩
      obtain ⟨p4, q4, r4, ht4⟩ : ∃ p q r, mulv bn bd cn cd = (p, q, r) := ⟨_, _, _, rfl⟩
      obtain ⟨p5, q5, r5, ht5⟩ : ∃ p q r, mulv an ad p4 q4 = (p, q, r) := ⟨_, _, _, rfl⟩
      have hx := mulv_i64 ht1
      have hm := mulv_i64 ht4
      have HQ := Lib.hid (fun (e1 : r1 = 0) (e3 : r3 = 0) (e4 : r4 = 0) (e5 : r5 = 0) => by subst e1 e3 e4 e5; exact mulv_assoc hva hvb hvc ht1 ht3 ht4 ht5 : r1 = 0 → r3 = 0 → r4 = 0 → r5 = 0 → p3 = p5 ∧ q3 = q5)
      have H1 := Lib.hid ht1; clear ht1
      have H2 := Lib.hid ht2; clear ht2
      have H3 := Lib.hid ht3; clear ht3
      have H4 := Lib.hid ht4; clear ht4
      have H5 := Lib.hid ht5; clear ht5
      have HL := Lib.hid (Bxs.nil wr)
      have HLn := trivial
      go_wp2_with fail
      ((with_reducible refine (mul_any _ _ _ _ _ ha hb).mono ?_); rintro e wn ⟨rfl, hbn⟩)
      rw [H1.out]
      have hbx := HB.out.below hbn
      replace hw := below_then (below_then hw hbn) (below_alloc wn (.cells #[.int .i64 p1, .int .i64 q1] 24))
      replace HB := Lib.hid (hbx.below (below_alloc wn (.cells #[.int .i64 p1, .int .i64 q1] 24)))
      replace HLn := Lib.hid (HL.out.below hbn)
      replace HL := Lib.hid (HLn.out.push p1 q1)
      clear hbn z1 a0 a1 z2 b0 b1 z3 c0 c1 zf f0 f1
      obtain ⟨⟨-, ⟨z1, a0, a1⟩, ⟨z2, b0, b1⟩, ⟨z3, c0, c1⟩⟩, ⟨zf, f0, f1⟩⟩ := hbx
      unfold ret3
      go_wp2_with fail
      ((with_reducible refine (mul_any _ _ _ _ _ hb ha).mono ?_); rintro e wn ⟨rfl, hbn⟩)
      rw [H2.out]
      have hbx := HB.out.below hbn
      replace hw := below_then (below_then hw hbn) (below_alloc wn (.cells #[.int .i64 p1, .int .i64 q1] 24))
      replace HB := Lib.hid (hbx.below (below_alloc wn (.cells #[.int .i64 p1, .int .i64 q1] 24)))
      replace HLn := Lib.hid (HL.out.below hbn)
      replace HL := Lib.hid (HLn.out.push p1 q1)
      clear hbn z1 a0 a1 z2 b0 b1 z3 c0 c1 zf f0 f1
      obtain ⟨⟨-, ⟨z1, a0, a1⟩, ⟨z2, b0, b1⟩, ⟨z3, c0, c1⟩⟩, ⟨zf, f0, f1⟩⟩ := hbx
      unfold ret3
      obtain ⟨zx, x0, x1⟩ := HLn.out.head
      go_wp2_with fail
      clear zx x0 x1
      ((with_reducible refine (mul_any _ _ _ _ _ hx hc).mono ?_); rintro e wn ⟨rfl, hbn⟩)
      rw [H3.out]
      have hbx := HB.out.below hbn
      replace hw := below_then (below_then hw hbn) (below_alloc wn (.cells #[.int .i64 p3, .int .i64 q3] 24))
      replace HB := Lib.hid (hbx.below (below_alloc wn (.cells #[.int .i64 p3, .int .i64 q3] 24)))
      replace HLn := Lib.hid (HL.out.below hbn)
      replace HL := Lib.hid (HLn.out.push p3 q3)
      clear hbn z1 a0 a1 z2 b0 b1 z3 c0 c1 zf f0 f1
      obtain ⟨⟨-, ⟨z1, a0, a1⟩, ⟨z2, b0, b1⟩, ⟨z3, c0, c1⟩⟩, ⟨zf, f0, f1⟩⟩ := hbx
      unfold ret3
      go_wp2_with fail
      ((with_reducible refine (mul_any _ _ _ _ _ hb hc).mono ?_); rintro e wn ⟨rfl, hbn⟩)
      rw [H4.out]
      have hbx := HB.out.below hbn
      replace hw := below_then (below_then hw hbn) (below_alloc wn (.cells #[.int .i64 p4, .int .i64 q4] 24))
      replace HB := Lib.hid (hbx.below (below_alloc wn (.cells #[.int .i64 p4, .int .i64 q4] 24)))
      replace HLn := Lib.hid (HL.out.below hbn)
      replace HL := Lib.hid (HLn.out.push p4 q4)
      clear hbn z1 a0 a1 z2 b0 b1 z3 c0 c1 zf f0 f1
      obtain ⟨⟨-, ⟨z1, a0, a1⟩, ⟨z2, b0, b1⟩, ⟨z3, c0, c1⟩⟩, ⟨zf, f0, f1⟩⟩ := hbx
      unfold ret3
      go_wp2_with fail
      ((with_reducible refine (mul_any _ _ _ _ _ ha hm).mono ?_); rintro e wn ⟨rfl, hbn⟩)
      rw [H5.out]
      have hbx := HB.out.below hbn
      replace hw := below_then (below_then hw hbn) (below_alloc wn (.cells #[.int .i64 p5, .int .i64 q5] 24))
      replace HB := Lib.hid (hbx.below (below_alloc wn (.cells #[.int .i64 p5, .int .i64 q5] 24)))
      replace HLn := Lib.hid (HL.out.below hbn)
      replace HL := Lib.hid (HLn.out.push p5 q5)
      clear hbn z1 a0 a1 z2 b0 b1 z3 c0 c1 zf f0 f1
      obtain ⟨⟨-, ⟨z1, a0, a1⟩, ⟨z2, b0, b1⟩, ⟨z3, c0, c1⟩⟩, ⟨zf, f0, f1⟩⟩ := hbx
      unfold ret3
      go_upto_region 15 with fail
      clear z1 a0 a1 z2 b0 b1 z3 c0 c1 zf f0 f1 HLn
      generalize wn.alloc (.cells #[.int .i64 p5, .int .i64 q5] 24) = W at HL HB hw ⊢
      go_cut [118] (fun s wx => s = .bool false ∧ W = wx)
      case first =>
        obtain ⟨zr, x0, x1⟩ := HL.out.head
        obtain ⟨zl, y0, y1⟩ := HL.out.tail.tail.head
        by_cases e1 : r1 = 0
        · by_cases e3 : r3 = 0
          · by_cases e4 : r4 = 0
            · by_cases e5 : r5 = 0
              · obtain ⟨g1, g2⟩ := HQ.out e1 e3 e4 e5
                have d1 : (r1 == 0) = true := by simp [e1]
                have d3 : (r3 == 0) = true := by simp [e3]
                have d4 : (r4 == 0) = true := by simp [e4]
                have d5 : (r5 == 0) = true := by simp [e5]
                clear e1 e3 e4 e5
                subst g1 g2
                go_wp2_with fail
                go_meet
                exact ⟨rfl, rfl⟩
              · have d1 : (r1 == 0) = true := by simp [e1]
                have d3 : (r3 == 0) = true := by simp [e3]
                have d4 : (r4 == 0) = true := by simp [e4]
                have d5 : (r5 == 0) = false := by simp [e5]
                clear e1 e3 e4 e5
                go_wp2_with fail
                go_meet
                exact ⟨rfl, rfl⟩
            · have d1 : (r1 == 0) = true := by simp [e1]
              have d3 : (r3 == 0) = true := by simp [e3]
              have d4 : (r4 == 0) = false := by simp [e4]
              clear e1 e3 e4
              go_wp2_with fail
              go_meet
              exact ⟨rfl, rfl⟩
          · have d1 : (r1 == 0) = true := by simp [e1]
            have d3 : (r3 == 0) = false := by simp [e3]
            clear e1 e3
            go_wp2_with fail
            go_meet
            exact ⟨rfl, rfl⟩
        · have d1 : (r1 == 0) = false := by simp [e1]
          clear e1
          go_wp2_with fail
          go_meet
          exact ⟨rfl, rfl⟩
      case rest =>
        obtain ⟨rfl, rfl⟩ := hcut
        go_wp2_with fail
        go_roundw
        case rel => exact ⟨2, by decide, rfl, HB.out⟩
        case measure => decide
    · obtain ⟨s1, s2, s3, ht1⟩ : ∃ p q r, addv bn bd cn cd = (p, q, r) := ⟨_, _, _, rfl⟩
      obtain ⟨l1, l2, l3, ht2⟩ : ∃ p q r, mulv an ad s1 s2 = (p, q, r) := ⟨_, _, _, rfl⟩
      obtain ⟨m1, m2, m3, ht3⟩ : ∃ p q r, mulv an ad bn bd = (p, q, r) := ⟨_, _, _, rfl⟩
      obtain ⟨n1, n2, n3, ht4⟩ : ∃ p q r, mulv an ad cn cd = (p, q, r) := ⟨_, _, _, rfl⟩
      obtain ⟨r1, r2, r3, ht5⟩ : ∃ p q r, addv m1 m2 n1 n2 = (p, q, r) := ⟨_, _, _, rfl⟩
      obtain ⟨u1, u2, u3, ht6⟩ : ∃ p q r, subv an ad bn bd = (p, q, r) := ⟨_, _, _, rfl⟩
      obtain ⟨v1, v2, v3, ht7⟩ : ∃ p q r, addv u1 u2 bn bd = (p, q, r) := ⟨_, _, _, rfl⟩
      obtain ⟨x1, x2, x3, ht8⟩ : ∃ p q r, divv an ad bn bd = (p, q, r) := ⟨_, _, _, rfl⟩
      obtain ⟨y1, y2, y3, ht9⟩ : ∃ p q r, mulv x1 x2 bn bd = (p, q, r) := ⟨_, _, _, rfl⟩
      have is := addv_i64 ht1
      have im := mulv_i64 ht3
      have jn := mulv_i64 ht4
      have iu := subv_i64 ht6
      have ix := divv_i64 ht8
      have HQ := Lib.hid (fun (e1 : s3 = 0) (e2 : l3 = 0) (e3 : m3 = 0) (e4 : n3 = 0) (e5 : r3 = 0) => by subst e1 e2 e3 e4 e5; exact distr hva hvb hvc ht1 ht2 ht3 ht4 ht5 : s3 = 0 → l3 = 0 → m3 = 0 → n3 = 0 → r3 = 0 → l1 = r1 ∧ l2 = r2)
      have HU := Lib.hid (fun (e1 : u3 = 0) => by subst e1; have h := sub_back hva hvb ht6; rw [ht7] at h; simpa using h : u3 = 0 → v1 = an ∧ v2 = ad ∧ v3 = 0)
      have HX := Lib.hid (fun (e0 : bn ≠ 0) (e1 : x3 = 0) => by subst e1; have h := div_back hva hvb e0 ht8; rw [ht9] at h; simpa using h : bn ≠ 0 → x3 = 0 → y1 = an ∧ y2 = ad ∧ y3 = 0)
      have HZ := Lib.hid (fun (e0 : bn = 0) => by subst e0; have h := divv_zero hva hvb; rw [ht8] at h; simp at h; exact h.2.2 : bn = 0 → x3 = 7)
      have H1 := Lib.hid ht1; clear ht1
      have H2 := Lib.hid ht2; clear ht2
      have H3 := Lib.hid ht3; clear ht3
      have H4 := Lib.hid ht4; clear ht4
      have H5 := Lib.hid ht5; clear ht5
      have H6 := Lib.hid ht6; clear ht6
      have H7 := Lib.hid ht7; clear ht7
      have H8 := Lib.hid ht8; clear ht8
      have H9 := Lib.hid ht9; clear ht9
      have HL := Lib.hid (Bxs.nil wr)
      have HLn := trivial
      go_wp2_with fail
      ((with_reducible refine (add_any _ _ _ _ _ hb hc).mono ?_); rintro e wn ⟨rfl, hbn⟩)
      rw [H1.out]
      have hbx := HB.out.below hbn
      replace hw := below_then (below_then hw hbn) (below_alloc wn (.cells #[.int .i64 s1, .int .i64 s2] 24))
      replace HB := Lib.hid (hbx.below (below_alloc wn (.cells #[.int .i64 s1, .int .i64 s2] 24)))
      replace HLn := Lib.hid (HL.out.below hbn)
      replace HL := Lib.hid (HLn.out.push s1 s2)
      clear hbn z1 a0 a1 z2 b0 b1 z3 c0 c1 zf f0 f1
      obtain ⟨⟨-, ⟨z1, a0, a1⟩, ⟨z2, b0, b1⟩, ⟨z3, c0, c1⟩⟩, ⟨zf, f0, f1⟩⟩ := hbx
      unfold ret3
      go_wp2_with fail
      ((with_reducible refine (mul_any _ _ _ _ _ ha is).mono ?_); rintro e wn ⟨rfl, hbn⟩)
      rw [H2.out]
      have hbx := HB.out.below hbn
      replace hw := below_then (below_then hw hbn) (below_alloc wn (.cells #[.int .i64 l1, .int .i64 l2] 24))
      replace HB := Lib.hid (hbx.below (below_alloc wn (.cells #[.int .i64 l1, .int .i64 l2] 24)))
      replace HLn := Lib.hid (HL.out.below hbn)
      replace HL := Lib.hid (HLn.out.push l1 l2)
      clear hbn z1 a0 a1 z2 b0 b1 z3 c0 c1 zf f0 f1
      obtain ⟨⟨-, ⟨z1, a0, a1⟩, ⟨z2, b0, b1⟩, ⟨z3, c0, c1⟩⟩, ⟨zf, f0, f1⟩⟩ := hbx
      unfold ret3
      go_wp2_with fail
      ((with_reducible refine (mul_any _ _ _ _ _ ha hb).mono ?_); rintro e wn ⟨rfl, hbn⟩)
      rw [H3.out]
      have hbx := HB.out.below hbn
      replace hw := below_then (below_then hw hbn) (below_alloc wn (.cells #[.int .i64 m1, .int .i64 m2] 24))
      replace HB := Lib.hid (hbx.below (below_alloc wn (.cells #[.int .i64 m1, .int .i64 m2] 24)))
      replace HLn := Lib.hid (HL.out.below hbn)
      replace HL := Lib.hid (HLn.out.push m1 m2)
      clear hbn z1 a0 a1 z2 b0 b1 z3 c0 c1 zf f0 f1
      obtain ⟨⟨-, ⟨z1, a0, a1⟩, ⟨z2, b0, b1⟩, ⟨z3, c0, c1⟩⟩, ⟨zf, f0, f1⟩⟩ := hbx
      unfold ret3
      go_wp2_with fail
      ((with_reducible refine (mul_any _ _ _ _ _ ha hc).mono ?_); rintro e wn ⟨rfl, hbn⟩)
      rw [H4.out]
      have hbx := HB.out.below hbn
      replace hw := below_then (below_then hw hbn) (below_alloc wn (.cells #[.int .i64 n1, .int .i64 n2] 24))
      replace HB := Lib.hid (hbx.below (below_alloc wn (.cells #[.int .i64 n1, .int .i64 n2] 24)))
      replace HLn := Lib.hid (HL.out.below hbn)
      replace HL := Lib.hid (HLn.out.push n1 n2)
      clear hbn z1 a0 a1 z2 b0 b1 z3 c0 c1 zf f0 f1
      obtain ⟨⟨-, ⟨z1, a0, a1⟩, ⟨z2, b0, b1⟩, ⟨z3, c0, c1⟩⟩, ⟨zf, f0, f1⟩⟩ := hbx
      unfold ret3
      obtain ⟨zx, k0, k1⟩ := HLn.out.head
      go_wp2_with fail
      clear zx k0 k1
      ((with_reducible refine (add_any _ _ _ _ _ im jn).mono ?_); rintro e wn ⟨rfl, hbn⟩)
      rw [H5.out]
      have hbx := HB.out.below hbn
      replace hw := below_then (below_then hw hbn) (below_alloc wn (.cells #[.int .i64 r1, .int .i64 r2] 24))
      replace HB := Lib.hid (hbx.below (below_alloc wn (.cells #[.int .i64 r1, .int .i64 r2] 24)))
      replace HLn := Lib.hid (HL.out.below hbn)
      replace HL := Lib.hid (HLn.out.push r1 r2)
      clear hbn z1 a0 a1 z2 b0 b1 z3 c0 c1 zf f0 f1
      obtain ⟨⟨-, ⟨z1, a0, a1⟩, ⟨z2, b0, b1⟩, ⟨z3, c0, c1⟩⟩, ⟨zf, f0, f1⟩⟩ := hbx
      unfold ret3
      go_upto_region 23 with fail
      clear z1 a0 a1 z2 b0 b1 z3 c0 c1 zf f0 f1 HLn
      generalize wn.alloc (.cells #[.int .i64 r1, .int .i64 r2] 24) = W at HL HB hw ⊢
      go_cut [172] (fun s wx => s = .bool false ∧ W = wx)
      case first =>
        obtain ⟨zr, k0, k1⟩ := HL.out.head
        obtain ⟨zl, j0, j1⟩ := HL.out.tail.tail.tail.head
        by_cases e0 : s3 = 0
        · have d0 : (s3 == 0) = true := by simp [e0]
          by_cases e1 : l3 = 0
          · have d1 : (l3 == 0) = true := by simp [e1]
            by_cases e2 : m3 = 0
            · have d2 : (m3 == 0) = true := by simp [e2]
              by_cases e3 : n3 = 0
              · have d3 : (n3 == 0) = true := by simp [e3]
                by_cases e4 : r3 = 0
                · have d4 : (r3 == 0) = true := by simp [e4]
                  obtain ⟨g1, g2⟩ := HQ.out e0 e1 e2 e3 e4
                  clear e0 e1 e2 e3 e4
                  subst g1 g2
                  go_wp2_with fail
                  go_meet
                  exact ⟨rfl, rfl⟩
                · have d4 : (r3 == 0) = false := by simp [e4]
                  clear e0 e1 e2 e3 e4
                  go_wp2_with fail
                  go_meet
                  exact ⟨rfl, rfl⟩
              · have d3 : (n3 == 0) = false := by simp [e3]
                clear e0 e1 e2 e3
                go_wp2_with fail
                go_meet
                exact ⟨rfl, rfl⟩
            · have d2 : (m3 == 0) = false := by simp [e2]
              clear e0 e1 e2
              go_wp2_with fail
              go_meet
              exact ⟨rfl, rfl⟩
          · have d1 : (l3 == 0) = false := by simp [e1]
            clear e0 e1
            go_wp2_with fail
            go_meet
            exact ⟨rfl, rfl⟩
        · have d0 : (s3 == 0) = false := by simp [e0]
          clear e0
          go_wp2_with fail
          go_meet
          exact ⟨rfl, rfl⟩
      case rest =>
      obtain ⟨rfl, rfl⟩ := hcut
      obtain ⟨⟨-, ⟨z1, a0, a1⟩, ⟨z2, b0, b1⟩, ⟨z3, c0, c1⟩⟩, ⟨zf, f0, f1⟩⟩ := HB.out
      have HL := Lib.hid (Bxs.nil W)
      have HLn := trivial
      go_wp2_with fail
      ((with_reducible refine (sub_any _ _ _ _ _ ha hb).mono ?_); rintro e wn ⟨rfl, hbn⟩)
      rw [H6.out]
      have hbx := HB.out.below hbn
      replace hw := below_then (below_then hw hbn) (below_alloc wn (.cells #[.int .i64 u1, .int .i64 u2] 24))
      replace HB := Lib.hid (hbx.below (below_alloc wn (.cells #[.int .i64 u1, .int .i64 u2] 24)))
      replace HLn := Lib.hid (HL.out.below hbn)
      replace HL := Lib.hid (HLn.out.push u1 u2)
      clear hbn z1 a0 a1 z2 b0 b1 z3 c0 c1 zf f0 f1
      obtain ⟨⟨-, ⟨z1, a0, a1⟩, ⟨z2, b0, b1⟩, ⟨z3, c0, c1⟩⟩, ⟨zf, f0, f1⟩⟩ := hbx
      unfold ret3
      go_wp2_with fail
      ((with_reducible refine (add_any _ _ _ _ _ iu hb).mono ?_); rintro e wn ⟨rfl, hbn⟩)
      rw [H7.out]
      have hbx := HB.out.below hbn
      replace hw := below_then (below_then hw hbn) (below_alloc wn (.cells #[.int .i64 v1, .int .i64 v2] 24))
      replace HB := Lib.hid (hbx.below (below_alloc wn (.cells #[.int .i64 v1, .int .i64 v2] 24)))
      replace HLn := Lib.hid (HL.out.below hbn)
      replace HL := Lib.hid (HLn.out.push v1 v2)
      clear hbn z1 a0 a1 z2 b0 b1 z3 c0 c1 zf f0 f1
      obtain ⟨⟨-, ⟨z1, a0, a1⟩, ⟨z2, b0, b1⟩, ⟨z3, c0, c1⟩⟩, ⟨zf, f0, f1⟩⟩ := hbx
      unfold ret3
      have HK := Lib.hid (Bw.new wn v1 v2)
      generalize hBK : wn.heap.size = BK at HK
      have hlt : w.heap.size + 1 + 1 < BK := by rw [← hBK]; exact z3
      go_upto_region 27 with fail
      clear z1 a0 a1 z2 b0 b1 z3 c0 c1 zf f0 f1 HLn HL hBK
      generalize wn.alloc (.cells #[.int .i64 v1, .int .i64 v2] 24) = W at HK HB hw ⊢
      go_cut [195] (fun s wx => s = .bool false ∧ W = wx)
      case first =>
        obtain ⟨⟨zk, k0, k1⟩, -⟩ := HK.out
        obtain ⟨⟨-, ⟨z1, a0, a1⟩, ⟨z2, b0, b1⟩, ⟨z3, c0, c1⟩⟩, ⟨zf, f0, f1⟩⟩ := HB.out
        by_cases e0 : u3 = 0
        · obtain ⟨g1, g2, g3⟩ := HU.out e0
          have d0 : (u3 == 0) = true := by simp [e0]
          clear e0
          subst g1 g2 g3
          go_wp2_with fail
          go_meet
          exact ⟨rfl, rfl⟩
        · have d0 : (u3 == 0) = false := by simp [e0]
          clear e0
          go_wp2_with fail
          go_meet
          exact ⟨rfl, rfl⟩
      case rest =>
      obtain ⟨rfl, rfl⟩ := hcut
      obtain ⟨⟨-, ⟨z1, a0, a1⟩, ⟨z2, b0, b1⟩, ⟨z3, c0, c1⟩⟩, ⟨zf, f0, f1⟩⟩ := HB.out
      go_wp2_with fail
      ((with_reducible refine (div_any _ _ _ _ _ ha hb).mono ?_); rintro e wn ⟨rfl, hbn⟩)
      rw [H8.out]
      clear z1 a0 a1 z2 b0 b1 z3 c0 c1 zf f0 f1
      replace HB := Lib.hid (HB.out.below hbn)
      replace HK := Lib.hid (HK.out.below hbn)
      replace hw := below_then hw hbn
      clear hbn
      obtain ⟨⟨-, ⟨z1, a0, a1⟩, ⟨z2, b0, b1⟩, ⟨z3, c0, c1⟩⟩, ⟨zf, f0, f1⟩⟩ := HB.out
      unfold ret3
      go_wp2_with fail
      ((with_reducible refine (mul_any _ _ _ _ _ ix hb).mono ?_); rintro e wm ⟨rfl, hbm⟩)
      rw [H9.out]
      clear z1 a0 a1 z2 b0 b1 z3 c0 c1 zf f0 f1
      replace HB := Lib.hid ((HB.out.below (below_alloc wn (.cells #[.int .i64 x1, .int .i64 x2] 24))).below hbm)
      replace HK := Lib.hid ((HK.out.below (below_alloc wn (.cells #[.int .i64 x1, .int .i64 x2] 24))).below hbm)
      replace hw := below_then (below_then hw (below_alloc wn (.cells #[.int .i64 x1, .int .i64 x2] 24))) hbm
      clear hbm
      obtain ⟨⟨-, ⟨z1, a0, a1⟩, ⟨z2, b0, b1⟩, ⟨z3, c0, c1⟩⟩, ⟨zf, f0, f1⟩⟩ := HB.out
      obtain ⟨⟨zk, k0, k1⟩, t0, t1⟩ := HK.out
      have b0' : ((wm.setCell ⟨BK, 0, none⟩ (.int .i64 y1)).setCell ⟨BK, 1, none⟩ (.int .i64 y2)).cell? ⟨w.heap.size + 1, 0, none⟩ = some (.int .i64 bn) := keep2 b0 (by omega)
      have a0' : ((wm.setCell ⟨BK, 0, none⟩ (.int .i64 y1)).setCell ⟨BK, 1, none⟩ (.int .i64 y2)).cell? ⟨w.heap.size, 0, none⟩ = some (.int .i64 an) := keep2 a0 (by omega)
      have a1' : ((wm.setCell ⟨BK, 0, none⟩ (.int .i64 y1)).setCell ⟨BK, 1, none⟩ (.int .i64 y2)).cell? ⟨w.heap.size, 1, none⟩ = some (.int .i64 ad) := keep2 a1 (by omega)
      have hw' : Below w.heap.size w ((wm.setCell ⟨BK, 0, none⟩ (.int .i64 y1)).setCell ⟨BK, 1, none⟩ (.int .i64 y2)) := (hw.setCell (by simp; omega) _).setCell (by simp; omega) _
      clear z1 a0 a1 z2 b0 b1 z3 c0 c1 zf f0 f1 hw
      by_cases e0 : bn = 0
      · have d0 : (bn == 0) = true := by simp [e0]
        have d1 : (x3 == 7) = true := by simp [HZ.out e0]
        clear e0
        unfold ret3
        go_wp2_with fail
        go_ret
        exact ⟨rfl, hw'⟩
      · have d0 : (bn == 0) = false := by simp [e0]
        by_cases e1 : x3 = 0
        · obtain ⟨g1, g2, g3⟩ := HX.out e0 e1
          have d1 : (x3 != 0) = false := by simp [e1]
          clear e0 e1
          subst g1 g2 g3
          unfold ret3
          go_wp2_with fail
          go_ret
          exact ⟨rfl, hw'⟩
        · have d1 : (x3 != 0) = true := by simp [e1]
          clear e0 e1
          unfold ret3
          go_wp2_with fail
          go_ret
          exact ⟨rfl, hw'⟩
end Go.Proofs.YtbdihcpehadbjaaDoor
