/- The law FracLists: the walk. -/
import Derived.Test.YtbdihcpehadbjaaDoorFq
namespace Go.Proofs.YtbdihcpehadbjaaDoor
open Go.RowKit Go.Sort

/-- the two lists in memory -/
def TwoL (w : World) (ao : Option Addr) (ca : Nat) (la : List (Int × Int)) (bo : Option Addr) (cb : Nat) (lb : List (Int × Int)) : Prop :=
  FrV w (.slice ao la.length ca) la ∧ FrA w ao la ∧ FrV w (.slice bo lb.length cb) lb ∧ FrA w bo lb
theorem TwoL.below {w w' : World} {ao bo : Option Addr} {ca cb : Nat} {la lb : List (Int × Int)} (h : TwoL w ao ca la bo cb lb) (hb : RowKit.Below w.heap.size w w') : TwoL w' ao ca la bo cb lb :=
  ⟨h.1.below hb, h.2.1.below hb, h.2.2.1.below hb, h.2.2.2.below hb⟩

theorem TwoL.va {w : World} {ao bo : Option Addr} {ca cb : Nat} {la lb : List (Int × Int)} (h : TwoL w ao ca la bo cb lb) : FrV w (.slice ao la.length ca) la := h.1
theorem TwoL.aa {w : World} {ao bo : Option Addr} {ca cb : Nat} {la lb : List (Int × Int)} (h : TwoL w ao ca la bo cb lb) : FrA w ao la := h.2.1
theorem TwoL.vb {w : World} {ao bo : Option Addr} {ca cb : Nat} {la lb : List (Int × Int)} (h : TwoL w ao ca la bo cb lb) : FrV w (.slice bo lb.length cb) lb := h.2.2.1
theorem TwoL.ab {w : World} {ao bo : Option Addr} {ca cb : Nat} {la lb : List (Int × Int)} (h : TwoL w ao ca la bo cb lb) : FrA w bo lb := h.2.2.2

set_option maxRecDepth 100000 in
set_option maxHeartbeats 3200000 in
theorem fracLists_core (ao bo : Option Addr) (ca cb : Nat) (la lb : List (Int × Int)) (w : World) (ht : Tb w) (hla : la.length ≤ 9223372036854775807) (hlb : lb.length ≤ 9223372036854775807) (h2 : TwoL w ao ca la bo cb lb) :
    Calls Tryd.prog 9 #[.slice ao la.length ca, .slice bo lb.length cb] w fun e w' => e = .returned (.bool true) ∧ RowKit.Below w.heap.size w w' := by
  have HB := Lib.hid h2; clear h2
  have hw := RowKit.Below.refl w.heap.size w
  obtain ⟨p1, q1, r1, ht1⟩ : ∃ p q r, sumv la = (p, q, r) := ⟨_, _, _, rfl⟩
  obtain ⟨p2, q2, r2, ht2⟩ : ∃ p q r, dotv la lb = (p, q, r) := ⟨_, _, _, rfl⟩
  have H1 := Lib.hid ht1; clear ht1
  have H2 := Lib.hid ht2; clear ht2
  go_enter Tryd.func9, Tryd.ntmps9
  go_wp2_with fail
  ((with_reducible refine (awake_any _ ht).mono ?_); rintro e wn ⟨rfl, hbn⟩)
  replace hw := below_then hw hbn
  replace HB := Lib.hid (HB.out.below hbn)
  clear hbn
  obtain - := HB.out
  have HL := Lib.hid (Bxs.nil wn)
  have HLn := trivial
  go_upto_region 3 with fail
  go_cut [42] (fun s wx => ∃ c : Bool, s = .bool c ∧ wn = wx)
  case first =>
    go_wp2_with fail
    all_goals
      go_meet
      exact ⟨_, rfl, rfl⟩
  case rest =>
    obtain ⟨c, rfl, rfl⟩ := hcut
    cases c
    · go_wp2_with fail
      ((with_reducible refine (sum_any ao ca la _ hla HB.out.va HB.out.aa).mono ?_); rintro e wn ⟨rfl, hbn⟩)
      rw [H1.out]
      have hbx := HB.out.below hbn
      replace hw := below_then (below_then hw hbn) (below_alloc wn (.cells #[.int .i64 p1, .int .i64 q1] 24))
      replace HB := Lib.hid (hbx.below (below_alloc wn (.cells #[.int .i64 p1, .int .i64 q1] 24)))
      replace HLn := Lib.hid (HL.out.below hbn)
      replace HL := Lib.hid (HLn.out.push p1 q1)
      clear hbn
      obtain - := hbx
      unfold ret3
      go_wp2_with fail
      ((with_reducible refine (dot_any ao bo ca cb la lb _ hla hlb HB.out.va HB.out.vb HB.out.aa HB.out.ab).mono ?_); rintro e wn ⟨rfl, hbn⟩)
      rw [H2.out]
      have hbx := HB.out.below hbn
      replace hw := below_then (below_then hw hbn) (below_alloc wn (.cells #[.int .i64 p2, .int .i64 q2] 24))
      replace HB := Lib.hid (hbx.below (below_alloc wn (.cells #[.int .i64 p2, .int .i64 q2] 24)))
      replace HLn := Lib.hid (HL.out.below hbn)
      replace HL := Lib.hid (HLn.out.push p2 q2)
      clear hbn
      obtain - := hbx
      unfold ret3
      go_wp2_with fail
      ((with_reducible refine (rsum_any ao ca la _ hla HB.out.aa).mono ?_); rintro e wn ⟨rfl, hbn⟩)
      rw [H1.out]
      have hbx := HB.out.below hbn
      replace hw := below_then (below_then hw hbn) (below_alloc wn (.cells #[.int .i64 p1, .int .i64 q1] 24))
      replace HB := Lib.hid (hbx.below (below_alloc wn (.cells #[.int .i64 p1, .int .i64 q1] 24)))
      replace HLn := Lib.hid (HL.out.below hbn)
      replace HL := Lib.hid (HLn.out.push p1 q1)
      clear hbn
      obtain - := hbx
      unfold ret3
      go_wp2_with fail
      ((with_reducible refine (rdot_any ao bo ca cb la lb _ hla hlb HB.out.aa HB.out.ab).mono ?_); rintro e wn ⟨rfl, hbn⟩)
      rw [H2.out]
      have hbx := HB.out.below hbn
      replace hw := below_then (below_then hw hbn) (below_alloc wn (.cells #[.int .i64 p2, .int .i64 q2] 24))
      replace HB := Lib.hid (hbx.below (below_alloc wn (.cells #[.int .i64 p2, .int .i64 q2] 24)))
      replace HLn := Lib.hid (HL.out.below hbn)
      replace HL := Lib.hid (HLn.out.push p2 q2)
      clear hbn
      obtain - := hbx
      unfold ret3
      go_upto_region 9 with fail
      generalize wn.alloc (.cells #[.int .i64 p2, .int .i64 q2] 24) = W at HL hw ⊢
      have hl := HL.out
      clear HL HB HLn
      obtain ⟨z1, a0, a1⟩ := hl.head
      obtain ⟨z2, b0, b1⟩ := hl.tail.head
      obtain ⟨z3, c0, c1⟩ := hl.tail.tail.head
      obtain ⟨z4, d0, d1⟩ := hl.tail.tail.tail.head
      clear hl
      go_wp2_with fail
      go_ret
      exact ⟨rfl, hw⟩
    · go_wp2_with fail
      go_ret
      exact ⟨rfl, hw⟩

theorem fracLists_walk (va vb : Value) (la lb : List (Int × Int)) (w : World) (ht : Tb w) (ha : FrV w va la) (hb : FrV w vb lb) :
    Calls Tryd.prog 9 #[va, vb] w fun e w' => e = .returned (.bool true) ∧ RowKit.Below w.heap.size w w' := by
  obtain ⟨ao, ca, rfl, h1, h2⟩ := ha.opened
  obtain ⟨bo, cb, rfl, h3, h4⟩ := hb.opened
  exact fracLists_core ao bo ca cb la lb w ht h2 h4 ⟨ha, h1, hb, h3⟩
end Go.Proofs.YtbdihcpehadbjaaDoor
