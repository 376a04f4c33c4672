/- CoverReach: the walk through the statement. -/
import Derived.Test.YtjojmmabcjccdaaDoorHi
import Derived.Test.YtjojmmabcjccdaaDoorJo
namespace Go.Proofs.YtjojmmabcjccdaaDoor
open Go.RowKit

set_option maxHeartbeats 25600000 in
set_option maxRecDepth 100000 in
theorem coverReach_walk (N : Nt) (A : Option Addr) (n c : Nat) (Am : Option Addr) (m cm : Nat) (M : List Int) (Al : Option Addr) (nl cl : Nat) (l : List Int) (mo : Nat) (w : World) (ht : Tb w) (h : NtIn w A N) (hn : N.tr.length = n) (hn2 : n ≤ 9223372036854775807) (hM : ZIn w Am M) (hm : M.length = m) (hm1 : m ≤ cm) (hm2 : cm ≤ 9223372036854775807) (_hz : ∀ z ∈ M, -9223372036854775808 ≤ z ∧ z ≤ 9223372036854775807) (hL : ZIn w Al l) (hl : l.length = nl) (_hl1 : nl ≤ cl) (_hl2 : cl ≤ 9223372036854775807) (_hlz : ∀ z ∈ l, -9223372036854775808 ≤ z ∧ z ≤ 9223372036854775807) (hmo : mo ≤ 255) :
    Calls Tryd.prog 8 #[.agg #[.int .i64 N.pl, .slice A n c, .int .i64 N.src, .int .i64 N.snk], .slice Am m cm, .slice Al nl cl, .int .u8 (mo : Int)] w fun e w' => e = .returned (.bool true) ∧ Below w.heap.size w w' := by
  have HLz := Lib.hid hL
  have HLl := Lib.hid hl
  clear hL hl
  have hBL := below_alloc w (.cells #[.int .i64 N.pl, .slice A n c, .int .i64 N.src, .int .i64 N.snk] 24)
  have HL0 := Lib.hid (HLz.out.below hBL)
  clear hBL
  have HB := Lib.hid (below_alloc w (.cells #[.int .i64 N.pl, .slice A n c, .int .i64 N.src, .int .i64 N.snk] 24))
  have HNb := Lib.hid (NB.new w N.pl A n c N.src N.snk)
  have HIn := Lib.hid (h.below HB.out)
  have HZ := Lib.hid (hM.below HB.out)
  have HT := Lib.hid (ht.below HB.out)
  have HM := Lib.hid hm
  have HNl := Lib.hid hn
  clear h hM ht hm hn
  go_enter Tryd.func8, Tryd.ntmps8
  go_wp2_with fail
  generalize w.alloc _ = w0 at *
  have HAw := Lib.hid (awake_any w0 HT.out)
  ((with_reducible refine HAw.out.mono ?_); rintro e w1 ⟨rfl, hb1⟩)
  have HL1 := Lib.hid (HL0.out.below hb1)
  have HB1 := Lib.hid (below_then HB.out hb1)
  have HNb1 := Lib.hid (HNb.out.below hb1)
  have HIn1 := Lib.hid (HIn.out.below hb1)
  have HZ1 := Lib.hid (HZ.out.below hb1)
  have HT1 := Lib.hid (HT.out.below hb1)
  clear HAw hb1 HB HNb HIn HZ HT
  obtain ⟨b0, b1, b2, b3⟩ := HNb1.out.cells
  have HSm := Lib.hid (small_any N A n c Am m cm w1 HIn1.out HNl.out hn2)
  go_wp2_with fail
  ((with_reducible refine HSm.out.mono ?_); rintro e w2 ⟨b, rfl, hb2⟩)
  have HL2 := Lib.hid (HL1.out.below hb2)
  have HB2 := Lib.hid (below_then HB1.out hb2)
  have HNb2 := Lib.hid (HNb1.out.below hb2)
  have HIn2 := Lib.hid (HIn1.out.below hb2)
  have HZ2 := Lib.hid (HZ1.out.below hb2)
  have HT2 := Lib.hid (HT1.out.below hb2)
  clear HSm hb2 HB1 HNb1 HIn1 HZ1 HT1 b0 b1 b2 b3
  obtain ⟨b0, b1, b2, b3⟩ := HNb2.out.cells
  have HAw := Lib.hid (awake_any w2 HT2.out)
  clear HAw
  cases b with
  | false =>
    have HAw := Lib.hid (awake_any w2 HT2.out)
    go_wp2_with fail
    ((with_reducible refine HAw.out.mono ?_); rintro e wz ⟨rfl, hbz⟩)
    have HBz := Lib.hid (below_then HB2.out hbz)
    go_wp2_with fail
    go_ret
    exact ⟨rfl, HBz.out⟩
  | true =>
    by_cases h40 : 40 < nl
    · have q6 : decide ((40 : Int) < (nl : Int)) = true := by simp; omega
      clear h40
      have HAw := Lib.hid (awake_any w2 HT2.out)
      go_wp2_with fail
      ((with_reducible refine HAw.out.mono ?_); rintro e wz ⟨rfl, hbz⟩)
      have HBz := Lib.hid (below_then HB2.out hbz)
      go_wp2_with fail
      go_ret
      exact ⟨rfl, HBz.out⟩
    have q6 : decide ((40 : Int) < (nl : Int)) = false := by simp; omega
    have hnl : nl ≤ 40 := by omega
    clear h40
    obtain ⟨most, hmost⟩ : ∃ most, 1 + mo % 60 = most := ⟨_, rfl⟩
    have HMost := Lib.hid hmost
    have HLim := Lib.hid (fun w => limited_any mo most w hmo hmost)
    have hlm : most ≤ 60 := by omega
    have hlm0 : 1 ≤ most := by omega
    clear hmost
    have HGp := Lib.hid (fun w' (hb : Below w2.heap.size w2 w') => graph_any N A n c Am m cm M (most : Int) w' (HIn2.out.below hb) HNl.out hn2 (HZ2.out.below hb) HM.out hm1 hm2 (HT2.out.below hb))
    rcases hbe : beR N [M] 0 (most : Int) with k | T
    · have HKz := Lib.hid (be_err hbe)
      go_wp2_with fail
      have hbd : Below w2.heap.size w2 w2.drew := (Below.refl _ _).drew
      have HB23 := Lib.hid hbd
      have HNb3 := Lib.hid (HNb2.out.below hbd)
      have hS0 := And.intro HNb3.out.cells.1 (And.intro HNb3.out.cells.2.1 (And.intro HNb3.out.cells.2.2.1 HNb3.out.cells.2.2.2))
      refine wp_region_held_drew (S := fun w' => w'.cell? ⟨w.heap.size, 0, none⟩ = some (.int .i64 N.pl) ∧ w'.cell? ⟨w.heap.size, 1, none⟩ = some (.slice A n c) ∧ w'.cell? ⟨w.heap.size, 2, none⟩ = some (.int .i64 N.src) ∧ w'.cell? ⟨w.heap.size, 3, none⟩ = some (.int .i64 N.snk)) (by kernel_rfl) hS0 (fun hHeld => ?_)
      clear hS0 hbd b0 b1 b2 b3 HNb3
      generalize w2.drew = w3 at *
      refine wpAnyH_take (i := 0) (v := ?_) rfl (by kernel_rfl) (by kernel_rfl) (by kernel_rfl) (fun _ _ _ h => h) (Or.inl ⟨by rfl, ?_⟩) (by assumption) ?_
      rotate_left
      · intro w hSw; (try dsimp only at hSw); go_simp; try (with_reducible rfl)
      try go_simp
      refine wpAnyH_take (i := 1) (v := ?_) rfl (by kernel_rfl) (by kernel_rfl) (by kernel_rfl) (fun _ _ _ h => h) (Or.inl ⟨by rfl, ?_⟩) (by assumption) ?_
      rotate_left
      · intro w hSw; (try dsimp only at hSw); go_simp; try (with_reducible rfl)
      try go_simp
      refine wpAnyH_take (i := 2) (v := ?_) rfl (by kernel_rfl) (by kernel_rfl) (by kernel_rfl) (fun _ _ _ h => h) (Or.inl ⟨by rfl, ?_⟩) (by assumption) ?_
      rotate_left
      · intro w hSw; (try dsimp only at hSw); go_simp; try (with_reducible rfl)
      try go_simp
      refine wpAnyH_ready (rs := [3, 8]) (by kernel_rfl) (by simp) ?_
      refine AllReadyH.cons rfl (fun K hK => ?_) (AllReadyH.cons rfl (fun K hK => ?_) AllReadyH.nil)
      · go_simp
        ((refine (HLim.out w3).mono ?_); rintro e w5 ⟨rfl, hb5⟩)
        have hS9 := hHeld
        refine hK.out _ _ ⟨cell_stays hb5 hS9.1, cell_stays hb5 hS9.2.1, cell_stays hb5 hS9.2.2.1, cell_stays hb5 hS9.2.2.2⟩ (fun hHeld => ?_)
        clear hK K hS9
        try go_simp
        have HB25 := Lib.hid (below_then HB23.out hb5)
        skip
        clear hb5 HB23
        refine wpAnyH_ready (rs := [4, 8]) (by kernel_rfl) (by simp) ?_
        refine AllReadyH.cons rfl (fun K hK => ?_) (AllReadyH.cons rfl (fun K hK => ?_) AllReadyH.nil)
        · go_simp
          ((refine (gp_no (HGp.out w5 HB25.out) hbe).mono ?_); rintro e w6 ⟨rfl, hb6⟩)
          have hS9 := hHeld
          refine hK.out _ _ ⟨cell_stays hb6 hS9.1, cell_stays hb6 hS9.2.1, cell_stays hb6 hS9.2.2.1, cell_stays hb6 hS9.2.2.2⟩ (fun hHeld => ?_)
          clear hK K hS9
          try go_simp
          have HB26 := Lib.hid (below_then HB25.out hb6)
          skip
          clear hb6 HB25
          refine wpAnyH_take (i := 5) (v := ?_) rfl (by kernel_rfl) (by kernel_rfl) (by kernel_rfl) (fun _ _ _ h => h) (Or.inl ⟨by rfl, ?_⟩) (by assumption) ?_
          rotate_left
          · intro w hSw; (try dsimp only at hSw); go_simp; try (with_reducible rfl)
          try go_simp
          refine wpAnyH_take (i := 6) (v := ?_) rfl (by kernel_rfl) (by kernel_rfl) (by kernel_rfl) (fun _ _ _ h => h) (Or.inl ⟨by rfl, ?_⟩) (by assumption) ?_
          rotate_left
          · intro w hSw; (try dsimp only at hSw); go_simp; try (with_reducible rfl)
          try go_simp
          refine wpAnyH_take (i := 7) (v := ?_) rfl (by kernel_rfl) (by kernel_rfl) (by kernel_rfl) (fun _ _ _ h => h) (Or.inl ⟨by rfl, ?_⟩) (by assumption) ?_
          rotate_left
          · intro w hSw; (try dsimp only at hSw); go_simp; try (with_reducible rfl)
          try go_simp
          refine wpAnyH_ready (rs := [8]) (by kernel_rfl) (by simp) ?_
          refine AllReadyH.cons rfl (fun K hK => ?_) AllReadyH.nil
          go_simp
          have hS9 := hHeld
          have hal := below_alloc w6 (.cells #[.slice none 0 0, .slice none 0 0, .bool false] 31)
          have HCz := Lib.hid (SpB.new w6 (.slice none 0 0) (.slice none 0 0) false)
          have hcb : w2.heap.size ≤ w6.heap.size := HB26.out.size
          have hcw : w.heap.size ≠ w6.heap.size := by have := HNb2.out.lt; omega
          have HBn := Lib.hid (below_then HB26.out hal)
          refine hK.out _ _ ⟨cell_stays hal hS9.1, cell_stays hal hS9.2.1, cell_stays hal hS9.2.2.1, cell_stays hal hS9.2.2.2⟩ (fun hHeld => ?_)
          have hal6 := hal
          clear hK K hS9 hal HB26
          try go_simp
          generalize hcbe : w6.heap.size = cb at *
          generalize w6.alloc _ = wn at *
          obtain ⟨w6, rfl⟩ : ∃ w6, w6 = wn := ⟨_, rfl⟩
          have HB26 := Lib.hid HBn.out
          clear HBn
          clear hcbe hal6
          obtain ⟨r0, r1, r2⟩ := HCz.out.cells
          have rf0 := HCz.out.soft 0
          have rf1 := HCz.out.soft 1
          have rf2 := HCz.out.soft 2
          have HRe := Lib.hid (((HCz.out.set0 (.slice none 0 0)).set1 (.slice none 0 0)).set2 false)
          have HGe := Lib.hid (spb_grown w6 cb (.slice none 0 0) (.slice none 0 0) false)
          have hS0 := hHeld
          refine wpAnyH_ready (rs := [9]) (by kernel_rfl) (by simp) ?_
          refine AllReadyH.cons rfl (fun K hK => ?_) AllReadyH.nil
          go_simp
          skip
          refine hK.out _ _ (⟨HGe.out.cell hS0.1 (fun e => hcw (Option.some.inj e)), HGe.out.cell hS0.2.1 (fun e => hcw (Option.some.inj e)), HGe.out.cell hS0.2.2.1 (fun e => hcw (Option.some.inj e)), HGe.out.cell hS0.2.2.2 (fun e => hcw (Option.some.inj e))⟩) (fun hHeld => ?_)
          clear hK K
          try go_simp
          refine wpAnyH_take (i := 10) (v := ?_) rfl (by kernel_rfl) (by kernel_rfl) (by kernel_rfl) (fun _ _ _ h => h) (Or.inl ⟨by rfl, ?_⟩) (by assumption) ?_
          rotate_left
          · intro w hSw; (try dsimp only at hSw); go_simp; try (with_reducible rfl)
          try go_simp
          refine wpAnyH_done (by kernel_rfl) ?_ _
          clear hHeld hS0 r0 r1 r2 rf0 rf1 rf2
          generalize (((w6.setCell ⟨cb, 0, none⟩ _).setCell ⟨cb, 1, none⟩ _).setCell ⟨cb, 2, none⟩ _) = we at *
          have HBe := Lib.hid (HB26.out.grown HGe.out HB26.out.size (fun k hk => by cases hk; exact hcb))
          have HB6 := Lib.hid (below_then HB2.out HBe.out)
          have HNb6 := Lib.hid (HNb2.out.below HBe.out)
          have HIn6 := Lib.hid (HIn2.out.below HBe.out)
          have HZ6 := Lib.hid (HZ2.out.below HBe.out)
          have HT6 := Lib.hid (HT2.out.below HBe.out)
          have HL6 := Lib.hid (HL2.out.below HBe.out)
          clear HBe HGe HCz HB26 HNb2 HIn2 HZ2 HT2 HL2 HB2
          obtain ⟨d0, d1, d2⟩ := HRe.out.cells
          have q7 : (k != 0) = true := by rw [bne_iff_ne]; exact HKz.out
          go_wp2_with fail
          go_ret
          exact ⟨rfl, HB6.out⟩
        · go_simp
          have hS9 := hHeld
          have hal := below_alloc w5 (.cells #[.slice none 0 0, .slice none 0 0, .bool false] 31)
          have HCz := Lib.hid (SpB.new w5 (.slice none 0 0) (.slice none 0 0) false)
          have hcb : w2.heap.size ≤ w5.heap.size := HB25.out.size
          have hcw : w.heap.size ≠ w5.heap.size := by have := HNb2.out.lt; omega
          have HBn := Lib.hid (below_then HB25.out hal)
          refine hK.out _ _ ⟨cell_stays hal hS9.1, cell_stays hal hS9.2.1, cell_stays hal hS9.2.2.1, cell_stays hal hS9.2.2.2⟩ (fun hHeld => ?_)
          clear hK K hS9 hal HB25
          try go_simp
          generalize hcbe : w5.heap.size = cb at *
          generalize w5.alloc _ = wn at *
          clear hcbe
          obtain ⟨w5, rfl⟩ : ∃ w5, w5 = wn := ⟨_, rfl⟩
          have HB25 := Lib.hid HBn.out
          clear HBn
          refine wpAnyH_ready (rs := [4]) (by kernel_rfl) (by simp) ?_
          refine AllReadyH.cons rfl (fun K hK => ?_) AllReadyH.nil
          go_simp
          ((refine (gp_no (HGp.out w5 HB25.out) hbe).mono ?_); rintro e w6 ⟨rfl, hb6⟩)
          have hS9 := hHeld
          refine hK.out _ _ ⟨cell_stays hb6 hS9.1, cell_stays hb6 hS9.2.1, cell_stays hb6 hS9.2.2.1, cell_stays hb6 hS9.2.2.2⟩ (fun hHeld => ?_)
          clear hK K hS9
          try go_simp
          have HB26 := Lib.hid (below_then HB25.out hb6)
          replace HCz := Lib.hid (HCz.out.below hb6)
          clear hb6 HB25
          refine wpAnyH_take (i := 5) (v := ?_) rfl (by kernel_rfl) (by kernel_rfl) (by kernel_rfl) (fun _ _ _ h => h) (Or.inl ⟨by rfl, ?_⟩) (by assumption) ?_
          rotate_left
          · intro w hSw; (try dsimp only at hSw); go_simp; try (with_reducible rfl)
          try go_simp
          refine wpAnyH_take (i := 6) (v := ?_) rfl (by kernel_rfl) (by kernel_rfl) (by kernel_rfl) (fun _ _ _ h => h) (Or.inl ⟨by rfl, ?_⟩) (by assumption) ?_
          rotate_left
          · intro w hSw; (try dsimp only at hSw); go_simp; try (with_reducible rfl)
          try go_simp
          refine wpAnyH_take (i := 7) (v := ?_) rfl (by kernel_rfl) (by kernel_rfl) (by kernel_rfl) (fun _ _ _ h => h) (Or.inl ⟨by rfl, ?_⟩) (by assumption) ?_
          rotate_left
          · intro w hSw; (try dsimp only at hSw); go_simp; try (with_reducible rfl)
          try go_simp
          obtain ⟨r0, r1, r2⟩ := HCz.out.cells
          have rf0 := HCz.out.soft 0
          have rf1 := HCz.out.soft 1
          have rf2 := HCz.out.soft 2
          have HRe := Lib.hid (((HCz.out.set0 (.slice none 0 0)).set1 (.slice none 0 0)).set2 false)
          have HGe := Lib.hid (spb_grown w6 cb (.slice none 0 0) (.slice none 0 0) false)
          have hS0 := hHeld
          refine wpAnyH_ready (rs := [9]) (by kernel_rfl) (by simp) ?_
          refine AllReadyH.cons rfl (fun K hK => ?_) AllReadyH.nil
          go_simp
          skip
          refine hK.out _ _ (⟨HGe.out.cell hS0.1 (fun e => hcw (Option.some.inj e)), HGe.out.cell hS0.2.1 (fun e => hcw (Option.some.inj e)), HGe.out.cell hS0.2.2.1 (fun e => hcw (Option.some.inj e)), HGe.out.cell hS0.2.2.2 (fun e => hcw (Option.some.inj e))⟩) (fun hHeld => ?_)
          clear hK K
          try go_simp
          refine wpAnyH_take (i := 10) (v := ?_) rfl (by kernel_rfl) (by kernel_rfl) (by kernel_rfl) (fun _ _ _ h => h) (Or.inl ⟨by rfl, ?_⟩) (by assumption) ?_
          rotate_left
          · intro w hSw; (try dsimp only at hSw); go_simp; try (with_reducible rfl)
          try go_simp
          refine wpAnyH_done (by kernel_rfl) ?_ _
          clear hHeld hS0 r0 r1 r2 rf0 rf1 rf2
          generalize (((w6.setCell ⟨cb, 0, none⟩ _).setCell ⟨cb, 1, none⟩ _).setCell ⟨cb, 2, none⟩ _) = we at *
          have HBe := Lib.hid (HB26.out.grown HGe.out HB26.out.size (fun k hk => by cases hk; exact hcb))
          have HB6 := Lib.hid (below_then HB2.out HBe.out)
          have HNb6 := Lib.hid (HNb2.out.below HBe.out)
          have HIn6 := Lib.hid (HIn2.out.below HBe.out)
          have HZ6 := Lib.hid (HZ2.out.below HBe.out)
          have HT6 := Lib.hid (HT2.out.below HBe.out)
          have HL6 := Lib.hid (HL2.out.below HBe.out)
          clear HBe HGe HCz HB26 HNb2 HIn2 HZ2 HT2 HL2 HB2
          obtain ⟨d0, d1, d2⟩ := HRe.out.cells
          have q7 : (k != 0) = true := by rw [bne_iff_ne]; exact HKz.out
          go_wp2_with fail
          go_ret
          exact ⟨rfl, HB6.out⟩
      · go_simp
        have hS9 := hHeld
        have hal := below_alloc w3 (.cells #[.slice none 0 0, .slice none 0 0, .bool false] 31)
        have HCz := Lib.hid (SpB.new w3 (.slice none 0 0) (.slice none 0 0) false)
        have hcb : w2.heap.size ≤ w3.heap.size := HB23.out.size
        have hcw : w.heap.size ≠ w3.heap.size := by have := HNb2.out.lt; omega
        have HBn := Lib.hid (below_then HB23.out hal)
        refine hK.out _ _ ⟨cell_stays hal hS9.1, cell_stays hal hS9.2.1, cell_stays hal hS9.2.2.1, cell_stays hal hS9.2.2.2⟩ (fun hHeld => ?_)
        clear hK K hS9 hal HB23
        try go_simp
        generalize hcbe : w3.heap.size = cb at *
        generalize w3.alloc _ = wn at *
        clear hcbe
        refine wpAnyH_ready (rs := [3]) (by kernel_rfl) (by simp) ?_
        refine AllReadyH.cons rfl (fun K hK => ?_) AllReadyH.nil
        go_simp
        ((refine (HLim.out wn).mono ?_); rintro e w5 ⟨rfl, hb5⟩)
        have hS9 := hHeld
        refine hK.out _ _ ⟨cell_stays hb5 hS9.1, cell_stays hb5 hS9.2.1, cell_stays hb5 hS9.2.2.1, cell_stays hb5 hS9.2.2.2⟩ (fun hHeld => ?_)
        clear hK K hS9
        try go_simp
        have HB25 := Lib.hid (below_then HBn.out hb5)
        replace HCz := Lib.hid (HCz.out.below hb5)
        clear hb5 HBn
        refine wpAnyH_ready (rs := [4]) (by kernel_rfl) (by simp) ?_
        refine AllReadyH.cons rfl (fun K hK => ?_) AllReadyH.nil
        go_simp
        ((refine (gp_no (HGp.out w5 HB25.out) hbe).mono ?_); rintro e w6 ⟨rfl, hb6⟩)
        have hS9 := hHeld
        refine hK.out _ _ ⟨cell_stays hb6 hS9.1, cell_stays hb6 hS9.2.1, cell_stays hb6 hS9.2.2.1, cell_stays hb6 hS9.2.2.2⟩ (fun hHeld => ?_)
        clear hK K hS9
        try go_simp
        have HB26 := Lib.hid (below_then HB25.out hb6)
        replace HCz := Lib.hid (HCz.out.below hb6)
        clear hb6 HB25
        refine wpAnyH_take (i := 5) (v := ?_) rfl (by kernel_rfl) (by kernel_rfl) (by kernel_rfl) (fun _ _ _ h => h) (Or.inl ⟨by rfl, ?_⟩) (by assumption) ?_
        rotate_left
        · intro w hSw; (try dsimp only at hSw); go_simp; try (with_reducible rfl)
        try go_simp
        refine wpAnyH_take (i := 6) (v := ?_) rfl (by kernel_rfl) (by kernel_rfl) (by kernel_rfl) (fun _ _ _ h => h) (Or.inl ⟨by rfl, ?_⟩) (by assumption) ?_
        rotate_left
        · intro w hSw; (try dsimp only at hSw); go_simp; try (with_reducible rfl)
        try go_simp
        refine wpAnyH_take (i := 7) (v := ?_) rfl (by kernel_rfl) (by kernel_rfl) (by kernel_rfl) (fun _ _ _ h => h) (Or.inl ⟨by rfl, ?_⟩) (by assumption) ?_
        rotate_left
        · intro w hSw; (try dsimp only at hSw); go_simp; try (with_reducible rfl)
        try go_simp
        obtain ⟨r0, r1, r2⟩ := HCz.out.cells
        have rf0 := HCz.out.soft 0
        have rf1 := HCz.out.soft 1
        have rf2 := HCz.out.soft 2
        have HRe := Lib.hid (((HCz.out.set0 (.slice none 0 0)).set1 (.slice none 0 0)).set2 false)
        have HGe := Lib.hid (spb_grown w6 cb (.slice none 0 0) (.slice none 0 0) false)
        have hS0 := hHeld
        refine wpAnyH_ready (rs := [9]) (by kernel_rfl) (by simp) ?_
        refine AllReadyH.cons rfl (fun K hK => ?_) AllReadyH.nil
        go_simp
        skip
        refine hK.out _ _ (⟨HGe.out.cell hS0.1 (fun e => hcw (Option.some.inj e)), HGe.out.cell hS0.2.1 (fun e => hcw (Option.some.inj e)), HGe.out.cell hS0.2.2.1 (fun e => hcw (Option.some.inj e)), HGe.out.cell hS0.2.2.2 (fun e => hcw (Option.some.inj e))⟩) (fun hHeld => ?_)
        clear hK K
        try go_simp
        refine wpAnyH_take (i := 10) (v := ?_) rfl (by kernel_rfl) (by kernel_rfl) (by kernel_rfl) (fun _ _ _ h => h) (Or.inl ⟨by rfl, ?_⟩) (by assumption) ?_
        rotate_left
        · intro w hSw; (try dsimp only at hSw); go_simp; try (with_reducible rfl)
        try go_simp
        refine wpAnyH_done (by kernel_rfl) ?_ _
        clear hHeld hS0 r0 r1 r2 rf0 rf1 rf2
        generalize (((w6.setCell ⟨cb, 0, none⟩ _).setCell ⟨cb, 1, none⟩ _).setCell ⟨cb, 2, none⟩ _) = we at *
        have HBe := Lib.hid (HB26.out.grown HGe.out HB26.out.size (fun k hk => by cases hk; exact hcb))
        have HB6 := Lib.hid (below_then HB2.out HBe.out)
        have HNb6 := Lib.hid (HNb2.out.below HBe.out)
        have HIn6 := Lib.hid (HIn2.out.below HBe.out)
        have HZ6 := Lib.hid (HZ2.out.below HBe.out)
        have HT6 := Lib.hid (HT2.out.below HBe.out)
        have HL6 := Lib.hid (HL2.out.below HBe.out)
        clear HBe HGe HCz HB26 HNb2 HIn2 HZ2 HT2 HL2 HB2
        obtain ⟨d0, d1, d2⟩ := HRe.out.cells
        have q7 : (k != 0) = true := by rw [bne_iff_ne]; exact HKz.out
        go_wp2_with fail
        go_ret
        exact ⟨rfl, HB6.out⟩
    · have hgv : mkB N M = true ∧ growT N M most = some T := by
        rcases fault_parts N M (most : Int) with ⟨f, _, hf, h⟩ | ⟨_, hmk, _, _, ⟨_, h⟩ | ⟨T', hg, h⟩⟩
        · rw [h] at hbe; cases hbe
        · rw [h] at hbe; cases hbe
        · rw [h] at hbe; cases hbe; exact ⟨hmk, by rw [Int.toNat_natCast] at hg; exact hg⟩
      obtain ⟨hmk, hgr⟩ := hgv
      go_wp2_with fail
      have hbd : Below w2.heap.size w2 w2.drew := (Below.refl _ _).drew
      have HB23 := Lib.hid hbd
      have HNb3 := Lib.hid (HNb2.out.below hbd)
      have hS0 := And.intro HNb3.out.cells.1 (And.intro HNb3.out.cells.2.1 (And.intro HNb3.out.cells.2.2.1 HNb3.out.cells.2.2.2))
      refine wp_region_held_drew (S := fun w' => w'.cell? ⟨w.heap.size, 0, none⟩ = some (.int .i64 N.pl) ∧ w'.cell? ⟨w.heap.size, 1, none⟩ = some (.slice A n c) ∧ w'.cell? ⟨w.heap.size, 2, none⟩ = some (.int .i64 N.src) ∧ w'.cell? ⟨w.heap.size, 3, none⟩ = some (.int .i64 N.snk)) (by kernel_rfl) hS0 (fun hHeld => ?_)
      clear hS0 hbd b0 b1 b2 b3 HNb3
      generalize w2.drew = w3 at *
      refine wpAnyH_take (i := 0) (v := ?_) rfl (by kernel_rfl) (by kernel_rfl) (by kernel_rfl) (fun _ _ _ h => h) (Or.inl ⟨by rfl, ?_⟩) (by assumption) ?_
      rotate_left
      · intro w hSw; (try dsimp only at hSw); go_simp; try (with_reducible rfl)
      try go_simp
      refine wpAnyH_take (i := 1) (v := ?_) rfl (by kernel_rfl) (by kernel_rfl) (by kernel_rfl) (fun _ _ _ h => h) (Or.inl ⟨by rfl, ?_⟩) (by assumption) ?_
      rotate_left
      · intro w hSw; (try dsimp only at hSw); go_simp; try (with_reducible rfl)
      try go_simp
      refine wpAnyH_take (i := 2) (v := ?_) rfl (by kernel_rfl) (by kernel_rfl) (by kernel_rfl) (fun _ _ _ h => h) (Or.inl ⟨by rfl, ?_⟩) (by assumption) ?_
      rotate_left
      · intro w hSw; (try dsimp only at hSw); go_simp; try (with_reducible rfl)
      try go_simp
      refine wpAnyH_ready (rs := [3, 8]) (by kernel_rfl) (by simp) ?_
      refine AllReadyH.cons rfl (fun K hK => ?_) (AllReadyH.cons rfl (fun K hK => ?_) AllReadyH.nil)
      · go_simp
        ((refine (HLim.out w3).mono ?_); rintro e w5 ⟨rfl, hb5⟩)
        have hS9 := hHeld
        refine hK.out _ _ ⟨cell_stays hb5 hS9.1, cell_stays hb5 hS9.2.1, cell_stays hb5 hS9.2.2.1, cell_stays hb5 hS9.2.2.2⟩ (fun hHeld => ?_)
        clear hK K hS9
        try go_simp
        have HB25 := Lib.hid (below_then HB23.out hb5)
        skip
        clear hb5 HB23
        refine wpAnyH_ready (rs := [4, 8]) (by kernel_rfl) (by simp) ?_
        refine AllReadyH.cons rfl (fun K hK => ?_) (AllReadyH.cons rfl (fun K hK => ?_) AllReadyH.nil)
        · go_simp
          ((refine (gp_yes (HGp.out w5 HB25.out) hbe).mono ?_); rintro e w6 ⟨Aa, ca, Ad, cd, rfl, hO, hM6⟩; have hb6 := hO.bel)
          have hS9 := hHeld
          refine hK.out _ _ ⟨cell_stays hb6 hS9.1, cell_stays hb6 hS9.2.1, cell_stays hb6 hS9.2.2.1, cell_stays hb6 hS9.2.2.2⟩ (fun hHeld => ?_)
          clear hK K hS9
          try go_simp
          have HO6 := Lib.hid (hO.up HB25.out)
          have HM6 := Lib.hid (hM6.up HB25.out)
          have HB26 := Lib.hid (below_then HB25.out hb6)
          skip
          clear hb6 HB25 hO hM6
          refine wpAnyH_take (i := 5) (v := ?_) rfl (by kernel_rfl) (by kernel_rfl) (by kernel_rfl) (fun _ _ _ h => h) (Or.inl ⟨by rfl, ?_⟩) (by assumption) ?_
          rotate_left
          · intro w hSw; (try dsimp only at hSw); go_simp; try (with_reducible rfl)
          try go_simp
          refine wpAnyH_take (i := 6) (v := ?_) rfl (by kernel_rfl) (by kernel_rfl) (by kernel_rfl) (fun _ _ _ h => h) (Or.inl ⟨by rfl, ?_⟩) (by assumption) ?_
          rotate_left
          · intro w hSw; (try dsimp only at hSw); go_simp; try (with_reducible rfl)
          try go_simp
          refine wpAnyH_take (i := 7) (v := ?_) rfl (by kernel_rfl) (by kernel_rfl) (by kernel_rfl) (fun _ _ _ h => h) (Or.inl ⟨by rfl, ?_⟩) (by assumption) ?_
          rotate_left
          · intro w hSw; (try dsimp only at hSw); go_simp; try (with_reducible rfl)
          try go_simp
          refine wpAnyH_ready (rs := [8]) (by kernel_rfl) (by simp) ?_
          refine AllReadyH.cons rfl (fun K hK => ?_) AllReadyH.nil
          go_simp
          have hS9 := hHeld
          have hal := below_alloc w6 (.cells #[.slice none 0 0, .slice none 0 0, .bool false] 31)
          have HCz := Lib.hid (SpB.new w6 (.slice none 0 0) (.slice none 0 0) false)
          have hcb : w2.heap.size ≤ w6.heap.size := HB26.out.size
          have hcw : w.heap.size ≠ w6.heap.size := by have := HNb2.out.lt; omega
          have HBn := Lib.hid (below_then HB26.out hal)
          refine hK.out _ _ ⟨cell_stays hal hS9.1, cell_stays hal hS9.2.1, cell_stays hal hS9.2.2.1, cell_stays hal hS9.2.2.2⟩ (fun hHeld => ?_)
          have hal6 := hal
          clear hK K hS9 hal HB26
          try go_simp
          generalize hcbe : w6.heap.size = cb at *
          generalize w6.alloc _ = wn at *
          obtain ⟨w6, rfl⟩ : ∃ w6, w6 = wn := ⟨_, rfl⟩
          have HB26 := Lib.hid HBn.out
          clear HBn
          replace HO6 := Lib.hid (HO6.out.below (by rw [hcbe]; exact hal6))
          replace HM6 := Lib.hid (HM6.out.below (by rw [hcbe]; exact hal6))
          clear hcbe hal6
          obtain ⟨r0, r1, r2⟩ := HCz.out.cells
          have rf0 := HCz.out.soft 0
          have rf1 := HCz.out.soft 1
          have rf2 := HCz.out.soft 2
          have HRe := Lib.hid (((HCz.out.set0 (.slice Aa T.states.length ca)).set1 (.slice Ad (movesOf T).length cd)).set2 true)
          have HGe := Lib.hid (spb_grown w6 cb (.slice Aa T.states.length ca) (.slice Ad (movesOf T).length cd) true)
          have HOM := Lib.hid (sp_store HO6.out HM6.out HCz.out hcb true)
          have hS0 := hHeld
          refine wpAnyH_ready (rs := [9]) (by kernel_rfl) (by simp) ?_
          refine AllReadyH.cons rfl (fun K hK => ?_) AllReadyH.nil
          go_simp
          skip
          refine hK.out _ _ (⟨HGe.out.cell hS0.1 (fun e => hcw (Option.some.inj e)), HGe.out.cell hS0.2.1 (fun e => hcw (Option.some.inj e)), HGe.out.cell hS0.2.2.1 (fun e => hcw (Option.some.inj e)), HGe.out.cell hS0.2.2.2 (fun e => hcw (Option.some.inj e))⟩) (fun hHeld => ?_)
          clear hK K
          try go_simp
          refine wpAnyH_take (i := 10) (v := ?_) rfl (by kernel_rfl) (by kernel_rfl) (by kernel_rfl) (fun _ _ _ h => h) (Or.inl ⟨by rfl, ?_⟩) (by assumption) ?_
          rotate_left
          · intro w hSw; (try dsimp only at hSw); go_simp; try (with_reducible rfl)
          try go_simp
          refine wpAnyH_done (by kernel_rfl) ?_ _
          clear hHeld hS0 r0 r1 r2 rf0 rf1 rf2
          generalize (((w6.setCell ⟨cb, 0, none⟩ _).setCell ⟨cb, 1, none⟩ _).setCell ⟨cb, 2, none⟩ _) = we at *
          have HBe := Lib.hid (HB26.out.grown HGe.out HB26.out.size (fun k hk => by cases hk; exact hcb))
          have HLi := Lib.hid (show LIn we Aa T.states by obtain ⟨A', c', e, h1, _⟩ := HOM.out.1.lin; cases e; exact h1)
          clear HOM HO6 HM6
          have HB6 := Lib.hid (below_then HB2.out HBe.out)
          have HNb6 := Lib.hid (HNb2.out.below HBe.out)
          have HIn6 := Lib.hid (HIn2.out.below HBe.out)
          have HZ6 := Lib.hid (HZ2.out.below HBe.out)
          have HT6 := Lib.hid (HT2.out.below HBe.out)
          have HL6 := Lib.hid (HL2.out.below HBe.out)
          clear HBe HGe HCz HB26 HNb2 HIn2 HZ2 HT2 HL2 HB2
          obtain ⟨w6', hw6⟩ : ∃ w6', w6' = we := ⟨_, rfl⟩
          have HX6 := Lib.hid HRe.out
          have HLi6 := Lib.hid HLi.out
          clear HRe HLi hw6 w6'
          obtain ⟨w7, rfl⟩ : ∃ w7, w7 = we := ⟨_, rfl⟩
          have HMk := Lib.hid hmk
          have HGr := Lib.hid hgr
          have hgood := grow_good hmk hgr
          have hsl := fun s hs => hgood.1.slen hgood.2.2.1 hgood.2.2.2 s hs
          have hmlen := mk_len hmk
          have hps := nt_small (mk_nt hmk)
          have HSl := Lib.hid (show ∀ s ∈ T.states, (s.length : Int) = N.pl from fun s hs => by rw [hsl s hs]; exact hmlen)
          have HTl := Lib.hid (show T.states.length ≤ 60 from Nat.le_trans (growT_le hgr) hlm)
          have hmm : m ≤ 40 := by have := HM.out; omega
          have hpl9 : N.pl ≤ 40 := hps.2.1
          clear hgood hsl hmlen hps hmk hgr hbe
          have HCl := Lib.hid (clone_any Am m cm M w7 HZ6.out HM.out (by omega))
          obtain ⟨d0, d1, d2⟩ := HX6.out.cells
          go_wp2_with fail
          ((with_reducible refine HCl.out.mono ?_); rintro e w11 ⟨v11, rfl, hS11⟩)
          obtain ⟨A11, c11, rfl⟩ := hS11.slice
          have hal11 := below_alloc w11 (.cells #[.slice A11 M.length c11] 25)
          have HS12 := Lib.hid (hS11.below hal11)
          have HAb := Lib.hid (heap_alloc_new w11 (.cells #[.slice A11 M.length c11] 25))
          have hab : w7.heap.size ≤ w11.heap.size := hS11.2.size
          clear hS11 HCl hal11 d0 d1 d2
          go_wp2_with fail
          generalize w11.alloc _ = w12 at *
          generalize w11.heap.size = ab at *
          go_loopg [53] (nl) (fun g iv wr => ReI N M nl w7 ab g iv wr)
          case atStart => exact ⟨0, M, A11, c11, by omega, rfl, HAb.out, HS12.out, .base, HMk.out⟩
          case round =>
            clear HS12 HAb
            obtain ⟨k, X, Ax, cx, hkg, rfl, hA, hS, hre, hmx⟩ := hrel
            have HK := Lib.hid hkg
            have HAb := Lib.hid hA
            have HS := Lib.hid hS
            have HRx := Lib.hid hre
            have HMx := Lib.hid hmx
            have hkl : k ≤ nl := by omega
            have hxl : X.length ≤ 40 := by have := mk_len hmx; omega
            have HBr := Lib.hid hS.2
            have HZx := Lib.hid (ns_bd hS)
            have t0 : wr.cell? ⟨ab, 0, none⟩ = some (.slice Ax X.length cx) := by simp [World.cell?, hA]
            have tf : wr.frozen? ⟨ab, 0, none⟩ = false := by simp [World.frozen?, hA]
            obtain ⟨b0, b1, b2, b3⟩ := (HNb6.out.below HBr.out).cells
            have HLr := Lib.hid (HL6.out.below HBr.out)
            clear hkg hA hS hre hmx
            by_cases hlt : k < nl
            · have hlt' : k < l.length := by rw [HLl.out]; exact hlt
              obtain ⟨al, rfl, hpa, q0⟩ := HLr.out k hlt'
              generalize l[k] = t at *
              have hfi := pFire_any N A n c Ax X.length cx X t wr (HIn6.out.below HBr.out) HNl.out hn2 HZx.out.1 rfl (by omega)
              rw [show fire21 N X t = fireV N X t by unfold fire21; rw [HMx.out]; rfl] at hfi
              have HFi := Lib.hid hfi
              clear hfi hlt'
              by_cases h0 : (fireV N X t).2 = 0
              · have HFy := Lib.hid (fv_yes HFi.out h0)
                have HRy := Lib.hid (reach_fire HRx.out h0)
                have HMy := Lib.hid (fire_mk HMx.out h0)
                clear HFi h0
                generalize (fireV N X t).1 = Y at *
                go_wp2_with fail
                ((with_reducible refine HFy.out.mono ?_); rintro e w13 ⟨v13, rfl, hS13⟩)
                obtain ⟨A13, c13, rfl⟩ := hS13.slice
                have HAb13 := Lib.hid (show w13.heap[ab]? = some (.cells #[.slice Ax X.length cx] 25 (0, 0)) by rw [hS13.2.block ab (Array.getElem?_eq_some_iff.1 HAb.out).1]; exact HAb.out)
                have HS13 := Lib.hid (NS.up HBr.out hS13)
                have hset : w13.grownBy (w13.setCell ⟨ab, 0, none⟩ (.slice A13 Y.length c13)) (some ab) := Lib.grownBy_setB (grown_refl w13 (some ab)) 0 _
                have HS14 := Lib.hid (HS13.out.kept hset (own_other HS13.out.1 HAb13.out (by decide)) (fun k hk => by cases hk; exact hab))
                have HAb14 := Lib.hid (show (w13.setCell ⟨ab, 0, none⟩ (.slice A13 Y.length c13)).heap[ab]? = some (.cells #[.slice A13 Y.length c13] 25 (0, 0)) by rw [heap_set2 HAb13.out]; rfl)
                have t0' : w13.cell? ⟨ab, 0, none⟩ = some (.slice Ax X.length cx) := by have := HAb13.out; simp [World.cell?, this]
                have tf' : w13.frozen? ⟨ab, 0, none⟩ = false := by have := HAb13.out; simp [World.frozen?, this]
                clear hS13 hset HFy t0 tf q0 b0 b1 b2 b3
                go_wp2_with fail
                go_roundg (gk - 1)
                case measure => have := HK.out; omega
                case rel => exact ⟨k + 1, Y, A13, c13, by have := HK.out; omega, by go_num, HAb14.out, HS14.out, HRy.out, HMy.out⟩
              · have HFn := Lib.hid (fv_no HFi.out h0)
                have q7 : ((fireV N X t).2 != 0) = true := by rw [bne_iff_ne]; exact h0
                clear HFi h0
                generalize (fireV N X t).2 = er at *
                go_wp2_with fail
                ((with_reducible refine HFn.out.mono ?_); rintro e w13 ⟨rfl, hb13⟩)
                have HS13 := Lib.hid (HS.out.below hb13)
                have HAb13 := Lib.hid (show w13.heap[ab]? = some (.cells #[.slice Ax X.length cx] 25 (0, 0)) by rw [hb13.block ab (Array.getElem?_eq_some_iff.1 HAb.out).1]; exact HAb.out)
                clear hb13 t0 tf q0 b0 b1 b2 b3 HZx HLr HBr HS HAb HFn
                have HB13 := Lib.hid HS13.out.2
                have HB20 := Lib.hid (below_then HB6.out HB13.out)
                have HNb20 := Lib.hid (HNb6.out.below HB13.out)
                have HIn20 := Lib.hid (HIn6.out.below HB13.out)
                have HZ20 := Lib.hid (HZ6.out.below HB13.out)
                have HT20 := Lib.hid (HT6.out.below HB13.out)
                have HL20 := Lib.hid (HL6.out.below HB13.out)
                have HX20 := Lib.hid (HX6.out.below HB13.out)
                have HLi20 := Lib.hid (HLi6.out.below HB13.out)
                obtain ⟨w20, rfl⟩ : ∃ w20, w20 = w13 := ⟨_, rfl⟩
                clear HB6 HNb6 HIn6 HZ6 HT6 HL6 HX6 HLi6
                have HZx20 := Lib.hid (ns_bd HS13.out).1
                have hcx : X.length ≤ cx ∧ cx ≤ 9223372036854775807 := (ns_bd HS13.out).2
                have HAb20 := Lib.hid HAb13.out
                have hp := mk_len HMx.out
                have qp : ((X.length : Int) != N.pl) = false := by rw [hp]; simp
                clear HS13 HAb13 HB13 hp
                obtain ⟨b0, b1, b2, b3⟩ := HNb20.out.cells
                obtain ⟨d0, d1, d2⟩ := HX20.out.cells
                have t0 : w20.cell? ⟨ab, 0, none⟩ = some (.slice Ax X.length cx) := by have := HAb20.out; simp [World.cell?, this]
                have HLc := Lib.hid (lcont_rr Aa T.states.length ca T.states w20 HLi20.out rfl (by have := HTl.out; omega) ab Ax X.length cx X ⟨HAb20.out, HZx20.out, rfl⟩)
                rw [reach_any HMk.out HGr.out HRx.out HMx.out] at HLc
                go_wp2_with fail
                ((with_reducible refine HLc.out.mono ?_); rintro e w21 ⟨rfl, hb21⟩)
                have HB21 := Lib.hid (below_then HB20.out hb21)
                have HNb21 := Lib.hid (HNb20.out.below hb21)
                have HIn21 := Lib.hid (HIn20.out.below hb21)
                have HZ21 := Lib.hid (HZ20.out.below hb21)
                have HT21 := Lib.hid (HT20.out.below hb21)
                have HL21 := Lib.hid (HL20.out.below hb21)
                have HX21 := Lib.hid (HX20.out.below hb21)
                have HLi21 := Lib.hid (HLi20.out.below hb21)
                have HZx21 := Lib.hid (HZx20.out.below hb21)
                have HAb21 := Lib.hid (show w21.heap[ab]? = some (.cells #[.slice Ax X.length cx] 25 (0, 0)) by rw [hb21.block ab (Array.getElem?_eq_some_iff.1 HAb20.out).1]; exact HAb20.out)
                clear hb21 HLc HAb20 b0 b1 b2 b3 d0 d1 d2 t0
                clear HB20 HNb20 HIn20 HZ20 HT20 HL20 HX20 HLi20 HZx20
                have hw21 : (w21.drew).cell? ⟨ab, 0, none⟩ = some (.slice Ax X.length cx) := cell_stays ((Below.refl w21.heap.size w21).drew) (by have := HAb21.out; simp [World.cell?, this])
                have HCe := Lib.hid (show ∃ s ∈ T.states, covB X s = true by obtain ⟨s, h1, _, h2⟩ := reach_cov HMk.out HGr.out HRx.out HMx.out; exact ⟨s, h1, h2⟩)
                have HCv := Lib.hid (fun w' h1 h2 h3 h4 => cv_way (covers_any N A n c Am m cm M Ax X.length cx X (most : Int) w' h1 HNl.out hn2 h2 HM.out hm1 hm2 h3 rfl hcx.1 hcx.2 h4) HMk.out HGr.out HMx.out hlm0 hlm HCe.out)
                go_wp2_with fail
                have hbd : Below w21.heap.size w21 w21.drew := (Below.refl _ _).drew
                have HB22 := Lib.hid (below_then HB21.out hbd)
                have HNb22 := Lib.hid (HNb21.out.below hbd)
                have HIn22 := Lib.hid (HIn21.out.below hbd)
                have HZ22 := Lib.hid (HZ21.out.below hbd)
                have HT22 := Lib.hid (HT21.out.below hbd)
                have HL22 := Lib.hid (HL21.out.below hbd)
                have HX22 := Lib.hid (HX21.out.below hbd)
                have HLi22 := Lib.hid (HLi21.out.below hbd)
                have HZx22 := Lib.hid (HZx21.out.below hbd)
                obtain ⟨b0, b1, b2, b3⟩ := HNb22.out.cells
                have hS0 := And.intro b0 (And.intro b1 (And.intro b2 (And.intro b3 (hw21))))
                refine wp_region_held_drew (S := fun w' => w'.cell? ⟨w.heap.size, 0, none⟩ = some (.int .i64 N.pl) ∧ w'.cell? ⟨w.heap.size, 1, none⟩ = some (.slice A n c) ∧ w'.cell? ⟨w.heap.size, 2, none⟩ = some (.int .i64 N.src) ∧ w'.cell? ⟨w.heap.size, 3, none⟩ = some (.int .i64 N.snk) ∧ w'.cell? ⟨ab, 0, none⟩ = some (.slice Ax X.length cx)) (by kernel_rfl) hS0 (fun hHeld => ?_)
                clear hS0 hbd b0 b1 b2 b3
                generalize w21.drew = w22 at *
                refine wpAnyH_take (i := 0) (v := ?_) rfl (by kernel_rfl) (by kernel_rfl) (by kernel_rfl) (fun _ _ _ h => h) (Or.inl ⟨by rfl, ?_⟩) (by assumption) ?_
                rotate_left
                · intro w hSw; (try dsimp only at hSw); go_simp; try (with_reducible rfl)
                try go_simp
                refine wpAnyH_take (i := 1) (v := ?_) rfl (by kernel_rfl) (by kernel_rfl) (by kernel_rfl) (fun _ _ _ h => h) (Or.inl ⟨by rfl, ?_⟩) (by assumption) ?_
                rotate_left
                · intro w hSw; (try dsimp only at hSw); go_simp; try (with_reducible rfl)
                try go_simp
                refine wpAnyH_take (i := 2) (v := ?_) rfl (by kernel_rfl) (by kernel_rfl) (by kernel_rfl) (fun _ _ _ h => h) (Or.inl ⟨by rfl, ?_⟩) (by assumption) ?_
                rotate_left
                · intro w hSw; (try dsimp only at hSw); go_simp; try (with_reducible rfl)
                try go_simp
                refine wpAnyH_take (i := 3) (v := ?_) rfl (by kernel_rfl) (by kernel_rfl) (by kernel_rfl) (fun _ _ _ h => h) (Or.inl ⟨by rfl, ?_⟩) (by assumption) ?_
                rotate_left
                · intro w hSw; (try dsimp only at hSw); go_simp; try (with_reducible rfl)
                try go_simp
                refine wpAnyH_ready (rs := [4]) (by kernel_rfl) (by simp) ?_
                refine AllReadyH.cons rfl (fun K hK => ?_) AllReadyH.nil
                go_simp
                ((refine (limited_any mo most w22 hmo HMost.out).mono ?_); rintro e w23 ⟨rfl, hb23⟩)
                have hS9 := hHeld
                refine hK.out _ _ ⟨cell_stays hb23 hS9.1, cell_stays hb23 hS9.2.1, cell_stays hb23 hS9.2.2.1, cell_stays hb23 hS9.2.2.2.1, cell_stays hb23 hS9.2.2.2.2⟩ (fun hHeld => ?_)
                clear hK K hS9
                try go_simp
                have HB23 := Lib.hid (below_then HB22.out hb23)
                have HNb23 := Lib.hid (HNb22.out.below hb23)
                have HIn23 := Lib.hid (HIn22.out.below hb23)
                have HZ23 := Lib.hid (HZ22.out.below hb23)
                have HT23 := Lib.hid (HT22.out.below hb23)
                have HL23 := Lib.hid (HL22.out.below hb23)
                have HX23 := Lib.hid (HX22.out.below hb23)
                have HLi23 := Lib.hid (HLi22.out.below hb23)
                have HZx23 := Lib.hid (HZx22.out.below hb23)
                clear hb23
                refine wpAnyH_ready (rs := [5]) (by kernel_rfl) (by simp) ?_
                refine AllReadyH.cons rfl (fun K hK => ?_) AllReadyH.nil
                go_simp
                ((refine (HCv.out w23 HIn23.out HZ23.out HZx23.out HT23.out).mono ?_); rintro e w24 ⟨Aw21, wl1, cw21, rfl, hwl, hw0, hb24⟩)
                have hS9 := hHeld
                refine hK.out _ _ ⟨cell_stays hb24 hS9.1, cell_stays hb24 hS9.2.1, cell_stays hb24 hS9.2.2.1, cell_stays hb24 hS9.2.2.2.1, cell_stays hb24 hS9.2.2.2.2⟩ (fun hHeld => ?_)
                clear hK K hS9
                try go_simp
                have HB24 := Lib.hid (below_then HB23.out hb24)
                have HNb24 := Lib.hid (HNb23.out.below hb24)
                have HIn24 := Lib.hid (HIn23.out.below hb24)
                have HZ24 := Lib.hid (HZ23.out.below hb24)
                have HT24 := Lib.hid (HT23.out.below hb24)
                have HL24 := Lib.hid (HL23.out.below hb24)
                have HX24 := Lib.hid (HX23.out.below hb24)
                have HLi24 := Lib.hid (HLi23.out.below hb24)
                have HZx24 := Lib.hid (HZx23.out.below hb24)
                clear hb24
                refine wpAnyH_take (i := 6) (v := ?_) rfl (by kernel_rfl) (by kernel_rfl) (by kernel_rfl) (fun _ _ _ h => h) (Or.inl ⟨by rfl, ?_⟩) (by assumption) ?_
                rotate_left
                · intro w hSw; (try dsimp only at hSw); go_simp; try (with_reducible rfl)
                try go_simp
                refine wpAnyH_take (i := 7) (v := ?_) rfl (by kernel_rfl) (by kernel_rfl) (by kernel_rfl) (fun _ _ _ h => h) (Or.inl ⟨by rfl, ?_⟩) (by assumption) ?_
                rotate_left
                · intro w hSw; (try dsimp only at hSw); go_simp; try (with_reducible rfl)
                try go_simp
                refine wpAnyH_take (i := 8) (v := ?_) rfl (by kernel_rfl) (by kernel_rfl) (by kernel_rfl) (fun _ _ _ h => h) (Or.inl ⟨by rfl, ?_⟩) (by assumption) ?_
                rotate_left
                · intro w hSw; (try dsimp only at hSw); go_simp; try (with_reducible rfl)
                try go_simp
                refine wpAnyH_take (i := 9) (v := ?_) rfl (by kernel_rfl) (by kernel_rfl) (by kernel_rfl) (fun _ _ _ h => h) (Or.inl ⟨by rfl, ?_⟩) (by assumption) ?_
                rotate_left
                · intro w hSw; (try dsimp only at hSw); go_simp; try (with_reducible rfl)
                try go_simp
                refine wpAnyH_take (i := 10) (v := ?_) rfl (by kernel_rfl) (by kernel_rfl) (by kernel_rfl) (fun _ _ _ h => h) (Or.inl ⟨by rfl, ?_⟩) (by assumption) ?_
                rotate_left
                · intro w hSw; (try dsimp only at hSw); go_simp; try (with_reducible rfl)
                try go_simp
                refine wpAnyH_take (i := 11) (v := ?_) rfl (by kernel_rfl) (by kernel_rfl) (by kernel_rfl) (fun _ _ _ h => h) (Or.inl ⟨by rfl, ?_⟩) (by assumption) ?_
                rotate_left
                · intro w hSw; (try dsimp only at hSw); go_simp; try (with_reducible rfl)
                try go_simp
                refine wpAnyH_take (i := 12) (v := ?_) rfl (by kernel_rfl) (by kernel_rfl) (by kernel_rfl) (fun _ _ _ h => h) (Or.inl ⟨by rfl, ?_⟩) (by assumption) ?_
                rotate_left
                · intro w hSw; (try dsimp only at hSw); go_simp; try (with_reducible rfl)
                try go_simp
                refine wpAnyH_done (by kernel_rfl) ?_ _
                clear hHeld
                clear HB21 HNb21 HIn21 HZ21 HT21 HL21 HX21 HLi21 HZx21
                clear HB22 HNb22 HIn22 HZ22 HT22 HL22 HX22 HLi22 HZx22
                clear HB23 HNb23 HIn23 HZ23 HT23 HL23 HX23 HLi23 HZx23
                clear HCv HCe HAb21 hw21 hwl hw0
                obtain ⟨d0, d1, d2⟩ := HX24.out.cells
                go_wp2_with fail
                clear d0 d1 d2
                have HBl24 := Lib.hid (Below.refl w24.heap.size w24)
                obtain ⟨go1, rfl⟩ : ∃ go1, go1 = gk := ⟨_, rfl⟩
                have htl := HTl.out
                go_loopg [99] (T.states.length) (fun g iv wr => ∃ k : Nat, k + g = T.states.length ∧ iv = .int .i64 (k : Int) ∧ Below w24.heap.size w24 wr)
                case atStart => exact ⟨0, by omega, rfl, HBl24.out⟩
                case round =>
                  obtain ⟨j, hj, rfl, hB⟩ := hrel
                  have HJ := Lib.hid hj
                  have HBl := Lib.hid hB
                  have hjl : j ≤ T.states.length := by omega
                  clear hj hB
                  obtain ⟨w30, rfl⟩ : ∃ w30, w30 = wr := ⟨_, rfl⟩
                  have HB30 := Lib.hid (below_then HB24.out HBl.out)
                  have HNb30 := Lib.hid (HNb24.out.below HBl.out)
                  have HIn30 := Lib.hid (HIn24.out.below HBl.out)
                  have HZ30 := Lib.hid (HZ24.out.below HBl.out)
                  have HT30 := Lib.hid (HT24.out.below HBl.out)
                  have HL30 := Lib.hid (HL24.out.below HBl.out)
                  have HX30 := Lib.hid (HX24.out.below HBl.out)
                  have HLi30 := Lib.hid (HLi24.out.below HBl.out)
                  clear HB24 HNb24 HIn24 HZ24 HT24 HL24 HX24 HLi24 HZx24
                  obtain ⟨b0, b1, b2, b3⟩ := HNb30.out.cells
                  obtain ⟨d0, d1, d2⟩ := HX30.out.cells
                  by_cases hlt2 : j < T.states.length
                  · obtain ⟨as_, rfl, hps2, u, e0, Au, nu, cu, rfl, zu, hul, huc, hud⟩ := HLi30.out j hlt2
                    have hsm := List.getElem_mem hlt2
                    have HSm := Lib.hid hsm
                    have hln := HSl.out _ hsm
                    generalize T.states[j] = Z at *
                    have qn : ((nu : Int) != N.pl) = false := by rw [← hln, hul]; simp
                    have HZu30 := Lib.hid zu
                    have HUl := Lib.hid hul
                    have HCo := Lib.hid (contains_om Au nu cu Z w30 zu hul (by omega))
                    clear hsm hln zu hul
                    cases ho : hasO Z with
                    | true =>
                      rw [ho] at HCo
                      clear ho
                      go_wp2_with fail
                      ((with_reducible refine HCo.out.mono ?_); rintro e w31 ⟨rfl, hb31⟩)
                      have HBe := Lib.hid (below_then HBl.out hb31)
                      clear hb31
                      go_wp2_with fail
                      go_roundg (gk - 1)
                      case measure => have := HJ.out; omega
                      case rel => exact ⟨j + 1, by have := HJ.out; omega, by go_num, HBe.out⟩
                    | false =>
                      rw [ho] at HCo
                      have HMz := Lib.hid (state_mk HMk.out HGr.out HSm.out ho)
                      clear ho
                      go_wp2_with fail
                      ((with_reducible refine HCo.out.mono ?_); rintro e w31 ⟨rfl, hb31⟩)
                      have HBl31 := Lib.hid (below_then HBl.out hb31)
                      have HB31 := Lib.hid (below_then HB30.out hb31)
                      have HNb31 := Lib.hid (HNb30.out.below hb31)
                      have HIn31 := Lib.hid (HIn30.out.below hb31)
                      have HZ31 := Lib.hid (HZ30.out.below hb31)
                      have HT31 := Lib.hid (HT30.out.below hb31)
                      have HL31 := Lib.hid (HL30.out.below hb31)
                      have HX31 := Lib.hid (HX30.out.below hb31)
                      have HLi31 := Lib.hid (HLi30.out.below hb31)
                      have HZu31 := Lib.hid (HZu30.out.below hb31)
                      clear HB30 HNb30 HIn30 HZ30 HT30 HL30 HX30 HLi30 HZu30
                      clear hb31 HCo HBl b0 b1 b2 b3 d0 d1 d2 e0
                      have HCv := Lib.hid (fun w' h1 h2 h3 h4 => cv_way (covers_any N A n c Am m cm M Au nu cu Z (most : Int) w' h1 HNl.out hn2 h2 HM.out hm1 hm2 h3 HUl.out huc hud h4) HMk.out HGr.out HMz.out hlm0 hlm ⟨Z, HSm.out, covB_refl Z⟩)
                      go_wp2_with fail
                      have hbd : Below w31.heap.size w31 w31.drew := (Below.refl _ _).drew
                      have HB32 := Lib.hid (below_then HB31.out hbd)
                      have HNb32 := Lib.hid (HNb31.out.below hbd)
                      have HIn32 := Lib.hid (HIn31.out.below hbd)
                      have HZ32 := Lib.hid (HZ31.out.below hbd)
                      have HT32 := Lib.hid (HT31.out.below hbd)
                      have HL32 := Lib.hid (HL31.out.below hbd)
                      have HX32 := Lib.hid (HX31.out.below hbd)
                      have HLi32 := Lib.hid (HLi31.out.below hbd)
                      have HZu32 := Lib.hid (HZu31.out.below hbd)
                      obtain ⟨b0, b1, b2, b3⟩ := HNb32.out.cells
                      have hS0 := And.intro b0 (And.intro b1 (And.intro b2 (b3)))
                      refine wp_region_held_drew (S := fun w' => w'.cell? ⟨w.heap.size, 0, none⟩ = some (.int .i64 N.pl) ∧ w'.cell? ⟨w.heap.size, 1, none⟩ = some (.slice A n c) ∧ w'.cell? ⟨w.heap.size, 2, none⟩ = some (.int .i64 N.src) ∧ w'.cell? ⟨w.heap.size, 3, none⟩ = some (.int .i64 N.snk)) (by kernel_rfl) hS0 (fun hHeld => ?_)
                      have HBl32 := Lib.hid (below_then HBl31.out hbd)
                      clear hS0 hbd b0 b1 b2 b3
                      generalize w31.drew = w32 at *
                      refine wpAnyH_take (i := 0) (v := ?_) rfl (by kernel_rfl) (by kernel_rfl) (by kernel_rfl) (fun _ _ _ h => h) (Or.inl ⟨by rfl, ?_⟩) (by assumption) ?_
                      rotate_left
                      · intro w hSw; (try dsimp only at hSw); go_simp; try (with_reducible rfl)
                      try go_simp
                      refine wpAnyH_take (i := 1) (v := ?_) rfl (by kernel_rfl) (by kernel_rfl) (by kernel_rfl) (fun _ _ _ h => h) (Or.inl ⟨by rfl, ?_⟩) (by assumption) ?_
                      rotate_left
                      · intro w hSw; (try dsimp only at hSw); go_simp; try (with_reducible rfl)
                      try go_simp
                      refine wpAnyH_take (i := 2) (v := ?_) rfl (by kernel_rfl) (by kernel_rfl) (by kernel_rfl) (fun _ _ _ h => h) (Or.inl ⟨by rfl, ?_⟩) (by assumption) ?_
                      rotate_left
                      · intro w hSw; (try dsimp only at hSw); go_simp; try (with_reducible rfl)
                      try go_simp
                      refine wpAnyH_take (i := 3) (v := ?_) rfl (by kernel_rfl) (by kernel_rfl) (by kernel_rfl) (fun _ _ _ h => h) (Or.inl ⟨by rfl, ?_⟩) (by assumption) ?_
                      rotate_left
                      · intro w hSw; (try dsimp only at hSw); go_simp; try (with_reducible rfl)
                      try go_simp
                      refine wpAnyH_ready (rs := [4]) (by kernel_rfl) (by simp) ?_
                      refine AllReadyH.cons rfl (fun K hK => ?_) AllReadyH.nil
                      go_simp
                      ((refine (limited_any mo most w32 hmo HMost.out).mono ?_); rintro e w33 ⟨rfl, hb33⟩)
                      have hS9 := hHeld
                      refine hK.out _ _ ⟨cell_stays hb33 hS9.1, cell_stays hb33 hS9.2.1, cell_stays hb33 hS9.2.2.1, cell_stays hb33 hS9.2.2.2⟩ (fun hHeld => ?_)
                      clear hK K hS9
                      try go_simp
                      have HB33 := Lib.hid (below_then HB32.out hb33)
                      have HNb33 := Lib.hid (HNb32.out.below hb33)
                      have HIn33 := Lib.hid (HIn32.out.below hb33)
                      have HZ33 := Lib.hid (HZ32.out.below hb33)
                      have HT33 := Lib.hid (HT32.out.below hb33)
                      have HL33 := Lib.hid (HL32.out.below hb33)
                      have HX33 := Lib.hid (HX32.out.below hb33)
                      have HLi33 := Lib.hid (HLi32.out.below hb33)
                      have HZu33 := Lib.hid (HZu32.out.below hb33)
                      have HBl33 := Lib.hid (below_then HBl32.out hb33)
                      clear hb33
                      refine wpAnyH_ready (rs := [5]) (by kernel_rfl) (by simp) ?_
                      refine AllReadyH.cons rfl (fun K hK => ?_) AllReadyH.nil
                      go_simp
                      ((refine (HCv.out w33 HIn33.out HZ33.out HZu33.out HT33.out).mono ?_); rintro e w34 ⟨Aw31, wl2, cw31, rfl, hwl, hw0, hb34⟩)
                      have hS9 := hHeld
                      refine hK.out _ _ ⟨cell_stays hb34 hS9.1, cell_stays hb34 hS9.2.1, cell_stays hb34 hS9.2.2.1, cell_stays hb34 hS9.2.2.2⟩ (fun hHeld => ?_)
                      clear hK K hS9
                      try go_simp
                      have HB34 := Lib.hid (below_then HB33.out hb34)
                      have HNb34 := Lib.hid (HNb33.out.below hb34)
                      have HIn34 := Lib.hid (HIn33.out.below hb34)
                      have HZ34 := Lib.hid (HZ33.out.below hb34)
                      have HT34 := Lib.hid (HT33.out.below hb34)
                      have HL34 := Lib.hid (HL33.out.below hb34)
                      have HX34 := Lib.hid (HX33.out.below hb34)
                      have HLi34 := Lib.hid (HLi33.out.below hb34)
                      have HZu34 := Lib.hid (HZu33.out.below hb34)
                      have HBl34 := Lib.hid (below_then HBl33.out hb34)
                      clear hb34
                      refine wpAnyH_take (i := 6) (v := ?_) rfl (by kernel_rfl) (by kernel_rfl) (by kernel_rfl) (fun _ _ _ h => h) (Or.inl ⟨by rfl, ?_⟩) (by assumption) ?_
                      rotate_left
                      · intro w hSw; (try dsimp only at hSw); go_simp; try (with_reducible rfl)
                      try go_simp
                      refine wpAnyH_take (i := 7) (v := ?_) rfl (by kernel_rfl) (by kernel_rfl) (by kernel_rfl) (fun _ _ _ h => h) (Or.inl ⟨by rfl, ?_⟩) (by assumption) ?_
                      rotate_left
                      · intro w hSw; (try dsimp only at hSw); go_simp; try (with_reducible rfl)
                      try go_simp
                      refine wpAnyH_take (i := 8) (v := ?_) rfl (by kernel_rfl) (by kernel_rfl) (by kernel_rfl) (fun _ _ _ h => h) (Or.inl ⟨by rfl, ?_⟩) (by assumption) ?_
                      rotate_left
                      · intro w hSw; (try dsimp only at hSw); go_simp; try (with_reducible rfl)
                      try go_simp
                      refine wpAnyH_take (i := 9) (v := ?_) rfl (by kernel_rfl) (by kernel_rfl) (by kernel_rfl) (fun _ _ _ h => h) (Or.inl ⟨by rfl, ?_⟩) (by assumption) ?_
                      rotate_left
                      · intro w hSw; (try dsimp only at hSw); go_simp; try (with_reducible rfl)
                      try go_simp
                      refine wpAnyH_take (i := 10) (v := ?_) rfl (by kernel_rfl) (by kernel_rfl) (by kernel_rfl) (fun _ _ _ h => h) (Or.inl ⟨by rfl, ?_⟩) (by assumption) ?_
                      rotate_left
                      · intro w hSw; (try dsimp only at hSw); go_simp; try (with_reducible rfl)
                      try go_simp
                      refine wpAnyH_take (i := 11) (v := ?_) rfl (by kernel_rfl) (by kernel_rfl) (by kernel_rfl) (fun _ _ _ h => h) (Or.inl ⟨by rfl, ?_⟩) (by assumption) ?_
                      rotate_left
                      · intro w hSw; (try dsimp only at hSw); go_simp; try (with_reducible rfl)
                      try go_simp
                      refine wpAnyH_take (i := 12) (v := ?_) rfl (by kernel_rfl) (by kernel_rfl) (by kernel_rfl) (fun _ _ _ h => h) (Or.inl ⟨by rfl, ?_⟩) (by assumption) ?_
                      rotate_left
                      · intro w hSw; (try dsimp only at hSw); go_simp; try (with_reducible rfl)
                      try go_simp
                      refine wpAnyH_done (by kernel_rfl) ?_ _
                      clear hHeld
                      clear HB31 HNb31 HIn31 HZ31 HT31 HL31 HX31 HLi31 HZu31
                      clear HB32 HNb32 HIn32 HZ32 HT32 HL32 HX32 HLi32 HZu32
                      clear HB33 HNb33 HIn33 HZ33 HT33 HL33 HX33 HLi33 HZu33
                      obtain ⟨d0, d1, d2⟩ := HX34.out.cells
                      have ql : decide (((movesOf T).length : Int) < (wl2 : Int)) = false := by simp; omega
                      have ql2 : decide ((movesOf T).length < wl2) = false := by simp; omega
                      clear hw0 hwl
                      go_wp2_with fail
                      go_roundg (gk - 1)
                      case measure => have := HJ.out; omega
                      case rel => exact ⟨j + 1, by have := HJ.out; omega, by go_num, HBl34.out⟩
                  · have d8 : decide (j < T.states.length) = false := by simpa using hlt2
                    clear b0 b1 b2 b3 d0 d1 d2
                    have HCv := Lib.hid (fun w' h1 h2 h4 => cv_way (covers_any N A n c Am m cm M Am m cm M (most : Int) w' h1 HNl.out hn2 h2 HM.out hm1 hm2 h2 HM.out hm1 hm2 h4) HMk.out HGr.out HMk.out hlm0 hlm ⟨M, List.mem_of_getElem? (grow_good HMk.out HGr.out).1.one, covB_refl M⟩)
                    go_wp2_with fail
                    have hbd : Below w30.heap.size w30 w30.drew := (Below.refl _ _).drew
                    have HB31 := Lib.hid (below_then HB30.out hbd)
                    have HNb31 := Lib.hid (HNb30.out.below hbd)
                    have HIn31 := Lib.hid (HIn30.out.below hbd)
                    have HZ31 := Lib.hid (HZ30.out.below hbd)
                    have HT31 := Lib.hid (HT30.out.below hbd)
                    have HL31 := Lib.hid (HL30.out.below hbd)
                    have HX31 := Lib.hid (HX30.out.below hbd)
                    have HLi31 := Lib.hid (HLi30.out.below hbd)
                    obtain ⟨b0, b1, b2, b3⟩ := HNb31.out.cells
                    have hS0 := And.intro b0 (And.intro b1 (And.intro b2 (b3)))
                    refine wp_region_held_drew (S := fun w' => w'.cell? ⟨w.heap.size, 0, none⟩ = some (.int .i64 N.pl) ∧ w'.cell? ⟨w.heap.size, 1, none⟩ = some (.slice A n c) ∧ w'.cell? ⟨w.heap.size, 2, none⟩ = some (.int .i64 N.src) ∧ w'.cell? ⟨w.heap.size, 3, none⟩ = some (.int .i64 N.snk)) (by kernel_rfl) hS0 (fun hHeld => ?_)
                    clear hS0 hbd b0 b1 b2 b3
                    generalize w30.drew = w31 at *
                    refine wpAnyH_take (i := 0) (v := ?_) rfl (by kernel_rfl) (by kernel_rfl) (by kernel_rfl) (fun _ _ _ h => h) (Or.inl ⟨by rfl, ?_⟩) (by assumption) ?_
                    rotate_left
                    · intro w hSw; (try dsimp only at hSw); go_simp; try (with_reducible rfl)
                    try go_simp
                    refine wpAnyH_take (i := 1) (v := ?_) rfl (by kernel_rfl) (by kernel_rfl) (by kernel_rfl) (fun _ _ _ h => h) (Or.inl ⟨by rfl, ?_⟩) (by assumption) ?_
                    rotate_left
                    · intro w hSw; (try dsimp only at hSw); go_simp; try (with_reducible rfl)
                    try go_simp
                    refine wpAnyH_take (i := 2) (v := ?_) rfl (by kernel_rfl) (by kernel_rfl) (by kernel_rfl) (fun _ _ _ h => h) (Or.inl ⟨by rfl, ?_⟩) (by assumption) ?_
                    rotate_left
                    · intro w hSw; (try dsimp only at hSw); go_simp; try (with_reducible rfl)
                    try go_simp
                    refine wpAnyH_take (i := 3) (v := ?_) rfl (by kernel_rfl) (by kernel_rfl) (by kernel_rfl) (fun _ _ _ h => h) (Or.inl ⟨by rfl, ?_⟩) (by assumption) ?_
                    rotate_left
                    · intro w hSw; (try dsimp only at hSw); go_simp; try (with_reducible rfl)
                    try go_simp
                    refine wpAnyH_ready (rs := [4]) (by kernel_rfl) (by simp) ?_
                    refine AllReadyH.cons rfl (fun K hK => ?_) AllReadyH.nil
                    go_simp
                    ((refine (limited_any mo most w31 hmo HMost.out).mono ?_); rintro e w32 ⟨rfl, hb32⟩)
                    have hS9 := hHeld
                    refine hK.out _ _ ⟨cell_stays hb32 hS9.1, cell_stays hb32 hS9.2.1, cell_stays hb32 hS9.2.2.1, cell_stays hb32 hS9.2.2.2⟩ (fun hHeld => ?_)
                    clear hK K hS9
                    try go_simp
                    have HB32 := Lib.hid (below_then HB31.out hb32)
                    have HNb32 := Lib.hid (HNb31.out.below hb32)
                    have HIn32 := Lib.hid (HIn31.out.below hb32)
                    have HZ32 := Lib.hid (HZ31.out.below hb32)
                    have HT32 := Lib.hid (HT31.out.below hb32)
                    have HL32 := Lib.hid (HL31.out.below hb32)
                    have HX32 := Lib.hid (HX31.out.below hb32)
                    have HLi32 := Lib.hid (HLi31.out.below hb32)
                    clear hb32
                    refine wpAnyH_ready (rs := [5]) (by kernel_rfl) (by simp) ?_
                    refine AllReadyH.cons rfl (fun K hK => ?_) AllReadyH.nil
                    go_simp
                    ((refine (HCv.out w32 HIn32.out HZ32.out HT32.out).mono ?_); rintro e w33 ⟨Aw30, wl3, cw30, rfl, hwl, hw0, hb33⟩)
                    have hS9 := hHeld
                    refine hK.out _ _ ⟨cell_stays hb33 hS9.1, cell_stays hb33 hS9.2.1, cell_stays hb33 hS9.2.2.1, cell_stays hb33 hS9.2.2.2⟩ (fun hHeld => ?_)
                    clear hK K hS9
                    try go_simp
                    have HB33 := Lib.hid (below_then HB32.out hb33)
                    have HNb33 := Lib.hid (HNb32.out.below hb33)
                    have HIn33 := Lib.hid (HIn32.out.below hb33)
                    have HZ33 := Lib.hid (HZ32.out.below hb33)
                    have HT33 := Lib.hid (HT32.out.below hb33)
                    have HL33 := Lib.hid (HL32.out.below hb33)
                    have HX33 := Lib.hid (HX32.out.below hb33)
                    have HLi33 := Lib.hid (HLi32.out.below hb33)
                    clear hb33
                    refine wpAnyH_take (i := 6) (v := ?_) rfl (by kernel_rfl) (by kernel_rfl) (by kernel_rfl) (fun _ _ _ h => h) (Or.inl ⟨by rfl, ?_⟩) (by assumption) ?_
                    rotate_left
                    · intro w hSw; (try dsimp only at hSw); go_simp; try (with_reducible rfl)
                    try go_simp
                    refine wpAnyH_take (i := 7) (v := ?_) rfl (by kernel_rfl) (by kernel_rfl) (by kernel_rfl) (fun _ _ _ h => h) (Or.inl ⟨by rfl, ?_⟩) (by assumption) ?_
                    rotate_left
                    · intro w hSw; (try dsimp only at hSw); go_simp; try (with_reducible rfl)
                    try go_simp
                    refine wpAnyH_take (i := 8) (v := ?_) rfl (by kernel_rfl) (by kernel_rfl) (by kernel_rfl) (fun _ _ _ h => h) (Or.inl ⟨by rfl, ?_⟩) (by assumption) ?_
                    rotate_left
                    · intro w hSw; (try dsimp only at hSw); go_simp; try (with_reducible rfl)
                    try go_simp
                    refine wpAnyH_take (i := 9) (v := ?_) rfl (by kernel_rfl) (by kernel_rfl) (by kernel_rfl) (fun _ _ _ h => h) (Or.inl ⟨by rfl, ?_⟩) (by assumption) ?_
                    rotate_left
                    · intro w hSw; (try dsimp only at hSw); go_simp; try (with_reducible rfl)
                    try go_simp
                    refine wpAnyH_take (i := 10) (v := ?_) rfl (by kernel_rfl) (by kernel_rfl) (by kernel_rfl) (fun _ _ _ h => h) (Or.inl ⟨by rfl, ?_⟩) (by assumption) ?_
                    rotate_left
                    · intro w hSw; (try dsimp only at hSw); go_simp; try (with_reducible rfl)
                    try go_simp
                    refine wpAnyH_take (i := 11) (v := ?_) rfl (by kernel_rfl) (by kernel_rfl) (by kernel_rfl) (fun _ _ _ h => h) (Or.inl ⟨by rfl, ?_⟩) (by assumption) ?_
                    rotate_left
                    · intro w hSw; (try dsimp only at hSw); go_simp; try (with_reducible rfl)
                    try go_simp
                    refine wpAnyH_take (i := 12) (v := ?_) rfl (by kernel_rfl) (by kernel_rfl) (by kernel_rfl) (fun _ _ _ h => h) (Or.inl ⟨by rfl, ?_⟩) (by assumption) ?_
                    rotate_left
                    · intro w hSw; (try dsimp only at hSw); go_simp; try (with_reducible rfl)
                    try go_simp
                    refine wpAnyH_done (by kernel_rfl) ?_ _
                    clear hHeld
                    clear HB30 HNb30 HIn30 HZ30 HT30 HL30 HX30 HLi30
                    clear HB31 HNb31 HIn31 HZ31 HT31 HL31 HX31 HLi31
                    clear HB32 HNb32 HIn32 HZ32 HT32 HL32 HX32 HLi32
                    have hw00 := hw0 rfl
                    subst hw00
                    clear hw0 hwl
                    go_wp2_with fail
                    go_ret
                    exact ⟨rfl, HB33.out⟩
            · obtain ⟨w13, rfl⟩ : ∃ w13, w13 = wr := ⟨_, rfl⟩
              have HS13 := Lib.hid HS.out
              have HAb13 := Lib.hid HAb.out
              clear t0 tf b0 b1 b2 b3 HZx HLr HBr HS HAb
              have d9 : decide (k < nl) = false := by simpa using hlt
              have HB13 := Lib.hid HS13.out.2
              have HB20 := Lib.hid (below_then HB6.out HB13.out)
              have HNb20 := Lib.hid (HNb6.out.below HB13.out)
              have HIn20 := Lib.hid (HIn6.out.below HB13.out)
              have HZ20 := Lib.hid (HZ6.out.below HB13.out)
              have HT20 := Lib.hid (HT6.out.below HB13.out)
              have HL20 := Lib.hid (HL6.out.below HB13.out)
              have HX20 := Lib.hid (HX6.out.below HB13.out)
              have HLi20 := Lib.hid (HLi6.out.below HB13.out)
              obtain ⟨w20, rfl⟩ : ∃ w20, w20 = w13 := ⟨_, rfl⟩
              clear HB6 HNb6 HIn6 HZ6 HT6 HL6 HX6 HLi6
              have HZx20 := Lib.hid (ns_bd HS13.out).1
              have hcx : X.length ≤ cx ∧ cx ≤ 9223372036854775807 := (ns_bd HS13.out).2
              have HAb20 := Lib.hid HAb13.out
              have hp := mk_len HMx.out
              have qp : ((X.length : Int) != N.pl) = false := by rw [hp]; simp
              clear HS13 HAb13 HB13 hp
              obtain ⟨b0, b1, b2, b3⟩ := HNb20.out.cells
              obtain ⟨d0, d1, d2⟩ := HX20.out.cells
              have t0 : w20.cell? ⟨ab, 0, none⟩ = some (.slice Ax X.length cx) := by have := HAb20.out; simp [World.cell?, this]
              have HLc := Lib.hid (lcont_rr Aa T.states.length ca T.states w20 HLi20.out rfl (by have := HTl.out; omega) ab Ax X.length cx X ⟨HAb20.out, HZx20.out, rfl⟩)
              rw [reach_any HMk.out HGr.out HRx.out HMx.out] at HLc
              go_wp2_with fail
              ((with_reducible refine HLc.out.mono ?_); rintro e w21 ⟨rfl, hb21⟩)
              have HB21 := Lib.hid (below_then HB20.out hb21)
              have HNb21 := Lib.hid (HNb20.out.below hb21)
              have HIn21 := Lib.hid (HIn20.out.below hb21)
              have HZ21 := Lib.hid (HZ20.out.below hb21)
              have HT21 := Lib.hid (HT20.out.below hb21)
              have HL21 := Lib.hid (HL20.out.below hb21)
              have HX21 := Lib.hid (HX20.out.below hb21)
              have HLi21 := Lib.hid (HLi20.out.below hb21)
              have HZx21 := Lib.hid (HZx20.out.below hb21)
              have HAb21 := Lib.hid (show w21.heap[ab]? = some (.cells #[.slice Ax X.length cx] 25 (0, 0)) by rw [hb21.block ab (Array.getElem?_eq_some_iff.1 HAb20.out).1]; exact HAb20.out)
              clear hb21 HLc HAb20 b0 b1 b2 b3 d0 d1 d2 t0
              clear HB20 HNb20 HIn20 HZ20 HT20 HL20 HX20 HLi20 HZx20
              have hw21 : (w21.drew).cell? ⟨ab, 0, none⟩ = some (.slice Ax X.length cx) := cell_stays ((Below.refl w21.heap.size w21).drew) (by have := HAb21.out; simp [World.cell?, this])
              have HCe := Lib.hid (show ∃ s ∈ T.states, covB X s = true by obtain ⟨s, h1, _, h2⟩ := reach_cov HMk.out HGr.out HRx.out HMx.out; exact ⟨s, h1, h2⟩)
              have HCv := Lib.hid (fun w' h1 h2 h3 h4 => cv_way (covers_any N A n c Am m cm M Ax X.length cx X (most : Int) w' h1 HNl.out hn2 h2 HM.out hm1 hm2 h3 rfl hcx.1 hcx.2 h4) HMk.out HGr.out HMx.out hlm0 hlm HCe.out)
              go_wp2_with fail
              have hbd : Below w21.heap.size w21 w21.drew := (Below.refl _ _).drew
              have HB22 := Lib.hid (below_then HB21.out hbd)
              have HNb22 := Lib.hid (HNb21.out.below hbd)
              have HIn22 := Lib.hid (HIn21.out.below hbd)
              have HZ22 := Lib.hid (HZ21.out.below hbd)
              have HT22 := Lib.hid (HT21.out.below hbd)
              have HL22 := Lib.hid (HL21.out.below hbd)
              have HX22 := Lib.hid (HX21.out.below hbd)
              have HLi22 := Lib.hid (HLi21.out.below hbd)
              have HZx22 := Lib.hid (HZx21.out.below hbd)
              obtain ⟨b0, b1, b2, b3⟩ := HNb22.out.cells
              have hS0 := And.intro b0 (And.intro b1 (And.intro b2 (And.intro b3 (hw21))))
              refine wp_region_held_drew (S := fun w' => w'.cell? ⟨w.heap.size, 0, none⟩ = some (.int .i64 N.pl) ∧ w'.cell? ⟨w.heap.size, 1, none⟩ = some (.slice A n c) ∧ w'.cell? ⟨w.heap.size, 2, none⟩ = some (.int .i64 N.src) ∧ w'.cell? ⟨w.heap.size, 3, none⟩ = some (.int .i64 N.snk) ∧ w'.cell? ⟨ab, 0, none⟩ = some (.slice Ax X.length cx)) (by kernel_rfl) hS0 (fun hHeld => ?_)
              clear hS0 hbd b0 b1 b2 b3
              generalize w21.drew = w22 at *
              refine wpAnyH_take (i := 0) (v := ?_) rfl (by kernel_rfl) (by kernel_rfl) (by kernel_rfl) (fun _ _ _ h => h) (Or.inl ⟨by rfl, ?_⟩) (by assumption) ?_
              rotate_left
              · intro w hSw; (try dsimp only at hSw); go_simp; try (with_reducible rfl)
              try go_simp
              refine wpAnyH_take (i := 1) (v := ?_) rfl (by kernel_rfl) (by kernel_rfl) (by kernel_rfl) (fun _ _ _ h => h) (Or.inl ⟨by rfl, ?_⟩) (by assumption) ?_
              rotate_left
              · intro w hSw; (try dsimp only at hSw); go_simp; try (with_reducible rfl)
              try go_simp
              refine wpAnyH_take (i := 2) (v := ?_) rfl (by kernel_rfl) (by kernel_rfl) (by kernel_rfl) (fun _ _ _ h => h) (Or.inl ⟨by rfl, ?_⟩) (by assumption) ?_
              rotate_left
              · intro w hSw; (try dsimp only at hSw); go_simp; try (with_reducible rfl)
              try go_simp
              refine wpAnyH_take (i := 3) (v := ?_) rfl (by kernel_rfl) (by kernel_rfl) (by kernel_rfl) (fun _ _ _ h => h) (Or.inl ⟨by rfl, ?_⟩) (by assumption) ?_
              rotate_left
              · intro w hSw; (try dsimp only at hSw); go_simp; try (with_reducible rfl)
              try go_simp
              refine wpAnyH_ready (rs := [4]) (by kernel_rfl) (by simp) ?_
              refine AllReadyH.cons rfl (fun K hK => ?_) AllReadyH.nil
              go_simp
              ((refine (limited_any mo most w22 hmo HMost.out).mono ?_); rintro e w23 ⟨rfl, hb23⟩)
              have hS9 := hHeld
              refine hK.out _ _ ⟨cell_stays hb23 hS9.1, cell_stays hb23 hS9.2.1, cell_stays hb23 hS9.2.2.1, cell_stays hb23 hS9.2.2.2.1, cell_stays hb23 hS9.2.2.2.2⟩ (fun hHeld => ?_)
              clear hK K hS9
              try go_simp
              have HB23 := Lib.hid (below_then HB22.out hb23)
              have HNb23 := Lib.hid (HNb22.out.below hb23)
              have HIn23 := Lib.hid (HIn22.out.below hb23)
              have HZ23 := Lib.hid (HZ22.out.below hb23)
              have HT23 := Lib.hid (HT22.out.below hb23)
              have HL23 := Lib.hid (HL22.out.below hb23)
              have HX23 := Lib.hid (HX22.out.below hb23)
              have HLi23 := Lib.hid (HLi22.out.below hb23)
              have HZx23 := Lib.hid (HZx22.out.below hb23)
              clear hb23
              refine wpAnyH_ready (rs := [5]) (by kernel_rfl) (by simp) ?_
              refine AllReadyH.cons rfl (fun K hK => ?_) AllReadyH.nil
              go_simp
              ((refine (HCv.out w23 HIn23.out HZ23.out HZx23.out HT23.out).mono ?_); rintro e w24 ⟨Aw21, wl1, cw21, rfl, hwl, hw0, hb24⟩)
              have hS9 := hHeld
              refine hK.out _ _ ⟨cell_stays hb24 hS9.1, cell_stays hb24 hS9.2.1, cell_stays hb24 hS9.2.2.1, cell_stays hb24 hS9.2.2.2.1, cell_stays hb24 hS9.2.2.2.2⟩ (fun hHeld => ?_)
              clear hK K hS9
              try go_simp
              have HB24 := Lib.hid (below_then HB23.out hb24)
              have HNb24 := Lib.hid (HNb23.out.below hb24)
              have HIn24 := Lib.hid (HIn23.out.below hb24)
              have HZ24 := Lib.hid (HZ23.out.below hb24)
              have HT24 := Lib.hid (HT23.out.below hb24)
              have HL24 := Lib.hid (HL23.out.below hb24)
              have HX24 := Lib.hid (HX23.out.below hb24)
              have HLi24 := Lib.hid (HLi23.out.below hb24)
              have HZx24 := Lib.hid (HZx23.out.below hb24)
              clear hb24
              refine wpAnyH_take (i := 6) (v := ?_) rfl (by kernel_rfl) (by kernel_rfl) (by kernel_rfl) (fun _ _ _ h => h) (Or.inl ⟨by rfl, ?_⟩) (by assumption) ?_
              rotate_left
              · intro w hSw; (try dsimp only at hSw); go_simp; try (with_reducible rfl)
              try go_simp
              refine wpAnyH_take (i := 7) (v := ?_) rfl (by kernel_rfl) (by kernel_rfl) (by kernel_rfl) (fun _ _ _ h => h) (Or.inl ⟨by rfl, ?_⟩) (by assumption) ?_
              rotate_left
              · intro w hSw; (try dsimp only at hSw); go_simp; try (with_reducible rfl)
              try go_simp
              refine wpAnyH_take (i := 8) (v := ?_) rfl (by kernel_rfl) (by kernel_rfl) (by kernel_rfl) (fun _ _ _ h => h) (Or.inl ⟨by rfl, ?_⟩) (by assumption) ?_
              rotate_left
              · intro w hSw; (try dsimp only at hSw); go_simp; try (with_reducible rfl)
              try go_simp
              refine wpAnyH_take (i := 9) (v := ?_) rfl (by kernel_rfl) (by kernel_rfl) (by kernel_rfl) (fun _ _ _ h => h) (Or.inl ⟨by rfl, ?_⟩) (by assumption) ?_
              rotate_left
              · intro w hSw; (try dsimp only at hSw); go_simp; try (with_reducible rfl)
              try go_simp
              refine wpAnyH_take (i := 10) (v := ?_) rfl (by kernel_rfl) (by kernel_rfl) (by kernel_rfl) (fun _ _ _ h => h) (Or.inl ⟨by rfl, ?_⟩) (by assumption) ?_
              rotate_left
              · intro w hSw; (try dsimp only at hSw); go_simp; try (with_reducible rfl)
              try go_simp
              refine wpAnyH_take (i := 11) (v := ?_) rfl (by kernel_rfl) (by kernel_rfl) (by kernel_rfl) (fun _ _ _ h => h) (Or.inl ⟨by rfl, ?_⟩) (by assumption) ?_
              rotate_left
              · intro w hSw; (try dsimp only at hSw); go_simp; try (with_reducible rfl)
              try go_simp
              refine wpAnyH_take (i := 12) (v := ?_) rfl (by kernel_rfl) (by kernel_rfl) (by kernel_rfl) (fun _ _ _ h => h) (Or.inl ⟨by rfl, ?_⟩) (by assumption) ?_
              rotate_left
              · intro w hSw; (try dsimp only at hSw); go_simp; try (with_reducible rfl)
              try go_simp
              refine wpAnyH_done (by kernel_rfl) ?_ _
              clear hHeld
              clear HB21 HNb21 HIn21 HZ21 HT21 HL21 HX21 HLi21 HZx21
              clear HB22 HNb22 HIn22 HZ22 HT22 HL22 HX22 HLi22 HZx22
              clear HB23 HNb23 HIn23 HZ23 HT23 HL23 HX23 HLi23 HZx23
              clear HCv HCe HAb21 hw21 hwl hw0
              obtain ⟨d0, d1, d2⟩ := HX24.out.cells
              go_wp2_with fail
              clear d0 d1 d2
              have HBl24 := Lib.hid (Below.refl w24.heap.size w24)
              obtain ⟨go1, rfl⟩ : ∃ go1, go1 = gk := ⟨_, rfl⟩
              have htl := HTl.out
              go_loopg [99] (T.states.length) (fun g iv wr => ∃ k : Nat, k + g = T.states.length ∧ iv = .int .i64 (k : Int) ∧ Below w24.heap.size w24 wr)
              case atStart => exact ⟨0, by omega, rfl, HBl24.out⟩
              case round =>
                obtain ⟨j, hj, rfl, hB⟩ := hrel
                have HJ := Lib.hid hj
                have HBl := Lib.hid hB
                have hjl : j ≤ T.states.length := by omega
                clear hj hB
                obtain ⟨w30, rfl⟩ : ∃ w30, w30 = wr := ⟨_, rfl⟩
                have HB30 := Lib.hid (below_then HB24.out HBl.out)
                have HNb30 := Lib.hid (HNb24.out.below HBl.out)
                have HIn30 := Lib.hid (HIn24.out.below HBl.out)
                have HZ30 := Lib.hid (HZ24.out.below HBl.out)
                have HT30 := Lib.hid (HT24.out.below HBl.out)
                have HL30 := Lib.hid (HL24.out.below HBl.out)
                have HX30 := Lib.hid (HX24.out.below HBl.out)
                have HLi30 := Lib.hid (HLi24.out.below HBl.out)
                clear HB24 HNb24 HIn24 HZ24 HT24 HL24 HX24 HLi24 HZx24
                obtain ⟨b0, b1, b2, b3⟩ := HNb30.out.cells
                obtain ⟨d0, d1, d2⟩ := HX30.out.cells
                by_cases hlt2 : j < T.states.length
                · obtain ⟨as_, rfl, hps2, u, e0, Au, nu, cu, rfl, zu, hul, huc, hud⟩ := HLi30.out j hlt2
                  have hsm := List.getElem_mem hlt2
                  have HSm := Lib.hid hsm
                  have hln := HSl.out _ hsm
                  generalize T.states[j] = Z at *
                  have qn : ((nu : Int) != N.pl) = false := by rw [← hln, hul]; simp
                  have HZu30 := Lib.hid zu
                  have HUl := Lib.hid hul
                  have HCo := Lib.hid (contains_om Au nu cu Z w30 zu hul (by omega))
                  clear hsm hln zu hul
                  cases ho : hasO Z with
                  | true =>
                    rw [ho] at HCo
                    clear ho
                    go_wp2_with fail
                    ((with_reducible refine HCo.out.mono ?_); rintro e w31 ⟨rfl, hb31⟩)
                    have HBe := Lib.hid (below_then HBl.out hb31)
                    clear hb31
                    go_wp2_with fail
                    go_roundg (gk - 1)
                    case measure => have := HJ.out; omega
                    case rel => exact ⟨j + 1, by have := HJ.out; omega, by go_num, HBe.out⟩
                  | false =>
                    rw [ho] at HCo
                    have HMz := Lib.hid (state_mk HMk.out HGr.out HSm.out ho)
                    clear ho
                    go_wp2_with fail
                    ((with_reducible refine HCo.out.mono ?_); rintro e w31 ⟨rfl, hb31⟩)
                    have HBl31 := Lib.hid (below_then HBl.out hb31)
                    have HB31 := Lib.hid (below_then HB30.out hb31)
                    have HNb31 := Lib.hid (HNb30.out.below hb31)
                    have HIn31 := Lib.hid (HIn30.out.below hb31)
                    have HZ31 := Lib.hid (HZ30.out.below hb31)
                    have HT31 := Lib.hid (HT30.out.below hb31)
                    have HL31 := Lib.hid (HL30.out.below hb31)
                    have HX31 := Lib.hid (HX30.out.below hb31)
                    have HLi31 := Lib.hid (HLi30.out.below hb31)
                    have HZu31 := Lib.hid (HZu30.out.below hb31)
                    clear HB30 HNb30 HIn30 HZ30 HT30 HL30 HX30 HLi30 HZu30
                    clear hb31 HCo HBl b0 b1 b2 b3 d0 d1 d2 e0
                    have HCv := Lib.hid (fun w' h1 h2 h3 h4 => cv_way (covers_any N A n c Am m cm M Au nu cu Z (most : Int) w' h1 HNl.out hn2 h2 HM.out hm1 hm2 h3 HUl.out huc hud h4) HMk.out HGr.out HMz.out hlm0 hlm ⟨Z, HSm.out, covB_refl Z⟩)
                    go_wp2_with fail
                    have hbd : Below w31.heap.size w31 w31.drew := (Below.refl _ _).drew
                    have HB32 := Lib.hid (below_then HB31.out hbd)
                    have HNb32 := Lib.hid (HNb31.out.below hbd)
                    have HIn32 := Lib.hid (HIn31.out.below hbd)
                    have HZ32 := Lib.hid (HZ31.out.below hbd)
                    have HT32 := Lib.hid (HT31.out.below hbd)
                    have HL32 := Lib.hid (HL31.out.below hbd)
                    have HX32 := Lib.hid (HX31.out.below hbd)
                    have HLi32 := Lib.hid (HLi31.out.below hbd)
                    have HZu32 := Lib.hid (HZu31.out.below hbd)
                    obtain ⟨b0, b1, b2, b3⟩ := HNb32.out.cells
                    have hS0 := And.intro b0 (And.intro b1 (And.intro b2 (b3)))
                    refine wp_region_held_drew (S := fun w' => w'.cell? ⟨w.heap.size, 0, none⟩ = some (.int .i64 N.pl) ∧ w'.cell? ⟨w.heap.size, 1, none⟩ = some (.slice A n c) ∧ w'.cell? ⟨w.heap.size, 2, none⟩ = some (.int .i64 N.src) ∧ w'.cell? ⟨w.heap.size, 3, none⟩ = some (.int .i64 N.snk)) (by kernel_rfl) hS0 (fun hHeld => ?_)
                    have HBl32 := Lib.hid (below_then HBl31.out hbd)
                    clear hS0 hbd b0 b1 b2 b3
                    generalize w31.drew = w32 at *
                    refine wpAnyH_take (i := 0) (v := ?_) rfl (by kernel_rfl) (by kernel_rfl) (by kernel_rfl) (fun _ _ _ h => h) (Or.inl ⟨by rfl, ?_⟩) (by assumption) ?_
                    rotate_left
                    · intro w hSw; (try dsimp only at hSw); go_simp; try (with_reducible rfl)
                    try go_simp
                    refine wpAnyH_take (i := 1) (v := ?_) rfl (by kernel_rfl) (by kernel_rfl) (by kernel_rfl) (fun _ _ _ h => h) (Or.inl ⟨by rfl, ?_⟩) (by assumption) ?_
                    rotate_left
                    · intro w hSw; (try dsimp only at hSw); go_simp; try (with_reducible rfl)
                    try go_simp
                    refine wpAnyH_take (i := 2) (v := ?_) rfl (by kernel_rfl) (by kernel_rfl) (by kernel_rfl) (fun _ _ _ h => h) (Or.inl ⟨by rfl, ?_⟩) (by assumption) ?_
                    rotate_left
                    · intro w hSw; (try dsimp only at hSw); go_simp; try (with_reducible rfl)
                    try go_simp
                    refine wpAnyH_take (i := 3) (v := ?_) rfl (by kernel_rfl) (by kernel_rfl) (by kernel_rfl) (fun _ _ _ h => h) (Or.inl ⟨by rfl, ?_⟩) (by assumption) ?_
                    rotate_left
                    · intro w hSw; (try dsimp only at hSw); go_simp; try (with_reducible rfl)
                    try go_simp
                    refine wpAnyH_ready (rs := [4]) (by kernel_rfl) (by simp) ?_
                    refine AllReadyH.cons rfl (fun K hK => ?_) AllReadyH.nil
                    go_simp
                    ((refine (limited_any mo most w32 hmo HMost.out).mono ?_); rintro e w33 ⟨rfl, hb33⟩)
                    have hS9 := hHeld
                    refine hK.out _ _ ⟨cell_stays hb33 hS9.1, cell_stays hb33 hS9.2.1, cell_stays hb33 hS9.2.2.1, cell_stays hb33 hS9.2.2.2⟩ (fun hHeld => ?_)
                    clear hK K hS9
                    try go_simp
                    have HB33 := Lib.hid (below_then HB32.out hb33)
                    have HNb33 := Lib.hid (HNb32.out.below hb33)
                    have HIn33 := Lib.hid (HIn32.out.below hb33)
                    have HZ33 := Lib.hid (HZ32.out.below hb33)
                    have HT33 := Lib.hid (HT32.out.below hb33)
                    have HL33 := Lib.hid (HL32.out.below hb33)
                    have HX33 := Lib.hid (HX32.out.below hb33)
                    have HLi33 := Lib.hid (HLi32.out.below hb33)
                    have HZu33 := Lib.hid (HZu32.out.below hb33)
                    have HBl33 := Lib.hid (below_then HBl32.out hb33)
                    clear hb33
                    refine wpAnyH_ready (rs := [5]) (by kernel_rfl) (by simp) ?_
                    refine AllReadyH.cons rfl (fun K hK => ?_) AllReadyH.nil
                    go_simp
                    ((refine (HCv.out w33 HIn33.out HZ33.out HZu33.out HT33.out).mono ?_); rintro e w34 ⟨Aw31, wl2, cw31, rfl, hwl, hw0, hb34⟩)
                    have hS9 := hHeld
                    refine hK.out _ _ ⟨cell_stays hb34 hS9.1, cell_stays hb34 hS9.2.1, cell_stays hb34 hS9.2.2.1, cell_stays hb34 hS9.2.2.2⟩ (fun hHeld => ?_)
                    clear hK K hS9
                    try go_simp
                    have HB34 := Lib.hid (below_then HB33.out hb34)
                    have HNb34 := Lib.hid (HNb33.out.below hb34)
                    have HIn34 := Lib.hid (HIn33.out.below hb34)
                    have HZ34 := Lib.hid (HZ33.out.below hb34)
                    have HT34 := Lib.hid (HT33.out.below hb34)
                    have HL34 := Lib.hid (HL33.out.below hb34)
                    have HX34 := Lib.hid (HX33.out.below hb34)
                    have HLi34 := Lib.hid (HLi33.out.below hb34)
                    have HZu34 := Lib.hid (HZu33.out.below hb34)
                    have HBl34 := Lib.hid (below_then HBl33.out hb34)
                    clear hb34
                    refine wpAnyH_take (i := 6) (v := ?_) rfl (by kernel_rfl) (by kernel_rfl) (by kernel_rfl) (fun _ _ _ h => h) (Or.inl ⟨by rfl, ?_⟩) (by assumption) ?_
                    rotate_left
                    · intro w hSw; (try dsimp only at hSw); go_simp; try (with_reducible rfl)
                    try go_simp
                    refine wpAnyH_take (i := 7) (v := ?_) rfl (by kernel_rfl) (by kernel_rfl) (by kernel_rfl) (fun _ _ _ h => h) (Or.inl ⟨by rfl, ?_⟩) (by assumption) ?_
                    rotate_left
                    · intro w hSw; (try dsimp only at hSw); go_simp; try (with_reducible rfl)
                    try go_simp
                    refine wpAnyH_take (i := 8) (v := ?_) rfl (by kernel_rfl) (by kernel_rfl) (by kernel_rfl) (fun _ _ _ h => h) (Or.inl ⟨by rfl, ?_⟩) (by assumption) ?_
                    rotate_left
                    · intro w hSw; (try dsimp only at hSw); go_simp; try (with_reducible rfl)
                    try go_simp
                    refine wpAnyH_take (i := 9) (v := ?_) rfl (by kernel_rfl) (by kernel_rfl) (by kernel_rfl) (fun _ _ _ h => h) (Or.inl ⟨by rfl, ?_⟩) (by assumption) ?_
                    rotate_left
                    · intro w hSw; (try dsimp only at hSw); go_simp; try (with_reducible rfl)
                    try go_simp
                    refine wpAnyH_take (i := 10) (v := ?_) rfl (by kernel_rfl) (by kernel_rfl) (by kernel_rfl) (fun _ _ _ h => h) (Or.inl ⟨by rfl, ?_⟩) (by assumption) ?_
                    rotate_left
                    · intro w hSw; (try dsimp only at hSw); go_simp; try (with_reducible rfl)
                    try go_simp
                    refine wpAnyH_take (i := 11) (v := ?_) rfl (by kernel_rfl) (by kernel_rfl) (by kernel_rfl) (fun _ _ _ h => h) (Or.inl ⟨by rfl, ?_⟩) (by assumption) ?_
                    rotate_left
                    · intro w hSw; (try dsimp only at hSw); go_simp; try (with_reducible rfl)
                    try go_simp
                    refine wpAnyH_take (i := 12) (v := ?_) rfl (by kernel_rfl) (by kernel_rfl) (by kernel_rfl) (fun _ _ _ h => h) (Or.inl ⟨by rfl, ?_⟩) (by assumption) ?_
                    rotate_left
                    · intro w hSw; (try dsimp only at hSw); go_simp; try (with_reducible rfl)
                    try go_simp
                    refine wpAnyH_done (by kernel_rfl) ?_ _
                    clear hHeld
                    clear HB31 HNb31 HIn31 HZ31 HT31 HL31 HX31 HLi31 HZu31
                    clear HB32 HNb32 HIn32 HZ32 HT32 HL32 HX32 HLi32 HZu32
                    clear HB33 HNb33 HIn33 HZ33 HT33 HL33 HX33 HLi33 HZu33
                    obtain ⟨d0, d1, d2⟩ := HX34.out.cells
                    have ql : decide (((movesOf T).length : Int) < (wl2 : Int)) = false := by simp; omega
                    have ql2 : decide ((movesOf T).length < wl2) = false := by simp; omega
                    clear hw0 hwl
                    go_wp2_with fail
                    go_roundg (gk - 1)
                    case measure => have := HJ.out; omega
                    case rel => exact ⟨j + 1, by have := HJ.out; omega, by go_num, HBl34.out⟩
                · have d8 : decide (j < T.states.length) = false := by simpa using hlt2
                  clear b0 b1 b2 b3 d0 d1 d2
                  have HCv := Lib.hid (fun w' h1 h2 h4 => cv_way (covers_any N A n c Am m cm M Am m cm M (most : Int) w' h1 HNl.out hn2 h2 HM.out hm1 hm2 h2 HM.out hm1 hm2 h4) HMk.out HGr.out HMk.out hlm0 hlm ⟨M, List.mem_of_getElem? (grow_good HMk.out HGr.out).1.one, covB_refl M⟩)
                  go_wp2_with fail
                  have hbd : Below w30.heap.size w30 w30.drew := (Below.refl _ _).drew
                  have HB31 := Lib.hid (below_then HB30.out hbd)
                  have HNb31 := Lib.hid (HNb30.out.below hbd)
                  have HIn31 := Lib.hid (HIn30.out.below hbd)
                  have HZ31 := Lib.hid (HZ30.out.below hbd)
                  have HT31 := Lib.hid (HT30.out.below hbd)
                  have HL31 := Lib.hid (HL30.out.below hbd)
                  have HX31 := Lib.hid (HX30.out.below hbd)
                  have HLi31 := Lib.hid (HLi30.out.below hbd)
                  obtain ⟨b0, b1, b2, b3⟩ := HNb31.out.cells
                  have hS0 := And.intro b0 (And.intro b1 (And.intro b2 (b3)))
                  refine wp_region_held_drew (S := fun w' => w'.cell? ⟨w.heap.size, 0, none⟩ = some (.int .i64 N.pl) ∧ w'.cell? ⟨w.heap.size, 1, none⟩ = some (.slice A n c) ∧ w'.cell? ⟨w.heap.size, 2, none⟩ = some (.int .i64 N.src) ∧ w'.cell? ⟨w.heap.size, 3, none⟩ = some (.int .i64 N.snk)) (by kernel_rfl) hS0 (fun hHeld => ?_)
                  clear hS0 hbd b0 b1 b2 b3
                  generalize w30.drew = w31 at *
                  refine wpAnyH_take (i := 0) (v := ?_) rfl (by kernel_rfl) (by kernel_rfl) (by kernel_rfl) (fun _ _ _ h => h) (Or.inl ⟨by rfl, ?_⟩) (by assumption) ?_
                  rotate_left
                  · intro w hSw; (try dsimp only at hSw); go_simp; try (with_reducible rfl)
                  try go_simp
                  refine wpAnyH_take (i := 1) (v := ?_) rfl (by kernel_rfl) (by kernel_rfl) (by kernel_rfl) (fun _ _ _ h => h) (Or.inl ⟨by rfl, ?_⟩) (by assumption) ?_
                  rotate_left
                  · intro w hSw; (try dsimp only at hSw); go_simp; try (with_reducible rfl)
                  try go_simp
                  refine wpAnyH_take (i := 2) (v := ?_) rfl (by kernel_rfl) (by kernel_rfl) (by kernel_rfl) (fun _ _ _ h => h) (Or.inl ⟨by rfl, ?_⟩) (by assumption) ?_
                  rotate_left
                  · intro w hSw; (try dsimp only at hSw); go_simp; try (with_reducible rfl)
                  try go_simp
                  refine wpAnyH_take (i := 3) (v := ?_) rfl (by kernel_rfl) (by kernel_rfl) (by kernel_rfl) (fun _ _ _ h => h) (Or.inl ⟨by rfl, ?_⟩) (by assumption) ?_
                  rotate_left
                  · intro w hSw; (try dsimp only at hSw); go_simp; try (with_reducible rfl)
                  try go_simp
                  refine wpAnyH_ready (rs := [4]) (by kernel_rfl) (by simp) ?_
                  refine AllReadyH.cons rfl (fun K hK => ?_) AllReadyH.nil
                  go_simp
                  ((refine (limited_any mo most w31 hmo HMost.out).mono ?_); rintro e w32 ⟨rfl, hb32⟩)
                  have hS9 := hHeld
                  refine hK.out _ _ ⟨cell_stays hb32 hS9.1, cell_stays hb32 hS9.2.1, cell_stays hb32 hS9.2.2.1, cell_stays hb32 hS9.2.2.2⟩ (fun hHeld => ?_)
                  clear hK K hS9
                  try go_simp
                  have HB32 := Lib.hid (below_then HB31.out hb32)
                  have HNb32 := Lib.hid (HNb31.out.below hb32)
                  have HIn32 := Lib.hid (HIn31.out.below hb32)
                  have HZ32 := Lib.hid (HZ31.out.below hb32)
                  have HT32 := Lib.hid (HT31.out.below hb32)
                  have HL32 := Lib.hid (HL31.out.below hb32)
                  have HX32 := Lib.hid (HX31.out.below hb32)
                  have HLi32 := Lib.hid (HLi31.out.below hb32)
                  clear hb32
                  refine wpAnyH_ready (rs := [5]) (by kernel_rfl) (by simp) ?_
                  refine AllReadyH.cons rfl (fun K hK => ?_) AllReadyH.nil
                  go_simp
                  ((refine (HCv.out w32 HIn32.out HZ32.out HT32.out).mono ?_); rintro e w33 ⟨Aw30, wl3, cw30, rfl, hwl, hw0, hb33⟩)
                  have hS9 := hHeld
                  refine hK.out _ _ ⟨cell_stays hb33 hS9.1, cell_stays hb33 hS9.2.1, cell_stays hb33 hS9.2.2.1, cell_stays hb33 hS9.2.2.2⟩ (fun hHeld => ?_)
                  clear hK K hS9
                  try go_simp
                  have HB33 := Lib.hid (below_then HB32.out hb33)
                  have HNb33 := Lib.hid (HNb32.out.below hb33)
                  have HIn33 := Lib.hid (HIn32.out.below hb33)
                  have HZ33 := Lib.hid (HZ32.out.below hb33)
                  have HT33 := Lib.hid (HT32.out.below hb33)
                  have HL33 := Lib.hid (HL32.out.below hb33)
                  have HX33 := Lib.hid (HX32.out.below hb33)
                  have HLi33 := Lib.hid (HLi32.out.below hb33)
                  clear hb33
                  refine wpAnyH_take (i := 6) (v := ?_) rfl (by kernel_rfl) (by kernel_rfl) (by kernel_rfl) (fun _ _ _ h => h) (Or.inl ⟨by rfl, ?_⟩) (by assumption) ?_
                  rotate_left
                  · intro w hSw; (try dsimp only at hSw); go_simp; try (with_reducible rfl)
                  try go_simp
                  refine wpAnyH_take (i := 7) (v := ?_) rfl (by kernel_rfl) (by kernel_rfl) (by kernel_rfl) (fun _ _ _ h => h) (Or.inl ⟨by rfl, ?_⟩) (by assumption) ?_
                  rotate_left
                  · intro w hSw; (try dsimp only at hSw); go_simp; try (with_reducible rfl)
                  try go_simp
                  refine wpAnyH_take (i := 8) (v := ?_) rfl (by kernel_rfl) (by kernel_rfl) (by kernel_rfl) (fun _ _ _ h => h) (Or.inl ⟨by rfl, ?_⟩) (by assumption) ?_
                  rotate_left
                  · intro w hSw; (try dsimp only at hSw); go_simp; try (with_reducible rfl)
                  try go_simp
                  refine wpAnyH_take (i := 9) (v := ?_) rfl (by kernel_rfl) (by kernel_rfl) (by kernel_rfl) (fun _ _ _ h => h) (Or.inl ⟨by rfl, ?_⟩) (by assumption) ?_
                  rotate_left
                  · intro w hSw; (try dsimp only at hSw); go_simp; try (with_reducible rfl)
                  try go_simp
                  refine wpAnyH_take (i := 10) (v := ?_) rfl (by kernel_rfl) (by kernel_rfl) (by kernel_rfl) (fun _ _ _ h => h) (Or.inl ⟨by rfl, ?_⟩) (by assumption) ?_
                  rotate_left
                  · intro w hSw; (try dsimp only at hSw); go_simp; try (with_reducible rfl)
                  try go_simp
                  refine wpAnyH_take (i := 11) (v := ?_) rfl (by kernel_rfl) (by kernel_rfl) (by kernel_rfl) (fun _ _ _ h => h) (Or.inl ⟨by rfl, ?_⟩) (by assumption) ?_
                  rotate_left
                  · intro w hSw; (try dsimp only at hSw); go_simp; try (with_reducible rfl)
                  try go_simp
                  refine wpAnyH_take (i := 12) (v := ?_) rfl (by kernel_rfl) (by kernel_rfl) (by kernel_rfl) (fun _ _ _ h => h) (Or.inl ⟨by rfl, ?_⟩) (by assumption) ?_
                  rotate_left
                  · intro w hSw; (try dsimp only at hSw); go_simp; try (with_reducible rfl)
                  try go_simp
                  refine wpAnyH_done (by kernel_rfl) ?_ _
                  clear hHeld
                  clear HB30 HNb30 HIn30 HZ30 HT30 HL30 HX30 HLi30
                  clear HB31 HNb31 HIn31 HZ31 HT31 HL31 HX31 HLi31
                  clear HB32 HNb32 HIn32 HZ32 HT32 HL32 HX32 HLi32
                  have hw00 := hw0 rfl
                  subst hw00
                  clear hw0 hwl
                  go_wp2_with fail
                  go_ret
                  exact ⟨rfl, HB33.out⟩
        · go_simp
          have hS9 := hHeld
          have hal := below_alloc w5 (.cells #[.slice none 0 0, .slice none 0 0, .bool false] 31)
          have HCz := Lib.hid (SpB.new w5 (.slice none 0 0) (.slice none 0 0) false)
          have hcb : w2.heap.size ≤ w5.heap.size := HB25.out.size
          have hcw : w.heap.size ≠ w5.heap.size := by have := HNb2.out.lt; omega
          have HBn := Lib.hid (below_then HB25.out hal)
          refine hK.out _ _ ⟨cell_stays hal hS9.1, cell_stays hal hS9.2.1, cell_stays hal hS9.2.2.1, cell_stays hal hS9.2.2.2⟩ (fun hHeld => ?_)
          clear hK K hS9 hal HB25
          try go_simp
          generalize hcbe : w5.heap.size = cb at *
          generalize w5.alloc _ = wn at *
          clear hcbe
          obtain ⟨w5, rfl⟩ : ∃ w5, w5 = wn := ⟨_, rfl⟩
          have HB25 := Lib.hid HBn.out
          clear HBn
          refine wpAnyH_ready (rs := [4]) (by kernel_rfl) (by simp) ?_
          refine AllReadyH.cons rfl (fun K hK => ?_) AllReadyH.nil
          go_simp
          ((refine (gp_yes (HGp.out w5 HB25.out) hbe).mono ?_); rintro e w6 ⟨Aa, ca, Ad, cd, rfl, hO, hM6⟩; have hb6 := hO.bel)
          have hS9 := hHeld
          refine hK.out _ _ ⟨cell_stays hb6 hS9.1, cell_stays hb6 hS9.2.1, cell_stays hb6 hS9.2.2.1, cell_stays hb6 hS9.2.2.2⟩ (fun hHeld => ?_)
          clear hK K hS9
          try go_simp
          have HO6 := Lib.hid (hO.up HB25.out)
          have HM6 := Lib.hid (hM6.up HB25.out)
          have HB26 := Lib.hid (below_then HB25.out hb6)
          replace HCz := Lib.hid (HCz.out.below hb6)
          clear hb6 HB25 hO hM6
          refine wpAnyH_take (i := 5) (v := ?_) rfl (by kernel_rfl) (by kernel_rfl) (by kernel_rfl) (fun _ _ _ h => h) (Or.inl ⟨by rfl, ?_⟩) (by assumption) ?_
          rotate_left
          · intro w hSw; (try dsimp only at hSw); go_simp; try (with_reducible rfl)
          try go_simp
          refine wpAnyH_take (i := 6) (v := ?_) rfl (by kernel_rfl) (by kernel_rfl) (by kernel_rfl) (fun _ _ _ h => h) (Or.inl ⟨by rfl, ?_⟩) (by assumption) ?_
          rotate_left
          · intro w hSw; (try dsimp only at hSw); go_simp; try (with_reducible rfl)
          try go_simp
          refine wpAnyH_take (i := 7) (v := ?_) rfl (by kernel_rfl) (by kernel_rfl) (by kernel_rfl) (fun _ _ _ h => h) (Or.inl ⟨by rfl, ?_⟩) (by assumption) ?_
          rotate_left
          · intro w hSw; (try dsimp only at hSw); go_simp; try (with_reducible rfl)
          try go_simp
          obtain ⟨r0, r1, r2⟩ := HCz.out.cells
          have rf0 := HCz.out.soft 0
          have rf1 := HCz.out.soft 1
          have rf2 := HCz.out.soft 2
          have HRe := Lib.hid (((HCz.out.set0 (.slice Aa T.states.length ca)).set1 (.slice Ad (movesOf T).length cd)).set2 true)
          have HGe := Lib.hid (spb_grown w6 cb (.slice Aa T.states.length ca) (.slice Ad (movesOf T).length cd) true)
          have HOM := Lib.hid (sp_store HO6.out HM6.out HCz.out hcb true)
          have hS0 := hHeld
          refine wpAnyH_ready (rs := [9]) (by kernel_rfl) (by simp) ?_
          refine AllReadyH.cons rfl (fun K hK => ?_) AllReadyH.nil
          go_simp
          skip
          refine hK.out _ _ (⟨HGe.out.cell hS0.1 (fun e => hcw (Option.some.inj e)), HGe.out.cell hS0.2.1 (fun e => hcw (Option.some.inj e)), HGe.out.cell hS0.2.2.1 (fun e => hcw (Option.some.inj e)), HGe.out.cell hS0.2.2.2 (fun e => hcw (Option.some.inj e))⟩) (fun hHeld => ?_)
          clear hK K
          try go_simp
          refine wpAnyH_take (i := 10) (v := ?_) rfl (by kernel_rfl) (by kernel_rfl) (by kernel_rfl) (fun _ _ _ h => h) (Or.inl ⟨by rfl, ?_⟩) (by assumption) ?_
          rotate_left
          · intro w hSw; (try dsimp only at hSw); go_simp; try (with_reducible rfl)
          try go_simp
          refine wpAnyH_done (by kernel_rfl) ?_ _
          clear hHeld hS0 r0 r1 r2 rf0 rf1 rf2
          generalize (((w6.setCell ⟨cb, 0, none⟩ _).setCell ⟨cb, 1, none⟩ _).setCell ⟨cb, 2, none⟩ _) = we at *
          have HBe := Lib.hid (HB26.out.grown HGe.out HB26.out.size (fun k hk => by cases hk; exact hcb))
          have HLi := Lib.hid (show LIn we Aa T.states by obtain ⟨A', c', e, h1, _⟩ := HOM.out.1.lin; cases e; exact h1)
          clear HOM HO6 HM6
          have HB6 := Lib.hid (below_then HB2.out HBe.out)
          have HNb6 := Lib.hid (HNb2.out.below HBe.out)
          have HIn6 := Lib.hid (HIn2.out.below HBe.out)
          have HZ6 := Lib.hid (HZ2.out.below HBe.out)
          have HT6 := Lib.hid (HT2.out.below HBe.out)
          have HL6 := Lib.hid (HL2.out.below HBe.out)
          clear HBe HGe HCz HB26 HNb2 HIn2 HZ2 HT2 HL2 HB2
          obtain ⟨w6', hw6⟩ : ∃ w6', w6' = we := ⟨_, rfl⟩
          have HX6 := Lib.hid HRe.out
          have HLi6 := Lib.hid HLi.out
          clear HRe HLi hw6 w6'
          obtain ⟨w7, rfl⟩ : ∃ w7, w7 = we := ⟨_, rfl⟩
          have HMk := Lib.hid hmk
          have HGr := Lib.hid hgr
          have hgood := grow_good hmk hgr
          have hsl := fun s hs => hgood.1.slen hgood.2.2.1 hgood.2.2.2 s hs
          have hmlen := mk_len hmk
          have hps := nt_small (mk_nt hmk)
          have HSl := Lib.hid (show ∀ s ∈ T.states, (s.length : Int) = N.pl from fun s hs => by rw [hsl s hs]; exact hmlen)
          have HTl := Lib.hid (show T.states.length ≤ 60 from Nat.le_trans (growT_le hgr) hlm)
          have hmm : m ≤ 40 := by have := HM.out; omega
          have hpl9 : N.pl ≤ 40 := hps.2.1
          clear hgood hsl hmlen hps hmk hgr hbe
          have HCl := Lib.hid (clone_any Am m cm M w7 HZ6.out HM.out (by omega))
          obtain ⟨d0, d1, d2⟩ := HX6.out.cells
          go_wp2_with fail
          ((with_reducible refine HCl.out.mono ?_); rintro e w11 ⟨v11, rfl, hS11⟩)
          obtain ⟨A11, c11, rfl⟩ := hS11.slice
          have hal11 := below_alloc w11 (.cells #[.slice A11 M.length c11] 25)
          have HS12 := Lib.hid (hS11.below hal11)
          have HAb := Lib.hid (heap_alloc_new w11 (.cells #[.slice A11 M.length c11] 25))
          have hab : w7.heap.size ≤ w11.heap.size := hS11.2.size
          clear hS11 HCl hal11 d0 d1 d2
          go_wp2_with fail
          generalize w11.alloc _ = w12 at *
          generalize w11.heap.size = ab at *
          go_loopg [53] (nl) (fun g iv wr => ReI N M nl w7 ab g iv wr)
          case atStart => exact ⟨0, M, A11, c11, by omega, rfl, HAb.out, HS12.out, .base, HMk.out⟩
          case round =>
            clear HS12 HAb
            obtain ⟨k, X, Ax, cx, hkg, rfl, hA, hS, hre, hmx⟩ := hrel
            have HK := Lib.hid hkg
            have HAb := Lib.hid hA
            have HS := Lib.hid hS
            have HRx := Lib.hid hre
            have HMx := Lib.hid hmx
            have hkl : k ≤ nl := by omega
            have hxl : X.length ≤ 40 := by have := mk_len hmx; omega
            have HBr := Lib.hid hS.2
            have HZx := Lib.hid (ns_bd hS)
            have t0 : wr.cell? ⟨ab, 0, none⟩ = some (.slice Ax X.length cx) := by simp [World.cell?, hA]
            have tf : wr.frozen? ⟨ab, 0, none⟩ = false := by simp [World.frozen?, hA]
            obtain ⟨b0, b1, b2, b3⟩ := (HNb6.out.below HBr.out).cells
            have HLr := Lib.hid (HL6.out.below HBr.out)
            clear hkg hA hS hre hmx
            by_cases hlt : k < nl
            · have hlt' : k < l.length := by rw [HLl.out]; exact hlt
              obtain ⟨al, rfl, hpa, q0⟩ := HLr.out k hlt'
              generalize l[k] = t at *
              have hfi := pFire_any N A n c Ax X.length cx X t wr (HIn6.out.below HBr.out) HNl.out hn2 HZx.out.1 rfl (by omega)
              rw [show fire21 N X t = fireV N X t by unfold fire21; rw [HMx.out]; rfl] at hfi
              have HFi := Lib.hid hfi
              clear hfi hlt'
              by_cases h0 : (fireV N X t).2 = 0
              · have HFy := Lib.hid (fv_yes HFi.out h0)
                have HRy := Lib.hid (reach_fire HRx.out h0)
                have HMy := Lib.hid (fire_mk HMx.out h0)
                clear HFi h0
                generalize (fireV N X t).1 = Y at *
                go_wp2_with fail
                ((with_reducible refine HFy.out.mono ?_); rintro e w13 ⟨v13, rfl, hS13⟩)
                obtain ⟨A13, c13, rfl⟩ := hS13.slice
                have HAb13 := Lib.hid (show w13.heap[ab]? = some (.cells #[.slice Ax X.length cx] 25 (0, 0)) by rw [hS13.2.block ab (Array.getElem?_eq_some_iff.1 HAb.out).1]; exact HAb.out)
                have HS13 := Lib.hid (NS.up HBr.out hS13)
                have hset : w13.grownBy (w13.setCell ⟨ab, 0, none⟩ (.slice A13 Y.length c13)) (some ab) := Lib.grownBy_setB (grown_refl w13 (some ab)) 0 _
                have HS14 := Lib.hid (HS13.out.kept hset (own_other HS13.out.1 HAb13.out (by decide)) (fun k hk => by cases hk; exact hab))
                have HAb14 := Lib.hid (show (w13.setCell ⟨ab, 0, none⟩ (.slice A13 Y.length c13)).heap[ab]? = some (.cells #[.slice A13 Y.length c13] 25 (0, 0)) by rw [heap_set2 HAb13.out]; rfl)
                have t0' : w13.cell? ⟨ab, 0, none⟩ = some (.slice Ax X.length cx) := by have := HAb13.out; simp [World.cell?, this]
                have tf' : w13.frozen? ⟨ab, 0, none⟩ = false := by have := HAb13.out; simp [World.frozen?, this]
                clear hS13 hset HFy t0 tf q0 b0 b1 b2 b3
                go_wp2_with fail
                go_roundg (gk - 1)
                case measure => have := HK.out; omega
                case rel => exact ⟨k + 1, Y, A13, c13, by have := HK.out; omega, by go_num, HAb14.out, HS14.out, HRy.out, HMy.out⟩
              · have HFn := Lib.hid (fv_no HFi.out h0)
                have q7 : ((fireV N X t).2 != 0) = true := by rw [bne_iff_ne]; exact h0
                clear HFi h0
                generalize (fireV N X t).2 = er at *
                go_wp2_with fail
                ((with_reducible refine HFn.out.mono ?_); rintro e w13 ⟨rfl, hb13⟩)
                have HS13 := Lib.hid (HS.out.below hb13)
                have HAb13 := Lib.hid (show w13.heap[ab]? = some (.cells #[.slice Ax X.length cx] 25 (0, 0)) by rw [hb13.block ab (Array.getElem?_eq_some_iff.1 HAb.out).1]; exact HAb.out)
                clear hb13 t0 tf q0 b0 b1 b2 b3 HZx HLr HBr HS HAb HFn
                have HB13 := Lib.hid HS13.out.2
                have HB20 := Lib.hid (below_then HB6.out HB13.out)
                have HNb20 := Lib.hid (HNb6.out.below HB13.out)
                have HIn20 := Lib.hid (HIn6.out.below HB13.out)
                have HZ20 := Lib.hid (HZ6.out.below HB13.out)
                have HT20 := Lib.hid (HT6.out.below HB13.out)
                have HL20 := Lib.hid (HL6.out.below HB13.out)
                have HX20 := Lib.hid (HX6.out.below HB13.out)
                have HLi20 := Lib.hid (HLi6.out.below HB13.out)
                obtain ⟨w20, rfl⟩ : ∃ w20, w20 = w13 := ⟨_, rfl⟩
                clear HB6 HNb6 HIn6 HZ6 HT6 HL6 HX6 HLi6
                have HZx20 := Lib.hid (ns_bd HS13.out).1
                have hcx : X.length ≤ cx ∧ cx ≤ 9223372036854775807 := (ns_bd HS13.out).2
                have HAb20 := Lib.hid HAb13.out
                have hp := mk_len HMx.out
                have qp : ((X.length : Int) != N.pl) = false := by rw [hp]; simp
                clear HS13 HAb13 HB13 hp
                obtain ⟨b0, b1, b2, b3⟩ := HNb20.out.cells
                obtain ⟨d0, d1, d2⟩ := HX20.out.cells
                have t0 : w20.cell? ⟨ab, 0, none⟩ = some (.slice Ax X.length cx) := by have := HAb20.out; simp [World.cell?, this]
                have HLc := Lib.hid (lcont_rr Aa T.states.length ca T.states w20 HLi20.out rfl (by have := HTl.out; omega) ab Ax X.length cx X ⟨HAb20.out, HZx20.out, rfl⟩)
                rw [reach_any HMk.out HGr.out HRx.out HMx.out] at HLc
                go_wp2_with fail
                ((with_reducible refine HLc.out.mono ?_); rintro e w21 ⟨rfl, hb21⟩)
                have HB21 := Lib.hid (below_then HB20.out hb21)
                have HNb21 := Lib.hid (HNb20.out.below hb21)
                have HIn21 := Lib.hid (HIn20.out.below hb21)
                have HZ21 := Lib.hid (HZ20.out.below hb21)
                have HT21 := Lib.hid (HT20.out.below hb21)
                have HL21 := Lib.hid (HL20.out.below hb21)
                have HX21 := Lib.hid (HX20.out.below hb21)
                have HLi21 := Lib.hid (HLi20.out.below hb21)
                have HZx21 := Lib.hid (HZx20.out.below hb21)
                have HAb21 := Lib.hid (show w21.heap[ab]? = some (.cells #[.slice Ax X.length cx] 25 (0, 0)) by rw [hb21.block ab (Array.getElem?_eq_some_iff.1 HAb20.out).1]; exact HAb20.out)
                clear hb21 HLc HAb20 b0 b1 b2 b3 d0 d1 d2 t0
                clear HB20 HNb20 HIn20 HZ20 HT20 HL20 HX20 HLi20 HZx20
                have hw21 : (w21.drew).cell? ⟨ab, 0, none⟩ = some (.slice Ax X.length cx) := cell_stays ((Below.refl w21.heap.size w21).drew) (by have := HAb21.out; simp [World.cell?, this])
                have HCe := Lib.hid (show ∃ s ∈ T.states, covB X s = true by obtain ⟨s, h1, _, h2⟩ := reach_cov HMk.out HGr.out HRx.out HMx.out; exact ⟨s, h1, h2⟩)
                have HCv := Lib.hid (fun w' h1 h2 h3 h4 => cv_way (covers_any N A n c Am m cm M Ax X.length cx X (most : Int) w' h1 HNl.out hn2 h2 HM.out hm1 hm2 h3 rfl hcx.1 hcx.2 h4) HMk.out HGr.out HMx.out hlm0 hlm HCe.out)
                go_wp2_with fail
                have hbd : Below w21.heap.size w21 w21.drew := (Below.refl _ _).drew
                have HB22 := Lib.hid (below_then HB21.out hbd)
                have HNb22 := Lib.hid (HNb21.out.below hbd)
                have HIn22 := Lib.hid (HIn21.out.below hbd)
                have HZ22 := Lib.hid (HZ21.out.below hbd)
                have HT22 := Lib.hid (HT21.out.below hbd)
                have HL22 := Lib.hid (HL21.out.below hbd)
                have HX22 := Lib.hid (HX21.out.below hbd)
                have HLi22 := Lib.hid (HLi21.out.below hbd)
                have HZx22 := Lib.hid (HZx21.out.below hbd)
                obtain ⟨b0, b1, b2, b3⟩ := HNb22.out.cells
                have hS0 := And.intro b0 (And.intro b1 (And.intro b2 (And.intro b3 (hw21))))
                refine wp_region_held_drew (S := fun w' => w'.cell? ⟨w.heap.size, 0, none⟩ = some (.int .i64 N.pl) ∧ w'.cell? ⟨w.heap.size, 1, none⟩ = some (.slice A n c) ∧ w'.cell? ⟨w.heap.size, 2, none⟩ = some (.int .i64 N.src) ∧ w'.cell? ⟨w.heap.size, 3, none⟩ = some (.int .i64 N.snk) ∧ w'.cell? ⟨ab, 0, none⟩ = some (.slice Ax X.length cx)) (by kernel_rfl) hS0 (fun hHeld => ?_)
                clear hS0 hbd b0 b1 b2 b3
                generalize w21.drew = w22 at *
                refine wpAnyH_take (i := 0) (v := ?_) rfl (by kernel_rfl) (by kernel_rfl) (by kernel_rfl) (fun _ _ _ h => h) (Or.inl ⟨by rfl, ?_⟩) (by assumption) ?_
                rotate_left
                · intro w hSw; (try dsimp only at hSw); go_simp; try (with_reducible rfl)
                try go_simp
                refine wpAnyH_take (i := 1) (v := ?_) rfl (by kernel_rfl) (by kernel_rfl) (by kernel_rfl) (fun _ _ _ h => h) (Or.inl ⟨by rfl, ?_⟩) (by assumption) ?_
                rotate_left
                · intro w hSw; (try dsimp only at hSw); go_simp; try (with_reducible rfl)
                try go_simp
                refine wpAnyH_take (i := 2) (v := ?_) rfl (by kernel_rfl) (by kernel_rfl) (by kernel_rfl) (fun _ _ _ h => h) (Or.inl ⟨by rfl, ?_⟩) (by assumption) ?_
                rotate_left
                · intro w hSw; (try dsimp only at hSw); go_simp; try (with_reducible rfl)
                try go_simp
                refine wpAnyH_take (i := 3) (v := ?_) rfl (by kernel_rfl) (by kernel_rfl) (by kernel_rfl) (fun _ _ _ h => h) (Or.inl ⟨by rfl, ?_⟩) (by assumption) ?_
                rotate_left
                · intro w hSw; (try dsimp only at hSw); go_simp; try (with_reducible rfl)
                try go_simp
                refine wpAnyH_ready (rs := [4]) (by kernel_rfl) (by simp) ?_
                refine AllReadyH.cons rfl (fun K hK => ?_) AllReadyH.nil
                go_simp
                ((refine (limited_any mo most w22 hmo HMost.out).mono ?_); rintro e w23 ⟨rfl, hb23⟩)
                have hS9 := hHeld
                refine hK.out _ _ ⟨cell_stays hb23 hS9.1, cell_stays hb23 hS9.2.1, cell_stays hb23 hS9.2.2.1, cell_stays hb23 hS9.2.2.2.1, cell_stays hb23 hS9.2.2.2.2⟩ (fun hHeld => ?_)
                clear hK K hS9
                try go_simp
                have HB23 := Lib.hid (below_then HB22.out hb23)
                have HNb23 := Lib.hid (HNb22.out.below hb23)
                have HIn23 := Lib.hid (HIn22.out.below hb23)
                have HZ23 := Lib.hid (HZ22.out.below hb23)
                have HT23 := Lib.hid (HT22.out.below hb23)
                have HL23 := Lib.hid (HL22.out.below hb23)
                have HX23 := Lib.hid (HX22.out.below hb23)
                have HLi23 := Lib.hid (HLi22.out.below hb23)
                have HZx23 := Lib.hid (HZx22.out.below hb23)
                clear hb23
                refine wpAnyH_ready (rs := [5]) (by kernel_rfl) (by simp) ?_
                refine AllReadyH.cons rfl (fun K hK => ?_) AllReadyH.nil
                go_simp
                ((refine (HCv.out w23 HIn23.out HZ23.out HZx23.out HT23.out).mono ?_); rintro e w24 ⟨Aw21, wl1, cw21, rfl, hwl, hw0, hb24⟩)
                have hS9 := hHeld
                refine hK.out _ _ ⟨cell_stays hb24 hS9.1, cell_stays hb24 hS9.2.1, cell_stays hb24 hS9.2.2.1, cell_stays hb24 hS9.2.2.2.1, cell_stays hb24 hS9.2.2.2.2⟩ (fun hHeld => ?_)
                clear hK K hS9
                try go_simp
                have HB24 := Lib.hid (below_then HB23.out hb24)
                have HNb24 := Lib.hid (HNb23.out.below hb24)
                have HIn24 := Lib.hid (HIn23.out.below hb24)
                have HZ24 := Lib.hid (HZ23.out.below hb24)
                have HT24 := Lib.hid (HT23.out.below hb24)
                have HL24 := Lib.hid (HL23.out.below hb24)
                have HX24 := Lib.hid (HX23.out.below hb24)
                have HLi24 := Lib.hid (HLi23.out.below hb24)
                have HZx24 := Lib.hid (HZx23.out.below hb24)
                clear hb24
                refine wpAnyH_take (i := 6) (v := ?_) rfl (by kernel_rfl) (by kernel_rfl) (by kernel_rfl) (fun _ _ _ h => h) (Or.inl ⟨by rfl, ?_⟩) (by assumption) ?_
                rotate_left
                · intro w hSw; (try dsimp only at hSw); go_simp; try (with_reducible rfl)
                try go_simp
                refine wpAnyH_take (i := 7) (v := ?_) rfl (by kernel_rfl) (by kernel_rfl) (by kernel_rfl) (fun _ _ _ h => h) (Or.inl ⟨by rfl, ?_⟩) (by assumption) ?_
                rotate_left
                · intro w hSw; (try dsimp only at hSw); go_simp; try (with_reducible rfl)
                try go_simp
                refine wpAnyH_take (i := 8) (v := ?_) rfl (by kernel_rfl) (by kernel_rfl) (by kernel_rfl) (fun _ _ _ h => h) (Or.inl ⟨by rfl, ?_⟩) (by assumption) ?_
                rotate_left
                · intro w hSw; (try dsimp only at hSw); go_simp; try (with_reducible rfl)
                try go_simp
                refine wpAnyH_take (i := 9) (v := ?_) rfl (by kernel_rfl) (by kernel_rfl) (by kernel_rfl) (fun _ _ _ h => h) (Or.inl ⟨by rfl, ?_⟩) (by assumption) ?_
                rotate_left
                · intro w hSw; (try dsimp only at hSw); go_simp; try (with_reducible rfl)
                try go_simp
                refine wpAnyH_take (i := 10) (v := ?_) rfl (by kernel_rfl) (by kernel_rfl) (by kernel_rfl) (fun _ _ _ h => h) (Or.inl ⟨by rfl, ?_⟩) (by assumption) ?_
                rotate_left
                · intro w hSw; (try dsimp only at hSw); go_simp; try (with_reducible rfl)
                try go_simp
                refine wpAnyH_take (i := 11) (v := ?_) rfl (by kernel_rfl) (by kernel_rfl) (by kernel_rfl) (fun _ _ _ h => h) (Or.inl ⟨by rfl, ?_⟩) (by assumption) ?_
                rotate_left
                · intro w hSw; (try dsimp only at hSw); go_simp; try (with_reducible rfl)
                try go_simp
                refine wpAnyH_take (i := 12) (v := ?_) rfl (by kernel_rfl) (by kernel_rfl) (by kernel_rfl) (fun _ _ _ h => h) (Or.inl ⟨by rfl, ?_⟩) (by assumption) ?_
                rotate_left
                · intro w hSw; (try dsimp only at hSw); go_simp; try (with_reducible rfl)
                try go_simp
                refine wpAnyH_done (by kernel_rfl) ?_ _
                clear hHeld
                clear HB21 HNb21 HIn21 HZ21 HT21 HL21 HX21 HLi21 HZx21
                clear HB22 HNb22 HIn22 HZ22 HT22 HL22 HX22 HLi22 HZx22
                clear HB23 HNb23 HIn23 HZ23 HT23 HL23 HX23 HLi23 HZx23
                clear HCv HCe HAb21 hw21 hwl hw0
                obtain ⟨d0, d1, d2⟩ := HX24.out.cells
                go_wp2_with fail
                clear d0 d1 d2
                have HBl24 := Lib.hid (Below.refl w24.heap.size w24)
                obtain ⟨go1, rfl⟩ : ∃ go1, go1 = gk := ⟨_, rfl⟩
                have htl := HTl.out
                go_loopg [99] (T.states.length) (fun g iv wr => ∃ k : Nat, k + g = T.states.length ∧ iv = .int .i64 (k : Int) ∧ Below w24.heap.size w24 wr)
                case atStart => exact ⟨0, by omega, rfl, HBl24.out⟩
                case round =>
                  obtain ⟨j, hj, rfl, hB⟩ := hrel
                  have HJ := Lib.hid hj
                  have HBl := Lib.hid hB
                  have hjl : j ≤ T.states.length := by omega
                  clear hj hB
                  obtain ⟨w30, rfl⟩ : ∃ w30, w30 = wr := ⟨_, rfl⟩
                  have HB30 := Lib.hid (below_then HB24.out HBl.out)
                  have HNb30 := Lib.hid (HNb24.out.below HBl.out)
                  have HIn30 := Lib.hid (HIn24.out.below HBl.out)
                  have HZ30 := Lib.hid (HZ24.out.below HBl.out)
                  have HT30 := Lib.hid (HT24.out.below HBl.out)
                  have HL30 := Lib.hid (HL24.out.below HBl.out)
                  have HX30 := Lib.hid (HX24.out.below HBl.out)
                  have HLi30 := Lib.hid (HLi24.out.below HBl.out)
                  clear HB24 HNb24 HIn24 HZ24 HT24 HL24 HX24 HLi24 HZx24
                  obtain ⟨b0, b1, b2, b3⟩ := HNb30.out.cells
                  obtain ⟨d0, d1, d2⟩ := HX30.out.cells
                  by_cases hlt2 : j < T.states.length
                  · obtain ⟨as_, rfl, hps2, u, e0, Au, nu, cu, rfl, zu, hul, huc, hud⟩ := HLi30.out j hlt2
                    have hsm := List.getElem_mem hlt2
                    have HSm := Lib.hid hsm
                    have hln := HSl.out _ hsm
                    generalize T.states[j] = Z at *
                    have qn : ((nu : Int) != N.pl) = false := by rw [← hln, hul]; simp
                    have HZu30 := Lib.hid zu
                    have HUl := Lib.hid hul
                    have HCo := Lib.hid (contains_om Au nu cu Z w30 zu hul (by omega))
                    clear hsm hln zu hul
                    cases ho : hasO Z with
                    | true =>
                      rw [ho] at HCo
                      clear ho
                      go_wp2_with fail
                      ((with_reducible refine HCo.out.mono ?_); rintro e w31 ⟨rfl, hb31⟩)
                      have HBe := Lib.hid (below_then HBl.out hb31)
                      clear hb31
                      go_wp2_with fail
                      go_roundg (gk - 1)
                      case measure => have := HJ.out; omega
                      case rel => exact ⟨j + 1, by have := HJ.out; omega, by go_num, HBe.out⟩
                    | false =>
                      rw [ho] at HCo
                      have HMz := Lib.hid (state_mk HMk.out HGr.out HSm.out ho)
                      clear ho
                      go_wp2_with fail
                      ((with_reducible refine HCo.out.mono ?_); rintro e w31 ⟨rfl, hb31⟩)
                      have HBl31 := Lib.hid (below_then HBl.out hb31)
                      have HB31 := Lib.hid (below_then HB30.out hb31)
                      have HNb31 := Lib.hid (HNb30.out.below hb31)
                      have HIn31 := Lib.hid (HIn30.out.below hb31)
                      have HZ31 := Lib.hid (HZ30.out.below hb31)
                      have HT31 := Lib.hid (HT30.out.below hb31)
                      have HL31 := Lib.hid (HL30.out.below hb31)
                      have HX31 := Lib.hid (HX30.out.below hb31)
                      have HLi31 := Lib.hid (HLi30.out.below hb31)
                      have HZu31 := Lib.hid (HZu30.out.below hb31)
                      clear HB30 HNb30 HIn30 HZ30 HT30 HL30 HX30 HLi30 HZu30
                      clear hb31 HCo HBl b0 b1 b2 b3 d0 d1 d2 e0
                      have HCv := Lib.hid (fun w' h1 h2 h3 h4 => cv_way (covers_any N A n c Am m cm M Au nu cu Z (most : Int) w' h1 HNl.out hn2 h2 HM.out hm1 hm2 h3 HUl.out huc hud h4) HMk.out HGr.out HMz.out hlm0 hlm ⟨Z, HSm.out, covB_refl Z⟩)
                      go_wp2_with fail
                      have hbd : Below w31.heap.size w31 w31.drew := (Below.refl _ _).drew
                      have HB32 := Lib.hid (below_then HB31.out hbd)
                      have HNb32 := Lib.hid (HNb31.out.below hbd)
                      have HIn32 := Lib.hid (HIn31.out.below hbd)
                      have HZ32 := Lib.hid (HZ31.out.below hbd)
                      have HT32 := Lib.hid (HT31.out.below hbd)
                      have HL32 := Lib.hid (HL31.out.below hbd)
                      have HX32 := Lib.hid (HX31.out.below hbd)
                      have HLi32 := Lib.hid (HLi31.out.below hbd)
                      have HZu32 := Lib.hid (HZu31.out.below hbd)
                      obtain ⟨b0, b1, b2, b3⟩ := HNb32.out.cells
                      have hS0 := And.intro b0 (And.intro b1 (And.intro b2 (b3)))
                      refine wp_region_held_drew (S := fun w' => w'.cell? ⟨w.heap.size, 0, none⟩ = some (.int .i64 N.pl) ∧ w'.cell? ⟨w.heap.size, 1, none⟩ = some (.slice A n c) ∧ w'.cell? ⟨w.heap.size, 2, none⟩ = some (.int .i64 N.src) ∧ w'.cell? ⟨w.heap.size, 3, none⟩ = some (.int .i64 N.snk)) (by kernel_rfl) hS0 (fun hHeld => ?_)
                      have HBl32 := Lib.hid (below_then HBl31.out hbd)
                      clear hS0 hbd b0 b1 b2 b3
                      generalize w31.drew = w32 at *
                      refine wpAnyH_take (i := 0) (v := ?_) rfl (by kernel_rfl) (by kernel_rfl) (by kernel_rfl) (fun _ _ _ h => h) (Or.inl ⟨by rfl, ?_⟩) (by assumption) ?_
                      rotate_left
                      · intro w hSw; (try dsimp only at hSw); go_simp; try (with_reducible rfl)
                      try go_simp
                      refine wpAnyH_take (i := 1) (v := ?_) rfl (by kernel_rfl) (by kernel_rfl) (by kernel_rfl) (fun _ _ _ h => h) (Or.inl ⟨by rfl, ?_⟩) (by assumption) ?_
                      rotate_left
                      · intro w hSw; (try dsimp only at hSw); go_simp; try (with_reducible rfl)
                      try go_simp
                      refine wpAnyH_take (i := 2) (v := ?_) rfl (by kernel_rfl) (by kernel_rfl) (by kernel_rfl) (fun _ _ _ h => h) (Or.inl ⟨by rfl, ?_⟩) (by assumption) ?_
                      rotate_left
                      · intro w hSw; (try dsimp only at hSw); go_simp; try (with_reducible rfl)
                      try go_simp
                      refine wpAnyH_take (i := 3) (v := ?_) rfl (by kernel_rfl) (by kernel_rfl) (by kernel_rfl) (fun _ _ _ h => h) (Or.inl ⟨by rfl, ?_⟩) (by assumption) ?_
                      rotate_left
                      · intro w hSw; (try dsimp only at hSw); go_simp; try (with_reducible rfl)
                      try go_simp
                      refine wpAnyH_ready (rs := [4]) (by kernel_rfl) (by simp) ?_
                      refine AllReadyH.cons rfl (fun K hK => ?_) AllReadyH.nil
                      go_simp
                      ((refine (limited_any mo most w32 hmo HMost.out).mono ?_); rintro e w33 ⟨rfl, hb33⟩)
                      have hS9 := hHeld
                      refine hK.out _ _ ⟨cell_stays hb33 hS9.1, cell_stays hb33 hS9.2.1, cell_stays hb33 hS9.2.2.1, cell_stays hb33 hS9.2.2.2⟩ (fun hHeld => ?_)
                      clear hK K hS9
                      try go_simp
                      have HB33 := Lib.hid (below_then HB32.out hb33)
                      have HNb33 := Lib.hid (HNb32.out.below hb33)
                      have HIn33 := Lib.hid (HIn32.out.below hb33)
                      have HZ33 := Lib.hid (HZ32.out.below hb33)
                      have HT33 := Lib.hid (HT32.out.below hb33)
                      have HL33 := Lib.hid (HL32.out.below hb33)
                      have HX33 := Lib.hid (HX32.out.below hb33)
                      have HLi33 := Lib.hid (HLi32.out.below hb33)
                      have HZu33 := Lib.hid (HZu32.out.below hb33)
                      have HBl33 := Lib.hid (below_then HBl32.out hb33)
                      clear hb33
                      refine wpAnyH_ready (rs := [5]) (by kernel_rfl) (by simp) ?_
                      refine AllReadyH.cons rfl (fun K hK => ?_) AllReadyH.nil
                      go_simp
                      ((refine (HCv.out w33 HIn33.out HZ33.out HZu33.out HT33.out).mono ?_); rintro e w34 ⟨Aw31, wl2, cw31, rfl, hwl, hw0, hb34⟩)
                      have hS9 := hHeld
                      refine hK.out _ _ ⟨cell_stays hb34 hS9.1, cell_stays hb34 hS9.2.1, cell_stays hb34 hS9.2.2.1, cell_stays hb34 hS9.2.2.2⟩ (fun hHeld => ?_)
                      clear hK K hS9
                      try go_simp
                      have HB34 := Lib.hid (below_then HB33.out hb34)
                      have HNb34 := Lib.hid (HNb33.out.below hb34)
                      have HIn34 := Lib.hid (HIn33.out.below hb34)
                      have HZ34 := Lib.hid (HZ33.out.below hb34)
                      have HT34 := Lib.hid (HT33.out.below hb34)
                      have HL34 := Lib.hid (HL33.out.below hb34)
                      have HX34 := Lib.hid (HX33.out.below hb34)
                      have HLi34 := Lib.hid (HLi33.out.below hb34)
                      have HZu34 := Lib.hid (HZu33.out.below hb34)
                      have HBl34 := Lib.hid (below_then HBl33.out hb34)
                      clear hb34
                      refine wpAnyH_take (i := 6) (v := ?_) rfl (by kernel_rfl) (by kernel_rfl) (by kernel_rfl) (fun _ _ _ h => h) (Or.inl ⟨by rfl, ?_⟩) (by assumption) ?_
                      rotate_left
                      · intro w hSw; (try dsimp only at hSw); go_simp; try (with_reducible rfl)
                      try go_simp
                      refine wpAnyH_take (i := 7) (v := ?_) rfl (by kernel_rfl) (by kernel_rfl) (by kernel_rfl) (fun _ _ _ h => h) (Or.inl ⟨by rfl, ?_⟩) (by assumption) ?_
                      rotate_left
                      · intro w hSw; (try dsimp only at hSw); go_simp; try (with_reducible rfl)
                      try go_simp
                      refine wpAnyH_take (i := 8) (v := ?_) rfl (by kernel_rfl) (by kernel_rfl) (by kernel_rfl) (fun _ _ _ h => h) (Or.inl ⟨by rfl, ?_⟩) (by assumption) ?_
                      rotate_left
                      · intro w hSw; (try dsimp only at hSw); go_simp; try (with_reducible rfl)
                      try go_simp
                      refine wpAnyH_take (i := 9) (v := ?_) rfl (by kernel_rfl) (by kernel_rfl) (by kernel_rfl) (fun _ _ _ h => h) (Or.inl ⟨by rfl, ?_⟩) (by assumption) ?_
                      rotate_left
                      · intro w hSw; (try dsimp only at hSw); go_simp; try (with_reducible rfl)
                      try go_simp
                      refine wpAnyH_take (i := 10) (v := ?_) rfl (by kernel_rfl) (by kernel_rfl) (by kernel_rfl) (fun _ _ _ h => h) (Or.inl ⟨by rfl, ?_⟩) (by assumption) ?_
                      rotate_left
                      · intro w hSw; (try dsimp only at hSw); go_simp; try (with_reducible rfl)
                      try go_simp
                      refine wpAnyH_take (i := 11) (v := ?_) rfl (by kernel_rfl) (by kernel_rfl) (by kernel_rfl) (fun _ _ _ h => h) (Or.inl ⟨by rfl, ?_⟩) (by assumption) ?_
                      rotate_left
                      · intro w hSw; (try dsimp only at hSw); go_simp; try (with_reducible rfl)
                      try go_simp
                      refine wpAnyH_take (i := 12) (v := ?_) rfl (by kernel_rfl) (by kernel_rfl) (by kernel_rfl) (fun _ _ _ h => h) (Or.inl ⟨by rfl, ?_⟩) (by assumption) ?_
                      rotate_left
                      · intro w hSw; (try dsimp only at hSw); go_simp; try (with_reducible rfl)
                      try go_simp
                      refine wpAnyH_done (by kernel_rfl) ?_ _
                      clear hHeld
                      clear HB31 HNb31 HIn31 HZ31 HT31 HL31 HX31 HLi31 HZu31
                      clear HB32 HNb32 HIn32 HZ32 HT32 HL32 HX32 HLi32 HZu32
                      clear HB33 HNb33 HIn33 HZ33 HT33 HL33 HX33 HLi33 HZu33
                      obtain ⟨d0, d1, d2⟩ := HX34.out.cells
                      have ql : decide (((movesOf T).length : Int) < (wl2 : Int)) = false := by simp; omega
                      have ql2 : decide ((movesOf T).length < wl2) = false := by simp; omega
                      clear hw0 hwl
                      go_wp2_with fail
                      go_roundg (gk - 1)
                      case measure => have := HJ.out; omega
                      case rel => exact ⟨j + 1, by have := HJ.out; omega, by go_num, HBl34.out⟩
                  · have d8 : decide (j < T.states.length) = false := by simpa using hlt2
                    clear b0 b1 b2 b3 d0 d1 d2
                    have HCv := Lib.hid (fun w' h1 h2 h4 => cv_way (covers_any N A n c Am m cm M Am m cm M (most : Int) w' h1 HNl.out hn2 h2 HM.out hm1 hm2 h2 HM.out hm1 hm2 h4) HMk.out HGr.out HMk.out hlm0 hlm ⟨M, List.mem_of_getElem? (grow_good HMk.out HGr.out).1.one, covB_refl M⟩)
                    go_wp2_with fail
                    have hbd : Below w30.heap.size w30 w30.drew := (Below.refl _ _).drew
                    have HB31 := Lib.hid (below_then HB30.out hbd)
                    have HNb31 := Lib.hid (HNb30.out.below hbd)
                    have HIn31 := Lib.hid (HIn30.out.below hbd)
                    have HZ31 := Lib.hid (HZ30.out.below hbd)
                    have HT31 := Lib.hid (HT30.out.below hbd)
                    have HL31 := Lib.hid (HL30.out.below hbd)
                    have HX31 := Lib.hid (HX30.out.below hbd)
                    have HLi31 := Lib.hid (HLi30.out.below hbd)
                    obtain ⟨b0, b1, b2, b3⟩ := HNb31.out.cells
                    have hS0 := And.intro b0 (And.intro b1 (And.intro b2 (b3)))
                    refine wp_region_held_drew (S := fun w' => w'.cell? ⟨w.heap.size, 0, none⟩ = some (.int .i64 N.pl) ∧ w'.cell? ⟨w.heap.size, 1, none⟩ = some (.slice A n c) ∧ w'.cell? ⟨w.heap.size, 2, none⟩ = some (.int .i64 N.src) ∧ w'.cell? ⟨w.heap.size, 3, none⟩ = some (.int .i64 N.snk)) (by kernel_rfl) hS0 (fun hHeld => ?_)
                    clear hS0 hbd b0 b1 b2 b3
                    generalize w30.drew = w31 at *
                    refine wpAnyH_take (i := 0) (v := ?_) rfl (by kernel_rfl) (by kernel_rfl) (by kernel_rfl) (fun _ _ _ h => h) (Or.inl ⟨by rfl, ?_⟩) (by assumption) ?_
                    rotate_left
                    · intro w hSw; (try dsimp only at hSw); go_simp; try (with_reducible rfl)
                    try go_simp
                    refine wpAnyH_take (i := 1) (v := ?_) rfl (by kernel_rfl) (by kernel_rfl) (by kernel_rfl) (fun _ _ _ h => h) (Or.inl ⟨by rfl, ?_⟩) (by assumption) ?_
                    rotate_left
                    · intro w hSw; (try dsimp only at hSw); go_simp; try (with_reducible rfl)
                    try go_simp
                    refine wpAnyH_take (i := 2) (v := ?_) rfl (by kernel_rfl) (by kernel_rfl) (by kernel_rfl) (fun _ _ _ h => h) (Or.inl ⟨by rfl, ?_⟩) (by assumption) ?_
                    rotate_left
                    · intro w hSw; (try dsimp only at hSw); go_simp; try (with_reducible rfl)
                    try go_simp
                    refine wpAnyH_take (i := 3) (v := ?_) rfl (by kernel_rfl) (by kernel_rfl) (by kernel_rfl) (fun _ _ _ h => h) (Or.inl ⟨by rfl, ?_⟩) (by assumption) ?_
                    rotate_left
                    · intro w hSw; (try dsimp only at hSw); go_simp; try (with_reducible rfl)
                    try go_simp
                    refine wpAnyH_ready (rs := [4]) (by kernel_rfl) (by simp) ?_
                    refine AllReadyH.cons rfl (fun K hK => ?_) AllReadyH.nil
                    go_simp
                    ((refine (limited_any mo most w31 hmo HMost.out).mono ?_); rintro e w32 ⟨rfl, hb32⟩)
                    have hS9 := hHeld
                    refine hK.out _ _ ⟨cell_stays hb32 hS9.1, cell_stays hb32 hS9.2.1, cell_stays hb32 hS9.2.2.1, cell_stays hb32 hS9.2.2.2⟩ (fun hHeld => ?_)
                    clear hK K hS9
                    try go_simp
                    have HB32 := Lib.hid (below_then HB31.out hb32)
                    have HNb32 := Lib.hid (HNb31.out.below hb32)
                    have HIn32 := Lib.hid (HIn31.out.below hb32)
                    have HZ32 := Lib.hid (HZ31.out.below hb32)
                    have HT32 := Lib.hid (HT31.out.below hb32)
                    have HL32 := Lib.hid (HL31.out.below hb32)
                    have HX32 := Lib.hid (HX31.out.below hb32)
                    have HLi32 := Lib.hid (HLi31.out.below hb32)
                    clear hb32
                    refine wpAnyH_ready (rs := [5]) (by kernel_rfl) (by simp) ?_
                    refine AllReadyH.cons rfl (fun K hK => ?_) AllReadyH.nil
                    go_simp
                    ((refine (HCv.out w32 HIn32.out HZ32.out HT32.out).mono ?_); rintro e w33 ⟨Aw30, wl3, cw30, rfl, hwl, hw0, hb33⟩)
                    have hS9 := hHeld
                    refine hK.out _ _ ⟨cell_stays hb33 hS9.1, cell_stays hb33 hS9.2.1, cell_stays hb33 hS9.2.2.1, cell_stays hb33 hS9.2.2.2⟩ (fun hHeld => ?_)
                    clear hK K hS9
                    try go_simp
                    have HB33 := Lib.hid (below_then HB32.out hb33)
                    have HNb33 := Lib.hid (HNb32.out.below hb33)
                    have HIn33 := Lib.hid (HIn32.out.below hb33)
                    have HZ33 := Lib.hid (HZ32.out.below hb33)
                    have HT33 := Lib.hid (HT32.out.below hb33)
                    have HL33 := Lib.hid (HL32.out.below hb33)
                    have HX33 := Lib.hid (HX32.out.below hb33)
                    have HLi33 := Lib.hid (HLi32.out.below hb33)
                    clear hb33
                    refine wpAnyH_take (i := 6) (v := ?_) rfl (by kernel_rfl) (by kernel_rfl) (by kernel_rfl) (fun _ _ _ h => h) (Or.inl ⟨by rfl, ?_⟩) (by assumption) ?_
                    rotate_left
                    · intro w hSw; (try dsimp only at hSw); go_simp; try (with_reducible rfl)
                    try go_simp
                    refine wpAnyH_take (i := 7) (v := ?_) rfl (by kernel_rfl) (by kernel_rfl) (by kernel_rfl) (fun _ _ _ h => h) (Or.inl ⟨by rfl, ?_⟩) (by assumption) ?_
                    rotate_left
                    · intro w hSw; (try dsimp only at hSw); go_simp; try (with_reducible rfl)
                    try go_simp
                    refine wpAnyH_take (i := 8) (v := ?_) rfl (by kernel_rfl) (by kernel_rfl) (by kernel_rfl) (fun _ _ _ h => h) (Or.inl ⟨by rfl, ?_⟩) (by assumption) ?_
                    rotate_left
                    · intro w hSw; (try dsimp only at hSw); go_simp; try (with_reducible rfl)
                    try go_simp
                    refine wpAnyH_take (i := 9) (v := ?_) rfl (by kernel_rfl) (by kernel_rfl) (by kernel_rfl) (fun _ _ _ h => h) (Or.inl ⟨by rfl, ?_⟩) (by assumption) ?_
                    rotate_left
                    · intro w hSw; (try dsimp only at hSw); go_simp; try (with_reducible rfl)
                    try go_simp
                    refine wpAnyH_take (i := 10) (v := ?_) rfl (by kernel_rfl) (by kernel_rfl) (by kernel_rfl) (fun _ _ _ h => h) (Or.inl ⟨by rfl, ?_⟩) (by assumption) ?_
                    rotate_left
                    · intro w hSw; (try dsimp only at hSw); go_simp; try (with_reducible rfl)
                    try go_simp
                    refine wpAnyH_take (i := 11) (v := ?_) rfl (by kernel_rfl) (by kernel_rfl) (by kernel_rfl) (fun _ _ _ h => h) (Or.inl ⟨by rfl, ?_⟩) (by assumption) ?_
                    rotate_left
                    · intro w hSw; (try dsimp only at hSw); go_simp; try (with_reducible rfl)
                    try go_simp
                    refine wpAnyH_take (i := 12) (v := ?_) rfl (by kernel_rfl) (by kernel_rfl) (by kernel_rfl) (fun _ _ _ h => h) (Or.inl ⟨by rfl, ?_⟩) (by assumption) ?_
                    rotate_left
                    · intro w hSw; (try dsimp only at hSw); go_simp; try (with_reducible rfl)
                    try go_simp
                    refine wpAnyH_done (by kernel_rfl) ?_ _
                    clear hHeld
                    clear HB30 HNb30 HIn30 HZ30 HT30 HL30 HX30 HLi30
                    clear HB31 HNb31 HIn31 HZ31 HT31 HL31 HX31 HLi31
                    clear HB32 HNb32 HIn32 HZ32 HT32 HL32 HX32 HLi32
                    have hw00 := hw0 rfl
                    subst hw00
                    clear hw0 hwl
                    go_wp2_with fail
                    go_ret
                    exact ⟨rfl, HB33.out⟩
            · obtain ⟨w13, rfl⟩ : ∃ w13, w13 = wr := ⟨_, rfl⟩
              have HS13 := Lib.hid HS.out
              have HAb13 := Lib.hid HAb.out
              clear t0 tf b0 b1 b2 b3 HZx HLr HBr HS HAb
              have d9 : decide (k < nl) = false := by simpa using hlt
              have HB13 := Lib.hid HS13.out.2
              have HB20 := Lib.hid (below_then HB6.out HB13.out)
              have HNb20 := Lib.hid (HNb6.out.below HB13.out)
              have HIn20 := Lib.hid (HIn6.out.below HB13.out)
              have HZ20 := Lib.hid (HZ6.out.below HB13.out)
              have HT20 := Lib.hid (HT6.out.below HB13.out)
              have HL20 := Lib.hid (HL6.out.below HB13.out)
              have HX20 := Lib.hid (HX6.out.below HB13.out)
              have HLi20 := Lib.hid (HLi6.out.below HB13.out)
              obtain ⟨w20, rfl⟩ : ∃ w20, w20 = w13 := ⟨_, rfl⟩
              clear HB6 HNb6 HIn6 HZ6 HT6 HL6 HX6 HLi6
              have HZx20 := Lib.hid (ns_bd HS13.out).1
              have hcx : X.length ≤ cx ∧ cx ≤ 9223372036854775807 := (ns_bd HS13.out).2
              have HAb20 := Lib.hid HAb13.out
              have hp := mk_len HMx.out
              have qp : ((X.length : Int) != N.pl) = false := by rw [hp]; simp
              clear HS13 HAb13 HB13 hp
              obtain ⟨b0, b1, b2, b3⟩ := HNb20.out.cells
              obtain ⟨d0, d1, d2⟩ := HX20.out.cells
              have t0 : w20.cell? ⟨ab, 0, none⟩ = some (.slice Ax X.length cx) := by have := HAb20.out; simp [World.cell?, this]
              have HLc := Lib.hid (lcont_rr Aa T.states.length ca T.states w20 HLi20.out rfl (by have := HTl.out; omega) ab Ax X.length cx X ⟨HAb20.out, HZx20.out, rfl⟩)
              rw [reach_any HMk.out HGr.out HRx.out HMx.out] at HLc
              go_wp2_with fail
              ((with_reducible refine HLc.out.mono ?_); rintro e w21 ⟨rfl, hb21⟩)
              have HB21 := Lib.hid (below_then HB20.out hb21)
              have HNb21 := Lib.hid (HNb20.out.below hb21)
              have HIn21 := Lib.hid (HIn20.out.below hb21)
              have HZ21 := Lib.hid (HZ20.out.below hb21)
              have HT21 := Lib.hid (HT20.out.below hb21)
              have HL21 := Lib.hid (HL20.out.below hb21)
              have HX21 := Lib.hid (HX20.out.below hb21)
              have HLi21 := Lib.hid (HLi20.out.below hb21)
              have HZx21 := Lib.hid (HZx20.out.below hb21)
              have HAb21 := Lib.hid (show w21.heap[ab]? = some (.cells #[.slice Ax X.length cx] 25 (0, 0)) by rw [hb21.block ab (Array.getElem?_eq_some_iff.1 HAb20.out).1]; exact HAb20.out)
              clear hb21 HLc HAb20 b0 b1 b2 b3 d0 d1 d2 t0
              clear HB20 HNb20 HIn20 HZ20 HT20 HL20 HX20 HLi20 HZx20
              have hw21 : (w21.drew).cell? ⟨ab, 0, none⟩ = some (.slice Ax X.length cx) := cell_stays ((Below.refl w21.heap.size w21).drew) (by have := HAb21.out; simp [World.cell?, this])
              have HCe := Lib.hid (show ∃ s ∈ T.states, covB X s = true by obtain ⟨s, h1, _, h2⟩ := reach_cov HMk.out HGr.out HRx.out HMx.out; exact ⟨s, h1, h2⟩)
              have HCv := Lib.hid (fun w' h1 h2 h3 h4 => cv_way (covers_any N A n c Am m cm M Ax X.length cx X (most : Int) w' h1 HNl.out hn2 h2 HM.out hm1 hm2 h3 rfl hcx.1 hcx.2 h4) HMk.out HGr.out HMx.out hlm0 hlm HCe.out)
              go_wp2_with fail
              have hbd : Below w21.heap.size w21 w21.drew := (Below.refl _ _).drew
              have HB22 := Lib.hid (below_then HB21.out hbd)
              have HNb22 := Lib.hid (HNb21.out.below hbd)
              have HIn22 := Lib.hid (HIn21.out.below hbd)
              have HZ22 := Lib.hid (HZ21.out.below hbd)
              have HT22 := Lib.hid (HT21.out.below hbd)
              have HL22 := Lib.hid (HL21.out.below hbd)
              have HX22 := Lib.hid (HX21.out.below hbd)
              have HLi22 := Lib.hid (HLi21.out.below hbd)
              have HZx22 := Lib.hid (HZx21.out.below hbd)
              obtain ⟨b0, b1, b2, b3⟩ := HNb22.out.cells
              have hS0 := And.intro b0 (And.intro b1 (And.intro b2 (And.intro b3 (hw21))))
              refine wp_region_held_drew (S := fun w' => w'.cell? ⟨w.heap.size, 0, none⟩ = some (.int .i64 N.pl) ∧ w'.cell? ⟨w.heap.size, 1, none⟩ = some (.slice A n c) ∧ w'.cell? ⟨w.heap.size, 2, none⟩ = some (.int .i64 N.src) ∧ w'.cell? ⟨w.heap.size, 3, none⟩ = some (.int .i64 N.snk) ∧ w'.cell? ⟨ab, 0, none⟩ = some (.slice Ax X.length cx)) (by kernel_rfl) hS0 (fun hHeld => ?_)
              clear hS0 hbd b0 b1 b2 b3
              generalize w21.drew = w22 at *
              refine wpAnyH_take (i := 0) (v := ?_) rfl (by kernel_rfl) (by kernel_rfl) (by kernel_rfl) (fun _ _ _ h => h) (Or.inl ⟨by rfl, ?_⟩) (by assumption) ?_
              rotate_left
              · intro w hSw; (try dsimp only at hSw); go_simp; try (with_reducible rfl)
              try go_simp
              refine wpAnyH_take (i := 1) (v := ?_) rfl (by kernel_rfl) (by kernel_rfl) (by kernel_rfl) (fun _ _ _ h => h) (Or.inl ⟨by rfl, ?_⟩) (by assumption) ?_
              rotate_left
              · intro w hSw; (try dsimp only at hSw); go_simp; try (with_reducible rfl)
              try go_simp
              refine wpAnyH_take (i := 2) (v := ?_) rfl (by kernel_rfl) (by kernel_rfl) (by kernel_rfl) (fun _ _ _ h => h) (Or.inl ⟨by rfl, ?_⟩) (by assumption) ?_
              rotate_left
              · intro w hSw; (try dsimp only at hSw); go_simp; try (with_reducible rfl)
              try go_simp
              refine wpAnyH_take (i := 3) (v := ?_) rfl (by kernel_rfl) (by kernel_rfl) (by kernel_rfl) (fun _ _ _ h => h) (Or.inl ⟨by rfl, ?_⟩) (by assumption) ?_
              rotate_left
              · intro w hSw; (try dsimp only at hSw); go_simp; try (with_reducible rfl)
              try go_simp
              refine wpAnyH_ready (rs := [4]) (by kernel_rfl) (by simp) ?_
              refine AllReadyH.cons rfl (fun K hK => ?_) AllReadyH.nil
              go_simp
              ((refine (limited_any mo most w22 hmo HMost.out).mono ?_); rintro e w23 ⟨rfl, hb23⟩)
              have hS9 := hHeld
              refine hK.out _ _ ⟨cell_stays hb23 hS9.1, cell_stays hb23 hS9.2.1, cell_stays hb23 hS9.2.2.1, cell_stays hb23 hS9.2.2.2.1, cell_stays hb23 hS9.2.2.2.2⟩ (fun hHeld => ?_)
              clear hK K hS9
              try go_simp
              have HB23 := Lib.hid (below_then HB22.out hb23)
              have HNb23 := Lib.hid (HNb22.out.below hb23)
              have HIn23 := Lib.hid (HIn22.out.below hb23)
              have HZ23 := Lib.hid (HZ22.out.below hb23)
              have HT23 := Lib.hid (HT22.out.below hb23)
              have HL23 := Lib.hid (HL22.out.below hb23)
              have HX23 := Lib.hid (HX22.out.below hb23)
              have HLi23 := Lib.hid (HLi22.out.below hb23)
              have HZx23 := Lib.hid (HZx22.out.below hb23)
              clear hb23
              refine wpAnyH_ready (rs := [5]) (by kernel_rfl) (by simp) ?_
              refine AllReadyH.cons rfl (fun K hK => ?_) AllReadyH.nil
              go_simp
              ((refine (HCv.out w23 HIn23.out HZ23.out HZx23.out HT23.out).mono ?_); rintro e w24 ⟨Aw21, wl1, cw21, rfl, hwl, hw0, hb24⟩)
              have hS9 := hHeld
              refine hK.out _ _ ⟨cell_stays hb24 hS9.1, cell_stays hb24 hS9.2.1, cell_stays hb24 hS9.2.2.1, cell_stays hb24 hS9.2.2.2.1, cell_stays hb24 hS9.2.2.2.2⟩ (fun hHeld => ?_)
              clear hK K hS9
              try go_simp
              have HB24 := Lib.hid (below_then HB23.out hb24)
              have HNb24 := Lib.hid (HNb23.out.below hb24)
              have HIn24 := Lib.hid (HIn23.out.below hb24)
              have HZ24 := Lib.hid (HZ23.out.below hb24)
              have HT24 := Lib.hid (HT23.out.below hb24)
              have HL24 := Lib.hid (HL23.out.below hb24)
              have HX24 := Lib.hid (HX23.out.below hb24)
              have HLi24 := Lib.hid (HLi23.out.below hb24)
              have HZx24 := Lib.hid (HZx23.out.below hb24)
              clear hb24
              refine wpAnyH_take (i := 6) (v := ?_) rfl (by kernel_rfl) (by kernel_rfl) (by kernel_rfl) (fun _ _ _ h => h) (Or.inl ⟨by rfl, ?_⟩) (by assumption) ?_
              rotate_left
              · intro w hSw; (try dsimp only at hSw); go_simp; try (with_reducible rfl)
              try go_simp
              refine wpAnyH_take (i := 7) (v := ?_) rfl (by kernel_rfl) (by kernel_rfl) (by kernel_rfl) (fun _ _ _ h => h) (Or.inl ⟨by rfl, ?_⟩) (by assumption) ?_
              rotate_left
              · intro w hSw; (try dsimp only at hSw); go_simp; try (with_reducible rfl)
              try go_simp
              refine wpAnyH_take (i := 8) (v := ?_) rfl (by kernel_rfl) (by kernel_rfl) (by kernel_rfl) (fun _ _ _ h => h) (Or.inl ⟨by rfl, ?_⟩) (by assumption) ?_
              rotate_left
              · intro w hSw; (try dsimp only at hSw); go_simp; try (with_reducible rfl)
              try go_simp
              refine wpAnyH_take (i := 9) (v := ?_) rfl (by kernel_rfl) (by kernel_rfl) (by kernel_rfl) (fun _ _ _ h => h) (Or.inl ⟨by rfl, ?_⟩) (by assumption) ?_
              rotate_left
              · intro w hSw; (try dsimp only at hSw); go_simp; try (with_reducible rfl)
              try go_simp
              refine wpAnyH_take (i := 10) (v := ?_) rfl (by kernel_rfl) (by kernel_rfl) (by kernel_rfl) (fun _ _ _ h => h) (Or.inl ⟨by rfl, ?_⟩) (by assumption) ?_
              rotate_left
              · intro w hSw; (try dsimp only at hSw); go_simp; try (with_reducible rfl)
              try go_simp
              refine wpAnyH_take (i := 11) (v := ?_) rfl (by kernel_rfl) (by kernel_rfl) (by kernel_rfl) (fun _ _ _ h => h) (Or.inl ⟨by rfl, ?_⟩) (by assumption) ?_
              rotate_left
              · intro w hSw; (try dsimp only at hSw); go_simp; try (with_reducible rfl)
              try go_simp
              refine wpAnyH_take (i := 12) (v := ?_) rfl (by kernel_rfl) (by kernel_rfl) (by kernel_rfl) (fun _ _ _ h => h) (Or.inl ⟨by rfl, ?_⟩) (by assumption) ?_
              rotate_left
              · intro w hSw; (try dsimp only at hSw); go_simp; try (with_reducible rfl)
              try go_simp
              refine wpAnyH_done (by kernel_rfl) ?_ _
              clear hHeld
              clear HB21 HNb21 HIn21 HZ21 HT21 HL21 HX21 HLi21 HZx21
              clear HB22 HNb22 HIn22 HZ22 HT22 HL22 HX22 HLi22 HZx22
              clear HB23 HNb23 HIn23 HZ23 HT23 HL23 HX23 HLi23 HZx23
              clear HCv HCe HAb21 hw21 hwl hw0
              obtain ⟨d0, d1, d2⟩ := HX24.out.cells
              go_wp2_with fail
              clear d0 d1 d2
              have HBl24 := Lib.hid (Below.refl w24.heap.size w24)
              obtain ⟨go1, rfl⟩ : ∃ go1, go1 = gk := ⟨_, rfl⟩
              have htl := HTl.out
              go_loopg [99] (T.states.length) (fun g iv wr => ∃ k : Nat, k + g = T.states.length ∧ iv = .int .i64 (k : Int) ∧ Below w24.heap.size w24 wr)
              case atStart => exact ⟨0, by omega, rfl, HBl24.out⟩
              case round =>
                obtain ⟨j, hj, rfl, hB⟩ := hrel
                have HJ := Lib.hid hj
                have HBl := Lib.hid hB
                have hjl : j ≤ T.states.length := by omega
                clear hj hB
                obtain ⟨w30, rfl⟩ : ∃ w30, w30 = wr := ⟨_, rfl⟩
                have HB30 := Lib.hid (below_then HB24.out HBl.out)
                have HNb30 := Lib.hid (HNb24.out.below HBl.out)
                have HIn30 := Lib.hid (HIn24.out.below HBl.out)
                have HZ30 := Lib.hid (HZ24.out.below HBl.out)
                have HT30 := Lib.hid (HT24.out.below HBl.out)
                have HL30 := Lib.hid (HL24.out.below HBl.out)
                have HX30 := Lib.hid (HX24.out.below HBl.out)
                have HLi30 := Lib.hid (HLi24.out.below HBl.out)
                clear HB24 HNb24 HIn24 HZ24 HT24 HL24 HX24 HLi24 HZx24
                obtain ⟨b0, b1, b2, b3⟩ := HNb30.out.cells
                obtain ⟨d0, d1, d2⟩ := HX30.out.cells
                by_cases hlt2 : j < T.states.length
                · obtain ⟨as_, rfl, hps2, u, e0, Au, nu, cu, rfl, zu, hul, huc, hud⟩ := HLi30.out j hlt2
                  have hsm := List.getElem_mem hlt2
                  have HSm := Lib.hid hsm
                  have hln := HSl.out _ hsm
                  generalize T.states[j] = Z at *
                  have qn : ((nu : Int) != N.pl) = false := by rw [← hln, hul]; simp
                  have HZu30 := Lib.hid zu
                  have HUl := Lib.hid hul
                  have HCo := Lib.hid (contains_om Au nu cu Z w30 zu hul (by omega))
                  clear hsm hln zu hul
                  cases ho : hasO Z with
                  | true =>
                    rw [ho] at HCo
                    clear ho
                    go_wp2_with fail
                    ((with_reducible refine HCo.out.mono ?_); rintro e w31 ⟨rfl, hb31⟩)
                    have HBe := Lib.hid (below_then HBl.out hb31)
                    clear hb31
                    go_wp2_with fail
                    go_roundg (gk - 1)
                    case measure => have := HJ.out; omega
                    case rel => exact ⟨j + 1, by have := HJ.out; omega, by go_num, HBe.out⟩
                  | false =>
                    rw [ho] at HCo
                    have HMz := Lib.hid (state_mk HMk.out HGr.out HSm.out ho)
                    clear ho
                    go_wp2_with fail
                    ((with_reducible refine HCo.out.mono ?_); rintro e w31 ⟨rfl, hb31⟩)
                    have HBl31 := Lib.hid (below_then HBl.out hb31)
                    have HB31 := Lib.hid (below_then HB30.out hb31)
                    have HNb31 := Lib.hid (HNb30.out.below hb31)
                    have HIn31 := Lib.hid (HIn30.out.below hb31)
                    have HZ31 := Lib.hid (HZ30.out.below hb31)
                    have HT31 := Lib.hid (HT30.out.below hb31)
                    have HL31 := Lib.hid (HL30.out.below hb31)
                    have HX31 := Lib.hid (HX30.out.below hb31)
                    have HLi31 := Lib.hid (HLi30.out.below hb31)
                    have HZu31 := Lib.hid (HZu30.out.below hb31)
                    clear HB30 HNb30 HIn30 HZ30 HT30 HL30 HX30 HLi30 HZu30
                    clear hb31 HCo HBl b0 b1 b2 b3 d0 d1 d2 e0
                    have HCv := Lib.hid (fun w' h1 h2 h3 h4 => cv_way (covers_any N A n c Am m cm M Au nu cu Z (most : Int) w' h1 HNl.out hn2 h2 HM.out hm1 hm2 h3 HUl.out huc hud h4) HMk.out HGr.out HMz.out hlm0 hlm ⟨Z, HSm.out, covB_refl Z⟩)
                    go_wp2_with fail
                    have hbd : Below w31.heap.size w31 w31.drew := (Below.refl _ _).drew
                    have HB32 := Lib.hid (below_then HB31.out hbd)
                    have HNb32 := Lib.hid (HNb31.out.below hbd)
                    have HIn32 := Lib.hid (HIn31.out.below hbd)
                    have HZ32 := Lib.hid (HZ31.out.below hbd)
                    have HT32 := Lib.hid (HT31.out.below hbd)
                    have HL32 := Lib.hid (HL31.out.below hbd)
                    have HX32 := Lib.hid (HX31.out.below hbd)
                    have HLi32 := Lib.hid (HLi31.out.below hbd)
                    have HZu32 := Lib.hid (HZu31.out.below hbd)
                    obtain ⟨b0, b1, b2, b3⟩ := HNb32.out.cells
                    have hS0 := And.intro b0 (And.intro b1 (And.intro b2 (b3)))
                    refine wp_region_held_drew (S := fun w' => w'.cell? ⟨w.heap.size, 0, none⟩ = some (.int .i64 N.pl) ∧ w'.cell? ⟨w.heap.size, 1, none⟩ = some (.slice A n c) ∧ w'.cell? ⟨w.heap.size, 2, none⟩ = some (.int .i64 N.src) ∧ w'.cell? ⟨w.heap.size, 3, none⟩ = some (.int .i64 N.snk)) (by kernel_rfl) hS0 (fun hHeld => ?_)
                    have HBl32 := Lib.hid (below_then HBl31.out hbd)
                    clear hS0 hbd b0 b1 b2 b3
                    generalize w31.drew = w32 at *
                    refine wpAnyH_take (i := 0) (v := ?_) rfl (by kernel_rfl) (by kernel_rfl) (by kernel_rfl) (fun _ _ _ h => h) (Or.inl ⟨by rfl, ?_⟩) (by assumption) ?_
                    rotate_left
                    · intro w hSw; (try dsimp only at hSw); go_simp; try (with_reducible rfl)
                    try go_simp
                    refine wpAnyH_take (i := 1) (v := ?_) rfl (by kernel_rfl) (by kernel_rfl) (by kernel_rfl) (fun _ _ _ h => h) (Or.inl ⟨by rfl, ?_⟩) (by assumption) ?_
                    rotate_left
                    · intro w hSw; (try dsimp only at hSw); go_simp; try (with_reducible rfl)
                    try go_simp
                    refine wpAnyH_take (i := 2) (v := ?_) rfl (by kernel_rfl) (by kernel_rfl) (by kernel_rfl) (fun _ _ _ h => h) (Or.inl ⟨by rfl, ?_⟩) (by assumption) ?_
                    rotate_left
                    · intro w hSw; (try dsimp only at hSw); go_simp; try (with_reducible rfl)
                    try go_simp
                    refine wpAnyH_take (i := 3) (v := ?_) rfl (by kernel_rfl) (by kernel_rfl) (by kernel_rfl) (fun _ _ _ h => h) (Or.inl ⟨by rfl, ?_⟩) (by assumption) ?_
                    rotate_left
                    · intro w hSw; (try dsimp only at hSw); go_simp; try (with_reducible rfl)
                    try go_simp
                    refine wpAnyH_ready (rs := [4]) (by kernel_rfl) (by simp) ?_
                    refine AllReadyH.cons rfl (fun K hK => ?_) AllReadyH.nil
                    go_simp
                    ((refine (limited_any mo most w32 hmo HMost.out).mono ?_); rintro e w33 ⟨rfl, hb33⟩)
                    have hS9 := hHeld
                    refine hK.out _ _ ⟨cell_stays hb33 hS9.1, cell_stays hb33 hS9.2.1, cell_stays hb33 hS9.2.2.1, cell_stays hb33 hS9.2.2.2⟩ (fun hHeld => ?_)
                    clear hK K hS9
                    try go_simp
                    have HB33 := Lib.hid (below_then HB32.out hb33)
                    have HNb33 := Lib.hid (HNb32.out.below hb33)
                    have HIn33 := Lib.hid (HIn32.out.below hb33)
                    have HZ33 := Lib.hid (HZ32.out.below hb33)
                    have HT33 := Lib.hid (HT32.out.below hb33)
                    have HL33 := Lib.hid (HL32.out.below hb33)
                    have HX33 := Lib.hid (HX32.out.below hb33)
                    have HLi33 := Lib.hid (HLi32.out.below hb33)
                    have HZu33 := Lib.hid (HZu32.out.below hb33)
                    have HBl33 := Lib.hid (below_then HBl32.out hb33)
                    clear hb33
                    refine wpAnyH_ready (rs := [5]) (by kernel_rfl) (by simp) ?_
                    refine AllReadyH.cons rfl (fun K hK => ?_) AllReadyH.nil
                    go_simp
                    ((refine (HCv.out w33 HIn33.out HZ33.out HZu33.out HT33.out).mono ?_); rintro e w34 ⟨Aw31, wl2, cw31, rfl, hwl, hw0, hb34⟩)
                    have hS9 := hHeld
                    refine hK.out _ _ ⟨cell_stays hb34 hS9.1, cell_stays hb34 hS9.2.1, cell_stays hb34 hS9.2.2.1, cell_stays hb34 hS9.2.2.2⟩ (fun hHeld => ?_)
                    clear hK K hS9
                    try go_simp
                    have HB34 := Lib.hid (below_then HB33.out hb34)
                    have HNb34 := Lib.hid (HNb33.out.below hb34)
                    have HIn34 := Lib.hid (HIn33.out.below hb34)
                    have HZ34 := Lib.hid (HZ33.out.below hb34)
                    have HT34 := Lib.hid (HT33.out.below hb34)
                    have HL34 := Lib.hid (HL33.out.below hb34)
                    have HX34 := Lib.hid (HX33.out.below hb34)
                    have HLi34 := Lib.hid (HLi33.out.below hb34)
                    have HZu34 := Lib.hid (HZu33.out.below hb34)
                    have HBl34 := Lib.hid (below_then HBl33.out hb34)
                    clear hb34
                    refine wpAnyH_take (i := 6) (v := ?_) rfl (by kernel_rfl) (by kernel_rfl) (by kernel_rfl) (fun _ _ _ h => h) (Or.inl ⟨by rfl, ?_⟩) (by assumption) ?_
                    rotate_left
                    · intro w hSw; (try dsimp only at hSw); go_simp; try (with_reducible rfl)
                    try go_simp
                    refine wpAnyH_take (i := 7) (v := ?_) rfl (by kernel_rfl) (by kernel_rfl) (by kernel_rfl) (fun _ _ _ h => h) (Or.inl ⟨by rfl, ?_⟩) (by assumption) ?_
                    rotate_left
                    · intro w hSw; (try dsimp only at hSw); go_simp; try (with_reducible rfl)
                    try go_simp
                    refine wpAnyH_take (i := 8) (v := ?_) rfl (by kernel_rfl) (by kernel_rfl) (by kernel_rfl) (fun _ _ _ h => h) (Or.inl ⟨by rfl, ?_⟩) (by assumption) ?_
                    rotate_left
                    · intro w hSw; (try dsimp only at hSw); go_simp; try (with_reducible rfl)
                    try go_simp
                    refine wpAnyH_take (i := 9) (v := ?_) rfl (by kernel_rfl) (by kernel_rfl) (by kernel_rfl) (fun _ _ _ h => h) (Or.inl ⟨by rfl, ?_⟩) (by assumption) ?_
                    rotate_left
                    · intro w hSw; (try dsimp only at hSw); go_simp; try (with_reducible rfl)
                    try go_simp
                    refine wpAnyH_take (i := 10) (v := ?_) rfl (by kernel_rfl) (by kernel_rfl) (by kernel_rfl) (fun _ _ _ h => h) (Or.inl ⟨by rfl, ?_⟩) (by assumption) ?_
                    rotate_left
                    · intro w hSw; (try dsimp only at hSw); go_simp; try (with_reducible rfl)
                    try go_simp
                    refine wpAnyH_take (i := 11) (v := ?_) rfl (by kernel_rfl) (by kernel_rfl) (by kernel_rfl) (fun _ _ _ h => h) (Or.inl ⟨by rfl, ?_⟩) (by assumption) ?_
                    rotate_left
                    · intro w hSw; (try dsimp only at hSw); go_simp; try (with_reducible rfl)
                    try go_simp
                    refine wpAnyH_take (i := 12) (v := ?_) rfl (by kernel_rfl) (by kernel_rfl) (by kernel_rfl) (fun _ _ _ h => h) (Or.inl ⟨by rfl, ?_⟩) (by assumption) ?_
                    rotate_left
                    · intro w hSw; (try dsimp only at hSw); go_simp; try (with_reducible rfl)
                    try go_simp
                    refine wpAnyH_done (by kernel_rfl) ?_ _
                    clear hHeld
                    clear HB31 HNb31 HIn31 HZ31 HT31 HL31 HX31 HLi31 HZu31
                    clear HB32 HNb32 HIn32 HZ32 HT32 HL32 HX32 HLi32 HZu32
                    clear HB33 HNb33 HIn33 HZ33 HT33 HL33 HX33 HLi33 HZu33
                    obtain ⟨d0, d1, d2⟩ := HX34.out.cells
                    have ql : decide (((movesOf T).length : Int) < (wl2 : Int)) = false := by simp; omega
                    have ql2 : decide ((movesOf T).length < wl2) = false := by simp; omega
                    clear hw0 hwl
                    go_wp2_with fail
                    go_roundg (gk - 1)
                    case measure => have := HJ.out; omega
                    case rel => exact ⟨j + 1, by have := HJ.out; omega, by go_num, HBl34.out⟩
                · have d8 : decide (j < T.states.length) = false := by simpa using hlt2
                  clear b0 b1 b2 b3 d0 d1 d2
                  have HCv := Lib.hid (fun w' h1 h2 h4 => cv_way (covers_any N A n c Am m cm M Am m cm M (most : Int) w' h1 HNl.out hn2 h2 HM.out hm1 hm2 h2 HM.out hm1 hm2 h4) HMk.out HGr.out HMk.out hlm0 hlm ⟨M, List.mem_of_getElem? (grow_good HMk.out HGr.out).1.one, covB_refl M⟩)
                  go_wp2_with fail
                  have hbd : Below w30.heap.size w30 w30.drew := (Below.refl _ _).drew
                  have HB31 := Lib.hid (below_then HB30.out hbd)
                  have HNb31 := Lib.hid (HNb30.out.below hbd)
                  have HIn31 := Lib.hid (HIn30.out.below hbd)
                  have HZ31 := Lib.hid (HZ30.out.below hbd)
                  have HT31 := Lib.hid (HT30.out.below hbd)
                  have HL31 := Lib.hid (HL30.out.below hbd)
                  have HX31 := Lib.hid (HX30.out.below hbd)
                  have HLi31 := Lib.hid (HLi30.out.below hbd)
                  obtain ⟨b0, b1, b2, b3⟩ := HNb31.out.cells
                  have hS0 := And.intro b0 (And.intro b1 (And.intro b2 (b3)))
                  refine wp_region_held_drew (S := fun w' => w'.cell? ⟨w.heap.size, 0, none⟩ = some (.int .i64 N.pl) ∧ w'.cell? ⟨w.heap.size, 1, none⟩ = some (.slice A n c) ∧ w'.cell? ⟨w.heap.size, 2, none⟩ = some (.int .i64 N.src) ∧ w'.cell? ⟨w.heap.size, 3, none⟩ = some (.int .i64 N.snk)) (by kernel_rfl) hS0 (fun hHeld => ?_)
                  clear hS0 hbd b0 b1 b2 b3
                  generalize w30.drew = w31 at *
                  refine wpAnyH_take (i := 0) (v := ?_) rfl (by kernel_rfl) (by kernel_rfl) (by kernel_rfl) (fun _ _ _ h => h) (Or.inl ⟨by rfl, ?_⟩) (by assumption) ?_
                  rotate_left
                  · intro w hSw; (try dsimp only at hSw); go_simp; try (with_reducible rfl)
                  try go_simp
                  refine wpAnyH_take (i := 1) (v := ?_) rfl (by kernel_rfl) (by kernel_rfl) (by kernel_rfl) (fun _ _ _ h => h) (Or.inl ⟨by rfl, ?_⟩) (by assumption) ?_
                  rotate_left
                  · intro w hSw; (try dsimp only at hSw); go_simp; try (with_reducible rfl)
                  try go_simp
                  refine wpAnyH_take (i := 2) (v := ?_) rfl (by kernel_rfl) (by kernel_rfl) (by kernel_rfl) (fun _ _ _ h => h) (Or.inl ⟨by rfl, ?_⟩) (by assumption) ?_
                  rotate_left
                  · intro w hSw; (try dsimp only at hSw); go_simp; try (with_reducible rfl)
                  try go_simp
                  refine wpAnyH_take (i := 3) (v := ?_) rfl (by kernel_rfl) (by kernel_rfl) (by kernel_rfl) (fun _ _ _ h => h) (Or.inl ⟨by rfl, ?_⟩) (by assumption) ?_
                  rotate_left
                  · intro w hSw; (try dsimp only at hSw); go_simp; try (with_reducible rfl)
                  try go_simp
                  refine wpAnyH_ready (rs := [4]) (by kernel_rfl) (by simp) ?_
                  refine AllReadyH.cons rfl (fun K hK => ?_) AllReadyH.nil
                  go_simp
                  ((refine (limited_any mo most w31 hmo HMost.out).mono ?_); rintro e w32 ⟨rfl, hb32⟩)
                  have hS9 := hHeld
                  refine hK.out _ _ ⟨cell_stays hb32 hS9.1, cell_stays hb32 hS9.2.1, cell_stays hb32 hS9.2.2.1, cell_stays hb32 hS9.2.2.2⟩ (fun hHeld => ?_)
                  clear hK K hS9
                  try go_simp
                  have HB32 := Lib.hid (below_then HB31.out hb32)
                  have HNb32 := Lib.hid (HNb31.out.below hb32)
                  have HIn32 := Lib.hid (HIn31.out.below hb32)
                  have HZ32 := Lib.hid (HZ31.out.below hb32)
                  have HT32 := Lib.hid (HT31.out.below hb32)
                  have HL32 := Lib.hid (HL31.out.below hb32)
                  have HX32 := Lib.hid (HX31.out.below hb32)
                  have HLi32 := Lib.hid (HLi31.out.below hb32)
                  clear hb32
                  refine wpAnyH_ready (rs := [5]) (by kernel_rfl) (by simp) ?_
                  refine AllReadyH.cons rfl (fun K hK => ?_) AllReadyH.nil
                  go_simp
                  ((refine (HCv.out w32 HIn32.out HZ32.out HT32.out).mono ?_); rintro e w33 ⟨Aw30, wl3, cw30, rfl, hwl, hw0, hb33⟩)
                  have hS9 := hHeld
                  refine hK.out _ _ ⟨cell_stays hb33 hS9.1, cell_stays hb33 hS9.2.1, cell_stays hb33 hS9.2.2.1, cell_stays hb33 hS9.2.2.2⟩ (fun hHeld => ?_)
                  clear hK K hS9
                  try go_simp
                  have HB33 := Lib.hid (below_then HB32.out hb33)
                  have HNb33 := Lib.hid (HNb32.out.below hb33)
                  have HIn33 := Lib.hid (HIn32.out.below hb33)
                  have HZ33 := Lib.hid (HZ32.out.below hb33)
                  have HT33 := Lib.hid (HT32.out.below hb33)
                  have HL33 := Lib.hid (HL32.out.below hb33)
                  have HX33 := Lib.hid (HX32.out.below hb33)
                  have HLi33 := Lib.hid (HLi32.out.below hb33)
                  clear hb33
                  refine wpAnyH_take (i := 6) (v := ?_) rfl (by kernel_rfl) (by kernel_rfl) (by kernel_rfl) (fun _ _ _ h => h) (Or.inl ⟨by rfl, ?_⟩) (by assumption) ?_
                  rotate_left
                  · intro w hSw; (try dsimp only at hSw); go_simp; try (with_reducible rfl)
                  try go_simp
                  refine wpAnyH_take (i := 7) (v := ?_) rfl (by kernel_rfl) (by kernel_rfl) (by kernel_rfl) (fun _ _ _ h => h) (Or.inl ⟨by rfl, ?_⟩) (by assumption) ?_
                  rotate_left
                  · intro w hSw; (try dsimp only at hSw); go_simp; try (with_reducible rfl)
                  try go_simp
                  refine wpAnyH_take (i := 8) (v := ?_) rfl (by kernel_rfl) (by kernel_rfl) (by kernel_rfl) (fun _ _ _ h => h) (Or.inl ⟨by rfl, ?_⟩) (by assumption) ?_
                  rotate_left
                  · intro w hSw; (try dsimp only at hSw); go_simp; try (with_reducible rfl)
                  try go_simp
                  refine wpAnyH_take (i := 9) (v := ?_) rfl (by kernel_rfl) (by kernel_rfl) (by kernel_rfl) (fun _ _ _ h => h) (Or.inl ⟨by rfl, ?_⟩) (by assumption) ?_
                  rotate_left
                  · intro w hSw; (try dsimp only at hSw); go_simp; try (with_reducible rfl)
                  try go_simp
                  refine wpAnyH_take (i := 10) (v := ?_) rfl (by kernel_rfl) (by kernel_rfl) (by kernel_rfl) (fun _ _ _ h => h) (Or.inl ⟨by rfl, ?_⟩) (by assumption) ?_
                  rotate_left
                  · intro w hSw; (try dsimp only at hSw); go_simp; try (with_reducible rfl)
                  try go_simp
                  refine wpAnyH_take (i := 11) (v := ?_) rfl (by kernel_rfl) (by kernel_rfl) (by kernel_rfl) (fun _ _ _ h => h) (Or.inl ⟨by rfl, ?_⟩) (by assumption) ?_
                  rotate_left
                  · intro w hSw; (try dsimp only at hSw); go_simp; try (with_reducible rfl)
                  try go_simp
                  refine wpAnyH_take (i := 12) (v := ?_) rfl (by kernel_rfl) (by kernel_rfl) (by kernel_rfl) (fun _ _ _ h => h) (Or.inl ⟨by rfl, ?_⟩) (by assumption) ?_
                  rotate_left
                  · intro w hSw; (try dsimp only at hSw); go_simp; try (with_reducible rfl)
                  try go_simp
                  refine wpAnyH_done (by kernel_rfl) ?_ _
                  clear hHeld
                  clear HB30 HNb30 HIn30 HZ30 HT30 HL30 HX30 HLi30
                  clear HB31 HNb31 HIn31 HZ31 HT31 HL31 HX31 HLi31
                  clear HB32 HNb32 HIn32 HZ32 HT32 HL32 HX32 HLi32
                  have hw00 := hw0 rfl
                  subst hw00
                  clear hw0 hwl
                  go_wp2_with fail
                  go_ret
                  exact ⟨rfl, HB33.out⟩
      · go_simp
        have hS9 := hHeld
        have hal := below_alloc w3 (.cells #[.slice none 0 0, .slice none 0 0, .bool false] 31)
        have HCz := Lib.hid (SpB.new w3 (.slice none 0 0) (.slice none 0 0) false)
        have hcb : w2.heap.size ≤ w3.heap.size := HB23.out.size
        have hcw : w.heap.size ≠ w3.heap.size := by have := HNb2.out.lt; omega
        have HBn := Lib.hid (below_then HB23.out hal)
        refine hK.out _ _ ⟨cell_stays hal hS9.1, cell_stays hal hS9.2.1, cell_stays hal hS9.2.2.1, cell_stays hal hS9.2.2.2⟩ (fun hHeld => ?_)
        clear hK K hS9 hal HB23
        try go_simp
        generalize hcbe : w3.heap.size = cb at *
        generalize w3.alloc _ = wn at *
        clear hcbe
        refine wpAnyH_ready (rs := [3]) (by kernel_rfl) (by simp) ?_
        refine AllReadyH.cons rfl (fun K hK => ?_) AllReadyH.nil
        go_simp
        ((refine (HLim.out wn).mono ?_); rintro e w5 ⟨rfl, hb5⟩)
        have hS9 := hHeld
        refine hK.out _ _ ⟨cell_stays hb5 hS9.1, cell_stays hb5 hS9.2.1, cell_stays hb5 hS9.2.2.1, cell_stays hb5 hS9.2.2.2⟩ (fun hHeld => ?_)
        clear hK K hS9
        try go_simp
        have HB25 := Lib.hid (below_then HBn.out hb5)
        replace HCz := Lib.hid (HCz.out.below hb5)
        clear hb5 HBn
        refine wpAnyH_ready (rs := [4]) (by kernel_rfl) (by simp) ?_
        refine AllReadyH.cons rfl (fun K hK => ?_) AllReadyH.nil
        go_simp
        ((refine (gp_yes (HGp.out w5 HB25.out) hbe).mono ?_); rintro e w6 ⟨Aa, ca, Ad, cd, rfl, hO, hM6⟩; have hb6 := hO.bel)
        have hS9 := hHeld
        refine hK.out _ _ ⟨cell_stays hb6 hS9.1, cell_stays hb6 hS9.2.1, cell_stays hb6 hS9.2.2.1, cell_stays hb6 hS9.2.2.2⟩ (fun hHeld => ?_)
        clear hK K hS9
        try go_simp
        have HO6 := Lib.hid (hO.up HB25.out)
        have HM6 := Lib.hid (hM6.up HB25.out)
        have HB26 := Lib.hid (below_then HB25.out hb6)
        replace HCz := Lib.hid (HCz.out.below hb6)
        clear hb6 HB25 hO hM6
        refine wpAnyH_take (i := 5) (v := ?_) rfl (by kernel_rfl) (by kernel_rfl) (by kernel_rfl) (fun _ _ _ h => h) (Or.inl ⟨by rfl, ?_⟩) (by assumption) ?_
        rotate_left
        · intro w hSw; (try dsimp only at hSw); go_simp; try (with_reducible rfl)
        try go_simp
        refine wpAnyH_take (i := 6) (v := ?_) rfl (by kernel_rfl) (by kernel_rfl) (by kernel_rfl) (fun _ _ _ h => h) (Or.inl ⟨by rfl, ?_⟩) (by assumption) ?_
        rotate_left
        · intro w hSw; (try dsimp only at hSw); go_simp; try (with_reducible rfl)
        try go_simp
        refine wpAnyH_take (i := 7) (v := ?_) rfl (by kernel_rfl) (by kernel_rfl) (by kernel_rfl) (fun _ _ _ h => h) (Or.inl ⟨by rfl, ?_⟩) (by assumption) ?_
        rotate_left
        · intro w hSw; (try dsimp only at hSw); go_simp; try (with_reducible rfl)
        try go_simp
        obtain ⟨r0, r1, r2⟩ := HCz.out.cells
        have rf0 := HCz.out.soft 0
        have rf1 := HCz.out.soft 1
        have rf2 := HCz.out.soft 2
        have HRe := Lib.hid (((HCz.out.set0 (.slice Aa T.states.length ca)).set1 (.slice Ad (movesOf T).length cd)).set2 true)
        have HGe := Lib.hid (spb_grown w6 cb (.slice Aa T.states.length ca) (.slice Ad (movesOf T).length cd) true)
        have HOM := Lib.hid (sp_store HO6.out HM6.out HCz.out hcb true)
        have hS0 := hHeld
        refine wpAnyH_ready (rs := [9]) (by kernel_rfl) (by simp) ?_
        refine AllReadyH.cons rfl (fun K hK => ?_) AllReadyH.nil
        go_simp
        skip
        refine hK.out _ _ (⟨HGe.out.cell hS0.1 (fun e => hcw (Option.some.inj e)), HGe.out.cell hS0.2.1 (fun e => hcw (Option.some.inj e)), HGe.out.cell hS0.2.2.1 (fun e => hcw (Option.some.inj e)), HGe.out.cell hS0.2.2.2 (fun e => hcw (Option.some.inj e))⟩) (fun hHeld => ?_)
        clear hK K
        try go_simp
        refine wpAnyH_take (i := 10) (v := ?_) rfl (by kernel_rfl) (by kernel_rfl) (by kernel_rfl) (fun _ _ _ h => h) (Or.inl ⟨by rfl, ?_⟩) (by assumption) ?_
        rotate_left
        · intro w hSw; (try dsimp only at hSw); go_simp; try (with_reducible rfl)
        try go_simp
        refine wpAnyH_done (by kernel_rfl) ?_ _
        clear hHeld hS0 r0 r1 r2 rf0 rf1 rf2
        generalize (((w6.setCell ⟨cb, 0, none⟩ _).setCell ⟨cb, 1, none⟩ _).setCell ⟨cb, 2, none⟩ _) = we at *
        have HBe := Lib.hid (HB26.out.grown HGe.out HB26.out.size (fun k hk => by cases hk; exact hcb))
        have HLi := Lib.hid (show LIn we Aa T.states by obtain ⟨A', c', e, h1, _⟩ := HOM.out.1.lin; cases e; exact h1)
        clear HOM HO6 HM6
        have HB6 := Lib.hid (below_then HB2.out HBe.out)
        have HNb6 := Lib.hid (HNb2.out.below HBe.out)
        have HIn6 := Lib.hid (HIn2.out.below HBe.out)
        have HZ6 := Lib.hid (HZ2.out.below HBe.out)
        have HT6 := Lib.hid (HT2.out.below HBe.out)
        have HL6 := Lib.hid (HL2.out.below HBe.out)
        clear HBe HGe HCz HB26 HNb2 HIn2 HZ2 HT2 HL2 HB2
        obtain ⟨w6', hw6⟩ : ∃ w6', w6' = we := ⟨_, rfl⟩
        have HX6 := Lib.hid HRe.out
        have HLi6 := Lib.hid HLi.out
        clear HRe HLi hw6 w6'
        obtain ⟨w7, rfl⟩ : ∃ w7, w7 = we := ⟨_, rfl⟩
        have HMk := Lib.hid hmk
        have HGr := Lib.hid hgr
        have hgood := grow_good hmk hgr
        have hsl := fun s hs => hgood.1.slen hgood.2.2.1 hgood.2.2.2 s hs
        have hmlen := mk_len hmk
        have hps := nt_small (mk_nt hmk)
        have HSl := Lib.hid (show ∀ s ∈ T.states, (s.length : Int) = N.pl from fun s hs => by rw [hsl s hs]; exact hmlen)
        have HTl := Lib.hid (show T.states.length ≤ 60 from Nat.le_trans (growT_le hgr) hlm)
        have hmm : m ≤ 40 := by have := HM.out; omega
        have hpl9 : N.pl ≤ 40 := hps.2.1
        clear hgood hsl hmlen hps hmk hgr hbe
        have HCl := Lib.hid (clone_any Am m cm M w7 HZ6.out HM.out (by omega))
        obtain ⟨d0, d1, d2⟩ := HX6.out.cells
        go_wp2_with fail
        ((with_reducible refine HCl.out.mono ?_); rintro e w11 ⟨v11, rfl, hS11⟩)
        obtain ⟨A11, c11, rfl⟩ := hS11.slice
        have hal11 := below_alloc w11 (.cells #[.slice A11 M.length c11] 25)
        have HS12 := Lib.hid (hS11.below hal11)
        have HAb := Lib.hid (heap_alloc_new w11 (.cells #[.slice A11 M.length c11] 25))
        have hab : w7.heap.size ≤ w11.heap.size := hS11.2.size
        clear hS11 HCl hal11 d0 d1 d2
        go_wp2_with fail
        generalize w11.alloc _ = w12 at *
        generalize w11.heap.size = ab at *
        go_loopg [53] (nl) (fun g iv wr => ReI N M nl w7 ab g iv wr)
        case atStart => exact ⟨0, M, A11, c11, by omega, rfl, HAb.out, HS12.out, .base, HMk.out⟩
        case round =>
          clear HS12 HAb
          obtain ⟨k, X, Ax, cx, hkg, rfl, hA, hS, hre, hmx⟩ := hrel
          have HK := Lib.hid hkg
          have HAb := Lib.hid hA
          have HS := Lib.hid hS
          have HRx := Lib.hid hre
          have HMx := Lib.hid hmx
          have hkl : k ≤ nl := by omega
          have hxl : X.length ≤ 40 := by have := mk_len hmx; omega
          have HBr := Lib.hid hS.2
          have HZx := Lib.hid (ns_bd hS)
          have t0 : wr.cell? ⟨ab, 0, none⟩ = some (.slice Ax X.length cx) := by simp [World.cell?, hA]
          have tf : wr.frozen? ⟨ab, 0, none⟩ = false := by simp [World.frozen?, hA]
          obtain ⟨b0, b1, b2, b3⟩ := (HNb6.out.below HBr.out).cells
          have HLr := Lib.hid (HL6.out.below HBr.out)
          clear hkg hA hS hre hmx
          by_cases hlt : k < nl
          · have hlt' : k < l.length := by rw [HLl.out]; exact hlt
            obtain ⟨al, rfl, hpa, q0⟩ := HLr.out k hlt'
            generalize l[k] = t at *
            have hfi := pFire_any N A n c Ax X.length cx X t wr (HIn6.out.below HBr.out) HNl.out hn2 HZx.out.1 rfl (by omega)
            rw [show fire21 N X t = fireV N X t by unfold fire21; rw [HMx.out]; rfl] at hfi
            have HFi := Lib.hid hfi
            clear hfi hlt'
            by_cases h0 : (fireV N X t).2 = 0
            · have HFy := Lib.hid (fv_yes HFi.out h0)
              have HRy := Lib.hid (reach_fire HRx.out h0)
              have HMy := Lib.hid (fire_mk HMx.out h0)
              clear HFi h0
              generalize (fireV N X t).1 = Y at *
              go_wp2_with fail
              ((with_reducible refine HFy.out.mono ?_); rintro e w13 ⟨v13, rfl, hS13⟩)
              obtain ⟨A13, c13, rfl⟩ := hS13.slice
              have HAb13 := Lib.hid (show w13.heap[ab]? = some (.cells #[.slice Ax X.length cx] 25 (0, 0)) by rw [hS13.2.block ab (Array.getElem?_eq_some_iff.1 HAb.out).1]; exact HAb.out)
              have HS13 := Lib.hid (NS.up HBr.out hS13)
              have hset : w13.grownBy (w13.setCell ⟨ab, 0, none⟩ (.slice A13 Y.length c13)) (some ab) := Lib.grownBy_setB (grown_refl w13 (some ab)) 0 _
              have HS14 := Lib.hid (HS13.out.kept hset (own_other HS13.out.1 HAb13.out (by decide)) (fun k hk => by cases hk; exact hab))
              have HAb14 := Lib.hid (show (w13.setCell ⟨ab, 0, none⟩ (.slice A13 Y.length c13)).heap[ab]? = some (.cells #[.slice A13 Y.length c13] 25 (0, 0)) by rw [heap_set2 HAb13.out]; rfl)
              have t0' : w13.cell? ⟨ab, 0, none⟩ = some (.slice Ax X.length cx) := by have := HAb13.out; simp [World.cell?, this]
              have tf' : w13.frozen? ⟨ab, 0, none⟩ = false := by have := HAb13.out; simp [World.frozen?, this]
              clear hS13 hset HFy t0 tf q0 b0 b1 b2 b3
              go_wp2_with fail
              go_roundg (gk - 1)
              case measure => have := HK.out; omega
              case rel => exact ⟨k + 1, Y, A13, c13, by have := HK.out; omega, by go_num, HAb14.out, HS14.out, HRy.out, HMy.out⟩
            · have HFn := Lib.hid (fv_no HFi.out h0)
              have q7 : ((fireV N X t).2 != 0) = true := by rw [bne_iff_ne]; exact h0
              clear HFi h0
              generalize (fireV N X t).2 = er at *
              go_wp2_with fail
              ((with_reducible refine HFn.out.mono ?_); rintro e w13 ⟨rfl, hb13⟩)
              have HS13 := Lib.hid (HS.out.below hb13)
              have HAb13 := Lib.hid (show w13.heap[ab]? = some (.cells #[.slice Ax X.length cx] 25 (0, 0)) by rw [hb13.block ab (Array.getElem?_eq_some_iff.1 HAb.out).1]; exact HAb.out)
              clear hb13 t0 tf q0 b0 b1 b2 b3 HZx HLr HBr HS HAb HFn
              have HB13 := Lib.hid HS13.out.2
              have HB20 := Lib.hid (below_then HB6.out HB13.out)
              have HNb20 := Lib.hid (HNb6.out.below HB13.out)
              have HIn20 := Lib.hid (HIn6.out.below HB13.out)
              have HZ20 := Lib.hid (HZ6.out.below HB13.out)
              have HT20 := Lib.hid (HT6.out.below HB13.out)
              have HL20 := Lib.hid (HL6.out.below HB13.out)
              have HX20 := Lib.hid (HX6.out.below HB13.out)
              have HLi20 := Lib.hid (HLi6.out.below HB13.out)
              obtain ⟨w20, rfl⟩ : ∃ w20, w20 = w13 := ⟨_, rfl⟩
              clear HB6 HNb6 HIn6 HZ6 HT6 HL6 HX6 HLi6
              have HZx20 := Lib.hid (ns_bd HS13.out).1
              have hcx : X.length ≤ cx ∧ cx ≤ 9223372036854775807 := (ns_bd HS13.out).2
              have HAb20 := Lib.hid HAb13.out
              have hp := mk_len HMx.out
              have qp : ((X.length : Int) != N.pl) = false := by rw [hp]; simp
              clear HS13 HAb13 HB13 hp
              obtain ⟨b0, b1, b2, b3⟩ := HNb20.out.cells
              obtain ⟨d0, d1, d2⟩ := HX20.out.cells
              have t0 : w20.cell? ⟨ab, 0, none⟩ = some (.slice Ax X.length cx) := by have := HAb20.out; simp [World.cell?, this]
              have HLc := Lib.hid (lcont_rr Aa T.states.length ca T.states w20 HLi20.out rfl (by have := HTl.out; omega) ab Ax X.length cx X ⟨HAb20.out, HZx20.out, rfl⟩)
              rw [reach_any HMk.out HGr.out HRx.out HMx.out] at HLc
              go_wp2_with fail
              ((with_reducible refine HLc.out.mono ?_); rintro e w21 ⟨rfl, hb21⟩)
              have HB21 := Lib.hid (below_then HB20.out hb21)
              have HNb21 := Lib.hid (HNb20.out.below hb21)
              have HIn21 := Lib.hid (HIn20.out.below hb21)
              have HZ21 := Lib.hid (HZ20.out.below hb21)
              have HT21 := Lib.hid (HT20.out.below hb21)
              have HL21 := Lib.hid (HL20.out.below hb21)
              have HX21 := Lib.hid (HX20.out.below hb21)
              have HLi21 := Lib.hid (HLi20.out.below hb21)
              have HZx21 := Lib.hid (HZx20.out.below hb21)
              have HAb21 := Lib.hid (show w21.heap[ab]? = some (.cells #[.slice Ax X.length cx] 25 (0, 0)) by rw [hb21.block ab (Array.getElem?_eq_some_iff.1 HAb20.out).1]; exact HAb20.out)
              clear hb21 HLc HAb20 b0 b1 b2 b3 d0 d1 d2 t0
              clear HB20 HNb20 HIn20 HZ20 HT20 HL20 HX20 HLi20 HZx20
              have hw21 : (w21.drew).cell? ⟨ab, 0, none⟩ = some (.slice Ax X.length cx) := cell_stays ((Below.refl w21.heap.size w21).drew) (by have := HAb21.out; simp [World.cell?, this])
              have HCe := Lib.hid (show ∃ s ∈ T.states, covB X s = true by obtain ⟨s, h1, _, h2⟩ := reach_cov HMk.out HGr.out HRx.out HMx.out; exact ⟨s, h1, h2⟩)
              have HCv := Lib.hid (fun w' h1 h2 h3 h4 => cv_way (covers_any N A n c Am m cm M Ax X.length cx X (most : Int) w' h1 HNl.out hn2 h2 HM.out hm1 hm2 h3 rfl hcx.1 hcx.2 h4) HMk.out HGr.out HMx.out hlm0 hlm HCe.out)
              go_wp2_with fail
              have hbd : Below w21.heap.size w21 w21.drew := (Below.refl _ _).drew
              have HB22 := Lib.hid (below_then HB21.out hbd)
              have HNb22 := Lib.hid (HNb21.out.below hbd)
              have HIn22 := Lib.hid (HIn21.out.below hbd)
              have HZ22 := Lib.hid (HZ21.out.below hbd)
              have HT22 := Lib.hid (HT21.out.below hbd)
              have HL22 := Lib.hid (HL21.out.below hbd)
              have HX22 := Lib.hid (HX21.out.below hbd)
              have HLi22 := Lib.hid (HLi21.out.below hbd)
              have HZx22 := Lib.hid (HZx21.out.below hbd)
              obtain ⟨b0, b1, b2, b3⟩ := HNb22.out.cells
              have hS0 := And.intro b0 (And.intro b1 (And.intro b2 (And.intro b3 (hw21))))
              refine wp_region_held_drew (S := fun w' => w'.cell? ⟨w.heap.size, 0, none⟩ = some (.int .i64 N.pl) ∧ w'.cell? ⟨w.heap.size, 1, none⟩ = some (.slice A n c) ∧ w'.cell? ⟨w.heap.size, 2, none⟩ = some (.int .i64 N.src) ∧ w'.cell? ⟨w.heap.size, 3, none⟩ = some (.int .i64 N.snk) ∧ w'.cell? ⟨ab, 0, none⟩ = some (.slice Ax X.length cx)) (by kernel_rfl) hS0 (fun hHeld => ?_)
              clear hS0 hbd b0 b1 b2 b3
              generalize w21.drew = w22 at *
              refine wpAnyH_take (i := 0) (v := ?_) rfl (by kernel_rfl) (by kernel_rfl) (by kernel_rfl) (fun _ _ _ h => h) (Or.inl ⟨by rfl, ?_⟩) (by assumption) ?_
              rotate_left
              · intro w hSw; (try dsimp only at hSw); go_simp; try (with_reducible rfl)
              try go_simp
              refine wpAnyH_take (i := 1) (v := ?_) rfl (by kernel_rfl) (by kernel_rfl) (by kernel_rfl) (fun _ _ _ h => h) (Or.inl ⟨by rfl, ?_⟩) (by assumption) ?_
              rotate_left
              · intro w hSw; (try dsimp only at hSw); go_simp; try (with_reducible rfl)
              try go_simp
              refine wpAnyH_take (i := 2) (v := ?_) rfl (by kernel_rfl) (by kernel_rfl) (by kernel_rfl) (fun _ _ _ h => h) (Or.inl ⟨by rfl, ?_⟩) (by assumption) ?_
              rotate_left
              · intro w hSw; (try dsimp only at hSw); go_simp; try (with_reducible rfl)
              try go_simp
              refine wpAnyH_take (i := 3) (v := ?_) rfl (by kernel_rfl) (by kernel_rfl) (by kernel_rfl) (fun _ _ _ h => h) (Or.inl ⟨by rfl, ?_⟩) (by assumption) ?_
              rotate_left
              · intro w hSw; (try dsimp only at hSw); go_simp; try (with_reducible rfl)
              try go_simp
              refine wpAnyH_ready (rs := [4]) (by kernel_rfl) (by simp) ?_
              refine AllReadyH.cons rfl (fun K hK => ?_) AllReadyH.nil
              go_simp
              ((refine (limited_any mo most w22 hmo HMost.out).mono ?_); rintro e w23 ⟨rfl, hb23⟩)
              have hS9 := hHeld
              refine hK.out _ _ ⟨cell_stays hb23 hS9.1, cell_stays hb23 hS9.2.1, cell_stays hb23 hS9.2.2.1, cell_stays hb23 hS9.2.2.2.1, cell_stays hb23 hS9.2.2.2.2⟩ (fun hHeld => ?_)
              clear hK K hS9
              try go_simp
              have HB23 := Lib.hid (below_then HB22.out hb23)
              have HNb23 := Lib.hid (HNb22.out.below hb23)
              have HIn23 := Lib.hid (HIn22.out.below hb23)
              have HZ23 := Lib.hid (HZ22.out.below hb23)
              have HT23 := Lib.hid (HT22.out.below hb23)
              have HL23 := Lib.hid (HL22.out.below hb23)
              have HX23 := Lib.hid (HX22.out.below hb23)
              have HLi23 := Lib.hid (HLi22.out.below hb23)
              have HZx23 := Lib.hid (HZx22.out.below hb23)
              clear hb23
              refine wpAnyH_ready (rs := [5]) (by kernel_rfl) (by simp) ?_
              refine AllReadyH.cons rfl (fun K hK => ?_) AllReadyH.nil
              go_simp
              ((refine (HCv.out w23 HIn23.out HZ23.out HZx23.out HT23.out).mono ?_); rintro e w24 ⟨Aw21, wl1, cw21, rfl, hwl, hw0, hb24⟩)
              have hS9 := hHeld
              refine hK.out _ _ ⟨cell_stays hb24 hS9.1, cell_stays hb24 hS9.2.1, cell_stays hb24 hS9.2.2.1, cell_stays hb24 hS9.2.2.2.1, cell_stays hb24 hS9.2.2.2.2⟩ (fun hHeld => ?_)
              clear hK K hS9
              try go_simp
              have HB24 := Lib.hid (below_then HB23.out hb24)
              have HNb24 := Lib.hid (HNb23.out.below hb24)
              have HIn24 := Lib.hid (HIn23.out.below hb24)
              have HZ24 := Lib.hid (HZ23.out.below hb24)
              have HT24 := Lib.hid (HT23.out.below hb24)
              have HL24 := Lib.hid (HL23.out.below hb24)
              have HX24 := Lib.hid (HX23.out.below hb24)
              have HLi24 := Lib.hid (HLi23.out.below hb24)
              have HZx24 := Lib.hid (HZx23.out.below hb24)
              clear hb24
              refine wpAnyH_take (i := 6) (v := ?_) rfl (by kernel_rfl) (by kernel_rfl) (by kernel_rfl) (fun _ _ _ h => h) (Or.inl ⟨by rfl, ?_⟩) (by assumption) ?_
              rotate_left
              · intro w hSw; (try dsimp only at hSw); go_simp; try (with_reducible rfl)
              try go_simp
              refine wpAnyH_take (i := 7) (v := ?_) rfl (by kernel_rfl) (by kernel_rfl) (by kernel_rfl) (fun _ _ _ h => h) (Or.inl ⟨by rfl, ?_⟩) (by assumption) ?_
              rotate_left
              · intro w hSw; (try dsimp only at hSw); go_simp; try (with_reducible rfl)
              try go_simp
              refine wpAnyH_take (i := 8) (v := ?_) rfl (by kernel_rfl) (by kernel_rfl) (by kernel_rfl) (fun _ _ _ h => h) (Or.inl ⟨by rfl, ?_⟩) (by assumption) ?_
              rotate_left
              · intro w hSw; (try dsimp only at hSw); go_simp; try (with_reducible rfl)
              try go_simp
              refine wpAnyH_take (i := 9) (v := ?_) rfl (by kernel_rfl) (by kernel_rfl) (by kernel_rfl) (fun _ _ _ h => h) (Or.inl ⟨by rfl, ?_⟩) (by assumption) ?_
              rotate_left
              · intro w hSw; (try dsimp only at hSw); go_simp; try (with_reducible rfl)
              try go_simp
              refine wpAnyH_take (i := 10) (v := ?_) rfl (by kernel_rfl) (by kernel_rfl) (by kernel_rfl) (fun _ _ _ h => h) (Or.inl ⟨by rfl, ?_⟩) (by assumption) ?_
              rotate_left
              · intro w hSw; (try dsimp only at hSw); go_simp; try (with_reducible rfl)
              try go_simp
              refine wpAnyH_take (i := 11) (v := ?_) rfl (by kernel_rfl) (by kernel_rfl) (by kernel_rfl) (fun _ _ _ h => h) (Or.inl ⟨by rfl, ?_⟩) (by assumption) ?_
              rotate_left
              · intro w hSw; (try dsimp only at hSw); go_simp; try (with_reducible rfl)
              try go_simp
              refine wpAnyH_take (i := 12) (v := ?_) rfl (by kernel_rfl) (by kernel_rfl) (by kernel_rfl) (fun _ _ _ h => h) (Or.inl ⟨by rfl, ?_⟩) (by assumption) ?_
              rotate_left
              · intro w hSw; (try dsimp only at hSw); go_simp; try (with_reducible rfl)
              try go_simp
              refine wpAnyH_done (by kernel_rfl) ?_ _
              clear hHeld
              clear HB21 HNb21 HIn21 HZ21 HT21 HL21 HX21 HLi21 HZx21
              clear HB22 HNb22 HIn22 HZ22 HT22 HL22 HX22 HLi22 HZx22
              clear HB23 HNb23 HIn23 HZ23 HT23 HL23 HX23 HLi23 HZx23
              clear HCv HCe HAb21 hw21 hwl hw0
              obtain ⟨d0, d1, d2⟩ := HX24.out.cells
              go_wp2_with fail
              clear d0 d1 d2
              have HBl24 := Lib.hid (Below.refl w24.heap.size w24)
              obtain ⟨go1, rfl⟩ : ∃ go1, go1 = gk := ⟨_, rfl⟩
              have htl := HTl.out
              go_loopg [99] (T.states.length) (fun g iv wr => ∃ k : Nat, k + g = T.states.length ∧ iv = .int .i64 (k : Int) ∧ Below w24.heap.size w24 wr)
              case atStart => exact ⟨0, by omega, rfl, HBl24.out⟩
              case round =>
                obtain ⟨j, hj, rfl, hB⟩ := hrel
                have HJ := Lib.hid hj
                have HBl := Lib.hid hB
                have hjl : j ≤ T.states.length := by omega
                clear hj hB
                obtain ⟨w30, rfl⟩ : ∃ w30, w30 = wr := ⟨_, rfl⟩
                have HB30 := Lib.hid (below_then HB24.out HBl.out)
                have HNb30 := Lib.hid (HNb24.out.below HBl.out)
                have HIn30 := Lib.hid (HIn24.out.below HBl.out)
                have HZ30 := Lib.hid (HZ24.out.below HBl.out)
                have HT30 := Lib.hid (HT24.out.below HBl.out)
                have HL30 := Lib.hid (HL24.out.below HBl.out)
                have HX30 := Lib.hid (HX24.out.below HBl.out)
                have HLi30 := Lib.hid (HLi24.out.below HBl.out)
                clear HB24 HNb24 HIn24 HZ24 HT24 HL24 HX24 HLi24 HZx24
                obtain ⟨b0, b1, b2, b3⟩ := HNb30.out.cells
                obtain ⟨d0, d1, d2⟩ := HX30.out.cells
                by_cases hlt2 : j < T.states.length
                · obtain ⟨as_, rfl, hps2, u, e0, Au, nu, cu, rfl, zu, hul, huc, hud⟩ := HLi30.out j hlt2
                  have hsm := List.getElem_mem hlt2
                  have HSm := Lib.hid hsm
                  have hln := HSl.out _ hsm
                  generalize T.states[j] = Z at *
                  have qn : ((nu : Int) != N.pl) = false := by rw [← hln, hul]; simp
                  have HZu30 := Lib.hid zu
                  have HUl := Lib.hid hul
                  have HCo := Lib.hid (contains_om Au nu cu Z w30 zu hul (by omega))
                  clear hsm hln zu hul
                  cases ho : hasO Z with
                  | true =>
                    rw [ho] at HCo
                    clear ho
                    go_wp2_with fail
                    ((with_reducible refine HCo.out.mono ?_); rintro e w31 ⟨rfl, hb31⟩)
                    have HBe := Lib.hid (below_then HBl.out hb31)
                    clear hb31
                    go_wp2_with fail
                    go_roundg (gk - 1)
                    case measure => have := HJ.out; omega
                    case rel => exact ⟨j + 1, by have := HJ.out; omega, by go_num, HBe.out⟩
                  | false =>
                    rw [ho] at HCo
                    have HMz := Lib.hid (state_mk HMk.out HGr.out HSm.out ho)
                    clear ho
                    go_wp2_with fail
                    ((with_reducible refine HCo.out.mono ?_); rintro e w31 ⟨rfl, hb31⟩)
                    have HBl31 := Lib.hid (below_then HBl.out hb31)
                    have HB31 := Lib.hid (below_then HB30.out hb31)
                    have HNb31 := Lib.hid (HNb30.out.below hb31)
                    have HIn31 := Lib.hid (HIn30.out.below hb31)
                    have HZ31 := Lib.hid (HZ30.out.below hb31)
                    have HT31 := Lib.hid (HT30.out.below hb31)
                    have HL31 := Lib.hid (HL30.out.below hb31)
                    have HX31 := Lib.hid (HX30.out.below hb31)
                    have HLi31 := Lib.hid (HLi30.out.below hb31)
                    have HZu31 := Lib.hid (HZu30.out.below hb31)
                    clear HB30 HNb30 HIn30 HZ30 HT30 HL30 HX30 HLi30 HZu30
                    clear hb31 HCo HBl b0 b1 b2 b3 d0 d1 d2 e0
                    have HCv := Lib.hid (fun w' h1 h2 h3 h4 => cv_way (covers_any N A n c Am m cm M Au nu cu Z (most : Int) w' h1 HNl.out hn2 h2 HM.out hm1 hm2 h3 HUl.out huc hud h4) HMk.out HGr.out HMz.out hlm0 hlm ⟨Z, HSm.out, covB_refl Z⟩)
                    go_wp2_with fail
                    have hbd : Below w31.heap.size w31 w31.drew := (Below.refl _ _).drew
                    have HB32 := Lib.hid (below_then HB31.out hbd)
                    have HNb32 := Lib.hid (HNb31.out.below hbd)
                    have HIn32 := Lib.hid (HIn31.out.below hbd)
                    have HZ32 := Lib.hid (HZ31.out.below hbd)
                    have HT32 := Lib.hid (HT31.out.below hbd)
                    have HL32 := Lib.hid (HL31.out.below hbd)
                    have HX32 := Lib.hid (HX31.out.below hbd)
                    have HLi32 := Lib.hid (HLi31.out.below hbd)
                    have HZu32 := Lib.hid (HZu31.out.below hbd)
                    obtain ⟨b0, b1, b2, b3⟩ := HNb32.out.cells
                    have hS0 := And.intro b0 (And.intro b1 (And.intro b2 (b3)))
                    refine wp_region_held_drew (S := fun w' => w'.cell? ⟨w.heap.size, 0, none⟩ = some (.int .i64 N.pl) ∧ w'.cell? ⟨w.heap.size, 1, none⟩ = some (.slice A n c) ∧ w'.cell? ⟨w.heap.size, 2, none⟩ = some (.int .i64 N.src) ∧ w'.cell? ⟨w.heap.size, 3, none⟩ = some (.int .i64 N.snk)) (by kernel_rfl) hS0 (fun hHeld => ?_)
                    have HBl32 := Lib.hid (below_then HBl31.out hbd)
                    clear hS0 hbd b0 b1 b2 b3
                    generalize w31.drew = w32 at *
                    refine wpAnyH_take (i := 0) (v := ?_) rfl (by kernel_rfl) (by kernel_rfl) (by kernel_rfl) (fun _ _ _ h => h) (Or.inl ⟨by rfl, ?_⟩) (by assumption) ?_
                    rotate_left
                    · intro w hSw; (try dsimp only at hSw); go_simp; try (with_reducible rfl)
                    try go_simp
                    refine wpAnyH_take (i := 1) (v := ?_) rfl (by kernel_rfl) (by kernel_rfl) (by kernel_rfl) (fun _ _ _ h => h) (Or.inl ⟨by rfl, ?_⟩) (by assumption) ?_
                    rotate_left
                    · intro w hSw; (try dsimp only at hSw); go_simp; try (with_reducible rfl)
                    try go_simp
                    refine wpAnyH_take (i := 2) (v := ?_) rfl (by kernel_rfl) (by kernel_rfl) (by kernel_rfl) (fun _ _ _ h => h) (Or.inl ⟨by rfl, ?_⟩) (by assumption) ?_
                    rotate_left
                    · intro w hSw; (try dsimp only at hSw); go_simp; try (with_reducible rfl)
                    try go_simp
                    refine wpAnyH_take (i := 3) (v := ?_) rfl (by kernel_rfl) (by kernel_rfl) (by kernel_rfl) (fun _ _ _ h => h) (Or.inl ⟨by rfl, ?_⟩) (by assumption) ?_
                    rotate_left
                    · intro w hSw; (try dsimp only at hSw); go_simp; try (with_reducible rfl)
                    try go_simp
                    refine wpAnyH_ready (rs := [4]) (by kernel_rfl) (by simp) ?_
                    refine AllReadyH.cons rfl (fun K hK => ?_) AllReadyH.nil
                    go_simp
                    ((refine (limited_any mo most w32 hmo HMost.out).mono ?_); rintro e w33 ⟨rfl, hb33⟩)
                    have hS9 := hHeld
                    refine hK.out _ _ ⟨cell_stays hb33 hS9.1, cell_stays hb33 hS9.2.1, cell_stays hb33 hS9.2.2.1, cell_stays hb33 hS9.2.2.2⟩ (fun hHeld => ?_)
                    clear hK K hS9
                    try go_simp
                    have HB33 := Lib.hid (below_then HB32.out hb33)
                    have HNb33 := Lib.hid (HNb32.out.below hb33)
                    have HIn33 := Lib.hid (HIn32.out.below hb33)
                    have HZ33 := Lib.hid (HZ32.out.below hb33)
                    have HT33 := Lib.hid (HT32.out.below hb33)
                    have HL33 := Lib.hid (HL32.out.below hb33)
                    have HX33 := Lib.hid (HX32.out.below hb33)
                    have HLi33 := Lib.hid (HLi32.out.below hb33)
                    have HZu33 := Lib.hid (HZu32.out.below hb33)
                    have HBl33 := Lib.hid (below_then HBl32.out hb33)
                    clear hb33
                    refine wpAnyH_ready (rs := [5]) (by kernel_rfl) (by simp) ?_
                    refine AllReadyH.cons rfl (fun K hK => ?_) AllReadyH.nil
                    go_simp
                    ((refine (HCv.out w33 HIn33.out HZ33.out HZu33.out HT33.out).mono ?_); rintro e w34 ⟨Aw31, wl2, cw31, rfl, hwl, hw0, hb34⟩)
                    have hS9 := hHeld
                    refine hK.out _ _ ⟨cell_stays hb34 hS9.1, cell_stays hb34 hS9.2.1, cell_stays hb34 hS9.2.2.1, cell_stays hb34 hS9.2.2.2⟩ (fun hHeld => ?_)
                    clear hK K hS9
                    try go_simp
                    have HB34 := Lib.hid (below_then HB33.out hb34)
                    have HNb34 := Lib.hid (HNb33.out.below hb34)
                    have HIn34 := Lib.hid (HIn33.out.below hb34)
                    have HZ34 := Lib.hid (HZ33.out.below hb34)
                    have HT34 := Lib.hid (HT33.out.below hb34)
                    have HL34 := Lib.hid (HL33.out.below hb34)
                    have HX34 := Lib.hid (HX33.out.below hb34)
                    have HLi34 := Lib.hid (HLi33.out.below hb34)
                    have HZu34 := Lib.hid (HZu33.out.below hb34)
                    have HBl34 := Lib.hid (below_then HBl33.out hb34)
                    clear hb34
                    refine wpAnyH_take (i := 6) (v := ?_) rfl (by kernel_rfl) (by kernel_rfl) (by kernel_rfl) (fun _ _ _ h => h) (Or.inl ⟨by rfl, ?_⟩) (by assumption) ?_
                    rotate_left
                    · intro w hSw; (try dsimp only at hSw); go_simp; try (with_reducible rfl)
                    try go_simp
                    refine wpAnyH_take (i := 7) (v := ?_) rfl (by kernel_rfl) (by kernel_rfl) (by kernel_rfl) (fun _ _ _ h => h) (Or.inl ⟨by rfl, ?_⟩) (by assumption) ?_
                    rotate_left
                    · intro w hSw; (try dsimp only at hSw); go_simp; try (with_reducible rfl)
                    try go_simp
                    refine wpAnyH_take (i := 8) (v := ?_) rfl (by kernel_rfl) (by kernel_rfl) (by kernel_rfl) (fun _ _ _ h => h) (Or.inl ⟨by rfl, ?_⟩) (by assumption) ?_
                    rotate_left
                    · intro w hSw; (try dsimp only at hSw); go_simp; try (with_reducible rfl)
                    try go_simp
                    refine wpAnyH_take (i := 9) (v := ?_) rfl (by kernel_rfl) (by kernel_rfl) (by kernel_rfl) (fun _ _ _ h => h) (Or.inl ⟨by rfl, ?_⟩) (by assumption) ?_
                    rotate_left
                    · intro w hSw; (try dsimp only at hSw); go_simp; try (with_reducible rfl)
                    try go_simp
                    refine wpAnyH_take (i := 10) (v := ?_) rfl (by kernel_rfl) (by kernel_rfl) (by kernel_rfl) (fun _ _ _ h => h) (Or.inl ⟨by rfl, ?_⟩) (by assumption) ?_
                    rotate_left
                    · intro w hSw; (try dsimp only at hSw); go_simp; try (with_reducible rfl)
                    try go_simp
                    refine wpAnyH_take (i := 11) (v := ?_) rfl (by kernel_rfl) (by kernel_rfl) (by kernel_rfl) (fun _ _ _ h => h) (Or.inl ⟨by rfl, ?_⟩) (by assumption) ?_
                    rotate_left
                    · intro w hSw; (try dsimp only at hSw); go_simp; try (with_reducible rfl)
                    try go_simp
                    refine wpAnyH_take (i := 12) (v := ?_) rfl (by kernel_rfl) (by kernel_rfl) (by kernel_rfl) (fun _ _ _ h => h) (Or.inl ⟨by rfl, ?_⟩) (by assumption) ?_
                    rotate_left
                    · intro w hSw; (try dsimp only at hSw); go_simp; try (with_reducible rfl)
                    try go_simp
                    refine wpAnyH_done (by kernel_rfl) ?_ _
                    clear hHeld
                    clear HB31 HNb31 HIn31 HZ31 HT31 HL31 HX31 HLi31 HZu31
                    clear HB32 HNb32 HIn32 HZ32 HT32 HL32 HX32 HLi32 HZu32
                    clear HB33 HNb33 HIn33 HZ33 HT33 HL33 HX33 HLi33 HZu33
                    obtain ⟨d0, d1, d2⟩ := HX34.out.cells
                    have ql : decide (((movesOf T).length : Int) < (wl2 : Int)) = false := by simp; omega
                    have ql2 : decide ((movesOf T).length < wl2) = false := by simp; omega
                    clear hw0 hwl
                    go_wp2_with fail
                    go_roundg (gk - 1)
                    case measure => have := HJ.out; omega
                    case rel => exact ⟨j + 1, by have := HJ.out; omega, by go_num, HBl34.out⟩
                · have d8 : decide (j < T.states.length) = false := by simpa using hlt2
                  clear b0 b1 b2 b3 d0 d1 d2
                  have HCv := Lib.hid (fun w' h1 h2 h4 => cv_way (covers_any N A n c Am m cm M Am m cm M (most : Int) w' h1 HNl.out hn2 h2 HM.out hm1 hm2 h2 HM.out hm1 hm2 h4) HMk.out HGr.out HMk.out hlm0 hlm ⟨M, List.mem_of_getElem? (grow_good HMk.out HGr.out).1.one, covB_refl M⟩)
                  go_wp2_with fail
                  have hbd : Below w30.heap.size w30 w30.drew := (Below.refl _ _).drew
                  have HB31 := Lib.hid (below_then HB30.out hbd)
                  have HNb31 := Lib.hid (HNb30.out.below hbd)
                  have HIn31 := Lib.hid (HIn30.out.below hbd)
                  have HZ31 := Lib.hid (HZ30.out.below hbd)
                  have HT31 := Lib.hid (HT30.out.below hbd)
                  have HL31 := Lib.hid (HL30.out.below hbd)
                  have HX31 := Lib.hid (HX30.out.below hbd)
                  have HLi31 := Lib.hid (HLi30.out.below hbd)
                  obtain ⟨b0, b1, b2, b3⟩ := HNb31.out.cells
                  have hS0 := And.intro b0 (And.intro b1 (And.intro b2 (b3)))
                  refine wp_region_held_drew (S := fun w' => w'.cell? ⟨w.heap.size, 0, none⟩ = some (.int .i64 N.pl) ∧ w'.cell? ⟨w.heap.size, 1, none⟩ = some (.slice A n c) ∧ w'.cell? ⟨w.heap.size, 2, none⟩ = some (.int .i64 N.src) ∧ w'.cell? ⟨w.heap.size, 3, none⟩ = some (.int .i64 N.snk)) (by kernel_rfl) hS0 (fun hHeld => ?_)
                  clear hS0 hbd b0 b1 b2 b3
                  generalize w30.drew = w31 at *
                  refine wpAnyH_take (i := 0) (v := ?_) rfl (by kernel_rfl) (by kernel_rfl) (by kernel_rfl) (fun _ _ _ h => h) (Or.inl ⟨by rfl, ?_⟩) (by assumption) ?_
                  rotate_left
                  · intro w hSw; (try dsimp only at hSw); go_simp; try (with_reducible rfl)
                  try go_simp
                  refine wpAnyH_take (i := 1) (v := ?_) rfl (by kernel_rfl) (by kernel_rfl) (by kernel_rfl) (fun _ _ _ h => h) (Or.inl ⟨by rfl, ?_⟩) (by assumption) ?_
                  rotate_left
                  · intro w hSw; (try dsimp only at hSw); go_simp; try (with_reducible rfl)
                  try go_simp
                  refine wpAnyH_take (i := 2) (v := ?_) rfl (by kernel_rfl) (by kernel_rfl) (by kernel_rfl) (fun _ _ _ h => h) (Or.inl ⟨by rfl, ?_⟩) (by assumption) ?_
                  rotate_left
                  · intro w hSw; (try dsimp only at hSw); go_simp; try (with_reducible rfl)
                  try go_simp
                  refine wpAnyH_take (i := 3) (v := ?_) rfl (by kernel_rfl) (by kernel_rfl) (by kernel_rfl) (fun _ _ _ h => h) (Or.inl ⟨by rfl, ?_⟩) (by assumption) ?_
                  rotate_left
                  · intro w hSw; (try dsimp only at hSw); go_simp; try (with_reducible rfl)
                  try go_simp
                  refine wpAnyH_ready (rs := [4]) (by kernel_rfl) (by simp) ?_
                  refine AllReadyH.cons rfl (fun K hK => ?_) AllReadyH.nil
                  go_simp
                  ((refine (limited_any mo most w31 hmo HMost.out).mono ?_); rintro e w32 ⟨rfl, hb32⟩)
                  have hS9 := hHeld
                  refine hK.out _ _ ⟨cell_stays hb32 hS9.1, cell_stays hb32 hS9.2.1, cell_stays hb32 hS9.2.2.1, cell_stays hb32 hS9.2.2.2⟩ (fun hHeld => ?_)
                  clear hK K hS9
                  try go_simp
                  have HB32 := Lib.hid (below_then HB31.out hb32)
                  have HNb32 := Lib.hid (HNb31.out.below hb32)
                  have HIn32 := Lib.hid (HIn31.out.below hb32)
                  have HZ32 := Lib.hid (HZ31.out.below hb32)
                  have HT32 := Lib.hid (HT31.out.below hb32)
                  have HL32 := Lib.hid (HL31.out.below hb32)
                  have HX32 := Lib.hid (HX31.out.below hb32)
                  have HLi32 := Lib.hid (HLi31.out.below hb32)
                  clear hb32
                  refine wpAnyH_ready (rs := [5]) (by kernel_rfl) (by simp) ?_
                  refine AllReadyH.cons rfl (fun K hK => ?_) AllReadyH.nil
                  go_simp
                  ((refine (HCv.out w32 HIn32.out HZ32.out HT32.out).mono ?_); rintro e w33 ⟨Aw30, wl3, cw30, rfl, hwl, hw0, hb33⟩)
                  have hS9 := hHeld
                  refine hK.out _ _ ⟨cell_stays hb33 hS9.1, cell_stays hb33 hS9.2.1, cell_stays hb33 hS9.2.2.1, cell_stays hb33 hS9.2.2.2⟩ (fun hHeld => ?_)
                  clear hK K hS9
                  try go_simp
                  have HB33 := Lib.hid (below_then HB32.out hb33)
                  have HNb33 := Lib.hid (HNb32.out.below hb33)
                  have HIn33 := Lib.hid (HIn32.out.below hb33)
                  have HZ33 := Lib.hid (HZ32.out.below hb33)
                  have HT33 := Lib.hid (HT32.out.below hb33)
                  have HL33 := Lib.hid (HL32.out.below hb33)
                  have HX33 := Lib.hid (HX32.out.below hb33)
                  have HLi33 := Lib.hid (HLi32.out.below hb33)
                  clear hb33
                  refine wpAnyH_take (i := 6) (v := ?_) rfl (by kernel_rfl) (by kernel_rfl) (by kernel_rfl) (fun _ _ _ h => h) (Or.inl ⟨by rfl, ?_⟩) (by assumption) ?_
                  rotate_left
                  · intro w hSw; (try dsimp only at hSw); go_simp; try (with_reducible rfl)
                  try go_simp
                  refine wpAnyH_take (i := 7) (v := ?_) rfl (by kernel_rfl) (by kernel_rfl) (by kernel_rfl) (fun _ _ _ h => h) (Or.inl ⟨by rfl, ?_⟩) (by assumption) ?_
                  rotate_left
                  · intro w hSw; (try dsimp only at hSw); go_simp; try (with_reducible rfl)
                  try go_simp
                  refine wpAnyH_take (i := 8) (v := ?_) rfl (by kernel_rfl) (by kernel_rfl) (by kernel_rfl) (fun _ _ _ h => h) (Or.inl ⟨by rfl, ?_⟩) (by assumption) ?_
                  rotate_left
                  · intro w hSw; (try dsimp only at hSw); go_simp; try (with_reducible rfl)
                  try go_simp
                  refine wpAnyH_take (i := 9) (v := ?_) rfl (by kernel_rfl) (by kernel_rfl) (by kernel_rfl) (fun _ _ _ h => h) (Or.inl ⟨by rfl, ?_⟩) (by assumption) ?_
                  rotate_left
                  · intro w hSw; (try dsimp only at hSw); go_simp; try (with_reducible rfl)
                  try go_simp
                  refine wpAnyH_take (i := 10) (v := ?_) rfl (by kernel_rfl) (by kernel_rfl) (by kernel_rfl) (fun _ _ _ h => h) (Or.inl ⟨by rfl, ?_⟩) (by assumption) ?_
                  rotate_left
                  · intro w hSw; (try dsimp only at hSw); go_simp; try (with_reducible rfl)
                  try go_simp
                  refine wpAnyH_take (i := 11) (v := ?_) rfl (by kernel_rfl) (by kernel_rfl) (by kernel_rfl) (fun _ _ _ h => h) (Or.inl ⟨by rfl, ?_⟩) (by assumption) ?_
                  rotate_left
                  · intro w hSw; (try dsimp only at hSw); go_simp; try (with_reducible rfl)
                  try go_simp
                  refine wpAnyH_take (i := 12) (v := ?_) rfl (by kernel_rfl) (by kernel_rfl) (by kernel_rfl) (fun _ _ _ h => h) (Or.inl ⟨by rfl, ?_⟩) (by assumption) ?_
                  rotate_left
                  · intro w hSw; (try dsimp only at hSw); go_simp; try (with_reducible rfl)
                  try go_simp
                  refine wpAnyH_done (by kernel_rfl) ?_ _
                  clear hHeld
                  clear HB30 HNb30 HIn30 HZ30 HT30 HL30 HX30 HLi30
                  clear HB31 HNb31 HIn31 HZ31 HT31 HL31 HX31 HLi31
                  clear HB32 HNb32 HIn32 HZ32 HT32 HL32 HX32 HLi32
                  have hw00 := hw0 rfl
                  subst hw00
                  clear hw0 hwl
                  go_wp2_with fail
                  go_ret
                  exact ⟨rfl, HB33.out⟩
          · obtain ⟨w13, rfl⟩ : ∃ w13, w13 = wr := ⟨_, rfl⟩
            have HS13 := Lib.hid HS.out
            have HAb13 := Lib.hid HAb.out
            clear t0 tf b0 b1 b2 b3 HZx HLr HBr HS HAb
            have d9 : decide (k < nl) = false := by simpa using hlt
            have HB13 := Lib.hid HS13.out.2
            have HB20 := Lib.hid (below_then HB6.out HB13.out)
            have HNb20 := Lib.hid (HNb6.out.below HB13.out)
            have HIn20 := Lib.hid (HIn6.out.below HB13.out)
            have HZ20 := Lib.hid (HZ6.out.below HB13.out)
            have HT20 := Lib.hid (HT6.out.below HB13.out)
            have HL20 := Lib.hid (HL6.out.below HB13.out)
            have HX20 := Lib.hid (HX6.out.below HB13.out)
            have HLi20 := Lib.hid (HLi6.out.below HB13.out)
            obtain ⟨w20, rfl⟩ : ∃ w20, w20 = w13 := ⟨_, rfl⟩
            clear HB6 HNb6 HIn6 HZ6 HT6 HL6 HX6 HLi6
            have HZx20 := Lib.hid (ns_bd HS13.out).1
            have hcx : X.length ≤ cx ∧ cx ≤ 9223372036854775807 := (ns_bd HS13.out).2
            have HAb20 := Lib.hid HAb13.out
            have hp := mk_len HMx.out
            have qp : ((X.length : Int) != N.pl) = false := by rw [hp]; simp
            clear HS13 HAb13 HB13 hp
            obtain ⟨b0, b1, b2, b3⟩ := HNb20.out.cells
            obtain ⟨d0, d1, d2⟩ := HX20.out.cells
            have t0 : w20.cell? ⟨ab, 0, none⟩ = some (.slice Ax X.length cx) := by have := HAb20.out; simp [World.cell?, this]
            have HLc := Lib.hid (lcont_rr Aa T.states.length ca T.states w20 HLi20.out rfl (by have := HTl.out; omega) ab Ax X.length cx X ⟨HAb20.out, HZx20.out, rfl⟩)
            rw [reach_any HMk.out HGr.out HRx.out HMx.out] at HLc
            go_wp2_with fail
            ((with_reducible refine HLc.out.mono ?_); rintro e w21 ⟨rfl, hb21⟩)
            have HB21 := Lib.hid (below_then HB20.out hb21)
            have HNb21 := Lib.hid (HNb20.out.below hb21)
            have HIn21 := Lib.hid (HIn20.out.below hb21)
            have HZ21 := Lib.hid (HZ20.out.below hb21)
            have HT21 := Lib.hid (HT20.out.below hb21)
            have HL21 := Lib.hid (HL20.out.below hb21)
            have HX21 := Lib.hid (HX20.out.below hb21)
            have HLi21 := Lib.hid (HLi20.out.below hb21)
            have HZx21 := Lib.hid (HZx20.out.below hb21)
            have HAb21 := Lib.hid (show w21.heap[ab]? = some (.cells #[.slice Ax X.length cx] 25 (0, 0)) by rw [hb21.block ab (Array.getElem?_eq_some_iff.1 HAb20.out).1]; exact HAb20.out)
            clear hb21 HLc HAb20 b0 b1 b2 b3 d0 d1 d2 t0
            clear HB20 HNb20 HIn20 HZ20 HT20 HL20 HX20 HLi20 HZx20
            have hw21 : (w21.drew).cell? ⟨ab, 0, none⟩ = some (.slice Ax X.length cx) := cell_stays ((Below.refl w21.heap.size w21).drew) (by have := HAb21.out; simp [World.cell?, this])
            have HCe := Lib.hid (show ∃ s ∈ T.states, covB X s = true by obtain ⟨s, h1, _, h2⟩ := reach_cov HMk.out HGr.out HRx.out HMx.out; exact ⟨s, h1, h2⟩)
            have HCv := Lib.hid (fun w' h1 h2 h3 h4 => cv_way (covers_any N A n c Am m cm M Ax X.length cx X (most : Int) w' h1 HNl.out hn2 h2 HM.out hm1 hm2 h3 rfl hcx.1 hcx.2 h4) HMk.out HGr.out HMx.out hlm0 hlm HCe.out)
            go_wp2_with fail
            have hbd : Below w21.heap.size w21 w21.drew := (Below.refl _ _).drew
            have HB22 := Lib.hid (below_then HB21.out hbd)
            have HNb22 := Lib.hid (HNb21.out.below hbd)
            have HIn22 := Lib.hid (HIn21.out.below hbd)
            have HZ22 := Lib.hid (HZ21.out.below hbd)
            have HT22 := Lib.hid (HT21.out.below hbd)
            have HL22 := Lib.hid (HL21.out.below hbd)
            have HX22 := Lib.hid (HX21.out.below hbd)
            have HLi22 := Lib.hid (HLi21.out.below hbd)
            have HZx22 := Lib.hid (HZx21.out.below hbd)
            obtain ⟨b0, b1, b2, b3⟩ := HNb22.out.cells
            have hS0 := And.intro b0 (And.intro b1 (And.intro b2 (And.intro b3 (hw21))))
            refine wp_region_held_drew (S := fun w' => w'.cell? ⟨w.heap.size, 0, none⟩ = some (.int .i64 N.pl) ∧ w'.cell? ⟨w.heap.size, 1, none⟩ = some (.slice A n c) ∧ w'.cell? ⟨w.heap.size, 2, none⟩ = some (.int .i64 N.src) ∧ w'.cell? ⟨w.heap.size, 3, none⟩ = some (.int .i64 N.snk) ∧ w'.cell? ⟨ab, 0, none⟩ = some (.slice Ax X.length cx)) (by kernel_rfl) hS0 (fun hHeld => ?_)
            clear hS0 hbd b0 b1 b2 b3
            generalize w21.drew = w22 at *
            refine wpAnyH_take (i := 0) (v := ?_) rfl (by kernel_rfl) (by kernel_rfl) (by kernel_rfl) (fun _ _ _ h => h) (Or.inl ⟨by rfl, ?_⟩) (by assumption) ?_
            rotate_left
            · intro w hSw; (try dsimp only at hSw); go_simp; try (with_reducible rfl)
            try go_simp
            refine wpAnyH_take (i := 1) (v := ?_) rfl (by kernel_rfl) (by kernel_rfl) (by kernel_rfl) (fun _ _ _ h => h) (Or.inl ⟨by rfl, ?_⟩) (by assumption) ?_
            rotate_left
            · intro w hSw; (try dsimp only at hSw); go_simp; try (with_reducible rfl)
            try go_simp
            refine wpAnyH_take (i := 2) (v := ?_) rfl (by kernel_rfl) (by kernel_rfl) (by kernel_rfl) (fun _ _ _ h => h) (Or.inl ⟨by rfl, ?_⟩) (by assumption) ?_
            rotate_left
            · intro w hSw; (try dsimp only at hSw); go_simp; try (with_reducible rfl)
            try go_simp
            refine wpAnyH_take (i := 3) (v := ?_) rfl (by kernel_rfl) (by kernel_rfl) (by kernel_rfl) (fun _ _ _ h => h) (Or.inl ⟨by rfl, ?_⟩) (by assumption) ?_
            rotate_left
            · intro w hSw; (try dsimp only at hSw); go_simp; try (with_reducible rfl)
            try go_simp
            refine wpAnyH_ready (rs := [4]) (by kernel_rfl) (by simp) ?_
            refine AllReadyH.cons rfl (fun K hK => ?_) AllReadyH.nil
            go_simp
            ((refine (limited_any mo most w22 hmo HMost.out).mono ?_); rintro e w23 ⟨rfl, hb23⟩)
            have hS9 := hHeld
            refine hK.out _ _ ⟨cell_stays hb23 hS9.1, cell_stays hb23 hS9.2.1, cell_stays hb23 hS9.2.2.1, cell_stays hb23 hS9.2.2.2.1, cell_stays hb23 hS9.2.2.2.2⟩ (fun hHeld => ?_)
            clear hK K hS9
            try go_simp
            have HB23 := Lib.hid (below_then HB22.out hb23)
            have HNb23 := Lib.hid (HNb22.out.below hb23)
            have HIn23 := Lib.hid (HIn22.out.below hb23)
            have HZ23 := Lib.hid (HZ22.out.below hb23)
            have HT23 := Lib.hid (HT22.out.below hb23)
            have HL23 := Lib.hid (HL22.out.below hb23)
            have HX23 := Lib.hid (HX22.out.below hb23)
            have HLi23 := Lib.hid (HLi22.out.below hb23)
            have HZx23 := Lib.hid (HZx22.out.below hb23)
            clear hb23
            refine wpAnyH_ready (rs := [5]) (by kernel_rfl) (by simp) ?_
            refine AllReadyH.cons rfl (fun K hK => ?_) AllReadyH.nil
            go_simp
            ((refine (HCv.out w23 HIn23.out HZ23.out HZx23.out HT23.out).mono ?_); rintro e w24 ⟨Aw21, wl1, cw21, rfl, hwl, hw0, hb24⟩)
            have hS9 := hHeld
            refine hK.out _ _ ⟨cell_stays hb24 hS9.1, cell_stays hb24 hS9.2.1, cell_stays hb24 hS9.2.2.1, cell_stays hb24 hS9.2.2.2.1, cell_stays hb24 hS9.2.2.2.2⟩ (fun hHeld => ?_)
            clear hK K hS9
            try go_simp
            have HB24 := Lib.hid (below_then HB23.out hb24)
            have HNb24 := Lib.hid (HNb23.out.below hb24)
            have HIn24 := Lib.hid (HIn23.out.below hb24)
            have HZ24 := Lib.hid (HZ23.out.below hb24)
            have HT24 := Lib.hid (HT23.out.below hb24)
            have HL24 := Lib.hid (HL23.out.below hb24)
            have HX24 := Lib.hid (HX23.out.below hb24)
            have HLi24 := Lib.hid (HLi23.out.below hb24)
            have HZx24 := Lib.hid (HZx23.out.below hb24)
            clear hb24
            refine wpAnyH_take (i := 6) (v := ?_) rfl (by kernel_rfl) (by kernel_rfl) (by kernel_rfl) (fun _ _ _ h => h) (Or.inl ⟨by rfl, ?_⟩) (by assumption) ?_
            rotate_left
            · intro w hSw; (try dsimp only at hSw); go_simp; try (with_reducible rfl)
            try go_simp
            refine wpAnyH_take (i := 7) (v := ?_) rfl (by kernel_rfl) (by kernel_rfl) (by kernel_rfl) (fun _ _ _ h => h) (Or.inl ⟨by rfl, ?_⟩) (by assumption) ?_
            rotate_left
            · intro w hSw; (try dsimp only at hSw); go_simp; try (with_reducible rfl)
            try go_simp
            refine wpAnyH_take (i := 8) (v := ?_) rfl (by kernel_rfl) (by kernel_rfl) (by kernel_rfl) (fun _ _ _ h => h) (Or.inl ⟨by rfl, ?_⟩) (by assumption) ?_
            rotate_left
            · intro w hSw; (try dsimp only at hSw); go_simp; try (with_reducible rfl)
            try go_simp
            refine wpAnyH_take (i := 9) (v := ?_) rfl (by kernel_rfl) (by kernel_rfl) (by kernel_rfl) (fun _ _ _ h => h) (Or.inl ⟨by rfl, ?_⟩) (by assumption) ?_
            rotate_left
            · intro w hSw; (try dsimp only at hSw); go_simp; try (with_reducible rfl)
            try go_simp
            refine wpAnyH_take (i := 10) (v := ?_) rfl (by kernel_rfl) (by kernel_rfl) (by kernel_rfl) (fun _ _ _ h => h) (Or.inl ⟨by rfl, ?_⟩) (by assumption) ?_
            rotate_left
            · intro w hSw; (try dsimp only at hSw); go_simp; try (with_reducible rfl)
            try go_simp
            refine wpAnyH_take (i := 11) (v := ?_) rfl (by kernel_rfl) (by kernel_rfl) (by kernel_rfl) (fun _ _ _ h => h) (Or.inl ⟨by rfl, ?_⟩) (by assumption) ?_
            rotate_left
            · intro w hSw; (try dsimp only at hSw); go_simp; try (with_reducible rfl)
            try go_simp
            refine wpAnyH_take (i := 12) (v := ?_) rfl (by kernel_rfl) (by kernel_rfl) (by kernel_rfl) (fun _ _ _ h => h) (Or.inl ⟨by rfl, ?_⟩) (by assumption) ?_
            rotate_left
            · intro w hSw; (try dsimp only at hSw); go_simp; try (with_reducible rfl)
            try go_simp
            refine wpAnyH_done (by kernel_rfl) ?_ _
            clear hHeld
            clear HB21 HNb21 HIn21 HZ21 HT21 HL21 HX21 HLi21 HZx21
            clear HB22 HNb22 HIn22 HZ22 HT22 HL22 HX22 HLi22 HZx22
            clear HB23 HNb23 HIn23 HZ23 HT23 HL23 HX23 HLi23 HZx23
            clear HCv HCe HAb21 hw21 hwl hw0
            obtain ⟨d0, d1, d2⟩ := HX24.out.cells
            go_wp2_with fail
            clear d0 d1 d2
            have HBl24 := Lib.hid (Below.refl w24.heap.size w24)
            obtain ⟨go1, rfl⟩ : ∃ go1, go1 = gk := ⟨_, rfl⟩
            have htl := HTl.out
            go_loopg [99] (T.states.length) (fun g iv wr => ∃ k : Nat, k + g = T.states.length ∧ iv = .int .i64 (k : Int) ∧ Below w24.heap.size w24 wr)
            case atStart => exact ⟨0, by omega, rfl, HBl24.out⟩
            case round =>
              obtain ⟨j, hj, rfl, hB⟩ := hrel
              have HJ := Lib.hid hj
              have HBl := Lib.hid hB
              have hjl : j ≤ T.states.length := by omega
              clear hj hB
              obtain ⟨w30, rfl⟩ : ∃ w30, w30 = wr := ⟨_, rfl⟩
              have HB30 := Lib.hid (below_then HB24.out HBl.out)
              have HNb30 := Lib.hid (HNb24.out.below HBl.out)
              have HIn30 := Lib.hid (HIn24.out.below HBl.out)
              have HZ30 := Lib.hid (HZ24.out.below HBl.out)
              have HT30 := Lib.hid (HT24.out.below HBl.out)
              have HL30 := Lib.hid (HL24.out.below HBl.out)
              have HX30 := Lib.hid (HX24.out.below HBl.out)
              have HLi30 := Lib.hid (HLi24.out.below HBl.out)
              clear HB24 HNb24 HIn24 HZ24 HT24 HL24 HX24 HLi24 HZx24
              obtain ⟨b0, b1, b2, b3⟩ := HNb30.out.cells
              obtain ⟨d0, d1, d2⟩ := HX30.out.cells
              by_cases hlt2 : j < T.states.length
              · obtain ⟨as_, rfl, hps2, u, e0, Au, nu, cu, rfl, zu, hul, huc, hud⟩ := HLi30.out j hlt2
                have hsm := List.getElem_mem hlt2
                have HSm := Lib.hid hsm
                have hln := HSl.out _ hsm
                generalize T.states[j] = Z at *
                have qn : ((nu : Int) != N.pl) = false := by rw [← hln, hul]; simp
                have HZu30 := Lib.hid zu
                have HUl := Lib.hid hul
                have HCo := Lib.hid (contains_om Au nu cu Z w30 zu hul (by omega))
                clear hsm hln zu hul
                cases ho : hasO Z with
                | true =>
                  rw [ho] at HCo
                  clear ho
                  go_wp2_with fail
                  ((with_reducible refine HCo.out.mono ?_); rintro e w31 ⟨rfl, hb31⟩)
                  have HBe := Lib.hid (below_then HBl.out hb31)
                  clear hb31
                  go_wp2_with fail
                  go_roundg (gk - 1)
                  case measure => have := HJ.out; omega
                  case rel => exact ⟨j + 1, by have := HJ.out; omega, by go_num, HBe.out⟩
                | false =>
                  rw [ho] at HCo
                  have HMz := Lib.hid (state_mk HMk.out HGr.out HSm.out ho)
                  clear ho
                  go_wp2_with fail
                  ((with_reducible refine HCo.out.mono ?_); rintro e w31 ⟨rfl, hb31⟩)
                  have HBl31 := Lib.hid (below_then HBl.out hb31)
                  have HB31 := Lib.hid (below_then HB30.out hb31)
                  have HNb31 := Lib.hid (HNb30.out.below hb31)
                  have HIn31 := Lib.hid (HIn30.out.below hb31)
                  have HZ31 := Lib.hid (HZ30.out.below hb31)
                  have HT31 := Lib.hid (HT30.out.below hb31)
                  have HL31 := Lib.hid (HL30.out.below hb31)
                  have HX31 := Lib.hid (HX30.out.below hb31)
                  have HLi31 := Lib.hid (HLi30.out.below hb31)
                  have HZu31 := Lib.hid (HZu30.out.below hb31)
                  clear HB30 HNb30 HIn30 HZ30 HT30 HL30 HX30 HLi30 HZu30
                  clear hb31 HCo HBl b0 b1 b2 b3 d0 d1 d2 e0
                  have HCv := Lib.hid (fun w' h1 h2 h3 h4 => cv_way (covers_any N A n c Am m cm M Au nu cu Z (most : Int) w' h1 HNl.out hn2 h2 HM.out hm1 hm2 h3 HUl.out huc hud h4) HMk.out HGr.out HMz.out hlm0 hlm ⟨Z, HSm.out, covB_refl Z⟩)
                  go_wp2_with fail
                  have hbd : Below w31.heap.size w31 w31.drew := (Below.refl _ _).drew
                  have HB32 := Lib.hid (below_then HB31.out hbd)
                  have HNb32 := Lib.hid (HNb31.out.below hbd)
                  have HIn32 := Lib.hid (HIn31.out.below hbd)
                  have HZ32 := Lib.hid (HZ31.out.below hbd)
                  have HT32 := Lib.hid (HT31.out.below hbd)
                  have HL32 := Lib.hid (HL31.out.below hbd)
                  have HX32 := Lib.hid (HX31.out.below hbd)
                  have HLi32 := Lib.hid (HLi31.out.below hbd)
                  have HZu32 := Lib.hid (HZu31.out.below hbd)
                  obtain ⟨b0, b1, b2, b3⟩ := HNb32.out.cells
                  have hS0 := And.intro b0 (And.intro b1 (And.intro b2 (b3)))
                  refine wp_region_held_drew (S := fun w' => w'.cell? ⟨w.heap.size, 0, none⟩ = some (.int .i64 N.pl) ∧ w'.cell? ⟨w.heap.size, 1, none⟩ = some (.slice A n c) ∧ w'.cell? ⟨w.heap.size, 2, none⟩ = some (.int .i64 N.src) ∧ w'.cell? ⟨w.heap.size, 3, none⟩ = some (.int .i64 N.snk)) (by kernel_rfl) hS0 (fun hHeld => ?_)
                  have HBl32 := Lib.hid (below_then HBl31.out hbd)
                  clear hS0 hbd b0 b1 b2 b3
                  generalize w31.drew = w32 at *
                  refine wpAnyH_take (i := 0) (v := ?_) rfl (by kernel_rfl) (by kernel_rfl) (by kernel_rfl) (fun _ _ _ h => h) (Or.inl ⟨by rfl, ?_⟩) (by assumption) ?_
                  rotate_left
                  · intro w hSw; (try dsimp only at hSw); go_simp; try (with_reducible rfl)
                  try go_simp
                  refine wpAnyH_take (i := 1) (v := ?_) rfl (by kernel_rfl) (by kernel_rfl) (by kernel_rfl) (fun _ _ _ h => h) (Or.inl ⟨by rfl, ?_⟩) (by assumption) ?_
                  rotate_left
                  · intro w hSw; (try dsimp only at hSw); go_simp; try (with_reducible rfl)
                  try go_simp
                  refine wpAnyH_take (i := 2) (v := ?_) rfl (by kernel_rfl) (by kernel_rfl) (by kernel_rfl) (fun _ _ _ h => h) (Or.inl ⟨by rfl, ?_⟩) (by assumption) ?_
                  rotate_left
                  · intro w hSw; (try dsimp only at hSw); go_simp; try (with_reducible rfl)
                  try go_simp
                  refine wpAnyH_take (i := 3) (v := ?_) rfl (by kernel_rfl) (by kernel_rfl) (by kernel_rfl) (fun _ _ _ h => h) (Or.inl ⟨by rfl, ?_⟩) (by assumption) ?_
                  rotate_left
                  · intro w hSw; (try dsimp only at hSw); go_simp; try (with_reducible rfl)
                  try go_simp
                  refine wpAnyH_ready (rs := [4]) (by kernel_rfl) (by simp) ?_
                  refine AllReadyH.cons rfl (fun K hK => ?_) AllReadyH.nil
                  go_simp
                  ((refine (limited_any mo most w32 hmo HMost.out).mono ?_); rintro e w33 ⟨rfl, hb33⟩)
                  have hS9 := hHeld
                  refine hK.out _ _ ⟨cell_stays hb33 hS9.1, cell_stays hb33 hS9.2.1, cell_stays hb33 hS9.2.2.1, cell_stays hb33 hS9.2.2.2⟩ (fun hHeld => ?_)
                  clear hK K hS9
                  try go_simp
                  have HB33 := Lib.hid (below_then HB32.out hb33)
                  have HNb33 := Lib.hid (HNb32.out.below hb33)
                  have HIn33 := Lib.hid (HIn32.out.below hb33)
                  have HZ33 := Lib.hid (HZ32.out.below hb33)
                  have HT33 := Lib.hid (HT32.out.below hb33)
                  have HL33 := Lib.hid (HL32.out.below hb33)
                  have HX33 := Lib.hid (HX32.out.below hb33)
                  have HLi33 := Lib.hid (HLi32.out.below hb33)
                  have HZu33 := Lib.hid (HZu32.out.below hb33)
                  have HBl33 := Lib.hid (below_then HBl32.out hb33)
                  clear hb33
                  refine wpAnyH_ready (rs := [5]) (by kernel_rfl) (by simp) ?_
                  refine AllReadyH.cons rfl (fun K hK => ?_) AllReadyH.nil
                  go_simp
                  ((refine (HCv.out w33 HIn33.out HZ33.out HZu33.out HT33.out).mono ?_); rintro e w34 ⟨Aw31, wl2, cw31, rfl, hwl, hw0, hb34⟩)
                  have hS9 := hHeld
                  refine hK.out _ _ ⟨cell_stays hb34 hS9.1, cell_stays hb34 hS9.2.1, cell_stays hb34 hS9.2.2.1, cell_stays hb34 hS9.2.2.2⟩ (fun hHeld => ?_)
                  clear hK K hS9
                  try go_simp
                  have HB34 := Lib.hid (below_then HB33.out hb34)
                  have HNb34 := Lib.hid (HNb33.out.below hb34)
                  have HIn34 := Lib.hid (HIn33.out.below hb34)
                  have HZ34 := Lib.hid (HZ33.out.below hb34)
                  have HT34 := Lib.hid (HT33.out.below hb34)
                  have HL34 := Lib.hid (HL33.out.below hb34)
                  have HX34 := Lib.hid (HX33.out.below hb34)
                  have HLi34 := Lib.hid (HLi33.out.below hb34)
                  have HZu34 := Lib.hid (HZu33.out.below hb34)
                  have HBl34 := Lib.hid (below_then HBl33.out hb34)
                  clear hb34
                  refine wpAnyH_take (i := 6) (v := ?_) rfl (by kernel_rfl) (by kernel_rfl) (by kernel_rfl) (fun _ _ _ h => h) (Or.inl ⟨by rfl, ?_⟩) (by assumption) ?_
                  rotate_left
                  · intro w hSw; (try dsimp only at hSw); go_simp; try (with_reducible rfl)
                  try go_simp
                  refine wpAnyH_take (i := 7) (v := ?_) rfl (by kernel_rfl) (by kernel_rfl) (by kernel_rfl) (fun _ _ _ h => h) (Or.inl ⟨by rfl, ?_⟩) (by assumption) ?_
                  rotate_left
                  · intro w hSw; (try dsimp only at hSw); go_simp; try (with_reducible rfl)
                  try go_simp
                  refine wpAnyH_take (i := 8) (v := ?_) rfl (by kernel_rfl) (by kernel_rfl) (by kernel_rfl) (fun _ _ _ h => h) (Or.inl ⟨by rfl, ?_⟩) (by assumption) ?_
                  rotate_left
                  · intro w hSw; (try dsimp only at hSw); go_simp; try (with_reducible rfl)
                  try go_simp
                  refine wpAnyH_take (i := 9) (v := ?_) rfl (by kernel_rfl) (by kernel_rfl) (by kernel_rfl) (fun _ _ _ h => h) (Or.inl ⟨by rfl, ?_⟩) (by assumption) ?_
                  rotate_left
                  · intro w hSw; (try dsimp only at hSw); go_simp; try (with_reducible rfl)
                  try go_simp
                  refine wpAnyH_take (i := 10) (v := ?_) rfl (by kernel_rfl) (by kernel_rfl) (by kernel_rfl) (fun _ _ _ h => h) (Or.inl ⟨by rfl, ?_⟩) (by assumption) ?_
                  rotate_left
                  · intro w hSw; (try dsimp only at hSw); go_simp; try (with_reducible rfl)
                  try go_simp
                  refine wpAnyH_take (i := 11) (v := ?_) rfl (by kernel_rfl) (by kernel_rfl) (by kernel_rfl) (fun _ _ _ h => h) (Or.inl ⟨by rfl, ?_⟩) (by assumption) ?_
                  rotate_left
                  · intro w hSw; (try dsimp only at hSw); go_simp; try (with_reducible rfl)
                  try go_simp
                  refine wpAnyH_take (i := 12) (v := ?_) rfl (by kernel_rfl) (by kernel_rfl) (by kernel_rfl) (fun _ _ _ h => h) (Or.inl ⟨by rfl, ?_⟩) (by assumption) ?_
                  rotate_left
                  · intro w hSw; (try dsimp only at hSw); go_simp; try (with_reducible rfl)
                  try go_simp
                  refine wpAnyH_done (by kernel_rfl) ?_ _
                  clear hHeld
                  clear HB31 HNb31 HIn31 HZ31 HT31 HL31 HX31 HLi31 HZu31
                  clear HB32 HNb32 HIn32 HZ32 HT32 HL32 HX32 HLi32 HZu32
                  clear HB33 HNb33 HIn33 HZ33 HT33 HL33 HX33 HLi33 HZu33
                  obtain ⟨d0, d1, d2⟩ := HX34.out.cells
                  have ql : decide (((movesOf T).length : Int) < (wl2 : Int)) = false := by simp; omega
                  have ql2 : decide ((movesOf T).length < wl2) = false := by simp; omega
                  clear hw0 hwl
                  go_wp2_with fail
                  go_roundg (gk - 1)
                  case measure => have := HJ.out; omega
                  case rel => exact ⟨j + 1, by have := HJ.out; omega, by go_num, HBl34.out⟩
              · have d8 : decide (j < T.states.length) = false := by simpa using hlt2
                clear b0 b1 b2 b3 d0 d1 d2
                have HCv := Lib.hid (fun w' h1 h2 h4 => cv_way (covers_any N A n c Am m cm M Am m cm M (most : Int) w' h1 HNl.out hn2 h2 HM.out hm1 hm2 h2 HM.out hm1 hm2 h4) HMk.out HGr.out HMk.out hlm0 hlm ⟨M, List.mem_of_getElem? (grow_good HMk.out HGr.out).1.one, covB_refl M⟩)
                go_wp2_with fail
                have hbd : Below w30.heap.size w30 w30.drew := (Below.refl _ _).drew
                have HB31 := Lib.hid (below_then HB30.out hbd)
                have HNb31 := Lib.hid (HNb30.out.below hbd)
                have HIn31 := Lib.hid (HIn30.out.below hbd)
                have HZ31 := Lib.hid (HZ30.out.below hbd)
                have HT31 := Lib.hid (HT30.out.below hbd)
                have HL31 := Lib.hid (HL30.out.below hbd)
                have HX31 := Lib.hid (HX30.out.below hbd)
                have HLi31 := Lib.hid (HLi30.out.below hbd)
                obtain ⟨b0, b1, b2, b3⟩ := HNb31.out.cells
                have hS0 := And.intro b0 (And.intro b1 (And.intro b2 (b3)))
                refine wp_region_held_drew (S := fun w' => w'.cell? ⟨w.heap.size, 0, none⟩ = some (.int .i64 N.pl) ∧ w'.cell? ⟨w.heap.size, 1, none⟩ = some (.slice A n c) ∧ w'.cell? ⟨w.heap.size, 2, none⟩ = some (.int .i64 N.src) ∧ w'.cell? ⟨w.heap.size, 3, none⟩ = some (.int .i64 N.snk)) (by kernel_rfl) hS0 (fun hHeld => ?_)
                clear hS0 hbd b0 b1 b2 b3
                generalize w30.drew = w31 at *
                refine wpAnyH_take (i := 0) (v := ?_) rfl (by kernel_rfl) (by kernel_rfl) (by kernel_rfl) (fun _ _ _ h => h) (Or.inl ⟨by rfl, ?_⟩) (by assumption) ?_
                rotate_left
                · intro w hSw; (try dsimp only at hSw); go_simp; try (with_reducible rfl)
                try go_simp
                refine wpAnyH_take (i := 1) (v := ?_) rfl (by kernel_rfl) (by kernel_rfl) (by kernel_rfl) (fun _ _ _ h => h) (Or.inl ⟨by rfl, ?_⟩) (by assumption) ?_
                rotate_left
                · intro w hSw; (try dsimp only at hSw); go_simp; try (with_reducible rfl)
                try go_simp
                refine wpAnyH_take (i := 2) (v := ?_) rfl (by kernel_rfl) (by kernel_rfl) (by kernel_rfl) (fun _ _ _ h => h) (Or.inl ⟨by rfl, ?_⟩) (by assumption) ?_
                rotate_left
                · intro w hSw; (try dsimp only at hSw); go_simp; try (with_reducible rfl)
                try go_simp
                refine wpAnyH_take (i := 3) (v := ?_) rfl (by kernel_rfl) (by kernel_rfl) (by kernel_rfl) (fun _ _ _ h => h) (Or.inl ⟨by rfl, ?_⟩) (by assumption) ?_
                rotate_left
                · intro w hSw; (try dsimp only at hSw); go_simp; try (with_reducible rfl)
                try go_simp
                refine wpAnyH_ready (rs := [4]) (by kernel_rfl) (by simp) ?_
                refine AllReadyH.cons rfl (fun K hK => ?_) AllReadyH.nil
                go_simp
                ((refine (limited_any mo most w31 hmo HMost.out).mono ?_); rintro e w32 ⟨rfl, hb32⟩)
                have hS9 := hHeld
                refine hK.out _ _ ⟨cell_stays hb32 hS9.1, cell_stays hb32 hS9.2.1, cell_stays hb32 hS9.2.2.1, cell_stays hb32 hS9.2.2.2⟩ (fun hHeld => ?_)
                clear hK K hS9
                try go_simp
                have HB32 := Lib.hid (below_then HB31.out hb32)
                have HNb32 := Lib.hid (HNb31.out.below hb32)
                have HIn32 := Lib.hid (HIn31.out.below hb32)
                have HZ32 := Lib.hid (HZ31.out.below hb32)
                have HT32 := Lib.hid (HT31.out.below hb32)
                have HL32 := Lib.hid (HL31.out.below hb32)
                have HX32 := Lib.hid (HX31.out.below hb32)
                have HLi32 := Lib.hid (HLi31.out.below hb32)
                clear hb32
                refine wpAnyH_ready (rs := [5]) (by kernel_rfl) (by simp) ?_
                refine AllReadyH.cons rfl (fun K hK => ?_) AllReadyH.nil
                go_simp
                ((refine (HCv.out w32 HIn32.out HZ32.out HT32.out).mono ?_); rintro e w33 ⟨Aw30, wl3, cw30, rfl, hwl, hw0, hb33⟩)
                have hS9 := hHeld
                refine hK.out _ _ ⟨cell_stays hb33 hS9.1, cell_stays hb33 hS9.2.1, cell_stays hb33 hS9.2.2.1, cell_stays hb33 hS9.2.2.2⟩ (fun hHeld => ?_)
                clear hK K hS9
                try go_simp
                have HB33 := Lib.hid (below_then HB32.out hb33)
                have HNb33 := Lib.hid (HNb32.out.below hb33)
                have HIn33 := Lib.hid (HIn32.out.below hb33)
                have HZ33 := Lib.hid (HZ32.out.below hb33)
                have HT33 := Lib.hid (HT32.out.below hb33)
                have HL33 := Lib.hid (HL32.out.below hb33)
                have HX33 := Lib.hid (HX32.out.below hb33)
                have HLi33 := Lib.hid (HLi32.out.below hb33)
                clear hb33
                refine wpAnyH_take (i := 6) (v := ?_) rfl (by kernel_rfl) (by kernel_rfl) (by kernel_rfl) (fun _ _ _ h => h) (Or.inl ⟨by rfl, ?_⟩) (by assumption) ?_
                rotate_left
                · intro w hSw; (try dsimp only at hSw); go_simp; try (with_reducible rfl)
                try go_simp
                refine wpAnyH_take (i := 7) (v := ?_) rfl (by kernel_rfl) (by kernel_rfl) (by kernel_rfl) (fun _ _ _ h => h) (Or.inl ⟨by rfl, ?_⟩) (by assumption) ?_
                rotate_left
                · intro w hSw; (try dsimp only at hSw); go_simp; try (with_reducible rfl)
                try go_simp
                refine wpAnyH_take (i := 8) (v := ?_) rfl (by kernel_rfl) (by kernel_rfl) (by kernel_rfl) (fun _ _ _ h => h) (Or.inl ⟨by rfl, ?_⟩) (by assumption) ?_
                rotate_left
                · intro w hSw; (try dsimp only at hSw); go_simp; try (with_reducible rfl)
                try go_simp
                refine wpAnyH_take (i := 9) (v := ?_) rfl (by kernel_rfl) (by kernel_rfl) (by kernel_rfl) (fun _ _ _ h => h) (Or.inl ⟨by rfl, ?_⟩) (by assumption) ?_
                rotate_left
                · intro w hSw; (try dsimp only at hSw); go_simp; try (with_reducible rfl)
                try go_simp
                refine wpAnyH_take (i := 10) (v := ?_) rfl (by kernel_rfl) (by kernel_rfl) (by kernel_rfl) (fun _ _ _ h => h) (Or.inl ⟨by rfl, ?_⟩) (by assumption) ?_
                rotate_left
                · intro w hSw; (try dsimp only at hSw); go_simp; try (with_reducible rfl)
                try go_simp
                refine wpAnyH_take (i := 11) (v := ?_) rfl (by kernel_rfl) (by kernel_rfl) (by kernel_rfl) (fun _ _ _ h => h) (Or.inl ⟨by rfl, ?_⟩) (by assumption) ?_
                rotate_left
                · intro w hSw; (try dsimp only at hSw); go_simp; try (with_reducible rfl)
                try go_simp
                refine wpAnyH_take (i := 12) (v := ?_) rfl (by kernel_rfl) (by kernel_rfl) (by kernel_rfl) (fun _ _ _ h => h) (Or.inl ⟨by rfl, ?_⟩) (by assumption) ?_
                rotate_left
                · intro w hSw; (try dsimp only at hSw); go_simp; try (with_reducible rfl)
                try go_simp
                refine wpAnyH_done (by kernel_rfl) ?_ _
                clear hHeld
                clear HB30 HNb30 HIn30 HZ30 HT30 HL30 HX30 HLi30
                clear HB31 HNb31 HIn31 HZ31 HT31 HL31 HX31 HLi31
                clear HB32 HNb32 HIn32 HZ32 HT32 HL32 HX32 HLi32
                have hw00 := hw0 rfl
                subst hw00
                clear hw0 hwl
                go_wp2_with fail
                go_ret
                exact ⟨rfl, HB33.out⟩
end Go.Proofs.YtjojmmabcjccdaaDoor
