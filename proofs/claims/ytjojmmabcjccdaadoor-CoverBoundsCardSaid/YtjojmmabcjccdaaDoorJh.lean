/- CoverBounds: the walk through the statement. -/
import Derived.Test.YtjojmmabcjccdaaDoorJg
namespace Go.Proofs.YtjojmmabcjccdaaDoor
open Go.RowKit

set_option maxHeartbeats 25600000 in
set_option maxRecDepth 100000 in
theorem coverBounds_walk (N : Nt) (A : Option Addr) (n c : Nat) (Am : Option Addr) (m cm : Nat) (M : List Int) (At : Option Addr) (t ct : Nat) (L : List Int) (place most : Int) (w : World) (ht : Tb w) (h : NtIn w A N) (hn : N.tr.length = n) (hn2 : n ≤ 9223372036854775807) (hM : ZIn w Am M) (hm : M.length = m) (hm1 : m ≤ cm) (hm2 : cm ≤ 9223372036854775807) (_hz : ∀ z ∈ M, -9223372036854775808 ≤ z ∧ z ≤ 9223372036854775807) (hL : ZIn w At L) (hl : L.length = t) (hl1 : t ≤ ct) (hl2 : ct ≤ 9223372036854775807) (_hlz : ∀ z ∈ L, -9223372036854775808 ≤ z ∧ z ≤ 9223372036854775807) (_b : -9223372036854775808 ≤ place) (_B : place ≤ 9223372036854775807) (_b2 : -9223372036854775808 ≤ most) (_B2 : most ≤ 9223372036854775807) :
    Calls Tryd.prog 5 #[.agg #[.int .i64 N.pl, .slice A n c, .int .i64 N.src, .int .i64 N.snk], .slice Am m cm, .slice At t ct, .int .i64 place, .int .i64 most] w fun e w' => e = .returned (.bool true) ∧ Below w.heap.size w w' := by
  have HLz := Lib.hid hL
  have HLl := Lib.hid hl
  clear hL hl
  have hBL := below_alloc w (.cells #[.int .i64 N.pl, .slice A n c, .int .i64 N.src, .int .i64 N.snk] 24)
  have HL0 := Lib.hid (HLz.out.below hBL)
  clear hBL
  have HB := Lib.hid (below_alloc w (.cells #[.int .i64 N.pl, .slice A n c, .int .i64 N.src, .int .i64 N.snk] 24))
  have HNb := Lib.hid (NB.new w N.pl A n c N.src N.snk)
  have HIn := Lib.hid (h.below HB.out)
  have HZ := Lib.hid (hM.below HB.out)
  have HT := Lib.hid (ht.below HB.out)
  have HM := Lib.hid hm
  have HNl := Lib.hid hn
  clear h hM ht hm hn
  go_enter Tryd.func5, Tryd.ntmps5
  go_wp2_with fail
  generalize w.alloc _ = w0 at *
  have HAw := Lib.hid (awake_any w0 HT.out)
  ((with_reducible refine HAw.out.mono ?_); rintro e w1 ⟨rfl, hb1⟩)
  have HL1 := Lib.hid (HL0.out.below hb1)
  have HB1 := Lib.hid (below_then HB.out hb1)
  have HNb1 := Lib.hid (HNb.out.below hb1)
  have HIn1 := Lib.hid (HIn.out.below hb1)
  have HZ1 := Lib.hid (HZ.out.below hb1)
  have HT1 := Lib.hid (HT.out.below hb1)
  clear HAw hb1 HB HNb HIn HZ HT
  obtain ⟨b0, b1, b2, b3⟩ := HNb1.out.cells
  have HSm := Lib.hid (small_any N A n c Am m cm w1 HIn1.out HNl.out hn2)
  go_wp2_with fail
  ((with_reducible refine HSm.out.mono ?_); rintro e w2 ⟨b, rfl, hb2⟩)
  have HL2 := Lib.hid (HL1.out.below hb2)
  have HB2 := Lib.hid (below_then HB1.out hb2)
  have HNb2 := Lib.hid (HNb1.out.below hb2)
  have HIn2 := Lib.hid (HIn1.out.below hb2)
  have HZ2 := Lib.hid (HZ1.out.below hb2)
  have HT2 := Lib.hid (HT1.out.below hb2)
  clear HSm hb2 HB1 HNb1 HIn1 HZ1 HT1 b0 b1 b2 b3
  obtain ⟨b0, b1, b2, b3⟩ := HNb2.out.cells
  have HAw := Lib.hid (awake_any w2 HT2.out)
  obtain ⟨i0, hi, hz0, hz1, hz2⟩ := info_parts intInfo
  have HI := Lib.hid (And.intro hi (And.intro hz0 (And.intro hz1 hz2)))
  clear hi hz0 hz1 hz2
  cases b with
  | false =>
    go_wp2_with fail
    ((with_reducible refine HAw.out.mono ?_); rintro e w3 ⟨rfl, hb3⟩)
    have HB3 := Lib.hid (below_then HB2.out hb3)
    go_wp2_with fail
    go_ret
    exact ⟨rfl, HB3.out⟩
  | true =>
    by_cases h12 : 12 < t
    · have q6 : decide ((12 : Int) < (t : Int)) = true := by simp; omega
      clear h12
      go_wp2_with fail
      ((with_reducible refine HAw.out.mono ?_); rintro e w3 ⟨rfl, hb3⟩)
      have HB3 := Lib.hid (below_then HB2.out hb3)
      go_wp2_with fail
      go_ret
      exact ⟨rfl, HB3.out⟩
    have q12 : decide ((12 : Int) < (t : Int)) = false := by simp; omega
    have ht12 : t ≤ 12 := by omega
    clear h12
    rcases bounds_parts N M L place most with ⟨f, fp, g, hf, hf0, hfp, hfp0, hbn, hfg, hg0, hcv⟩ | ⟨hf0, hmk, hmo1, hmo2, hpl, htg⟩
    · have HF0 := Lib.hid hf0
      have HFp := Lib.hid hfp
      have HFg := Lib.hid hfg
      have HBn0 := Lib.hid hbn
      have HCv0 := Lib.hid hcv
      have qf : (f == 0) = false := by rw [beq_eq_false_iff_ne]; exact hf
      have qp : (fp != 0) = true := by rw [bne_iff_ne]; exact hfp0
      have qg : (g != 0) = true := by rw [bne_iff_ne]; exact hg0
      clear hf hf0 hfp hfp0 hbn hfg hg0 hcv
      by_cases h6 : 60 < most
      · by_cases h10 : most ≤ 1000
        · have q6 : decide (60 < most) = true := by simpa using h6
          have q10 : decide (most ≤ 1000) = true := by simpa using h10
          clear h6 h10
          go_wp2_with fail
          ((with_reducible refine HAw.out.mono ?_); rintro e w3 ⟨rfl, hb3⟩)
          have HB3 := Lib.hid (below_then HB2.out hb3)
          go_wp2_with fail
          go_ret
          exact ⟨rfl, HB3.out⟩
        · have q6 : decide (60 < most) = true := by simpa using h6
          have q10 : decide (most ≤ 1000) = false := by simpa using h10
          clear h6 h10
          have HBn := Lib.hid (bn_no (bound_any N A n c Am m cm M place most w2 HIn2.out HNl.out hn2 HZ2.out HM.out hm1 hm2 HT2.out) HBn0.out)
          clear HAw
          go_wp2_with fail
          ((with_reducible refine HBn.out.mono ?_); rintro e w3 ⟨rfl, hb3⟩)
          have HB3 := Lib.hid (below_then HB2.out hb3)
          have HNb3 := Lib.hid (HNb2.out.below hb3)
          have HIn3 := Lib.hid (HIn2.out.below hb3)
          have HZ3 := Lib.hid (HZ2.out.below hb3)
          have HT3 := Lib.hid (HT2.out.below hb3)
          have HL3 := Lib.hid (HL2.out.below hb3)
          clear hb3 HBn b0 b1 b2 b3
          clear HB2 HNb2 HIn2 HZ2 HT2 HL2
          obtain ⟨b0, b1, b2, b3⟩ := HNb3.out.cells
          have HCv := Lib.hid (cv_err (covers_any N A n c Am m cm M At t ct L most w3 HIn3.out HNl.out hn2 HZ3.out HM.out hm1 hm2 HL3.out HLl.out hl1 hl2 HT3.out) HCv0.out)
          go_wp2_with fail
          ((with_reducible refine HCv.out.mono ?_); rintro e w4 ⟨rfl, hb4⟩)
          have HB4 := Lib.hid (below_then HB3.out hb4)
          have HNb4 := Lib.hid (HNb3.out.below hb4)
          have HIn4 := Lib.hid (HIn3.out.below hb4)
          have HZ4 := Lib.hid (HZ3.out.below hb4)
          have HT4 := Lib.hid (HT3.out.below hb4)
          have HL4 := Lib.hid (HL3.out.below hb4)
          clear hb4 HCv b0 b1 b2 b3
          clear HB3 HNb3 HIn3 HZ3 HT3 HL3
          have HA := Lib.hid (below_alloc w4 (.cells #[.slice none 0 0, .slice none 0 0, .bool false] 31))
          have HX := Lib.hid (SpB.new w4 (.slice none 0 0) (.slice none 0 0) false)
          obtain ⟨b0, b1, b2, b3⟩ := HNb4.out.cells
          have hlt4 := HNb4.out.lt
          have HFa := Lib.hid (fault_nil N A n c Am m cm M 0 most _ (HIn4.out.below HA.out) HNl.out hn2 (HZ4.out.below HA.out) HM.out (by omega))
          rw [HF0.out] at HFa
          go_wp2_with fail
          ((with_reducible refine HFa.out.mono ?_); rintro e w5 ⟨rfl, hb5⟩)
          have hb45 := below_then HA.out hb5
          have HB5 := Lib.hid (below_then HB4.out hb45)
          have HNb5 := Lib.hid (HNb4.out.below hb45)
          have HIn5 := Lib.hid (HIn4.out.below hb45)
          have HZ5 := Lib.hid (HZ4.out.below hb45)
          have HT5 := Lib.hid (HT4.out.below hb45)
          have HL5 := Lib.hid (HL4.out.below hb45)
          have HX5 := Lib.hid (HX.out.below hb5)
          have hsw : w.heap.size < w4.heap.size := hlt4
          have HB45 := Lib.hid hb45
          clear hb45 hb5 HFa HA HX hlt4 b0 b1 b2 b3
          obtain ⟨b0, b1, b2, b3⟩ := HNb5.out.cells
          obtain ⟨sb, hsb⟩ : ∃ sb, w4.heap.size = sb := ⟨_, rfl⟩
          rw [hsb] at HX5 hsw ⊢
          have HFq := Lib.hid (fault_nil N A n c Am m cm M place most _ HIn5.out HNl.out hn2 HZ5.out HM.out (by omega))
          rw [HFp.out] at HFq
          go_wp2_with fail
          ((with_reducible refine HFq.out.mono ?_); rintro e w8 ⟨rfl, hb8⟩)
          have HB8 := Lib.hid (below_then HB5.out hb8)
          have HNb8 := Lib.hid (HNb5.out.below hb8)
          have HIn8 := Lib.hid (HIn5.out.below hb8)
          have HZ8 := Lib.hid (HZ5.out.below hb8)
          have HT8 := Lib.hid (HT5.out.below hb8)
          have HL8 := Lib.hid (HL5.out.below hb8)
          have HX8 := Lib.hid (HX5.out.below hb8)
          clear hb8 HFq HX5 b0 b1 b2 b3
          clear HB5 HNb5 HIn5 HZ5 HT5 HL5
          obtain ⟨x0, x1, x2⟩ := HX8.out.cells
          go_wp2_with fail
          clear x0 x1 x2
          have hbd : Below w8.heap.size w8 w8.drew := (Below.refl _ _).drew
          have HB10 := Lib.hid (below_then HB8.out hbd)
          have HNb10 := Lib.hid (HNb8.out.below hbd)
          have HIn10 := Lib.hid (HIn8.out.below hbd)
          have HZ10 := Lib.hid (HZ8.out.below hbd)
          have HT10 := Lib.hid (HT8.out.below hbd)
          have HL10 := Lib.hid (HL8.out.below hbd)
          have HX10 := Lib.hid (HX8.out.below hbd)
          obtain ⟨s0, s1, s2, s3⟩ := HNb10.out.cells
          have hS0 := And.intro s0 (And.intro s1 (And.intro s2 s3))
          refine wp_region_held_drew (S := fun w' => w'.cell? ⟨w.heap.size, 0, none⟩ = some (.int .i64 N.pl) ∧ w'.cell? ⟨w.heap.size, 1, none⟩ = some (.slice A n c) ∧ w'.cell? ⟨w.heap.size, 2, none⟩ = some (.int .i64 N.src) ∧ w'.cell? ⟨w.heap.size, 3, none⟩ = some (.int .i64 N.snk)) (by kernel_rfl) hS0 (fun hHeld => ?_)
          clear hS0 hbd s0 s1 s2 s3 HX8
          clear HB8 HNb8 HIn8 HZ8 HT8 HL8
          generalize w8.drew = wd at *
          refine wpAnyH_take (i := 0) (v := ?_) rfl (by kernel_rfl) (by kernel_rfl) (by kernel_rfl) (fun _ _ _ h => h) (Or.inl ⟨by rfl, ?_⟩) (by assumption) ?_
          rotate_left
          · intro w hSw; (try dsimp only at hSw); go_simp; try (with_reducible rfl)
          try go_simp
          refine wpAnyH_take (i := 1) (v := ?_) rfl (by kernel_rfl) (by kernel_rfl) (by kernel_rfl) (fun _ _ _ h => h) (Or.inl ⟨by rfl, ?_⟩) (by assumption) ?_
          rotate_left
          · intro w hSw; (try dsimp only at hSw); go_simp; try (with_reducible rfl)
          try go_simp
          refine wpAnyH_take (i := 3) (v := ?_) rfl (by kernel_rfl) (by kernel_rfl) (by kernel_rfl) (fun _ _ _ h => h) (Or.inl ⟨by rfl, ?_⟩) (by assumption) ?_
          rotate_left
          · intro w hSw; (try dsimp only at hSw); go_simp; try (with_reducible rfl)
          try go_simp
          refine wpAnyH_take (i := 5) (v := ?_) rfl (by kernel_rfl) (by kernel_rfl) (by kernel_rfl) (fun _ _ _ h => h) (Or.inl ⟨by rfl, ?_⟩) (by assumption) ?_
          rotate_left
          · intro w hSw; (try dsimp only at hSw); go_simp; try (with_reducible rfl)
          try go_simp
          have hS0 := hHeld
          refine wpAnyH_ready (rs := [2]) (by kernel_rfl) (by simp) ?_
          refine AllReadyH.cons rfl (fun K hK => ?_) AllReadyH.nil
          go_simp
          skip
          refine hK.out _ _ (⟨cell_stays (below_alloc _ _) hS0.1, cell_stays (below_alloc _ _) hS0.2.1, cell_stays (below_alloc _ _) hS0.2.2.1, cell_stays (below_alloc _ _) hS0.2.2.2⟩) (fun hHeld => ?_)
          clear hK K
          try go_simp
          refine wpAnyH_ready (rs := [4]) (by kernel_rfl) (by simp) ?_
          refine AllReadyH.cons rfl (fun K hK => ?_) AllReadyH.nil
          refine step_append_rd rfl _ _ 25 rfl wd.heap.size 3 i0 (.int .i64 0) 8 Tryd.underlying25 HI.out.1 HI.out.2.1 HI.out.2.2.1 HI.out.2.2.2 rfl (.slice (some ⟨wd.heap.size, 0, none⟩) 0 0) 0 [] rfl (own_lit0 wd) (by simp) At t ct L rfl (HL10.out.below (below_alloc wd _)) HLl.out ?c3 ?c4 ?c5 ?_
          case c3 => unfold maxLen; omega
          case c4 => omega
          case c5 => simp
          intro v11 w11 hown hgrow hne
          have hNS : NS wd w11 v11 L := ⟨by have h1 := hown; rw [Nat.zero_add, List.nil_append, ← HLl.out] at h1; exact h1, (below_alloc wd _).grown hgrow (by simp) (fun k hk => by cases hk; exact Nat.le_refl _)⟩
          obtain ⟨A11, c11, hz11, hzz, _, _⟩ := hNS.zin
          subst hz11
          obtain ⟨at11, rfl⟩ := ns_some hNS hne
          have hb11 := hNS.2
          refine hK.out _ _ ⟨cell_stays hb11 hS0.1, cell_stays hb11 hS0.2.1, cell_stays hb11 hS0.2.2.1, cell_stays hb11 hS0.2.2.2⟩ (fun hHeld => ?_)
          clear hK K
          rw [HLl.out]
          try go_simp
          have HB11 := Lib.hid (below_then HB10.out hb11)
          have HNb11 := Lib.hid (HNb10.out.below hb11)
          have HIn11 := Lib.hid (HIn10.out.below hb11)
          have HZ11 := Lib.hid (HZ10.out.below hb11)
          have HT11 := Lib.hid (HT10.out.below hb11)
          have HL11 := Lib.hid (HL10.out.below hb11)
          have HX11 := Lib.hid (HX10.out.below hb11)
          have HFt := Lib.hid (fault_tg N A n c Am m cm M at11 t c11 L 0 most w11 HIn11.out HNl.out hn2 HZ11.out HM.out (by omega) hzz HLl.out (by omega))
          rw [HFg.out] at HFt
          have hS1 := hHeld
          clear hS0 hown hgrow hne hNS hzz hb11 HX10
          clear HB10 HNb10 HIn10 HZ10 HT10 HL10
          refine wpAnyH_ready (rs := [6]) (by kernel_rfl) (by simp) ?_
          refine AllReadyH.cons rfl (fun K hK => ?_) AllReadyH.nil
          go_simp
          ((refine HFt.out.mono ?_); rintro e w12 ⟨rfl, hb12⟩)
          refine hK.out _ _ (⟨cell_stays hb12 hS1.1, cell_stays hb12 hS1.2.1, cell_stays hb12 hS1.2.2.1, cell_stays hb12 hS1.2.2.2⟩) (fun hHeld => ?_)
          clear hK K
          try go_simp
          have HB12 := Lib.hid (below_then HB11.out hb12)
          have HNb12 := Lib.hid (HNb11.out.below hb12)
          have HIn12 := Lib.hid (HIn11.out.below hb12)
          have HZ12 := Lib.hid (HZ11.out.below hb12)
          have HT12 := Lib.hid (HT11.out.below hb12)
          have HL12 := Lib.hid (HL11.out.below hb12)
          have HX12 := Lib.hid (HX11.out.below hb12)
          refine wpAnyH_take (i := 7) (v := ?_) rfl (by kernel_rfl) (by kernel_rfl) (by kernel_rfl) (fun _ _ _ h => h) (Or.inl ⟨by rfl, ?_⟩) (by assumption) ?_
          rotate_left
          · intro w hSw; (try dsimp only at hSw); go_simp; try (with_reducible rfl)
          try go_simp
          refine wpAnyH_done (by kernel_rfl) ?_ _
          clear hHeld hS1 hb12 HFt HX11
          clear HB11 HNb11 HIn11 HZ11 HT11 HL11
          go_wp2_with fail
          go_ret
          exact ⟨ret_bool (by simp), HB12.out⟩
      · have q6 : decide (60 < most) = false := by simpa using h6
        clear h6
        have HBn := Lib.hid (bn_no (bound_any N A n c Am m cm M place most w2 HIn2.out HNl.out hn2 HZ2.out HM.out hm1 hm2 HT2.out) HBn0.out)
        clear HAw
        go_wp2_with fail
        ((with_reducible refine HBn.out.mono ?_); rintro e w3 ⟨rfl, hb3⟩)
        have HB3 := Lib.hid (below_then HB2.out hb3)
        have HNb3 := Lib.hid (HNb2.out.below hb3)
        have HIn3 := Lib.hid (HIn2.out.below hb3)
        have HZ3 := Lib.hid (HZ2.out.below hb3)
        have HT3 := Lib.hid (HT2.out.below hb3)
        have HL3 := Lib.hid (HL2.out.below hb3)
        clear hb3 HBn b0 b1 b2 b3
        clear HB2 HNb2 HIn2 HZ2 HT2 HL2
        obtain ⟨b0, b1, b2, b3⟩ := HNb3.out.cells
        have HCv := Lib.hid (cv_err (covers_any N A n c Am m cm M At t ct L most w3 HIn3.out HNl.out hn2 HZ3.out HM.out hm1 hm2 HL3.out HLl.out hl1 hl2 HT3.out) HCv0.out)
        go_wp2_with fail
        ((with_reducible refine HCv.out.mono ?_); rintro e w4 ⟨rfl, hb4⟩)
        have HB4 := Lib.hid (below_then HB3.out hb4)
        have HNb4 := Lib.hid (HNb3.out.below hb4)
        have HIn4 := Lib.hid (HIn3.out.below hb4)
        have HZ4 := Lib.hid (HZ3.out.below hb4)
        have HT4 := Lib.hid (HT3.out.below hb4)
        have HL4 := Lib.hid (HL3.out.below hb4)
        clear hb4 HCv b0 b1 b2 b3
        clear HB3 HNb3 HIn3 HZ3 HT3 HL3
        have HA := Lib.hid (below_alloc w4 (.cells #[.slice none 0 0, .slice none 0 0, .bool false] 31))
        have HX := Lib.hid (SpB.new w4 (.slice none 0 0) (.slice none 0 0) false)
        obtain ⟨b0, b1, b2, b3⟩ := HNb4.out.cells
        have hlt4 := HNb4.out.lt
        have HFa := Lib.hid (fault_nil N A n c Am m cm M 0 most _ (HIn4.out.below HA.out) HNl.out hn2 (HZ4.out.below HA.out) HM.out (by omega))
        rw [HF0.out] at HFa
        go_wp2_with fail
        ((with_reducible refine HFa.out.mono ?_); rintro e w5 ⟨rfl, hb5⟩)
        have hb45 := below_then HA.out hb5
        have HB5 := Lib.hid (below_then HB4.out hb45)
        have HNb5 := Lib.hid (HNb4.out.below hb45)
        have HIn5 := Lib.hid (HIn4.out.below hb45)
        have HZ5 := Lib.hid (HZ4.out.below hb45)
        have HT5 := Lib.hid (HT4.out.below hb45)
        have HL5 := Lib.hid (HL4.out.below hb45)
        have HX5 := Lib.hid (HX.out.below hb5)
        have hsw : w.heap.size < w4.heap.size := hlt4
        have HB45 := Lib.hid hb45
        clear hb45 hb5 HFa HA HX hlt4 b0 b1 b2 b3
        obtain ⟨b0, b1, b2, b3⟩ := HNb5.out.cells
        obtain ⟨sb, hsb⟩ : ∃ sb, w4.heap.size = sb := ⟨_, rfl⟩
        rw [hsb] at HX5 hsw ⊢
        have HFq := Lib.hid (fault_nil N A n c Am m cm M place most _ HIn5.out HNl.out hn2 HZ5.out HM.out (by omega))
        rw [HFp.out] at HFq
        go_wp2_with fail
        ((with_reducible refine HFq.out.mono ?_); rintro e w8 ⟨rfl, hb8⟩)
        have HB8 := Lib.hid (below_then HB5.out hb8)
        have HNb8 := Lib.hid (HNb5.out.below hb8)
        have HIn8 := Lib.hid (HIn5.out.below hb8)
        have HZ8 := Lib.hid (HZ5.out.below hb8)
        have HT8 := Lib.hid (HT5.out.below hb8)
        have HL8 := Lib.hid (HL5.out.below hb8)
        have HX8 := Lib.hid (HX5.out.below hb8)
        clear hb8 HFq HX5 b0 b1 b2 b3
        clear HB5 HNb5 HIn5 HZ5 HT5 HL5
        obtain ⟨x0, x1, x2⟩ := HX8.out.cells
        go_wp2_with fail
        clear x0 x1 x2
        have hbd : Below w8.heap.size w8 w8.drew := (Below.refl _ _).drew
        have HB10 := Lib.hid (below_then HB8.out hbd)
        have HNb10 := Lib.hid (HNb8.out.below hbd)
        have HIn10 := Lib.hid (HIn8.out.below hbd)
        have HZ10 := Lib.hid (HZ8.out.below hbd)
        have HT10 := Lib.hid (HT8.out.below hbd)
        have HL10 := Lib.hid (HL8.out.below hbd)
        have HX10 := Lib.hid (HX8.out.below hbd)
        obtain ⟨s0, s1, s2, s3⟩ := HNb10.out.cells
        have hS0 := And.intro s0 (And.intro s1 (And.intro s2 s3))
        refine wp_region_held_drew (S := fun w' => w'.cell? ⟨w.heap.size, 0, none⟩ = some (.int .i64 N.pl) ∧ w'.cell? ⟨w.heap.size, 1, none⟩ = some (.slice A n c) ∧ w'.cell? ⟨w.heap.size, 2, none⟩ = some (.int .i64 N.src) ∧ w'.cell? ⟨w.heap.size, 3, none⟩ = some (.int .i64 N.snk)) (by kernel_rfl) hS0 (fun hHeld => ?_)
        clear hS0 hbd s0 s1 s2 s3 HX8
        clear HB8 HNb8 HIn8 HZ8 HT8 HL8
        generalize w8.drew = wd at *
        refine wpAnyH_take (i := 0) (v := ?_) rfl (by kernel_rfl) (by kernel_rfl) (by kernel_rfl) (fun _ _ _ h => h) (Or.inl ⟨by rfl, ?_⟩) (by assumption) ?_
        rotate_left
        · intro w hSw; (try dsimp only at hSw); go_simp; try (with_reducible rfl)
        try go_simp
        refine wpAnyH_take (i := 1) (v := ?_) rfl (by kernel_rfl) (by kernel_rfl) (by kernel_rfl) (fun _ _ _ h => h) (Or.inl ⟨by rfl, ?_⟩) (by assumption) ?_
        rotate_left
        · intro w hSw; (try dsimp only at hSw); go_simp; try (with_reducible rfl)
        try go_simp
        refine wpAnyH_take (i := 3) (v := ?_) rfl (by kernel_rfl) (by kernel_rfl) (by kernel_rfl) (fun _ _ _ h => h) (Or.inl ⟨by rfl, ?_⟩) (by assumption) ?_
        rotate_left
        · intro w hSw; (try dsimp only at hSw); go_simp; try (with_reducible rfl)
        try go_simp
        refine wpAnyH_take (i := 5) (v := ?_) rfl (by kernel_rfl) (by kernel_rfl) (by kernel_rfl) (fun _ _ _ h => h) (Or.inl ⟨by rfl, ?_⟩) (by assumption) ?_
        rotate_left
        · intro w hSw; (try dsimp only at hSw); go_simp; try (with_reducible rfl)
        try go_simp
        have hS0 := hHeld
        refine wpAnyH_ready (rs := [2]) (by kernel_rfl) (by simp) ?_
        refine AllReadyH.cons rfl (fun K hK => ?_) AllReadyH.nil
        go_simp
        skip
        refine hK.out _ _ (⟨cell_stays (below_alloc _ _) hS0.1, cell_stays (below_alloc _ _) hS0.2.1, cell_stays (below_alloc _ _) hS0.2.2.1, cell_stays (below_alloc _ _) hS0.2.2.2⟩) (fun hHeld => ?_)
        clear hK K
        try go_simp
        refine wpAnyH_ready (rs := [4]) (by kernel_rfl) (by simp) ?_
        refine AllReadyH.cons rfl (fun K hK => ?_) AllReadyH.nil
        refine step_append_rd rfl _ _ 25 rfl wd.heap.size 3 i0 (.int .i64 0) 8 Tryd.underlying25 HI.out.1 HI.out.2.1 HI.out.2.2.1 HI.out.2.2.2 rfl (.slice (some ⟨wd.heap.size, 0, none⟩) 0 0) 0 [] rfl (own_lit0 wd) (by simp) At t ct L rfl (HL10.out.below (below_alloc wd _)) HLl.out ?c3 ?c4 ?c5 ?_
        case c3 => unfold maxLen; omega
        case c4 => omega
        case c5 => simp
        intro v11 w11 hown hgrow hne
        have hNS : NS wd w11 v11 L := ⟨by have h1 := hown; rw [Nat.zero_add, List.nil_append, ← HLl.out] at h1; exact h1, (below_alloc wd _).grown hgrow (by simp) (fun k hk => by cases hk; exact Nat.le_refl _)⟩
        obtain ⟨A11, c11, hz11, hzz, _, _⟩ := hNS.zin
        subst hz11
        obtain ⟨at11, rfl⟩ := ns_some hNS hne
        have hb11 := hNS.2
        refine hK.out _ _ ⟨cell_stays hb11 hS0.1, cell_stays hb11 hS0.2.1, cell_stays hb11 hS0.2.2.1, cell_stays hb11 hS0.2.2.2⟩ (fun hHeld => ?_)
        clear hK K
        rw [HLl.out]
        try go_simp
        have HB11 := Lib.hid (below_then HB10.out hb11)
        have HNb11 := Lib.hid (HNb10.out.below hb11)
        have HIn11 := Lib.hid (HIn10.out.below hb11)
        have HZ11 := Lib.hid (HZ10.out.below hb11)
        have HT11 := Lib.hid (HT10.out.below hb11)
        have HL11 := Lib.hid (HL10.out.below hb11)
        have HX11 := Lib.hid (HX10.out.below hb11)
        have HFt := Lib.hid (fault_tg N A n c Am m cm M at11 t c11 L 0 most w11 HIn11.out HNl.out hn2 HZ11.out HM.out (by omega) hzz HLl.out (by omega))
        rw [HFg.out] at HFt
        have hS1 := hHeld
        clear hS0 hown hgrow hne hNS hzz hb11 HX10
        clear HB10 HNb10 HIn10 HZ10 HT10 HL10
        refine wpAnyH_ready (rs := [6]) (by kernel_rfl) (by simp) ?_
        refine AllReadyH.cons rfl (fun K hK => ?_) AllReadyH.nil
        go_simp
        ((refine HFt.out.mono ?_); rintro e w12 ⟨rfl, hb12⟩)
        refine hK.out _ _ (⟨cell_stays hb12 hS1.1, cell_stays hb12 hS1.2.1, cell_stays hb12 hS1.2.2.1, cell_stays hb12 hS1.2.2.2⟩) (fun hHeld => ?_)
        clear hK K
        try go_simp
        have HB12 := Lib.hid (below_then HB11.out hb12)
        have HNb12 := Lib.hid (HNb11.out.below hb12)
        have HIn12 := Lib.hid (HIn11.out.below hb12)
        have HZ12 := Lib.hid (HZ11.out.below hb12)
        have HT12 := Lib.hid (HT11.out.below hb12)
        have HL12 := Lib.hid (HL11.out.below hb12)
        have HX12 := Lib.hid (HX11.out.below hb12)
        refine wpAnyH_take (i := 7) (v := ?_) rfl (by kernel_rfl) (by kernel_rfl) (by kernel_rfl) (fun _ _ _ h => h) (Or.inl ⟨by rfl, ?_⟩) (by assumption) ?_
        rotate_left
        · intro w hSw; (try dsimp only at hSw); go_simp; try (with_reducible rfl)
        try go_simp
        refine wpAnyH_done (by kernel_rfl) ?_ _
        clear hHeld hS1 hb12 HFt HX11
        clear HB11 HNb11 HIn11 HZ11 HT11 HL11
        go_wp2_with fail
        go_ret
        exact ⟨ret_bool (by simp), HB12.out⟩
    · by_cases h6 : 60 < most
      · have q6 : decide (60 < most) = true := by simpa using h6
        have q10 : decide (most ≤ 1000) = true := by simpa using hmo2
        clear h6
        go_wp2_with fail
        ((with_reducible refine HAw.out.mono ?_); rintro e w3 ⟨rfl, hb3⟩)
        have HB3 := Lib.hid (below_then HB2.out hb3)
        go_wp2_with fail
        go_ret
        exact ⟨rfl, HB3.out⟩
      have q6 : decide (60 < most) = false := by simpa using h6
      have HF0 := Lib.hid hf0
      have HMk := Lib.hid hmk
      obtain ⟨mo, rfl⟩ := Int.eq_ofNat_of_zero_le (show 0 ≤ most by omega)
      rw [Int.toNat_natCast] at hpl htg
      clear hf0 hmk h6
      rcases hgr : growT N M mo with _ | T
      · have HG := Lib.hid hgr
        rcases hpl with ⟨hfp, hbn⟩ | ⟨hfp, hp0, hp1, hbn, _⟩
        · have HFp := Lib.hid hfp
          have HBn0 := Lib.hid hbn
          clear hfp hbn
          rcases htg with ⟨hfg, hcv⟩ | ⟨hfg, hml, hcv, _⟩
          · have HFg := Lib.hid hfg
            have HCv0 := Lib.hid hcv
            clear hfg hcv hgr
            have HBn := Lib.hid (bn_no (bound_any N A n c Am m cm M place (mo : Int) w2 HIn2.out HNl.out hn2 HZ2.out HM.out hm1 hm2 HT2.out) HBn0.out)
            clear HAw
            go_wp2_with fail
            ((with_reducible refine HBn.out.mono ?_); rintro e w3 ⟨rfl, hb3⟩)
            have HB3 := Lib.hid (below_then HB2.out hb3)
            have HNb3 := Lib.hid (HNb2.out.below hb3)
            have HIn3 := Lib.hid (HIn2.out.below hb3)
            have HZ3 := Lib.hid (HZ2.out.below hb3)
            have HT3 := Lib.hid (HT2.out.below hb3)
            have HL3 := Lib.hid (HL2.out.below hb3)
            clear hb3 HBn b0 b1 b2 b3
            clear HB2 HNb2 HIn2 HZ2 HT2 HL2
            obtain ⟨b0, b1, b2, b3⟩ := HNb3.out.cells
            have HCv := Lib.hid (cv_err (covers_any N A n c Am m cm M At t ct L (mo : Int) w3 HIn3.out HNl.out hn2 HZ3.out HM.out hm1 hm2 HL3.out HLl.out hl1 hl2 HT3.out) HCv0.out)
            go_wp2_with fail
            ((with_reducible refine HCv.out.mono ?_); rintro e w4 ⟨rfl, hb4⟩)
            have HB4 := Lib.hid (below_then HB3.out hb4)
            have HNb4 := Lib.hid (HNb3.out.below hb4)
            have HIn4 := Lib.hid (HIn3.out.below hb4)
            have HZ4 := Lib.hid (HZ3.out.below hb4)
            have HT4 := Lib.hid (HT3.out.below hb4)
            have HL4 := Lib.hid (HL3.out.below hb4)
            clear hb4 HCv b0 b1 b2 b3
            clear HB3 HNb3 HIn3 HZ3 HT3 HL3
            have HA := Lib.hid (below_alloc w4 (.cells #[.slice none 0 0, .slice none 0 0, .bool false] 31))
            have HX := Lib.hid (SpB.new w4 (.slice none 0 0) (.slice none 0 0) false)
            obtain ⟨b0, b1, b2, b3⟩ := HNb4.out.cells
            have hlt4 := HNb4.out.lt
            have HFa := Lib.hid (fault_nil N A n c Am m cm M 0 (mo : Int) _ (HIn4.out.below HA.out) HNl.out hn2 (HZ4.out.below HA.out) HM.out (by omega))
            rw [HF0.out] at HFa
            go_wp2_with fail
            ((with_reducible refine HFa.out.mono ?_); rintro e w5 ⟨rfl, hb5⟩)
            have hb45 := below_then HA.out hb5
            have HB5 := Lib.hid (below_then HB4.out hb45)
            have HNb5 := Lib.hid (HNb4.out.below hb45)
            have HIn5 := Lib.hid (HIn4.out.below hb45)
            have HZ5 := Lib.hid (HZ4.out.below hb45)
            have HT5 := Lib.hid (HT4.out.below hb45)
            have HL5 := Lib.hid (HL4.out.below hb45)
            have HX5 := Lib.hid (HX.out.below hb5)
            have hsw : w.heap.size < w4.heap.size := hlt4
            have HB45 := Lib.hid hb45
            clear hb45 hb5 HFa HA HX hlt4 b0 b1 b2 b3
            obtain ⟨b0, b1, b2, b3⟩ := HNb5.out.cells
            obtain ⟨sb, hsb⟩ : ∃ sb, w4.heap.size = sb := ⟨_, rfl⟩
            rw [hsb] at HX5 hsw ⊢
            have HRg := Lib.hid (rgraph_any N A n c Am m cm M mo w5 HIn5.out.1 HNl.out HZ5.out HM.out hm1 hm2 HMk.out (by omega))
            go_wp2_with fail
            ((with_reducible refine HRg.out.mono ?_); rintro e w6 ⟨hb6, hP⟩)
            rw [HG.out] at hP
            have he : e = .returned (.tuple #[.agg #[.slice none 0 0, .slice none 0 0, .bool false], .bool false]) := hP
            subst he
            have HX6 := Lib.hid (HX5.out.below hb6)
            have HB46 := Lib.hid (below_then HB45.out hb6)
            clear hb6 b0 b1 b2 b3 HRg HX5 hP
            clear HB5 HNb5 HIn5 HZ5 HT5 HL5
            obtain ⟨x0, x1, x2⟩ := HX6.out.cells
            have f0 := HX6.out.soft 0
            have f1 := HX6.out.soft 1
            have f2 := HX6.out.soft 2
            have hlt6 := HX6.out.lt
            have HX7 := Lib.hid (((HX6.out.set0 (.slice none 0 0)).set1 (.slice none 0 0)).set2 false)
            have hgr7 : w6.grownBy (((w6.setCell ⟨sb, 0, none⟩ (.slice none 0 0)).setCell ⟨sb, 1, none⟩ (.slice none 0 0)).setCell ⟨sb, 2, none⟩ (.bool false)) (some sb) := Lib.grownBy_setB (Lib.grownBy_setB (Lib.grownBy_setB (grown_refl w6 (some sb)) 0 _) 1 _) 2 _
            have hb47 : Below w4.heap.size w4 (((w6.setCell ⟨sb, 0, none⟩ (.slice none 0 0)).setCell ⟨sb, 1, none⟩ (.slice none 0 0)).setCell ⟨sb, 2, none⟩ (.bool false)) := HB46.out.grown hgr7 HB46.out.size (fun k hk => Nat.le_of_eq (hsb.trans (Option.some.inj hk)))
            have HB7 := Lib.hid (below_then HB4.out hb47)
            have HNb7 := Lib.hid (HNb4.out.below hb47)
            have HIn7 := Lib.hid (HIn4.out.below hb47)
            have HZ7 := Lib.hid (HZ4.out.below hb47)
            have HT7 := Lib.hid (HT4.out.below hb47)
            have HL7 := Lib.hid (HL4.out.below hb47)
            clear hb47 hgr7 HX6 HB46
            clear HB4 HNb4 HIn4 HZ4 HT4 HL4
            obtain ⟨b0, b1, b2, b3⟩ := HNb7.out.cells
            have HFq := Lib.hid (fault_nil N A n c Am m cm M place (mo : Int) _ HIn7.out HNl.out hn2 HZ7.out HM.out (by omega))
            rw [HFp.out] at HFq
            go_wp2_with fail
            ((with_reducible refine HFq.out.mono ?_); rintro e w8 ⟨rfl, hb8⟩)
            have HB8 := Lib.hid (below_then HB7.out hb8)
            have HNb8 := Lib.hid (HNb7.out.below hb8)
            have HIn8 := Lib.hid (HIn7.out.below hb8)
            have HZ8 := Lib.hid (HZ7.out.below hb8)
            have HT8 := Lib.hid (HT7.out.below hb8)
            have HL8 := Lib.hid (HL7.out.below hb8)
            have HX8 := Lib.hid (HX7.out.below hb8)
            clear hb8 HFq HX7 b0 b1 b2 b3 x0 x1 x2 f0 f1 f2 hlt6
            clear HB7 HNb7 HIn7 HZ7 HT7 HL7
            obtain ⟨x0, x1, x2⟩ := HX8.out.cells
            go_wp2_with fail
            clear x0 x1 x2
            have hbd : Below w8.heap.size w8 w8.drew := (Below.refl _ _).drew
            have HB10 := Lib.hid (below_then HB8.out hbd)
            have HNb10 := Lib.hid (HNb8.out.below hbd)
            have HIn10 := Lib.hid (HIn8.out.below hbd)
            have HZ10 := Lib.hid (HZ8.out.below hbd)
            have HT10 := Lib.hid (HT8.out.below hbd)
            have HL10 := Lib.hid (HL8.out.below hbd)
            have HX10 := Lib.hid (HX8.out.below hbd)
            obtain ⟨s0, s1, s2, s3⟩ := HNb10.out.cells
            have hS0 := And.intro s0 (And.intro s1 (And.intro s2 s3))
            refine wp_region_held_drew (S := fun w' => w'.cell? ⟨w.heap.size, 0, none⟩ = some (.int .i64 N.pl) ∧ w'.cell? ⟨w.heap.size, 1, none⟩ = some (.slice A n c) ∧ w'.cell? ⟨w.heap.size, 2, none⟩ = some (.int .i64 N.src) ∧ w'.cell? ⟨w.heap.size, 3, none⟩ = some (.int .i64 N.snk)) (by kernel_rfl) hS0 (fun hHeld => ?_)
            clear hS0 hbd s0 s1 s2 s3 HX8
            clear HB8 HNb8 HIn8 HZ8 HT8 HL8
            generalize w8.drew = wd at *
            refine wpAnyH_take (i := 0) (v := ?_) rfl (by kernel_rfl) (by kernel_rfl) (by kernel_rfl) (fun _ _ _ h => h) (Or.inl ⟨by rfl, ?_⟩) (by assumption) ?_
            rotate_left
            · intro w hSw; (try dsimp only at hSw); go_simp; try (with_reducible rfl)
            try go_simp
            refine wpAnyH_take (i := 1) (v := ?_) rfl (by kernel_rfl) (by kernel_rfl) (by kernel_rfl) (fun _ _ _ h => h) (Or.inl ⟨by rfl, ?_⟩) (by assumption) ?_
            rotate_left
            · intro w hSw; (try dsimp only at hSw); go_simp; try (with_reducible rfl)
            try go_simp
            refine wpAnyH_take (i := 3) (v := ?_) rfl (by kernel_rfl) (by kernel_rfl) (by kernel_rfl) (fun _ _ _ h => h) (Or.inl ⟨by rfl, ?_⟩) (by assumption) ?_
            rotate_left
            · intro w hSw; (try dsimp only at hSw); go_simp; try (with_reducible rfl)
            try go_simp
            refine wpAnyH_take (i := 5) (v := ?_) rfl (by kernel_rfl) (by kernel_rfl) (by kernel_rfl) (fun _ _ _ h => h) (Or.inl ⟨by rfl, ?_⟩) (by assumption) ?_
            rotate_left
            · intro w hSw; (try dsimp only at hSw); go_simp; try (with_reducible rfl)
            try go_simp
            have hS0 := hHeld
            refine wpAnyH_ready (rs := [2]) (by kernel_rfl) (by simp) ?_
            refine AllReadyH.cons rfl (fun K hK => ?_) AllReadyH.nil
            go_simp
            skip
            refine hK.out _ _ (⟨cell_stays (below_alloc _ _) hS0.1, cell_stays (below_alloc _ _) hS0.2.1, cell_stays (below_alloc _ _) hS0.2.2.1, cell_stays (below_alloc _ _) hS0.2.2.2⟩) (fun hHeld => ?_)
            clear hK K
            try go_simp
            refine wpAnyH_ready (rs := [4]) (by kernel_rfl) (by simp) ?_
            refine AllReadyH.cons rfl (fun K hK => ?_) AllReadyH.nil
            refine step_append_rd rfl _ _ 25 rfl wd.heap.size 3 i0 (.int .i64 0) 8 Tryd.underlying25 HI.out.1 HI.out.2.1 HI.out.2.2.1 HI.out.2.2.2 rfl (.slice (some ⟨wd.heap.size, 0, none⟩) 0 0) 0 [] rfl (own_lit0 wd) (by simp) At t ct L rfl (HL10.out.below (below_alloc wd _)) HLl.out ?c3 ?c4 ?c5 ?_
            case c3 => unfold maxLen; omega
            case c4 => omega
            case c5 => simp
            intro v11 w11 hown hgrow hne
            have hNS : NS wd w11 v11 L := ⟨by have h1 := hown; rw [Nat.zero_add, List.nil_append, ← HLl.out] at h1; exact h1, (below_alloc wd _).grown hgrow (by simp) (fun k hk => by cases hk; exact Nat.le_refl _)⟩
            obtain ⟨A11, c11, hz11, hzz, _, _⟩ := hNS.zin
            subst hz11
            obtain ⟨at11, rfl⟩ := ns_some hNS hne
            have hb11 := hNS.2
            refine hK.out _ _ ⟨cell_stays hb11 hS0.1, cell_stays hb11 hS0.2.1, cell_stays hb11 hS0.2.2.1, cell_stays hb11 hS0.2.2.2⟩ (fun hHeld => ?_)
            clear hK K
            rw [HLl.out]
            try go_simp
            have HB11 := Lib.hid (below_then HB10.out hb11)
            have HNb11 := Lib.hid (HNb10.out.below hb11)
            have HIn11 := Lib.hid (HIn10.out.below hb11)
            have HZ11 := Lib.hid (HZ10.out.below hb11)
            have HT11 := Lib.hid (HT10.out.below hb11)
            have HL11 := Lib.hid (HL10.out.below hb11)
            have HX11 := Lib.hid (HX10.out.below hb11)
            have HFt := Lib.hid (fault_tg N A n c Am m cm M at11 t c11 L 0 (mo : Int) w11 HIn11.out HNl.out hn2 HZ11.out HM.out (by omega) hzz HLl.out (by omega))
            rw [HFg.out] at HFt
            have hS1 := hHeld
            clear hS0 hown hgrow hne hNS hzz hb11 HX10
            clear HB10 HNb10 HIn10 HZ10 HT10 HL10
            refine wpAnyH_ready (rs := [6]) (by kernel_rfl) (by simp) ?_
            refine AllReadyH.cons rfl (fun K hK => ?_) AllReadyH.nil
            go_simp
            ((refine HFt.out.mono ?_); rintro e w12 ⟨rfl, hb12⟩)
            refine hK.out _ _ (⟨cell_stays hb12 hS1.1, cell_stays hb12 hS1.2.1, cell_stays hb12 hS1.2.2.1, cell_stays hb12 hS1.2.2.2⟩) (fun hHeld => ?_)
            clear hK K
            try go_simp
            have HB12 := Lib.hid (below_then HB11.out hb12)
            have HNb12 := Lib.hid (HNb11.out.below hb12)
            have HIn12 := Lib.hid (HIn11.out.below hb12)
            have HZ12 := Lib.hid (HZ11.out.below hb12)
            have HT12 := Lib.hid (HT11.out.below hb12)
            have HL12 := Lib.hid (HL11.out.below hb12)
            have HX12 := Lib.hid (HX11.out.below hb12)
            refine wpAnyH_take (i := 7) (v := ?_) rfl (by kernel_rfl) (by kernel_rfl) (by kernel_rfl) (fun _ _ _ h => h) (Or.inl ⟨by rfl, ?_⟩) (by assumption) ?_
            rotate_left
            · intro w hSw; (try dsimp only at hSw); go_simp; try (with_reducible rfl)
            try go_simp
            refine wpAnyH_done (by kernel_rfl) ?_ _
            clear hHeld hS1 hb12 HFt HX11
            clear HB11 HNb11 HIn11 HZ11 HT11 HL11
            go_wp2_with fail
            go_ret
            exact ⟨ret_bool (by simp), HB12.out⟩
          · have HFg := Lib.hid hfg
            have HCv0 := Lib.hid (hcv hgr)
            clear hfg hcv hgr hml
            have HBn := Lib.hid (bn_no (bound_any N A n c Am m cm M place (mo : Int) w2 HIn2.out HNl.out hn2 HZ2.out HM.out hm1 hm2 HT2.out) HBn0.out)
            clear HAw
            go_wp2_with fail
            ((with_reducible refine HBn.out.mono ?_); rintro e w3 ⟨rfl, hb3⟩)
            have HB3 := Lib.hid (below_then HB2.out hb3)
            have HNb3 := Lib.hid (HNb2.out.below hb3)
            have HIn3 := Lib.hid (HIn2.out.below hb3)
            have HZ3 := Lib.hid (HZ2.out.below hb3)
            have HT3 := Lib.hid (HT2.out.below hb3)
            have HL3 := Lib.hid (HL2.out.below hb3)
            clear hb3 HBn b0 b1 b2 b3
            clear HB2 HNb2 HIn2 HZ2 HT2 HL2
            obtain ⟨b0, b1, b2, b3⟩ := HNb3.out.cells
            have HCv := Lib.hid (cv_err (covers_any N A n c Am m cm M At t ct L (mo : Int) w3 HIn3.out HNl.out hn2 HZ3.out HM.out hm1 hm2 HL3.out HLl.out hl1 hl2 HT3.out) HCv0.out)
            go_wp2_with fail
            ((with_reducible refine HCv.out.mono ?_); rintro e w4 ⟨rfl, hb4⟩)
            have HB4 := Lib.hid (below_then HB3.out hb4)
            have HNb4 := Lib.hid (HNb3.out.below hb4)
            have HIn4 := Lib.hid (HIn3.out.below hb4)
            have HZ4 := Lib.hid (HZ3.out.below hb4)
            have HT4 := Lib.hid (HT3.out.below hb4)
            have HL4 := Lib.hid (HL3.out.below hb4)
            clear hb4 HCv b0 b1 b2 b3
            clear HB3 HNb3 HIn3 HZ3 HT3 HL3
            have HA := Lib.hid (below_alloc w4 (.cells #[.slice none 0 0, .slice none 0 0, .bool false] 31))
            have HX := Lib.hid (SpB.new w4 (.slice none 0 0) (.slice none 0 0) false)
            obtain ⟨b0, b1, b2, b3⟩ := HNb4.out.cells
            have hlt4 := HNb4.out.lt
            have HFa := Lib.hid (fault_nil N A n c Am m cm M 0 (mo : Int) _ (HIn4.out.below HA.out) HNl.out hn2 (HZ4.out.below HA.out) HM.out (by omega))
            rw [HF0.out] at HFa
            go_wp2_with fail
            ((with_reducible refine HFa.out.mono ?_); rintro e w5 ⟨rfl, hb5⟩)
            have hb45 := below_then HA.out hb5
            have HB5 := Lib.hid (below_then HB4.out hb45)
            have HNb5 := Lib.hid (HNb4.out.below hb45)
            have HIn5 := Lib.hid (HIn4.out.below hb45)
            have HZ5 := Lib.hid (HZ4.out.below hb45)
            have HT5 := Lib.hid (HT4.out.below hb45)
            have HL5 := Lib.hid (HL4.out.below hb45)
            have HX5 := Lib.hid (HX.out.below hb5)
            have hsw : w.heap.size < w4.heap.size := hlt4
            have HB45 := Lib.hid hb45
            clear hb45 hb5 HFa HA HX hlt4 b0 b1 b2 b3
            obtain ⟨b0, b1, b2, b3⟩ := HNb5.out.cells
            obtain ⟨sb, hsb⟩ : ∃ sb, w4.heap.size = sb := ⟨_, rfl⟩
            rw [hsb] at HX5 hsw ⊢
            have HRg := Lib.hid (rgraph_any N A n c Am m cm M mo w5 HIn5.out.1 HNl.out HZ5.out HM.out hm1 hm2 HMk.out (by omega))
            go_wp2_with fail
            ((with_reducible refine HRg.out.mono ?_); rintro e w6 ⟨hb6, hP⟩)
            rw [HG.out] at hP
            have he : e = .returned (.tuple #[.agg #[.slice none 0 0, .slice none 0 0, .bool false], .bool false]) := hP
            subst he
            have HX6 := Lib.hid (HX5.out.below hb6)
            have HB46 := Lib.hid (below_then HB45.out hb6)
            clear hb6 b0 b1 b2 b3 HRg HX5 hP
            clear HB5 HNb5 HIn5 HZ5 HT5 HL5
            obtain ⟨x0, x1, x2⟩ := HX6.out.cells
            have f0 := HX6.out.soft 0
            have f1 := HX6.out.soft 1
            have f2 := HX6.out.soft 2
            have hlt6 := HX6.out.lt
            have HX7 := Lib.hid (((HX6.out.set0 (.slice none 0 0)).set1 (.slice none 0 0)).set2 false)
            have hgr7 : w6.grownBy (((w6.setCell ⟨sb, 0, none⟩ (.slice none 0 0)).setCell ⟨sb, 1, none⟩ (.slice none 0 0)).setCell ⟨sb, 2, none⟩ (.bool false)) (some sb) := Lib.grownBy_setB (Lib.grownBy_setB (Lib.grownBy_setB (grown_refl w6 (some sb)) 0 _) 1 _) 2 _
            have hb47 : Below w4.heap.size w4 (((w6.setCell ⟨sb, 0, none⟩ (.slice none 0 0)).setCell ⟨sb, 1, none⟩ (.slice none 0 0)).setCell ⟨sb, 2, none⟩ (.bool false)) := HB46.out.grown hgr7 HB46.out.size (fun k hk => Nat.le_of_eq (hsb.trans (Option.some.inj hk)))
            have HB7 := Lib.hid (below_then HB4.out hb47)
            have HNb7 := Lib.hid (HNb4.out.below hb47)
            have HIn7 := Lib.hid (HIn4.out.below hb47)
            have HZ7 := Lib.hid (HZ4.out.below hb47)
            have HT7 := Lib.hid (HT4.out.below hb47)
            have HL7 := Lib.hid (HL4.out.below hb47)
            clear hb47 hgr7 HX6 HB46
            clear HB4 HNb4 HIn4 HZ4 HT4 HL4
            obtain ⟨b0, b1, b2, b3⟩ := HNb7.out.cells
            have HFq := Lib.hid (fault_nil N A n c Am m cm M place (mo : Int) _ HIn7.out HNl.out hn2 HZ7.out HM.out (by omega))
            rw [HFp.out] at HFq
            go_wp2_with fail
            ((with_reducible refine HFq.out.mono ?_); rintro e w8 ⟨rfl, hb8⟩)
            have HB8 := Lib.hid (below_then HB7.out hb8)
            have HNb8 := Lib.hid (HNb7.out.below hb8)
            have HIn8 := Lib.hid (HIn7.out.below hb8)
            have HZ8 := Lib.hid (HZ7.out.below hb8)
            have HT8 := Lib.hid (HT7.out.below hb8)
            have HL8 := Lib.hid (HL7.out.below hb8)
            have HX8 := Lib.hid (HX7.out.below hb8)
            clear hb8 HFq HX7 b0 b1 b2 b3 x0 x1 x2 f0 f1 f2 hlt6
            clear HB7 HNb7 HIn7 HZ7 HT7 HL7
            obtain ⟨x0, x1, x2⟩ := HX8.out.cells
            go_wp2_with fail
            clear x0 x1 x2
            have hbd : Below w8.heap.size w8 w8.drew := (Below.refl _ _).drew
            have HB10 := Lib.hid (below_then HB8.out hbd)
            have HNb10 := Lib.hid (HNb8.out.below hbd)
            have HIn10 := Lib.hid (HIn8.out.below hbd)
            have HZ10 := Lib.hid (HZ8.out.below hbd)
            have HT10 := Lib.hid (HT8.out.below hbd)
            have HL10 := Lib.hid (HL8.out.below hbd)
            have HX10 := Lib.hid (HX8.out.below hbd)
            obtain ⟨s0, s1, s2, s3⟩ := HNb10.out.cells
            have hS0 := And.intro s0 (And.intro s1 (And.intro s2 s3))
            refine wp_region_held_drew (S := fun w' => w'.cell? ⟨w.heap.size, 0, none⟩ = some (.int .i64 N.pl) ∧ w'.cell? ⟨w.heap.size, 1, none⟩ = some (.slice A n c) ∧ w'.cell? ⟨w.heap.size, 2, none⟩ = some (.int .i64 N.src) ∧ w'.cell? ⟨w.heap.size, 3, none⟩ = some (.int .i64 N.snk)) (by kernel_rfl) hS0 (fun hHeld => ?_)
            clear hS0 hbd s0 s1 s2 s3 HX8
            clear HB8 HNb8 HIn8 HZ8 HT8 HL8
            generalize w8.drew = wd at *
            refine wpAnyH_take (i := 0) (v := ?_) rfl (by kernel_rfl) (by kernel_rfl) (by kernel_rfl) (fun _ _ _ h => h) (Or.inl ⟨by rfl, ?_⟩) (by assumption) ?_
            rotate_left
            · intro w hSw; (try dsimp only at hSw); go_simp; try (with_reducible rfl)
            try go_simp
            refine wpAnyH_take (i := 1) (v := ?_) rfl (by kernel_rfl) (by kernel_rfl) (by kernel_rfl) (fun _ _ _ h => h) (Or.inl ⟨by rfl, ?_⟩) (by assumption) ?_
            rotate_left
            · intro w hSw; (try dsimp only at hSw); go_simp; try (with_reducible rfl)
            try go_simp
            refine wpAnyH_take (i := 3) (v := ?_) rfl (by kernel_rfl) (by kernel_rfl) (by kernel_rfl) (fun _ _ _ h => h) (Or.inl ⟨by rfl, ?_⟩) (by assumption) ?_
            rotate_left
            · intro w hSw; (try dsimp only at hSw); go_simp; try (with_reducible rfl)
            try go_simp
            refine wpAnyH_take (i := 5) (v := ?_) rfl (by kernel_rfl) (by kernel_rfl) (by kernel_rfl) (fun _ _ _ h => h) (Or.inl ⟨by rfl, ?_⟩) (by assumption) ?_
            rotate_left
            · intro w hSw; (try dsimp only at hSw); go_simp; try (with_reducible rfl)
            try go_simp
            have hS0 := hHeld
            refine wpAnyH_ready (rs := [2]) (by kernel_rfl) (by simp) ?_
            refine AllReadyH.cons rfl (fun K hK => ?_) AllReadyH.nil
            go_simp
            skip
            refine hK.out _ _ (⟨cell_stays (below_alloc _ _) hS0.1, cell_stays (below_alloc _ _) hS0.2.1, cell_stays (below_alloc _ _) hS0.2.2.1, cell_stays (below_alloc _ _) hS0.2.2.2⟩) (fun hHeld => ?_)
            clear hK K
            try go_simp
            refine wpAnyH_ready (rs := [4]) (by kernel_rfl) (by simp) ?_
            refine AllReadyH.cons rfl (fun K hK => ?_) AllReadyH.nil
            refine step_append_rd rfl _ _ 25 rfl wd.heap.size 3 i0 (.int .i64 0) 8 Tryd.underlying25 HI.out.1 HI.out.2.1 HI.out.2.2.1 HI.out.2.2.2 rfl (.slice (some ⟨wd.heap.size, 0, none⟩) 0 0) 0 [] rfl (own_lit0 wd) (by simp) At t ct L rfl (HL10.out.below (below_alloc wd _)) HLl.out ?c3 ?c4 ?c5 ?_
            case c3 => unfold maxLen; omega
            case c4 => omega
            case c5 => simp
            intro v11 w11 hown hgrow hne
            have hNS : NS wd w11 v11 L := ⟨by have h1 := hown; rw [Nat.zero_add, List.nil_append, ← HLl.out] at h1; exact h1, (below_alloc wd _).grown hgrow (by simp) (fun k hk => by cases hk; exact Nat.le_refl _)⟩
            obtain ⟨A11, c11, hz11, hzz, _, _⟩ := hNS.zin
            subst hz11
            obtain ⟨at11, rfl⟩ := ns_some hNS hne
            have hb11 := hNS.2
            refine hK.out _ _ ⟨cell_stays hb11 hS0.1, cell_stays hb11 hS0.2.1, cell_stays hb11 hS0.2.2.1, cell_stays hb11 hS0.2.2.2⟩ (fun hHeld => ?_)
            clear hK K
            rw [HLl.out]
            try go_simp
            have HB11 := Lib.hid (below_then HB10.out hb11)
            have HNb11 := Lib.hid (HNb10.out.below hb11)
            have HIn11 := Lib.hid (HIn10.out.below hb11)
            have HZ11 := Lib.hid (HZ10.out.below hb11)
            have HT11 := Lib.hid (HT10.out.below hb11)
            have HL11 := Lib.hid (HL10.out.below hb11)
            have HX11 := Lib.hid (HX10.out.below hb11)
            have HFt := Lib.hid (fault_tg N A n c Am m cm M at11 t c11 L 0 (mo : Int) w11 HIn11.out HNl.out hn2 HZ11.out HM.out (by omega) hzz HLl.out (by omega))
            rw [HFg.out] at HFt
            have hS1 := hHeld
            clear hS0 hown hgrow hne hNS hzz hb11 HX10
            clear HB10 HNb10 HIn10 HZ10 HT10 HL10
            refine wpAnyH_ready (rs := [6]) (by kernel_rfl) (by simp) ?_
            refine AllReadyH.cons rfl (fun K hK => ?_) AllReadyH.nil
            go_simp
            ((refine HFt.out.mono ?_); rintro e w12 ⟨rfl, hb12⟩)
            refine hK.out _ _ (⟨cell_stays hb12 hS1.1, cell_stays hb12 hS1.2.1, cell_stays hb12 hS1.2.2.1, cell_stays hb12 hS1.2.2.2⟩) (fun hHeld => ?_)
            clear hK K
            try go_simp
            have HB12 := Lib.hid (below_then HB11.out hb12)
            have HNb12 := Lib.hid (HNb11.out.below hb12)
            have HIn12 := Lib.hid (HIn11.out.below hb12)
            have HZ12 := Lib.hid (HZ11.out.below hb12)
            have HT12 := Lib.hid (HT11.out.below hb12)
            have HL12 := Lib.hid (HL11.out.below hb12)
            have HX12 := Lib.hid (HX11.out.below hb12)
            refine wpAnyH_take (i := 7) (v := ?_) rfl (by kernel_rfl) (by kernel_rfl) (by kernel_rfl) (fun _ _ _ h => h) (Or.inl ⟨by rfl, ?_⟩) (by assumption) ?_
            rotate_left
            · intro w hSw; (try dsimp only at hSw); go_simp; try (with_reducible rfl)
            try go_simp
            refine wpAnyH_done (by kernel_rfl) ?_ _
            clear hHeld hS1 hb12 HFt HX11
            clear HB11 HNb11 HIn11 HZ11 HT11 HL11
            go_wp2_with fail
            go_ret
            exact ⟨ret_bool (by simp), HB12.out⟩
        · have HFp := Lib.hid hfp
          have HBn0 := Lib.hid (hbn hgr)
          clear hfp hbn hp0 hp1
          rcases htg with ⟨hfg, hcv⟩ | ⟨hfg, hml, hcv, _⟩
          · have HFg := Lib.hid hfg
            have HCv0 := Lib.hid hcv
            clear hfg hcv hgr
            have HBn := Lib.hid (bn_no (bound_any N A n c Am m cm M place (mo : Int) w2 HIn2.out HNl.out hn2 HZ2.out HM.out hm1 hm2 HT2.out) HBn0.out)
            clear HAw
            go_wp2_with fail
            ((with_reducible refine HBn.out.mono ?_); rintro e w3 ⟨rfl, hb3⟩)
            have HB3 := Lib.hid (below_then HB2.out hb3)
            have HNb3 := Lib.hid (HNb2.out.below hb3)
            have HIn3 := Lib.hid (HIn2.out.below hb3)
            have HZ3 := Lib.hid (HZ2.out.below hb3)
            have HT3 := Lib.hid (HT2.out.below hb3)
            have HL3 := Lib.hid (HL2.out.below hb3)
            clear hb3 HBn b0 b1 b2 b3
            clear HB2 HNb2 HIn2 HZ2 HT2 HL2
            obtain ⟨b0, b1, b2, b3⟩ := HNb3.out.cells
            have HCv := Lib.hid (cv_err (covers_any N A n c Am m cm M At t ct L (mo : Int) w3 HIn3.out HNl.out hn2 HZ3.out HM.out hm1 hm2 HL3.out HLl.out hl1 hl2 HT3.out) HCv0.out)
            go_wp2_with fail
            ((with_reducible refine HCv.out.mono ?_); rintro e w4 ⟨rfl, hb4⟩)
            have HB4 := Lib.hid (below_then HB3.out hb4)
            have HNb4 := Lib.hid (HNb3.out.below hb4)
            have HIn4 := Lib.hid (HIn3.out.below hb4)
            have HZ4 := Lib.hid (HZ3.out.below hb4)
            have HT4 := Lib.hid (HT3.out.below hb4)
            have HL4 := Lib.hid (HL3.out.below hb4)
            clear hb4 HCv b0 b1 b2 b3
            clear HB3 HNb3 HIn3 HZ3 HT3 HL3
            have HA := Lib.hid (below_alloc w4 (.cells #[.slice none 0 0, .slice none 0 0, .bool false] 31))
            have HX := Lib.hid (SpB.new w4 (.slice none 0 0) (.slice none 0 0) false)
            obtain ⟨b0, b1, b2, b3⟩ := HNb4.out.cells
            have hlt4 := HNb4.out.lt
            have HFa := Lib.hid (fault_nil N A n c Am m cm M 0 (mo : Int) _ (HIn4.out.below HA.out) HNl.out hn2 (HZ4.out.below HA.out) HM.out (by omega))
            rw [HF0.out] at HFa
            go_wp2_with fail
            ((with_reducible refine HFa.out.mono ?_); rintro e w5 ⟨rfl, hb5⟩)
            have hb45 := below_then HA.out hb5
            have HB5 := Lib.hid (below_then HB4.out hb45)
            have HNb5 := Lib.hid (HNb4.out.below hb45)
            have HIn5 := Lib.hid (HIn4.out.below hb45)
            have HZ5 := Lib.hid (HZ4.out.below hb45)
            have HT5 := Lib.hid (HT4.out.below hb45)
            have HL5 := Lib.hid (HL4.out.below hb45)
            have HX5 := Lib.hid (HX.out.below hb5)
            have hsw : w.heap.size < w4.heap.size := hlt4
            have HB45 := Lib.hid hb45
            clear hb45 hb5 HFa HA HX hlt4 b0 b1 b2 b3
            obtain ⟨b0, b1, b2, b3⟩ := HNb5.out.cells
            obtain ⟨sb, hsb⟩ : ∃ sb, w4.heap.size = sb := ⟨_, rfl⟩
            rw [hsb] at HX5 hsw ⊢
            have HRg := Lib.hid (rgraph_any N A n c Am m cm M mo w5 HIn5.out.1 HNl.out HZ5.out HM.out hm1 hm2 HMk.out (by omega))
            go_wp2_with fail
            ((with_reducible refine HRg.out.mono ?_); rintro e w6 ⟨hb6, hP⟩)
            rw [HG.out] at hP
            have he : e = .returned (.tuple #[.agg #[.slice none 0 0, .slice none 0 0, .bool false], .bool false]) := hP
            subst he
            have HX6 := Lib.hid (HX5.out.below hb6)
            have HB46 := Lib.hid (below_then HB45.out hb6)
            clear hb6 b0 b1 b2 b3 HRg HX5 hP
            clear HB5 HNb5 HIn5 HZ5 HT5 HL5
            obtain ⟨x0, x1, x2⟩ := HX6.out.cells
            have f0 := HX6.out.soft 0
            have f1 := HX6.out.soft 1
            have f2 := HX6.out.soft 2
            have hlt6 := HX6.out.lt
            have HX7 := Lib.hid (((HX6.out.set0 (.slice none 0 0)).set1 (.slice none 0 0)).set2 false)
            have hgr7 : w6.grownBy (((w6.setCell ⟨sb, 0, none⟩ (.slice none 0 0)).setCell ⟨sb, 1, none⟩ (.slice none 0 0)).setCell ⟨sb, 2, none⟩ (.bool false)) (some sb) := Lib.grownBy_setB (Lib.grownBy_setB (Lib.grownBy_setB (grown_refl w6 (some sb)) 0 _) 1 _) 2 _
            have hb47 : Below w4.heap.size w4 (((w6.setCell ⟨sb, 0, none⟩ (.slice none 0 0)).setCell ⟨sb, 1, none⟩ (.slice none 0 0)).setCell ⟨sb, 2, none⟩ (.bool false)) := HB46.out.grown hgr7 HB46.out.size (fun k hk => Nat.le_of_eq (hsb.trans (Option.some.inj hk)))
            have HB7 := Lib.hid (below_then HB4.out hb47)
            have HNb7 := Lib.hid (HNb4.out.below hb47)
            have HIn7 := Lib.hid (HIn4.out.below hb47)
            have HZ7 := Lib.hid (HZ4.out.below hb47)
            have HT7 := Lib.hid (HT4.out.below hb47)
            have HL7 := Lib.hid (HL4.out.below hb47)
            clear hb47 hgr7 HX6 HB46
            clear HB4 HNb4 HIn4 HZ4 HT4 HL4
            obtain ⟨b0, b1, b2, b3⟩ := HNb7.out.cells
            have HFq := Lib.hid (fault_nil N A n c Am m cm M place (mo : Int) _ HIn7.out HNl.out hn2 HZ7.out HM.out (by omega))
            rw [HFp.out] at HFq
            go_wp2_with fail
            ((with_reducible refine HFq.out.mono ?_); rintro e w8 ⟨rfl, hb8⟩)
            have HB8 := Lib.hid (below_then HB7.out hb8)
            have HNb8 := Lib.hid (HNb7.out.below hb8)
            have HIn8 := Lib.hid (HIn7.out.below hb8)
            have HZ8 := Lib.hid (HZ7.out.below hb8)
            have HT8 := Lib.hid (HT7.out.below hb8)
            have HL8 := Lib.hid (HL7.out.below hb8)
            have HX8 := Lib.hid (HX7.out.below hb8)
            clear hb8 HFq HX7 b0 b1 b2 b3 x0 x1 x2 f0 f1 f2 hlt6
            clear HB7 HNb7 HIn7 HZ7 HT7 HL7
            obtain ⟨x0, x1, x2⟩ := HX8.out.cells
            go_wp2_with fail
            clear x0 x1 x2
            have hbd : Below w8.heap.size w8 w8.drew := (Below.refl _ _).drew
            have HB10 := Lib.hid (below_then HB8.out hbd)
            have HNb10 := Lib.hid (HNb8.out.below hbd)
            have HIn10 := Lib.hid (HIn8.out.below hbd)
            have HZ10 := Lib.hid (HZ8.out.below hbd)
            have HT10 := Lib.hid (HT8.out.below hbd)
            have HL10 := Lib.hid (HL8.out.below hbd)
            have HX10 := Lib.hid (HX8.out.below hbd)
            obtain ⟨s0, s1, s2, s3⟩ := HNb10.out.cells
            have hS0 := And.intro s0 (And.intro s1 (And.intro s2 s3))
            refine wp_region_held_drew (S := fun w' => w'.cell? ⟨w.heap.size, 0, none⟩ = some (.int .i64 N.pl) ∧ w'.cell? ⟨w.heap.size, 1, none⟩ = some (.slice A n c) ∧ w'.cell? ⟨w.heap.size, 2, none⟩ = some (.int .i64 N.src) ∧ w'.cell? ⟨w.heap.size, 3, none⟩ = some (.int .i64 N.snk)) (by kernel_rfl) hS0 (fun hHeld => ?_)
            clear hS0 hbd s0 s1 s2 s3 HX8
            clear HB8 HNb8 HIn8 HZ8 HT8 HL8
            generalize w8.drew = wd at *
            refine wpAnyH_take (i := 0) (v := ?_) rfl (by kernel_rfl) (by kernel_rfl) (by kernel_rfl) (fun _ _ _ h => h) (Or.inl ⟨by rfl, ?_⟩) (by assumption) ?_
            rotate_left
            · intro w hSw; (try dsimp only at hSw); go_simp; try (with_reducible rfl)
            try go_simp
            refine wpAnyH_take (i := 1) (v := ?_) rfl (by kernel_rfl) (by kernel_rfl) (by kernel_rfl) (fun _ _ _ h => h) (Or.inl ⟨by rfl, ?_⟩) (by assumption) ?_
            rotate_left
            · intro w hSw; (try dsimp only at hSw); go_simp; try (with_reducible rfl)
            try go_simp
            refine wpAnyH_take (i := 3) (v := ?_) rfl (by kernel_rfl) (by kernel_rfl) (by kernel_rfl) (fun _ _ _ h => h) (Or.inl ⟨by rfl, ?_⟩) (by assumption) ?_
            rotate_left
            · intro w hSw; (try dsimp only at hSw); go_simp; try (with_reducible rfl)
            try go_simp
            refine wpAnyH_take (i := 5) (v := ?_) rfl (by kernel_rfl) (by kernel_rfl) (by kernel_rfl) (fun _ _ _ h => h) (Or.inl ⟨by rfl, ?_⟩) (by assumption) ?_
            rotate_left
            · intro w hSw; (try dsimp only at hSw); go_simp; try (with_reducible rfl)
            try go_simp
            have hS0 := hHeld
            refine wpAnyH_ready (rs := [2]) (by kernel_rfl) (by simp) ?_
            refine AllReadyH.cons rfl (fun K hK => ?_) AllReadyH.nil
            go_simp
            skip
            refine hK.out _ _ (⟨cell_stays (below_alloc _ _) hS0.1, cell_stays (below_alloc _ _) hS0.2.1, cell_stays (below_alloc _ _) hS0.2.2.1, cell_stays (below_alloc _ _) hS0.2.2.2⟩) (fun hHeld => ?_)
            clear hK K
            try go_simp
            refine wpAnyH_ready (rs := [4]) (by kernel_rfl) (by simp) ?_
            refine AllReadyH.cons rfl (fun K hK => ?_) AllReadyH.nil
            refine step_append_rd rfl _ _ 25 rfl wd.heap.size 3 i0 (.int .i64 0) 8 Tryd.underlying25 HI.out.1 HI.out.2.1 HI.out.2.2.1 HI.out.2.2.2 rfl (.slice (some ⟨wd.heap.size, 0, none⟩) 0 0) 0 [] rfl (own_lit0 wd) (by simp) At t ct L rfl (HL10.out.below (below_alloc wd _)) HLl.out ?c3 ?c4 ?c5 ?_
            case c3 => unfold maxLen; omega
            case c4 => omega
            case c5 => simp
            intro v11 w11 hown hgrow hne
            have hNS : NS wd w11 v11 L := ⟨by have h1 := hown; rw [Nat.zero_add, List.nil_append, ← HLl.out] at h1; exact h1, (below_alloc wd _).grown hgrow (by simp) (fun k hk => by cases hk; exact Nat.le_refl _)⟩
            obtain ⟨A11, c11, hz11, hzz, _, _⟩ := hNS.zin
            subst hz11
            obtain ⟨at11, rfl⟩ := ns_some hNS hne
            have hb11 := hNS.2
            refine hK.out _ _ ⟨cell_stays hb11 hS0.1, cell_stays hb11 hS0.2.1, cell_stays hb11 hS0.2.2.1, cell_stays hb11 hS0.2.2.2⟩ (fun hHeld => ?_)
            clear hK K
            rw [HLl.out]
            try go_simp
            have HB11 := Lib.hid (below_then HB10.out hb11)
            have HNb11 := Lib.hid (HNb10.out.below hb11)
            have HIn11 := Lib.hid (HIn10.out.below hb11)
            have HZ11 := Lib.hid (HZ10.out.below hb11)
            have HT11 := Lib.hid (HT10.out.below hb11)
            have HL11 := Lib.hid (HL10.out.below hb11)
            have HX11 := Lib.hid (HX10.out.below hb11)
            have HFt := Lib.hid (fault_tg N A n c Am m cm M at11 t c11 L 0 (mo : Int) w11 HIn11.out HNl.out hn2 HZ11.out HM.out (by omega) hzz HLl.out (by omega))
            rw [HFg.out] at HFt
            have hS1 := hHeld
            clear hS0 hown hgrow hne hNS hzz hb11 HX10
            clear HB10 HNb10 HIn10 HZ10 HT10 HL10
            refine wpAnyH_ready (rs := [6]) (by kernel_rfl) (by simp) ?_
            refine AllReadyH.cons rfl (fun K hK => ?_) AllReadyH.nil
            go_simp
            ((refine HFt.out.mono ?_); rintro e w12 ⟨rfl, hb12⟩)
            refine hK.out _ _ (⟨cell_stays hb12 hS1.1, cell_stays hb12 hS1.2.1, cell_stays hb12 hS1.2.2.1, cell_stays hb12 hS1.2.2.2⟩) (fun hHeld => ?_)
            clear hK K
            try go_simp
            have HB12 := Lib.hid (below_then HB11.out hb12)
            have HNb12 := Lib.hid (HNb11.out.below hb12)
            have HIn12 := Lib.hid (HIn11.out.below hb12)
            have HZ12 := Lib.hid (HZ11.out.below hb12)
            have HT12 := Lib.hid (HT11.out.below hb12)
            have HL12 := Lib.hid (HL11.out.below hb12)
            have HX12 := Lib.hid (HX11.out.below hb12)
            refine wpAnyH_take (i := 7) (v := ?_) rfl (by kernel_rfl) (by kernel_rfl) (by kernel_rfl) (fun _ _ _ h => h) (Or.inl ⟨by rfl, ?_⟩) (by assumption) ?_
            rotate_left
            · intro w hSw; (try dsimp only at hSw); go_simp; try (with_reducible rfl)
            try go_simp
            refine wpAnyH_done (by kernel_rfl) ?_ _
            clear hHeld hS1 hb12 HFt HX11
            clear HB11 HNb11 HIn11 HZ11 HT11 HL11
            go_wp2_with fail
            go_ret
            exact ⟨ret_bool (by simp), HB12.out⟩
          · have HFg := Lib.hid hfg
            have HCv0 := Lib.hid (hcv hgr)
            clear hfg hcv hgr hml
            have HBn := Lib.hid (bn_no (bound_any N A n c Am m cm M place (mo : Int) w2 HIn2.out HNl.out hn2 HZ2.out HM.out hm1 hm2 HT2.out) HBn0.out)
            clear HAw
            go_wp2_with fail
            ((with_reducible refine HBn.out.mono ?_); rintro e w3 ⟨rfl, hb3⟩)
            have HB3 := Lib.hid (below_then HB2.out hb3)
            have HNb3 := Lib.hid (HNb2.out.below hb3)
            have HIn3 := Lib.hid (HIn2.out.below hb3)
            have HZ3 := Lib.hid (HZ2.out.below hb3)
            have HT3 := Lib.hid (HT2.out.below hb3)
            have HL3 := Lib.hid (HL2.out.below hb3)
            clear hb3 HBn b0 b1 b2 b3
            clear HB2 HNb2 HIn2 HZ2 HT2 HL2
            obtain ⟨b0, b1, b2, b3⟩ := HNb3.out.cells
            have HCv := Lib.hid (cv_err (covers_any N A n c Am m cm M At t ct L (mo : Int) w3 HIn3.out HNl.out hn2 HZ3.out HM.out hm1 hm2 HL3.out HLl.out hl1 hl2 HT3.out) HCv0.out)
            go_wp2_with fail
            ((with_reducible refine HCv.out.mono ?_); rintro e w4 ⟨rfl, hb4⟩)
            have HB4 := Lib.hid (below_then HB3.out hb4)
            have HNb4 := Lib.hid (HNb3.out.below hb4)
            have HIn4 := Lib.hid (HIn3.out.below hb4)
            have HZ4 := Lib.hid (HZ3.out.below hb4)
            have HT4 := Lib.hid (HT3.out.below hb4)
            have HL4 := Lib.hid (HL3.out.below hb4)
            clear hb4 HCv b0 b1 b2 b3
            clear HB3 HNb3 HIn3 HZ3 HT3 HL3
            have HA := Lib.hid (below_alloc w4 (.cells #[.slice none 0 0, .slice none 0 0, .bool false] 31))
            have HX := Lib.hid (SpB.new w4 (.slice none 0 0) (.slice none 0 0) false)
            obtain ⟨b0, b1, b2, b3⟩ := HNb4.out.cells
            have hlt4 := HNb4.out.lt
            have HFa := Lib.hid (fault_nil N A n c Am m cm M 0 (mo : Int) _ (HIn4.out.below HA.out) HNl.out hn2 (HZ4.out.below HA.out) HM.out (by omega))
            rw [HF0.out] at HFa
            go_wp2_with fail
            ((with_reducible refine HFa.out.mono ?_); rintro e w5 ⟨rfl, hb5⟩)
            have hb45 := below_then HA.out hb5
            have HB5 := Lib.hid (below_then HB4.out hb45)
            have HNb5 := Lib.hid (HNb4.out.below hb45)
            have HIn5 := Lib.hid (HIn4.out.below hb45)
            have HZ5 := Lib.hid (HZ4.out.below hb45)
            have HT5 := Lib.hid (HT4.out.below hb45)
            have HL5 := Lib.hid (HL4.out.below hb45)
            have HX5 := Lib.hid (HX.out.below hb5)
            have hsw : w.heap.size < w4.heap.size := hlt4
            have HB45 := Lib.hid hb45
            clear hb45 hb5 HFa HA HX hlt4 b0 b1 b2 b3
            obtain ⟨b0, b1, b2, b3⟩ := HNb5.out.cells
            obtain ⟨sb, hsb⟩ : ∃ sb, w4.heap.size = sb := ⟨_, rfl⟩
            rw [hsb] at HX5 hsw ⊢
            have HRg := Lib.hid (rgraph_any N A n c Am m cm M mo w5 HIn5.out.1 HNl.out HZ5.out HM.out hm1 hm2 HMk.out (by omega))
            go_wp2_with fail
            ((with_reducible refine HRg.out.mono ?_); rintro e w6 ⟨hb6, hP⟩)
            rw [HG.out] at hP
            have he : e = .returned (.tuple #[.agg #[.slice none 0 0, .slice none 0 0, .bool false], .bool false]) := hP
            subst he
            have HX6 := Lib.hid (HX5.out.below hb6)
            have HB46 := Lib.hid (below_then HB45.out hb6)
            clear hb6 b0 b1 b2 b3 HRg HX5 hP
            clear HB5 HNb5 HIn5 HZ5 HT5 HL5
            obtain ⟨x0, x1, x2⟩ := HX6.out.cells
            have f0 := HX6.out.soft 0
            have f1 := HX6.out.soft 1
            have f2 := HX6.out.soft 2
            have hlt6 := HX6.out.lt
            have HX7 := Lib.hid (((HX6.out.set0 (.slice none 0 0)).set1 (.slice none 0 0)).set2 false)
            have hgr7 : w6.grownBy (((w6.setCell ⟨sb, 0, none⟩ (.slice none 0 0)).setCell ⟨sb, 1, none⟩ (.slice none 0 0)).setCell ⟨sb, 2, none⟩ (.bool false)) (some sb) := Lib.grownBy_setB (Lib.grownBy_setB (Lib.grownBy_setB (grown_refl w6 (some sb)) 0 _) 1 _) 2 _
            have hb47 : Below w4.heap.size w4 (((w6.setCell ⟨sb, 0, none⟩ (.slice none 0 0)).setCell ⟨sb, 1, none⟩ (.slice none 0 0)).setCell ⟨sb, 2, none⟩ (.bool false)) := HB46.out.grown hgr7 HB46.out.size (fun k hk => Nat.le_of_eq (hsb.trans (Option.some.inj hk)))
            have HB7 := Lib.hid (below_then HB4.out hb47)
            have HNb7 := Lib.hid (HNb4.out.below hb47)
            have HIn7 := Lib.hid (HIn4.out.below hb47)
            have HZ7 := Lib.hid (HZ4.out.below hb47)
            have HT7 := Lib.hid (HT4.out.below hb47)
            have HL7 := Lib.hid (HL4.out.below hb47)
            clear hb47 hgr7 HX6 HB46
            clear HB4 HNb4 HIn4 HZ4 HT4 HL4
            obtain ⟨b0, b1, b2, b3⟩ := HNb7.out.cells
            have HFq := Lib.hid (fault_nil N A n c Am m cm M place (mo : Int) _ HIn7.out HNl.out hn2 HZ7.out HM.out (by omega))
            rw [HFp.out] at HFq
            go_wp2_with fail
            ((with_reducible refine HFq.out.mono ?_); rintro e w8 ⟨rfl, hb8⟩)
            have HB8 := Lib.hid (below_then HB7.out hb8)
            have HNb8 := Lib.hid (HNb7.out.below hb8)
            have HIn8 := Lib.hid (HIn7.out.below hb8)
            have HZ8 := Lib.hid (HZ7.out.below hb8)
            have HT8 := Lib.hid (HT7.out.below hb8)
            have HL8 := Lib.hid (HL7.out.below hb8)
            have HX8 := Lib.hid (HX7.out.below hb8)
            clear hb8 HFq HX7 b0 b1 b2 b3 x0 x1 x2 f0 f1 f2 hlt6
            clear HB7 HNb7 HIn7 HZ7 HT7 HL7
            obtain ⟨x0, x1, x2⟩ := HX8.out.cells
            go_wp2_with fail
            clear x0 x1 x2
            have hbd : Below w8.heap.size w8 w8.drew := (Below.refl _ _).drew
            have HB10 := Lib.hid (below_then HB8.out hbd)
            have HNb10 := Lib.hid (HNb8.out.below hbd)
            have HIn10 := Lib.hid (HIn8.out.below hbd)
            have HZ10 := Lib.hid (HZ8.out.below hbd)
            have HT10 := Lib.hid (HT8.out.below hbd)
            have HL10 := Lib.hid (HL8.out.below hbd)
            have HX10 := Lib.hid (HX8.out.below hbd)
            obtain ⟨s0, s1, s2, s3⟩ := HNb10.out.cells
            have hS0 := And.intro s0 (And.intro s1 (And.intro s2 s3))
            refine wp_region_held_drew (S := fun w' => w'.cell? ⟨w.heap.size, 0, none⟩ = some (.int .i64 N.pl) ∧ w'.cell? ⟨w.heap.size, 1, none⟩ = some (.slice A n c) ∧ w'.cell? ⟨w.heap.size, 2, none⟩ = some (.int .i64 N.src) ∧ w'.cell? ⟨w.heap.size, 3, none⟩ = some (.int .i64 N.snk)) (by kernel_rfl) hS0 (fun hHeld => ?_)
            clear hS0 hbd s0 s1 s2 s3 HX8
            clear HB8 HNb8 HIn8 HZ8 HT8 HL8
            generalize w8.drew = wd at *
            refine wpAnyH_take (i := 0) (v := ?_) rfl (by kernel_rfl) (by kernel_rfl) (by kernel_rfl) (fun _ _ _ h => h) (Or.inl ⟨by rfl, ?_⟩) (by assumption) ?_
            rotate_left
            · intro w hSw; (try dsimp only at hSw); go_simp; try (with_reducible rfl)
            try go_simp
            refine wpAnyH_take (i := 1) (v := ?_) rfl (by kernel_rfl) (by kernel_rfl) (by kernel_rfl) (fun _ _ _ h => h) (Or.inl ⟨by rfl, ?_⟩) (by assumption) ?_
            rotate_left
            · intro w hSw; (try dsimp only at hSw); go_simp; try (with_reducible rfl)
            try go_simp
            refine wpAnyH_take (i := 3) (v := ?_) rfl (by kernel_rfl) (by kernel_rfl) (by kernel_rfl) (fun _ _ _ h => h) (Or.inl ⟨by rfl, ?_⟩) (by assumption) ?_
            rotate_left
            · intro w hSw; (try dsimp only at hSw); go_simp; try (with_reducible rfl)
            try go_simp
            refine wpAnyH_take (i := 5) (v := ?_) rfl (by kernel_rfl) (by kernel_rfl) (by kernel_rfl) (fun _ _ _ h => h) (Or.inl ⟨by rfl, ?_⟩) (by assumption) ?_
            rotate_left
            · intro w hSw; (try dsimp only at hSw); go_simp; try (with_reducible rfl)
            try go_simp
            have hS0 := hHeld
            refine wpAnyH_ready (rs := [2]) (by kernel_rfl) (by simp) ?_
            refine AllReadyH.cons rfl (fun K hK => ?_) AllReadyH.nil
            go_simp
            skip
            refine hK.out _ _ (⟨cell_stays (below_alloc _ _) hS0.1, cell_stays (below_alloc _ _) hS0.2.1, cell_stays (below_alloc _ _) hS0.2.2.1, cell_stays (below_alloc _ _) hS0.2.2.2⟩) (fun hHeld => ?_)
            clear hK K
            try go_simp
            refine wpAnyH_ready (rs := [4]) (by kernel_rfl) (by simp) ?_
            refine AllReadyH.cons rfl (fun K hK => ?_) AllReadyH.nil
            refine step_append_rd rfl _ _ 25 rfl wd.heap.size 3 i0 (.int .i64 0) 8 Tryd.underlying25 HI.out.1 HI.out.2.1 HI.out.2.2.1 HI.out.2.2.2 rfl (.slice (some ⟨wd.heap.size, 0, none⟩) 0 0) 0 [] rfl (own_lit0 wd) (by simp) At t ct L rfl (HL10.out.below (below_alloc wd _)) HLl.out ?c3 ?c4 ?c5 ?_
            case c3 => unfold maxLen; omega
            case c4 => omega
            case c5 => simp
            intro v11 w11 hown hgrow hne
            have hNS : NS wd w11 v11 L := ⟨by have h1 := hown; rw [Nat.zero_add, List.nil_append, ← HLl.out] at h1; exact h1, (below_alloc wd _).grown hgrow (by simp) (fun k hk => by cases hk; exact Nat.le_refl _)⟩
            obtain ⟨A11, c11, hz11, hzz, _, _⟩ := hNS.zin
            subst hz11
            obtain ⟨at11, rfl⟩ := ns_some hNS hne
            have hb11 := hNS.2
            refine hK.out _ _ ⟨cell_stays hb11 hS0.1, cell_stays hb11 hS0.2.1, cell_stays hb11 hS0.2.2.1, cell_stays hb11 hS0.2.2.2⟩ (fun hHeld => ?_)
            clear hK K
            rw [HLl.out]
            try go_simp
            have HB11 := Lib.hid (below_then HB10.out hb11)
            have HNb11 := Lib.hid (HNb10.out.below hb11)
            have HIn11 := Lib.hid (HIn10.out.below hb11)
            have HZ11 := Lib.hid (HZ10.out.below hb11)
            have HT11 := Lib.hid (HT10.out.below hb11)
            have HL11 := Lib.hid (HL10.out.below hb11)
            have HX11 := Lib.hid (HX10.out.below hb11)
            have HFt := Lib.hid (fault_tg N A n c Am m cm M at11 t c11 L 0 (mo : Int) w11 HIn11.out HNl.out hn2 HZ11.out HM.out (by omega) hzz HLl.out (by omega))
            rw [HFg.out] at HFt
            have hS1 := hHeld
            clear hS0 hown hgrow hne hNS hzz hb11 HX10
            clear HB10 HNb10 HIn10 HZ10 HT10 HL10
            refine wpAnyH_ready (rs := [6]) (by kernel_rfl) (by simp) ?_
            refine AllReadyH.cons rfl (fun K hK => ?_) AllReadyH.nil
            go_simp
            ((refine HFt.out.mono ?_); rintro e w12 ⟨rfl, hb12⟩)
            refine hK.out _ _ (⟨cell_stays hb12 hS1.1, cell_stays hb12 hS1.2.1, cell_stays hb12 hS1.2.2.1, cell_stays hb12 hS1.2.2.2⟩) (fun hHeld => ?_)
            clear hK K
            try go_simp
            have HB12 := Lib.hid (below_then HB11.out hb12)
            have HNb12 := Lib.hid (HNb11.out.below hb12)
            have HIn12 := Lib.hid (HIn11.out.below hb12)
            have HZ12 := Lib.hid (HZ11.out.below hb12)
            have HT12 := Lib.hid (HT11.out.below hb12)
            have HL12 := Lib.hid (HL11.out.below hb12)
            have HX12 := Lib.hid (HX11.out.below hb12)
            refine wpAnyH_take (i := 7) (v := ?_) rfl (by kernel_rfl) (by kernel_rfl) (by kernel_rfl) (fun _ _ _ h => h) (Or.inl ⟨by rfl, ?_⟩) (by assumption) ?_
            rotate_left
            · intro w hSw; (try dsimp only at hSw); go_simp; try (with_reducible rfl)
            try go_simp
            refine wpAnyH_done (by kernel_rfl) ?_ _
            clear hHeld hS1 hb12 HFt HX11
            clear HB11 HNb11 HIn11 HZ11 HT11 HL11
            go_wp2_with fail
            go_ret
            exact ⟨ret_bool (by simp), HB12.out⟩
      · have HG := Lib.hid hgr
        have hgood := grow_good (N := N) (M := M) HMk.out hgr
        have hsl := fun s hs => hgood.1.slen hgood.2.2.1 hgood.2.2.2 s hs
        have hmlen := mk_len HMk.out
        have hps := nt_small (mk_nt HMk.out)
        have hmoo := moves_ok hgood.1
        have HSne := Lib.hid (show ∀ s ∈ T.states, 0 < s.length from fun s hs => by rw [hsl s hs]; omega)
        have HGt := Lib.hid (show 0 < T.states.length ∧ T.states.length ≤ 20001 from ⟨(List.getElem?_eq_some_iff.1 hgood.1.one).1, by have := hgood.1.cnt; have := hgood.1.len; omega⟩)
        have HTm := Lib.hid (show T.states.length ≤ 20001 ∧ (movesOf T).length ≤ 20000 ∧ mvOk (movesOf T) T.states.length ∧ (∀ x ∈ movesOf T, 0 ≤ x.s ∧ x.s < 60) ∧ (mkB N L = true → ∀ s ∈ T.states, t ≤ s.length ∧ s.length ≤ 1000) from ⟨HGt.out.2, by rw [movesOf_len]; have := hgood.1.len; omega, hmoo.1, fun x hx => by have := hmoo.2 x hx; omega, fun h s hs => by have := mk_len h; have := HLl.out; rw [hsl s hs]; omega⟩)
        have HPm := Lib.hid (fun (p : Nat) (hp : (p : Int) < N.pl) => show ∀ s ∈ T.states, p < s.length from fun s hs => by rw [hsl s hs]; omega)
        clear hgood hsl hmlen hps hmoo
        rcases hpl with ⟨hfp, hbn⟩ | ⟨hfp, hp0, hp1, _, hbn⟩
        · have HFp := Lib.hid hfp
          have HBn0 := Lib.hid hbn
          clear hfp hbn
          rcases htg with ⟨hfg, hcv⟩ | ⟨hfg, hml, _, hcv⟩
          · have HFg := Lib.hid hfg
            have HCv0 := Lib.hid hcv
            clear hfg hcv hgr
            have HBn := Lib.hid (bn_no (bound_any N A n c Am m cm M place (mo : Int) w2 HIn2.out HNl.out hn2 HZ2.out HM.out hm1 hm2 HT2.out) HBn0.out)
            clear HAw
            go_wp2_with fail
            ((with_reducible refine HBn.out.mono ?_); rintro e w3 ⟨rfl, hb3⟩)
            have HB3 := Lib.hid (below_then HB2.out hb3)
            have HNb3 := Lib.hid (HNb2.out.below hb3)
            have HIn3 := Lib.hid (HIn2.out.below hb3)
            have HZ3 := Lib.hid (HZ2.out.below hb3)
            have HT3 := Lib.hid (HT2.out.below hb3)
            have HL3 := Lib.hid (HL2.out.below hb3)
            clear hb3 HBn b0 b1 b2 b3
            clear HB2 HNb2 HIn2 HZ2 HT2 HL2
            obtain ⟨b0, b1, b2, b3⟩ := HNb3.out.cells
            have HCv := Lib.hid (cv_err (covers_any N A n c Am m cm M At t ct L (mo : Int) w3 HIn3.out HNl.out hn2 HZ3.out HM.out hm1 hm2 HL3.out HLl.out hl1 hl2 HT3.out) HCv0.out)
            go_wp2_with fail
            ((with_reducible refine HCv.out.mono ?_); rintro e w4 ⟨rfl, hb4⟩)
            have HB4 := Lib.hid (below_then HB3.out hb4)
            have HNb4 := Lib.hid (HNb3.out.below hb4)
            have HIn4 := Lib.hid (HIn3.out.below hb4)
            have HZ4 := Lib.hid (HZ3.out.below hb4)
            have HT4 := Lib.hid (HT3.out.below hb4)
            have HL4 := Lib.hid (HL3.out.below hb4)
            clear hb4 HCv b0 b1 b2 b3
            clear HB3 HNb3 HIn3 HZ3 HT3 HL3
            have HA := Lib.hid (below_alloc w4 (.cells #[.slice none 0 0, .slice none 0 0, .bool false] 31))
            have HX := Lib.hid (SpB.new w4 (.slice none 0 0) (.slice none 0 0) false)
            obtain ⟨b0, b1, b2, b3⟩ := HNb4.out.cells
            have hlt4 := HNb4.out.lt
            have HFa := Lib.hid (fault_nil N A n c Am m cm M 0 (mo : Int) _ (HIn4.out.below HA.out) HNl.out hn2 (HZ4.out.below HA.out) HM.out (by omega))
            rw [HF0.out] at HFa
            go_wp2_with fail
            ((with_reducible refine HFa.out.mono ?_); rintro e w5 ⟨rfl, hb5⟩)
            have hb45 := below_then HA.out hb5
            have HB5 := Lib.hid (below_then HB4.out hb45)
            have HNb5 := Lib.hid (HNb4.out.below hb45)
            have HIn5 := Lib.hid (HIn4.out.below hb45)
            have HZ5 := Lib.hid (HZ4.out.below hb45)
            have HT5 := Lib.hid (HT4.out.below hb45)
            have HL5 := Lib.hid (HL4.out.below hb45)
            have HX5 := Lib.hid (HX.out.below hb5)
            have hsw : w.heap.size < w4.heap.size := hlt4
            have HB45 := Lib.hid hb45
            clear hb45 hb5 HFa HA HX hlt4 b0 b1 b2 b3
            obtain ⟨b0, b1, b2, b3⟩ := HNb5.out.cells
            obtain ⟨sb, hsb⟩ : ∃ sb, w4.heap.size = sb := ⟨_, rfl⟩
            rw [hsb] at HX5 hsw ⊢
            have HRg := Lib.hid (rgraph_any N A n c Am m cm M mo w5 HIn5.out.1 HNl.out HZ5.out HM.out hm1 hm2 HMk.out (by omega))
            go_wp2_with fail
            ((with_reducible refine HRg.out.mono ?_); rintro e w6 ⟨hb6, hP⟩)
            rw [HG.out] at hP
            obtain ⟨v, rfl, hs⟩ := hP
            have HS2 := Lib.hid hs
            obtain ⟨Ac, cc, Ad, cd, rfl, _⟩ := hs
            have HX6 := Lib.hid (HX5.out.below hb6)
            have HB46 := Lib.hid (below_then HB45.out hb6)
            clear hb6 b0 b1 b2 b3 HRg HX5
            clear HB5 HNb5 HIn5 HZ5 HT5 HL5
            obtain ⟨x0, x1, x2⟩ := HX6.out.cells
            have f0 := HX6.out.soft 0
            have f1 := HX6.out.soft 1
            have f2 := HX6.out.soft 2
            have hlt6 := HX6.out.lt
            have HX7 := Lib.hid (((HX6.out.set0 (.slice Ac T.states.length cc)).set1 (.slice Ad (movesOf T).length cd)).set2 true)
            have hgr7 : w6.grownBy (((w6.setCell ⟨sb, 0, none⟩ (.slice Ac T.states.length cc)).setCell ⟨sb, 1, none⟩ (.slice Ad (movesOf T).length cd)).setCell ⟨sb, 2, none⟩ (.bool true)) (some sb) := Lib.grownBy_setB (Lib.grownBy_setB (Lib.grownBy_setB (grown_refl w6 (some sb)) 0 _) 1 _) 2 _
            have hb47 : Below w4.heap.size w4 (((w6.setCell ⟨sb, 0, none⟩ (.slice Ac T.states.length cc)).setCell ⟨sb, 1, none⟩ (.slice Ad (movesOf T).length cd)).setCell ⟨sb, 2, none⟩ (.bool true)) := HB46.out.grown hgr7 HB46.out.size (fun k hk => Nat.le_of_eq (hsb.trans (Option.some.inj hk)))
            have HB7 := Lib.hid (below_then HB4.out hb47)
            have HNb7 := Lib.hid (HNb4.out.below hb47)
            have HIn7 := Lib.hid (HIn4.out.below hb47)
            have HZ7 := Lib.hid (HZ4.out.below hb47)
            have HT7 := Lib.hid (HT4.out.below hb47)
            have HL7 := Lib.hid (HL4.out.below hb47)
            have HSp7 := Lib.hid (HS2.out.kept HSne.out HX6.out hgr7)
            clear hb47 hgr7 HX6 HB46 HS2
            clear HB4 HNb4 HIn4 HZ4 HT4 HL4
            obtain ⟨b0, b1, b2, b3⟩ := HNb7.out.cells
            have HFq := Lib.hid (fault_nil N A n c Am m cm M place (mo : Int) _ HIn7.out HNl.out hn2 HZ7.out HM.out (by omega))
            rw [HFp.out] at HFq
            go_wp2_with fail
            ((with_reducible refine HFq.out.mono ?_); rintro e w8 ⟨rfl, hb8⟩)
            have HB8 := Lib.hid (below_then HB7.out hb8)
            have HNb8 := Lib.hid (HNb7.out.below hb8)
            have HIn8 := Lib.hid (HIn7.out.below hb8)
            have HZ8 := Lib.hid (HZ7.out.below hb8)
            have HT8 := Lib.hid (HT7.out.below hb8)
            have HL8 := Lib.hid (HL7.out.below hb8)
            have HX8 := Lib.hid (HX7.out.below hb8)
            have HSp8 := Lib.hid (HSp7.out.below hb8)
            clear hb8 HFq HX7 b0 b1 b2 b3 x0 x1 x2 f0 f1 f2 hlt6 HSp7
            clear HB7 HNb7 HIn7 HZ7 HT7 HL7
            obtain ⟨x0, x1, x2⟩ := HX8.out.cells
            go_wp2_with fail
            clear x0 x1 x2
            have hbd : Below w8.heap.size w8 w8.drew := (Below.refl _ _).drew
            have HB10 := Lib.hid (below_then HB8.out hbd)
            have HNb10 := Lib.hid (HNb8.out.below hbd)
            have HIn10 := Lib.hid (HIn8.out.below hbd)
            have HZ10 := Lib.hid (HZ8.out.below hbd)
            have HT10 := Lib.hid (HT8.out.below hbd)
            have HL10 := Lib.hid (HL8.out.below hbd)
            have HX10 := Lib.hid (HX8.out.below hbd)
            have HSp10 := Lib.hid (HSp8.out.below hbd)
            obtain ⟨s0, s1, s2, s3⟩ := HNb10.out.cells
            have hS0 := And.intro s0 (And.intro s1 (And.intro s2 s3))
            refine wp_region_held_drew (S := fun w' => w'.cell? ⟨w.heap.size, 0, none⟩ = some (.int .i64 N.pl) ∧ w'.cell? ⟨w.heap.size, 1, none⟩ = some (.slice A n c) ∧ w'.cell? ⟨w.heap.size, 2, none⟩ = some (.int .i64 N.src) ∧ w'.cell? ⟨w.heap.size, 3, none⟩ = some (.int .i64 N.snk)) (by kernel_rfl) hS0 (fun hHeld => ?_)
            clear hS0 hbd s0 s1 s2 s3 HX8 HSp8
            clear HB8 HNb8 HIn8 HZ8 HT8 HL8
            generalize w8.drew = wd at *
            refine wpAnyH_take (i := 0) (v := ?_) rfl (by kernel_rfl) (by kernel_rfl) (by kernel_rfl) (fun _ _ _ h => h) (Or.inl ⟨by rfl, ?_⟩) (by assumption) ?_
            rotate_left
            · intro w hSw; (try dsimp only at hSw); go_simp; try (with_reducible rfl)
            try go_simp
            refine wpAnyH_take (i := 1) (v := ?_) rfl (by kernel_rfl) (by kernel_rfl) (by kernel_rfl) (fun _ _ _ h => h) (Or.inl ⟨by rfl, ?_⟩) (by assumption) ?_
            rotate_left
            · intro w hSw; (try dsimp only at hSw); go_simp; try (with_reducible rfl)
            try go_simp
            refine wpAnyH_take (i := 3) (v := ?_) rfl (by kernel_rfl) (by kernel_rfl) (by kernel_rfl) (fun _ _ _ h => h) (Or.inl ⟨by rfl, ?_⟩) (by assumption) ?_
            rotate_left
            · intro w hSw; (try dsimp only at hSw); go_simp; try (with_reducible rfl)
            try go_simp
            refine wpAnyH_take (i := 5) (v := ?_) rfl (by kernel_rfl) (by kernel_rfl) (by kernel_rfl) (fun _ _ _ h => h) (Or.inl ⟨by rfl, ?_⟩) (by assumption) ?_
            rotate_left
            · intro w hSw; (try dsimp only at hSw); go_simp; try (with_reducible rfl)
            try go_simp
            have hS0 := hHeld
            refine wpAnyH_ready (rs := [2]) (by kernel_rfl) (by simp) ?_
            refine AllReadyH.cons rfl (fun K hK => ?_) AllReadyH.nil
            go_simp
            skip
            refine hK.out _ _ (⟨cell_stays (below_alloc _ _) hS0.1, cell_stays (below_alloc _ _) hS0.2.1, cell_stays (below_alloc _ _) hS0.2.2.1, cell_stays (below_alloc _ _) hS0.2.2.2⟩) (fun hHeld => ?_)
            clear hK K
            try go_simp
            refine wpAnyH_ready (rs := [4]) (by kernel_rfl) (by simp) ?_
            refine AllReadyH.cons rfl (fun K hK => ?_) AllReadyH.nil
            refine step_append_rd rfl _ _ 25 rfl wd.heap.size 3 i0 (.int .i64 0) 8 Tryd.underlying25 HI.out.1 HI.out.2.1 HI.out.2.2.1 HI.out.2.2.2 rfl (.slice (some ⟨wd.heap.size, 0, none⟩) 0 0) 0 [] rfl (own_lit0 wd) (by simp) At t ct L rfl (HL10.out.below (below_alloc wd _)) HLl.out ?c3 ?c4 ?c5 ?_
            case c3 => unfold maxLen; omega
            case c4 => omega
            case c5 => simp
            intro v11 w11 hown hgrow hne
            have hNS : NS wd w11 v11 L := ⟨by have h1 := hown; rw [Nat.zero_add, List.nil_append, ← HLl.out] at h1; exact h1, (below_alloc wd _).grown hgrow (by simp) (fun k hk => by cases hk; exact Nat.le_refl _)⟩
            obtain ⟨A11, c11, hz11, hzz, _, _⟩ := hNS.zin
            subst hz11
            obtain ⟨at11, rfl⟩ := ns_some hNS hne
            have hb11 := hNS.2
            refine hK.out _ _ ⟨cell_stays hb11 hS0.1, cell_stays hb11 hS0.2.1, cell_stays hb11 hS0.2.2.1, cell_stays hb11 hS0.2.2.2⟩ (fun hHeld => ?_)
            clear hK K
            rw [HLl.out]
            try go_simp
            have HB11 := Lib.hid (below_then HB10.out hb11)
            have HNb11 := Lib.hid (HNb10.out.below hb11)
            have HIn11 := Lib.hid (HIn10.out.below hb11)
            have HZ11 := Lib.hid (HZ10.out.below hb11)
            have HT11 := Lib.hid (HT10.out.below hb11)
            have HL11 := Lib.hid (HL10.out.below hb11)
            have HX11 := Lib.hid (HX10.out.below hb11)
            have HSp11 := Lib.hid (HSp10.out.below hb11)
            have HFt := Lib.hid (fault_tg N A n c Am m cm M at11 t c11 L 0 (mo : Int) w11 HIn11.out HNl.out hn2 HZ11.out HM.out (by omega) hzz HLl.out (by omega))
            rw [HFg.out] at HFt
            have hS1 := hHeld
            clear hS0 hown hgrow hne hNS hzz hb11 HX10 HSp10
            clear HB10 HNb10 HIn10 HZ10 HT10 HL10
            refine wpAnyH_ready (rs := [6]) (by kernel_rfl) (by simp) ?_
            refine AllReadyH.cons rfl (fun K hK => ?_) AllReadyH.nil
            go_simp
            ((refine HFt.out.mono ?_); rintro e w12 ⟨rfl, hb12⟩)
            refine hK.out _ _ (⟨cell_stays hb12 hS1.1, cell_stays hb12 hS1.2.1, cell_stays hb12 hS1.2.2.1, cell_stays hb12 hS1.2.2.2⟩) (fun hHeld => ?_)
            clear hK K
            try go_simp
            have HB12 := Lib.hid (below_then HB11.out hb12)
            have HNb12 := Lib.hid (HNb11.out.below hb12)
            have HIn12 := Lib.hid (HIn11.out.below hb12)
            have HZ12 := Lib.hid (HZ11.out.below hb12)
            have HT12 := Lib.hid (HT11.out.below hb12)
            have HL12 := Lib.hid (HL11.out.below hb12)
            have HX12 := Lib.hid (HX11.out.below hb12)
            have HSp12 := Lib.hid (HSp11.out.below hb12)
            refine wpAnyH_take (i := 7) (v := ?_) rfl (by kernel_rfl) (by kernel_rfl) (by kernel_rfl) (fun _ _ _ h => h) (Or.inl ⟨by rfl, ?_⟩) (by assumption) ?_
            rotate_left
            · intro w hSw; (try dsimp only at hSw); go_simp; try (with_reducible rfl)
            try go_simp
            refine wpAnyH_done (by kernel_rfl) ?_ _
            clear hHeld hS1 hb12 HFt HX11 HSp11
            clear HB11 HNb11 HIn11 HZ11 HT11 HL11
            go_wp2_with fail
            go_ret
            exact ⟨ret_bool (by simp), HB12.out⟩
          · have HFg := Lib.hid hfg
            have HCv0 := Lib.hid (hcv T hgr)
            have HTn := Lib.hid (show _ ∧ _ ∧ _ ∧ _ ∧ _ from ⟨HTm.out.1, HTm.out.2.1, HTm.out.2.2.1, HTm.out.2.2.2.1, HTm.out.2.2.2.2 hml⟩)
            clear hfg hcv hgr hml
            rcases lidx_cases (covB L) T.states with ⟨_, hno⟩ | ⟨goal, hgi, hgl, sg, hsg, hcg⟩
            · have HNo := Lib.hid hno
              clear hno
              have HBn := Lib.hid (bn_no (bound_any N A n c Am m cm M place (mo : Int) w2 HIn2.out HNl.out hn2 HZ2.out HM.out hm1 hm2 HT2.out) HBn0.out)
              clear HAw
              go_wp2_with fail
              ((with_reducible refine HBn.out.mono ?_); rintro e w3 ⟨rfl, hb3⟩)
              have HB3 := Lib.hid (below_then HB2.out hb3)
              have HNb3 := Lib.hid (HNb2.out.below hb3)
              have HIn3 := Lib.hid (HIn2.out.below hb3)
              have HZ3 := Lib.hid (HZ2.out.below hb3)
              have HT3 := Lib.hid (HT2.out.below hb3)
              have HL3 := Lib.hid (HL2.out.below hb3)
              clear hb3 HBn b0 b1 b2 b3
              clear HB2 HNb2 HIn2 HZ2 HT2 HL2
              obtain ⟨b0, b1, b2, b3⟩ := HNb3.out.cells
              have HCv := Lib.hid (cv_no (covers_any N A n c Am m cm M At t ct L (mo : Int) w3 HIn3.out HNl.out hn2 HZ3.out HM.out hm1 hm2 HL3.out HLl.out hl1 hl2 HT3.out) HCv0.out HNo.out)
              go_wp2_with fail
              ((with_reducible refine HCv.out.mono ?_); rintro e w4 ⟨rfl, hb4⟩)
              have HB4 := Lib.hid (below_then HB3.out hb4)
              have HNb4 := Lib.hid (HNb3.out.below hb4)
              have HIn4 := Lib.hid (HIn3.out.below hb4)
              have HZ4 := Lib.hid (HZ3.out.below hb4)
              have HT4 := Lib.hid (HT3.out.below hb4)
              have HL4 := Lib.hid (HL3.out.below hb4)
              clear hb4 HCv b0 b1 b2 b3
              clear HB3 HNb3 HIn3 HZ3 HT3 HL3
              have HA := Lib.hid (below_alloc w4 (.cells #[.slice none 0 0, .slice none 0 0, .bool false] 31))
              have HX := Lib.hid (SpB.new w4 (.slice none 0 0) (.slice none 0 0) false)
              obtain ⟨b0, b1, b2, b3⟩ := HNb4.out.cells
              have hlt4 := HNb4.out.lt
              have HFa := Lib.hid (fault_nil N A n c Am m cm M 0 (mo : Int) _ (HIn4.out.below HA.out) HNl.out hn2 (HZ4.out.below HA.out) HM.out (by omega))
              rw [HF0.out] at HFa
              go_wp2_with fail
              ((with_reducible refine HFa.out.mono ?_); rintro e w5 ⟨rfl, hb5⟩)
              have hb45 := below_then HA.out hb5
              have HB5 := Lib.hid (below_then HB4.out hb45)
              have HNb5 := Lib.hid (HNb4.out.below hb45)
              have HIn5 := Lib.hid (HIn4.out.below hb45)
              have HZ5 := Lib.hid (HZ4.out.below hb45)
              have HT5 := Lib.hid (HT4.out.below hb45)
              have HL5 := Lib.hid (HL4.out.below hb45)
              have HX5 := Lib.hid (HX.out.below hb5)
              have hsw : w.heap.size < w4.heap.size := hlt4
              have HB45 := Lib.hid hb45
              clear hb45 hb5 HFa HA HX hlt4 b0 b1 b2 b3
              obtain ⟨b0, b1, b2, b3⟩ := HNb5.out.cells
              obtain ⟨sb, hsb⟩ : ∃ sb, w4.heap.size = sb := ⟨_, rfl⟩
              rw [hsb] at HX5 hsw ⊢
              have HRg := Lib.hid (rgraph_any N A n c Am m cm M mo w5 HIn5.out.1 HNl.out HZ5.out HM.out hm1 hm2 HMk.out (by omega))
              go_wp2_with fail
              ((with_reducible refine HRg.out.mono ?_); rintro e w6 ⟨hb6, hP⟩)
              rw [HG.out] at hP
              obtain ⟨v, rfl, hs⟩ := hP
              have HS2 := Lib.hid hs
              obtain ⟨Ac, cc, Ad, cd, rfl, _⟩ := hs
              have HX6 := Lib.hid (HX5.out.below hb6)
              have HB46 := Lib.hid (below_then HB45.out hb6)
              clear hb6 b0 b1 b2 b3 HRg HX5
              clear HB5 HNb5 HIn5 HZ5 HT5 HL5
              obtain ⟨x0, x1, x2⟩ := HX6.out.cells
              have f0 := HX6.out.soft 0
              have f1 := HX6.out.soft 1
              have f2 := HX6.out.soft 2
              have hlt6 := HX6.out.lt
              have HX7 := Lib.hid (((HX6.out.set0 (.slice Ac T.states.length cc)).set1 (.slice Ad (movesOf T).length cd)).set2 true)
              have hgr7 : w6.grownBy (((w6.setCell ⟨sb, 0, none⟩ (.slice Ac T.states.length cc)).setCell ⟨sb, 1, none⟩ (.slice Ad (movesOf T).length cd)).setCell ⟨sb, 2, none⟩ (.bool true)) (some sb) := Lib.grownBy_setB (Lib.grownBy_setB (Lib.grownBy_setB (grown_refl w6 (some sb)) 0 _) 1 _) 2 _
              have hb47 : Below w4.heap.size w4 (((w6.setCell ⟨sb, 0, none⟩ (.slice Ac T.states.length cc)).setCell ⟨sb, 1, none⟩ (.slice Ad (movesOf T).length cd)).setCell ⟨sb, 2, none⟩ (.bool true)) := HB46.out.grown hgr7 HB46.out.size (fun k hk => Nat.le_of_eq (hsb.trans (Option.some.inj hk)))
              have HB7 := Lib.hid (below_then HB4.out hb47)
              have HNb7 := Lib.hid (HNb4.out.below hb47)
              have HIn7 := Lib.hid (HIn4.out.below hb47)
              have HZ7 := Lib.hid (HZ4.out.below hb47)
              have HT7 := Lib.hid (HT4.out.below hb47)
              have HL7 := Lib.hid (HL4.out.below hb47)
              have HSp7 := Lib.hid (HS2.out.kept HSne.out HX6.out hgr7)
              clear hb47 hgr7 HX6 HB46 HS2
              clear HB4 HNb4 HIn4 HZ4 HT4 HL4
              obtain ⟨b0, b1, b2, b3⟩ := HNb7.out.cells
              have HFq := Lib.hid (fault_nil N A n c Am m cm M place (mo : Int) _ HIn7.out HNl.out hn2 HZ7.out HM.out (by omega))
              rw [HFp.out] at HFq
              go_wp2_with fail
              ((with_reducible refine HFq.out.mono ?_); rintro e w8 ⟨rfl, hb8⟩)
              have HB8 := Lib.hid (below_then HB7.out hb8)
              have HNb8 := Lib.hid (HNb7.out.below hb8)
              have HIn8 := Lib.hid (HIn7.out.below hb8)
              have HZ8 := Lib.hid (HZ7.out.below hb8)
              have HT8 := Lib.hid (HT7.out.below hb8)
              have HL8 := Lib.hid (HL7.out.below hb8)
              have HX8 := Lib.hid (HX7.out.below hb8)
              have HSp8 := Lib.hid (HSp7.out.below hb8)
              clear hb8 HFq HX7 b0 b1 b2 b3 x0 x1 x2 f0 f1 f2 hlt6 HSp7
              clear HB7 HNb7 HIn7 HZ7 HT7 HL7
              obtain ⟨x0, x1, x2⟩ := HX8.out.cells
              go_wp2_with fail
              clear x0 x1 x2
              have hbd : Below w8.heap.size w8 w8.drew := (Below.refl _ _).drew
              have HB10 := Lib.hid (below_then HB8.out hbd)
              have HNb10 := Lib.hid (HNb8.out.below hbd)
              have HIn10 := Lib.hid (HIn8.out.below hbd)
              have HZ10 := Lib.hid (HZ8.out.below hbd)
              have HT10 := Lib.hid (HT8.out.below hbd)
              have HL10 := Lib.hid (HL8.out.below hbd)
              have HX10 := Lib.hid (HX8.out.below hbd)
              have HSp10 := Lib.hid (HSp8.out.below hbd)
              obtain ⟨s0, s1, s2, s3⟩ := HNb10.out.cells
              have hS0 := And.intro s0 (And.intro s1 (And.intro s2 s3))
              refine wp_region_held_drew (S := fun w' => w'.cell? ⟨w.heap.size, 0, none⟩ = some (.int .i64 N.pl) ∧ w'.cell? ⟨w.heap.size, 1, none⟩ = some (.slice A n c) ∧ w'.cell? ⟨w.heap.size, 2, none⟩ = some (.int .i64 N.src) ∧ w'.cell? ⟨w.heap.size, 3, none⟩ = some (.int .i64 N.snk)) (by kernel_rfl) hS0 (fun hHeld => ?_)
              clear hS0 hbd s0 s1 s2 s3 HX8 HSp8
              clear HB8 HNb8 HIn8 HZ8 HT8 HL8
              generalize w8.drew = wd at *
              refine wpAnyH_take (i := 0) (v := ?_) rfl (by kernel_rfl) (by kernel_rfl) (by kernel_rfl) (fun _ _ _ h => h) (Or.inl ⟨by rfl, ?_⟩) (by assumption) ?_
              rotate_left
              · intro w hSw; (try dsimp only at hSw); go_simp; try (with_reducible rfl)
              try go_simp
              refine wpAnyH_take (i := 1) (v := ?_) rfl (by kernel_rfl) (by kernel_rfl) (by kernel_rfl) (fun _ _ _ h => h) (Or.inl ⟨by rfl, ?_⟩) (by assumption) ?_
              rotate_left
              · intro w hSw; (try dsimp only at hSw); go_simp; try (with_reducible rfl)
              try go_simp
              refine wpAnyH_take (i := 3) (v := ?_) rfl (by kernel_rfl) (by kernel_rfl) (by kernel_rfl) (fun _ _ _ h => h) (Or.inl ⟨by rfl, ?_⟩) (by assumption) ?_
              rotate_left
              · intro w hSw; (try dsimp only at hSw); go_simp; try (with_reducible rfl)
              try go_simp
              refine wpAnyH_take (i := 5) (v := ?_) rfl (by kernel_rfl) (by kernel_rfl) (by kernel_rfl) (fun _ _ _ h => h) (Or.inl ⟨by rfl, ?_⟩) (by assumption) ?_
              rotate_left
              · intro w hSw; (try dsimp only at hSw); go_simp; try (with_reducible rfl)
              try go_simp
              have hS0 := hHeld
              refine wpAnyH_ready (rs := [2]) (by kernel_rfl) (by simp) ?_
              refine AllReadyH.cons rfl (fun K hK => ?_) AllReadyH.nil
              go_simp
              skip
              refine hK.out _ _ (⟨cell_stays (below_alloc _ _) hS0.1, cell_stays (below_alloc _ _) hS0.2.1, cell_stays (below_alloc _ _) hS0.2.2.1, cell_stays (below_alloc _ _) hS0.2.2.2⟩) (fun hHeld => ?_)
              clear hK K
              try go_simp
              refine wpAnyH_ready (rs := [4]) (by kernel_rfl) (by simp) ?_
              refine AllReadyH.cons rfl (fun K hK => ?_) AllReadyH.nil
              refine step_append_rd rfl _ _ 25 rfl wd.heap.size 3 i0 (.int .i64 0) 8 Tryd.underlying25 HI.out.1 HI.out.2.1 HI.out.2.2.1 HI.out.2.2.2 rfl (.slice (some ⟨wd.heap.size, 0, none⟩) 0 0) 0 [] rfl (own_lit0 wd) (by simp) At t ct L rfl (HL10.out.below (below_alloc wd _)) HLl.out ?c3 ?c4 ?c5 ?_
              case c3 => unfold maxLen; omega
              case c4 => omega
              case c5 => simp
              intro v11 w11 hown hgrow hne
              have hNS : NS wd w11 v11 L := ⟨by have h1 := hown; rw [Nat.zero_add, List.nil_append, ← HLl.out] at h1; exact h1, (below_alloc wd _).grown hgrow (by simp) (fun k hk => by cases hk; exact Nat.le_refl _)⟩
              obtain ⟨A11, c11, hz11, hzz, _, _⟩ := hNS.zin
              subst hz11
              obtain ⟨at11, rfl⟩ := ns_some hNS hne
              have hb11 := hNS.2
              refine hK.out _ _ ⟨cell_stays hb11 hS0.1, cell_stays hb11 hS0.2.1, cell_stays hb11 hS0.2.2.1, cell_stays hb11 hS0.2.2.2⟩ (fun hHeld => ?_)
              clear hK K
              rw [HLl.out]
              try go_simp
              have HB11 := Lib.hid (below_then HB10.out hb11)
              have HNb11 := Lib.hid (HNb10.out.below hb11)
              have HIn11 := Lib.hid (HIn10.out.below hb11)
              have HZ11 := Lib.hid (HZ10.out.below hb11)
              have HT11 := Lib.hid (HT10.out.below hb11)
              have HL11 := Lib.hid (HL10.out.below hb11)
              have HX11 := Lib.hid (HX10.out.below hb11)
              have HSp11 := Lib.hid (HSp10.out.below hb11)
              have HFt := Lib.hid (fault_tg N A n c Am m cm M at11 t c11 L 0 (mo : Int) w11 HIn11.out HNl.out hn2 HZ11.out HM.out (by omega) hzz HLl.out (by omega))
              rw [HFg.out] at HFt
              have hS1 := hHeld
              clear hS0 hown hgrow hne hNS hzz hb11 HX10 HSp10
              clear HB10 HNb10 HIn10 HZ10 HT10 HL10
              refine wpAnyH_ready (rs := [6]) (by kernel_rfl) (by simp) ?_
              refine AllReadyH.cons rfl (fun K hK => ?_) AllReadyH.nil
              go_simp
              ((refine HFt.out.mono ?_); rintro e w12 ⟨rfl, hb12⟩)
              refine hK.out _ _ (⟨cell_stays hb12 hS1.1, cell_stays hb12 hS1.2.1, cell_stays hb12 hS1.2.2.1, cell_stays hb12 hS1.2.2.2⟩) (fun hHeld => ?_)
              clear hK K
              try go_simp
              have HB12 := Lib.hid (below_then HB11.out hb12)
              have HNb12 := Lib.hid (HNb11.out.below hb12)
              have HIn12 := Lib.hid (HIn11.out.below hb12)
              have HZ12 := Lib.hid (HZ11.out.below hb12)
              have HT12 := Lib.hid (HT11.out.below hb12)
              have HL12 := Lib.hid (HL11.out.below hb12)
              have HX12 := Lib.hid (HX11.out.below hb12)
              have HSp12 := Lib.hid (HSp11.out.below hb12)
              refine wpAnyH_take (i := 7) (v := ?_) rfl (by kernel_rfl) (by kernel_rfl) (by kernel_rfl) (fun _ _ _ h => h) (Or.inl ⟨by rfl, ?_⟩) (by assumption) ?_
              rotate_left
              · intro w hSw; (try dsimp only at hSw); go_simp; try (with_reducible rfl)
              try go_simp
              refine wpAnyH_done (by kernel_rfl) ?_ _
              clear hHeld hS1 hb12 HFt HX11 HSp11
              clear HB11 HNb11 HIn11 HZ11 HT11 HL11
              obtain ⟨x0, x1, x2⟩ := HX12.out.cells
              have hrc := rcovers_any _ T.states (movesOf T) true T.states.length At t ct L (fun _ => []) w12 HSp12.out rfl HTn.out.1 HTn.out.2.1 HTn.out.2.2.1 HTn.out.2.2.2.1 HL12.out HLl.out HTn.out.2.2.2.2 (fun g hg => by rw [lidx_no HNo.out] at hg; omega)
              have HRc := Lib.hid (rc_no hrc HNo.out)
              clear hrc
              go_wp2_with fail
              ((with_reducible refine HRc.out.mono ?_); rintro e w13 ⟨rfl, hb13⟩)
              have HB13 := Lib.hid (below_then HB12.out hb13)
              have HEq := Lib.hid (equal_any none 0 0 none 0 0 [] [] w13 zin_empty rfl zin_empty rfl (by omega) (by omega))
              rw [decide_eq_true rfl] at HEq
              clear hb13 HRc x0 x1 x2
              go_wp2_with fail
              ((with_reducible refine HEq.out.mono ?_); rintro e w14 ⟨rfl, hb14⟩)
              have HB14 := Lib.hid (below_then HB13.out hb14)
              go_wp2_with fail
              go_ret
              exact ⟨rfl, HB14.out⟩
            · have HGi := Lib.hid hgi
              have HSg := Lib.hid (And.intro hsg hcg)
              clear hgi hgl hsg hcg
              have HBn := Lib.hid (bn_no (bound_any N A n c Am m cm M place (mo : Int) w2 HIn2.out HNl.out hn2 HZ2.out HM.out hm1 hm2 HT2.out) HBn0.out)
              clear HAw
              go_wp2_with fail
              ((with_reducible refine HBn.out.mono ?_); rintro e w3 ⟨rfl, hb3⟩)
              have HB3 := Lib.hid (below_then HB2.out hb3)
              have HNb3 := Lib.hid (HNb2.out.below hb3)
              have HIn3 := Lib.hid (HIn2.out.below hb3)
              have HZ3 := Lib.hid (HZ2.out.below hb3)
              have HT3 := Lib.hid (HT2.out.below hb3)
              have HL3 := Lib.hid (HL2.out.below hb3)
              clear hb3 HBn b0 b1 b2 b3
              clear HB2 HNb2 HIn2 HZ2 HT2 HL2
              obtain ⟨b0, b1, b2, b3⟩ := HNb3.out.cells
              have HCv := Lib.hid (cv_yes (covers_any N A n c Am m cm M At t ct L (mo : Int) w3 HIn3.out HNl.out hn2 HZ3.out HM.out hm1 hm2 HL3.out HLl.out hl1 hl2 HT3.out) HCv0.out HGi.out HSg.out.1 HSg.out.2)
              go_wp2_with fail
              ((with_reducible refine HCv.out.mono ?_); rintro e w4 ⟨F, Aw, cw, rfl, hD, hf0, hS⟩)
              have hb4 := hS.2
              have HD := Lib.hid hD
              have HF00 := Lib.hid hf0
              have HWz := Lib.hid (show ZIn w4 Aw (wayD (movesOf T) F goal (fd F 0).toNat 0) by obtain ⟨A', c', e, hz, _⟩ := hS.zin; cases e; exact hz)
              have HWl := Lib.hid (show (wayD (movesOf T) F goal (fd F 0).toNat 0).length ≤ 20001 from Nat.le_trans (way_len _ _ _ _ _) (by have h1 := hD.top 0 HGt.out.1; have h2 := HGt.out.2; simp only [Int.natCast_zero] at h1; omega))
              clear hD hf0 hS
              obtain ⟨wl, hwl⟩ : ∃ wl, (wayD (movesOf T) F goal (fd F 0).toNat 0).length = wl := ⟨_, rfl⟩
              rw [hwl] at HWl ⊢
              have HWe := Lib.hid hwl
              clear hwl
              have HB4 := Lib.hid (below_then HB3.out hb4)
              have HNb4 := Lib.hid (HNb3.out.below hb4)
              have HIn4 := Lib.hid (HIn3.out.below hb4)
              have HZ4 := Lib.hid (HZ3.out.below hb4)
              have HT4 := Lib.hid (HT3.out.below hb4)
              have HL4 := Lib.hid (HL3.out.below hb4)
              clear hb4 HCv b0 b1 b2 b3
              clear HB3 HNb3 HIn3 HZ3 HT3 HL3
              have HA := Lib.hid (below_alloc w4 (.cells #[.slice none 0 0, .slice none 0 0, .bool false] 31))
              have HX := Lib.hid (SpB.new w4 (.slice none 0 0) (.slice none 0 0) false)
              obtain ⟨b0, b1, b2, b3⟩ := HNb4.out.cells
              have hlt4 := HNb4.out.lt
              have HFa := Lib.hid (fault_nil N A n c Am m cm M 0 (mo : Int) _ (HIn4.out.below HA.out) HNl.out hn2 (HZ4.out.below HA.out) HM.out (by omega))
              rw [HF0.out] at HFa
              go_wp2_with fail
              ((with_reducible refine HFa.out.mono ?_); rintro e w5 ⟨rfl, hb5⟩)
              have hb45 := below_then HA.out hb5
              have HB5 := Lib.hid (below_then HB4.out hb45)
              have HNb5 := Lib.hid (HNb4.out.below hb45)
              have HIn5 := Lib.hid (HIn4.out.below hb45)
              have HZ5 := Lib.hid (HZ4.out.below hb45)
              have HT5 := Lib.hid (HT4.out.below hb45)
              have HL5 := Lib.hid (HL4.out.below hb45)
              have HX5 := Lib.hid (HX.out.below hb5)
              have hsw : w.heap.size < w4.heap.size := hlt4
              have HB45 := Lib.hid hb45
              clear hb45 hb5 HFa HA HX hlt4 b0 b1 b2 b3
              obtain ⟨b0, b1, b2, b3⟩ := HNb5.out.cells
              obtain ⟨sb, hsb⟩ : ∃ sb, w4.heap.size = sb := ⟨_, rfl⟩
              rw [hsb] at HX5 hsw ⊢
              have HRg := Lib.hid (rgraph_any N A n c Am m cm M mo w5 HIn5.out.1 HNl.out HZ5.out HM.out hm1 hm2 HMk.out (by omega))
              go_wp2_with fail
              ((with_reducible refine HRg.out.mono ?_); rintro e w6 ⟨hb6, hP⟩)
              rw [HG.out] at hP
              obtain ⟨v, rfl, hs⟩ := hP
              have HS2 := Lib.hid hs
              obtain ⟨Ac, cc, Ad, cd, rfl, _⟩ := hs
              have HX6 := Lib.hid (HX5.out.below hb6)
              have HB46 := Lib.hid (below_then HB45.out hb6)
              clear hb6 b0 b1 b2 b3 HRg HX5
              clear HB5 HNb5 HIn5 HZ5 HT5 HL5
              obtain ⟨x0, x1, x2⟩ := HX6.out.cells
              have f0 := HX6.out.soft 0
              have f1 := HX6.out.soft 1
              have f2 := HX6.out.soft 2
              have hlt6 := HX6.out.lt
              have HX7 := Lib.hid (((HX6.out.set0 (.slice Ac T.states.length cc)).set1 (.slice Ad (movesOf T).length cd)).set2 true)
              have hgr7 : w6.grownBy (((w6.setCell ⟨sb, 0, none⟩ (.slice Ac T.states.length cc)).setCell ⟨sb, 1, none⟩ (.slice Ad (movesOf T).length cd)).setCell ⟨sb, 2, none⟩ (.bool true)) (some sb) := Lib.grownBy_setB (Lib.grownBy_setB (Lib.grownBy_setB (grown_refl w6 (some sb)) 0 _) 1 _) 2 _
              have hb47 : Below w4.heap.size w4 (((w6.setCell ⟨sb, 0, none⟩ (.slice Ac T.states.length cc)).setCell ⟨sb, 1, none⟩ (.slice Ad (movesOf T).length cd)).setCell ⟨sb, 2, none⟩ (.bool true)) := HB46.out.grown hgr7 HB46.out.size (fun k hk => Nat.le_of_eq (hsb.trans (Option.some.inj hk)))
              have HB7 := Lib.hid (below_then HB4.out hb47)
              have HNb7 := Lib.hid (HNb4.out.below hb47)
              have HIn7 := Lib.hid (HIn4.out.below hb47)
              have HZ7 := Lib.hid (HZ4.out.below hb47)
              have HT7 := Lib.hid (HT4.out.below hb47)
              have HL7 := Lib.hid (HL4.out.below hb47)
              have HSp7 := Lib.hid (HS2.out.kept HSne.out HX6.out hgr7)
              have HWz7 := Lib.hid (HWz.out.below hb47)
              clear HWz
              clear hb47 hgr7 HX6 HB46 HS2
              clear HB4 HNb4 HIn4 HZ4 HT4 HL4
              obtain ⟨b0, b1, b2, b3⟩ := HNb7.out.cells
              have HFq := Lib.hid (fault_nil N A n c Am m cm M place (mo : Int) _ HIn7.out HNl.out hn2 HZ7.out HM.out (by omega))
              rw [HFp.out] at HFq
              go_wp2_with fail
              ((with_reducible refine HFq.out.mono ?_); rintro e w8 ⟨rfl, hb8⟩)
              have HB8 := Lib.hid (below_then HB7.out hb8)
              have HNb8 := Lib.hid (HNb7.out.below hb8)
              have HIn8 := Lib.hid (HIn7.out.below hb8)
              have HZ8 := Lib.hid (HZ7.out.below hb8)
              have HT8 := Lib.hid (HT7.out.below hb8)
              have HL8 := Lib.hid (HL7.out.below hb8)
              have HX8 := Lib.hid (HX7.out.below hb8)
              have HSp8 := Lib.hid (HSp7.out.below hb8)
              have HWz8 := Lib.hid (HWz7.out.below hb8)
              clear hb8 HFq HX7 b0 b1 b2 b3 x0 x1 x2 f0 f1 f2 hlt6 HSp7 HWz7
              clear HB7 HNb7 HIn7 HZ7 HT7 HL7
              obtain ⟨x0, x1, x2⟩ := HX8.out.cells
              go_wp2_with fail
              clear x0 x1 x2
              have hbd : Below w8.heap.size w8 w8.drew := (Below.refl _ _).drew
              have HB10 := Lib.hid (below_then HB8.out hbd)
              have HNb10 := Lib.hid (HNb8.out.below hbd)
              have HIn10 := Lib.hid (HIn8.out.below hbd)
              have HZ10 := Lib.hid (HZ8.out.below hbd)
              have HT10 := Lib.hid (HT8.out.below hbd)
              have HL10 := Lib.hid (HL8.out.below hbd)
              have HX10 := Lib.hid (HX8.out.below hbd)
              have HSp10 := Lib.hid (HSp8.out.below hbd)
              have HWz10 := Lib.hid (HWz8.out.below hbd)
              obtain ⟨s0, s1, s2, s3⟩ := HNb10.out.cells
              have hS0 := And.intro s0 (And.intro s1 (And.intro s2 s3))
              refine wp_region_held_drew (S := fun w' => w'.cell? ⟨w.heap.size, 0, none⟩ = some (.int .i64 N.pl) ∧ w'.cell? ⟨w.heap.size, 1, none⟩ = some (.slice A n c) ∧ w'.cell? ⟨w.heap.size, 2, none⟩ = some (.int .i64 N.src) ∧ w'.cell? ⟨w.heap.size, 3, none⟩ = some (.int .i64 N.snk)) (by kernel_rfl) hS0 (fun hHeld => ?_)
              clear hS0 hbd s0 s1 s2 s3 HX8 HSp8 HWz8
              clear HB8 HNb8 HIn8 HZ8 HT8 HL8
              generalize w8.drew = wd at *
              refine wpAnyH_take (i := 0) (v := ?_) rfl (by kernel_rfl) (by kernel_rfl) (by kernel_rfl) (fun _ _ _ h => h) (Or.inl ⟨by rfl, ?_⟩) (by assumption) ?_
              rotate_left
              · intro w hSw; (try dsimp only at hSw); go_simp; try (with_reducible rfl)
              try go_simp
              refine wpAnyH_take (i := 1) (v := ?_) rfl (by kernel_rfl) (by kernel_rfl) (by kernel_rfl) (fun _ _ _ h => h) (Or.inl ⟨by rfl, ?_⟩) (by assumption) ?_
              rotate_left
              · intro w hSw; (try dsimp only at hSw); go_simp; try (with_reducible rfl)
              try go_simp
              refine wpAnyH_take (i := 3) (v := ?_) rfl (by kernel_rfl) (by kernel_rfl) (by kernel_rfl) (fun _ _ _ h => h) (Or.inl ⟨by rfl, ?_⟩) (by assumption) ?_
              rotate_left
              · intro w hSw; (try dsimp only at hSw); go_simp; try (with_reducible rfl)
              try go_simp
              refine wpAnyH_take (i := 5) (v := ?_) rfl (by kernel_rfl) (by kernel_rfl) (by kernel_rfl) (fun _ _ _ h => h) (Or.inl ⟨by rfl, ?_⟩) (by assumption) ?_
              rotate_left
              · intro w hSw; (try dsimp only at hSw); go_simp; try (with_reducible rfl)
              try go_simp
              have hS0 := hHeld
              refine wpAnyH_ready (rs := [2]) (by kernel_rfl) (by simp) ?_
              refine AllReadyH.cons rfl (fun K hK => ?_) AllReadyH.nil
              go_simp
              skip
              refine hK.out _ _ (⟨cell_stays (below_alloc _ _) hS0.1, cell_stays (below_alloc _ _) hS0.2.1, cell_stays (below_alloc _ _) hS0.2.2.1, cell_stays (below_alloc _ _) hS0.2.2.2⟩) (fun hHeld => ?_)
              clear hK K
              try go_simp
              refine wpAnyH_ready (rs := [4]) (by kernel_rfl) (by simp) ?_
              refine AllReadyH.cons rfl (fun K hK => ?_) AllReadyH.nil
              refine step_append_rd rfl _ _ 25 rfl wd.heap.size 3 i0 (.int .i64 0) 8 Tryd.underlying25 HI.out.1 HI.out.2.1 HI.out.2.2.1 HI.out.2.2.2 rfl (.slice (some ⟨wd.heap.size, 0, none⟩) 0 0) 0 [] rfl (own_lit0 wd) (by simp) At t ct L rfl (HL10.out.below (below_alloc wd _)) HLl.out ?c3 ?c4 ?c5 ?_
              case c3 => unfold maxLen; omega
              case c4 => omega
              case c5 => simp
              intro v11 w11 hown hgrow hne
              have hNS : NS wd w11 v11 L := ⟨by have h1 := hown; rw [Nat.zero_add, List.nil_append, ← HLl.out] at h1; exact h1, (below_alloc wd _).grown hgrow (by simp) (fun k hk => by cases hk; exact Nat.le_refl _)⟩
              obtain ⟨A11, c11, hz11, hzz, _, _⟩ := hNS.zin
              subst hz11
              obtain ⟨at11, rfl⟩ := ns_some hNS hne
              have hb11 := hNS.2
              refine hK.out _ _ ⟨cell_stays hb11 hS0.1, cell_stays hb11 hS0.2.1, cell_stays hb11 hS0.2.2.1, cell_stays hb11 hS0.2.2.2⟩ (fun hHeld => ?_)
              clear hK K
              rw [HLl.out]
              try go_simp
              have HB11 := Lib.hid (below_then HB10.out hb11)
              have HNb11 := Lib.hid (HNb10.out.below hb11)
              have HIn11 := Lib.hid (HIn10.out.below hb11)
              have HZ11 := Lib.hid (HZ10.out.below hb11)
              have HT11 := Lib.hid (HT10.out.below hb11)
              have HL11 := Lib.hid (HL10.out.below hb11)
              have HX11 := Lib.hid (HX10.out.below hb11)
              have HSp11 := Lib.hid (HSp10.out.below hb11)
              have HWz11 := Lib.hid (HWz10.out.below hb11)
              have HFt := Lib.hid (fault_tg N A n c Am m cm M at11 t c11 L 0 (mo : Int) w11 HIn11.out HNl.out hn2 HZ11.out HM.out (by omega) hzz HLl.out (by omega))
              rw [HFg.out] at HFt
              have hS1 := hHeld
              clear hS0 hown hgrow hne hNS hzz hb11 HX10 HSp10 HWz10
              clear HB10 HNb10 HIn10 HZ10 HT10 HL10
              refine wpAnyH_ready (rs := [6]) (by kernel_rfl) (by simp) ?_
              refine AllReadyH.cons rfl (fun K hK => ?_) AllReadyH.nil
              go_simp
              ((refine HFt.out.mono ?_); rintro e w12 ⟨rfl, hb12⟩)
              refine hK.out _ _ (⟨cell_stays hb12 hS1.1, cell_stays hb12 hS1.2.1, cell_stays hb12 hS1.2.2.1, cell_stays hb12 hS1.2.2.2⟩) (fun hHeld => ?_)
              clear hK K
              try go_simp
              have HB12 := Lib.hid (below_then HB11.out hb12)
              have HNb12 := Lib.hid (HNb11.out.below hb12)
              have HIn12 := Lib.hid (HIn11.out.below hb12)
              have HZ12 := Lib.hid (HZ11.out.below hb12)
              have HT12 := Lib.hid (HT11.out.below hb12)
              have HL12 := Lib.hid (HL11.out.below hb12)
              have HX12 := Lib.hid (HX11.out.below hb12)
              have HSp12 := Lib.hid (HSp11.out.below hb12)
              have HWz12 := Lib.hid (HWz11.out.below hb12)
              refine wpAnyH_take (i := 7) (v := ?_) rfl (by kernel_rfl) (by kernel_rfl) (by kernel_rfl) (fun _ _ _ h => h) (Or.inl ⟨by rfl, ?_⟩) (by assumption) ?_
              rotate_left
              · intro w hSw; (try dsimp only at hSw); go_simp; try (with_reducible rfl)
              try go_simp
              refine wpAnyH_done (by kernel_rfl) ?_ _
              clear hHeld hS1 hb12 HFt HX11 HSp11 HWz11
              clear HB11 HNb11 HIn11 HZ11 HT11 HL11
              obtain ⟨x0, x1, x2⟩ := HX12.out.cells
              have hrc := rcovers_any _ T.states (movesOf T) true T.states.length At t ct L (fun _ => F) w12 HSp12.out rfl HTn.out.1 HTn.out.2.1 HTn.out.2.2.1 HTn.out.2.2.2.1 HL12.out HLl.out HTn.out.2.2.2.2 (fun g hg => by cases (Int.ofNat.inj (HGi.out.symm.trans hg)); exact ⟨HD.out, HF00.out⟩)
              have HRc := Lib.hid (rc_yes hrc HGi.out)
              clear hrc
              rw [HWe.out] at HRc
              go_wp2_with fail
              ((with_reducible refine HRc.out.mono ?_); rintro e w13 ⟨A13, c13, rfl, hS13⟩)
              have hb13 := hS13.2
              have HB13 := Lib.hid (below_then HB12.out hb13)
              have hz13 : ZIn w13 A13 (wayD (movesOf T) F goal (fd F 0).toNat 0) := by obtain ⟨A', c', e, hz, _⟩ := hS13.zin; rw [HWe.out] at e; cases e; exact hz
              have HEq := Lib.hid (equal_any Aw wl cw A13 wl c13 _ _ w13 (HWz12.out.below hb13) HWe.out hz13 HWe.out (by have := HWl.out; omega) (by have := HWl.out; omega))
              rw [decide_eq_true rfl] at HEq
              clear hS13 hb13 hz13 HRc x0 x1 x2
              go_wp2_with fail
              ((with_reducible refine HEq.out.mono ?_); rintro e w14 ⟨rfl, hb14⟩)
              have HB14 := Lib.hid (below_then HB13.out hb14)
              go_wp2_with fail
              go_ret
              exact ⟨rfl, HB14.out⟩
        · have HFp := Lib.hid hfp
          have HBn0 := Lib.hid (hbn T hgr)
          obtain ⟨p, rfl⟩ := Int.eq_ofNat_of_zero_le hp0
          have HPn := Lib.hid (HPm.out p hp1)
          clear hfp hbn hp0 hp1
          rcases htg with ⟨hfg, hcv⟩ | ⟨hfg, hml, _, hcv⟩
          · have HFg := Lib.hid hfg
            have HCv0 := Lib.hid hcv
            clear hfg hcv hgr
            have HBn := Lib.hid (bn_yes (bound_any N A n c Am m cm M (p : Int) (mo : Int) w2 HIn2.out HNl.out hn2 HZ2.out HM.out hm1 hm2 HT2.out) HBn0.out)
            clear HAw
            go_wp2_with fail
            ((with_reducible refine HBn.out.mono ?_); rintro e w3 ⟨rfl, hb3⟩)
            have HB3 := Lib.hid (below_then HB2.out hb3)
            have HNb3 := Lib.hid (HNb2.out.below hb3)
            have HIn3 := Lib.hid (HIn2.out.below hb3)
            have HZ3 := Lib.hid (HZ2.out.below hb3)
            have HT3 := Lib.hid (HT2.out.below hb3)
            have HL3 := Lib.hid (HL2.out.below hb3)
            clear hb3 HBn b0 b1 b2 b3
            clear HB2 HNb2 HIn2 HZ2 HT2 HL2
            obtain ⟨b0, b1, b2, b3⟩ := HNb3.out.cells
            have HCv := Lib.hid (cv_err (covers_any N A n c Am m cm M At t ct L (mo : Int) w3 HIn3.out HNl.out hn2 HZ3.out HM.out hm1 hm2 HL3.out HLl.out hl1 hl2 HT3.out) HCv0.out)
            go_wp2_with fail
            ((with_reducible refine HCv.out.mono ?_); rintro e w4 ⟨rfl, hb4⟩)
            have HB4 := Lib.hid (below_then HB3.out hb4)
            have HNb4 := Lib.hid (HNb3.out.below hb4)
            have HIn4 := Lib.hid (HIn3.out.below hb4)
            have HZ4 := Lib.hid (HZ3.out.below hb4)
            have HT4 := Lib.hid (HT3.out.below hb4)
            have HL4 := Lib.hid (HL3.out.below hb4)
            clear hb4 HCv b0 b1 b2 b3
            clear HB3 HNb3 HIn3 HZ3 HT3 HL3
            have HA := Lib.hid (below_alloc w4 (.cells #[.slice none 0 0, .slice none 0 0, .bool false] 31))
            have HX := Lib.hid (SpB.new w4 (.slice none 0 0) (.slice none 0 0) false)
            obtain ⟨b0, b1, b2, b3⟩ := HNb4.out.cells
            have hlt4 := HNb4.out.lt
            have HFa := Lib.hid (fault_nil N A n c Am m cm M 0 (mo : Int) _ (HIn4.out.below HA.out) HNl.out hn2 (HZ4.out.below HA.out) HM.out (by omega))
            rw [HF0.out] at HFa
            go_wp2_with fail
            ((with_reducible refine HFa.out.mono ?_); rintro e w5 ⟨rfl, hb5⟩)
            have hb45 := below_then HA.out hb5
            have HB5 := Lib.hid (below_then HB4.out hb45)
            have HNb5 := Lib.hid (HNb4.out.below hb45)
            have HIn5 := Lib.hid (HIn4.out.below hb45)
            have HZ5 := Lib.hid (HZ4.out.below hb45)
            have HT5 := Lib.hid (HT4.out.below hb45)
            have HL5 := Lib.hid (HL4.out.below hb45)
            have HX5 := Lib.hid (HX.out.below hb5)
            have hsw : w.heap.size < w4.heap.size := hlt4
            have HB45 := Lib.hid hb45
            clear hb45 hb5 HFa HA HX hlt4 b0 b1 b2 b3
            obtain ⟨b0, b1, b2, b3⟩ := HNb5.out.cells
            obtain ⟨sb, hsb⟩ : ∃ sb, w4.heap.size = sb := ⟨_, rfl⟩
            rw [hsb] at HX5 hsw ⊢
            have HRg := Lib.hid (rgraph_any N A n c Am m cm M mo w5 HIn5.out.1 HNl.out HZ5.out HM.out hm1 hm2 HMk.out (by omega))
            go_wp2_with fail
            ((with_reducible refine HRg.out.mono ?_); rintro e w6 ⟨hb6, hP⟩)
            rw [HG.out] at hP
            obtain ⟨v, rfl, hs⟩ := hP
            have HS2 := Lib.hid hs
            obtain ⟨Ac, cc, Ad, cd, rfl, _⟩ := hs
            have HX6 := Lib.hid (HX5.out.below hb6)
            have HB46 := Lib.hid (below_then HB45.out hb6)
            clear hb6 b0 b1 b2 b3 HRg HX5
            clear HB5 HNb5 HIn5 HZ5 HT5 HL5
            obtain ⟨x0, x1, x2⟩ := HX6.out.cells
            have f0 := HX6.out.soft 0
            have f1 := HX6.out.soft 1
            have f2 := HX6.out.soft 2
            have hlt6 := HX6.out.lt
            have HX7 := Lib.hid (((HX6.out.set0 (.slice Ac T.states.length cc)).set1 (.slice Ad (movesOf T).length cd)).set2 true)
            have hgr7 : w6.grownBy (((w6.setCell ⟨sb, 0, none⟩ (.slice Ac T.states.length cc)).setCell ⟨sb, 1, none⟩ (.slice Ad (movesOf T).length cd)).setCell ⟨sb, 2, none⟩ (.bool true)) (some sb) := Lib.grownBy_setB (Lib.grownBy_setB (Lib.grownBy_setB (grown_refl w6 (some sb)) 0 _) 1 _) 2 _
            have hb47 : Below w4.heap.size w4 (((w6.setCell ⟨sb, 0, none⟩ (.slice Ac T.states.length cc)).setCell ⟨sb, 1, none⟩ (.slice Ad (movesOf T).length cd)).setCell ⟨sb, 2, none⟩ (.bool true)) := HB46.out.grown hgr7 HB46.out.size (fun k hk => Nat.le_of_eq (hsb.trans (Option.some.inj hk)))
            have HB7 := Lib.hid (below_then HB4.out hb47)
            have HNb7 := Lib.hid (HNb4.out.below hb47)
            have HIn7 := Lib.hid (HIn4.out.below hb47)
            have HZ7 := Lib.hid (HZ4.out.below hb47)
            have HT7 := Lib.hid (HT4.out.below hb47)
            have HL7 := Lib.hid (HL4.out.below hb47)
            have HSp7 := Lib.hid (HS2.out.kept HSne.out HX6.out hgr7)
            clear hb47 hgr7 HX6 HB46 HS2
            clear HB4 HNb4 HIn4 HZ4 HT4 HL4
            obtain ⟨b0, b1, b2, b3⟩ := HNb7.out.cells
            have HFq := Lib.hid (fault_nil N A n c Am m cm M (p : Int) (mo : Int) _ HIn7.out HNl.out hn2 HZ7.out HM.out (by omega))
            rw [HFp.out] at HFq
            go_wp2_with fail
            ((with_reducible refine HFq.out.mono ?_); rintro e w8 ⟨rfl, hb8⟩)
            have HB8 := Lib.hid (below_then HB7.out hb8)
            have HNb8 := Lib.hid (HNb7.out.below hb8)
            have HIn8 := Lib.hid (HIn7.out.below hb8)
            have HZ8 := Lib.hid (HZ7.out.below hb8)
            have HT8 := Lib.hid (HT7.out.below hb8)
            have HL8 := Lib.hid (HL7.out.below hb8)
            have HX8 := Lib.hid (HX7.out.below hb8)
            have HSp8 := Lib.hid (HSp7.out.below hb8)
            clear hb8 HFq HX7 b0 b1 b2 b3 x0 x1 x2 f0 f1 f2 hlt6 HSp7
            clear HB7 HNb7 HIn7 HZ7 HT7 HL7
            obtain ⟨x0, x1, x2⟩ := HX8.out.cells
            have HRb := Lib.hid (rbound_any _ T.states (movesOf T) true p w8 HSp8.out HPn.out)
            go_wp2_with fail
            ((with_reducible refine HRb.out.mono ?_); rintro e w9 ⟨rfl, hb9⟩)
            have HB9 := Lib.hid (below_then HB8.out hb9)
            have HNb9 := Lib.hid (HNb8.out.below hb9)
            have HIn9 := Lib.hid (HIn8.out.below hb9)
            have HZ9 := Lib.hid (HZ8.out.below hb9)
            have HT9 := Lib.hid (HT8.out.below hb9)
            have HL9 := Lib.hid (HL8.out.below hb9)
            have HX9 := Lib.hid (HX8.out.below hb9)
            have HSp9 := Lib.hid (HSp8.out.below hb9)
            clear hb9 HRb HX8 HSp8 x0 x1 x2
            clear HB8 HNb8 HIn8 HZ8 HT8 HL8
            go_wp2_with fail
            skip
            have hbd : Below w9.heap.size w9 w9.drew := (Below.refl _ _).drew
            have HB10 := Lib.hid (below_then HB9.out hbd)
            have HNb10 := Lib.hid (HNb9.out.below hbd)
            have HIn10 := Lib.hid (HIn9.out.below hbd)
            have HZ10 := Lib.hid (HZ9.out.below hbd)
            have HT10 := Lib.hid (HT9.out.below hbd)
            have HL10 := Lib.hid (HL9.out.below hbd)
            have HX10 := Lib.hid (HX9.out.below hbd)
            have HSp10 := Lib.hid (HSp9.out.below hbd)
            obtain ⟨s0, s1, s2, s3⟩ := HNb10.out.cells
            have hS0 := And.intro s0 (And.intro s1 (And.intro s2 s3))
            refine wp_region_held_drew (S := fun w' => w'.cell? ⟨w.heap.size, 0, none⟩ = some (.int .i64 N.pl) ∧ w'.cell? ⟨w.heap.size, 1, none⟩ = some (.slice A n c) ∧ w'.cell? ⟨w.heap.size, 2, none⟩ = some (.int .i64 N.src) ∧ w'.cell? ⟨w.heap.size, 3, none⟩ = some (.int .i64 N.snk)) (by kernel_rfl) hS0 (fun hHeld => ?_)
            clear hS0 hbd s0 s1 s2 s3 HX9 HSp9
            clear HB9 HNb9 HIn9 HZ9 HT9 HL9
            generalize w9.drew = wd at *
            refine wpAnyH_take (i := 0) (v := ?_) rfl (by kernel_rfl) (by kernel_rfl) (by kernel_rfl) (fun _ _ _ h => h) (Or.inl ⟨by rfl, ?_⟩) (by assumption) ?_
            rotate_left
            · intro w hSw; (try dsimp only at hSw); go_simp; try (with_reducible rfl)
            try go_simp
            refine wpAnyH_take (i := 1) (v := ?_) rfl (by kernel_rfl) (by kernel_rfl) (by kernel_rfl) (fun _ _ _ h => h) (Or.inl ⟨by rfl, ?_⟩) (by assumption) ?_
            rotate_left
            · intro w hSw; (try dsimp only at hSw); go_simp; try (with_reducible rfl)
            try go_simp
            refine wpAnyH_take (i := 3) (v := ?_) rfl (by kernel_rfl) (by kernel_rfl) (by kernel_rfl) (fun _ _ _ h => h) (Or.inl ⟨by rfl, ?_⟩) (by assumption) ?_
            rotate_left
            · intro w hSw; (try dsimp only at hSw); go_simp; try (with_reducible rfl)
            try go_simp
            refine wpAnyH_take (i := 5) (v := ?_) rfl (by kernel_rfl) (by kernel_rfl) (by kernel_rfl) (fun _ _ _ h => h) (Or.inl ⟨by rfl, ?_⟩) (by assumption) ?_
            rotate_left
            · intro w hSw; (try dsimp only at hSw); go_simp; try (with_reducible rfl)
            try go_simp
            have hS0 := hHeld
            refine wpAnyH_ready (rs := [2]) (by kernel_rfl) (by simp) ?_
            refine AllReadyH.cons rfl (fun K hK => ?_) AllReadyH.nil
            go_simp
            skip
            refine hK.out _ _ (⟨cell_stays (below_alloc _ _) hS0.1, cell_stays (below_alloc _ _) hS0.2.1, cell_stays (below_alloc _ _) hS0.2.2.1, cell_stays (below_alloc _ _) hS0.2.2.2⟩) (fun hHeld => ?_)
            clear hK K
            try go_simp
            refine wpAnyH_ready (rs := [4]) (by kernel_rfl) (by simp) ?_
            refine AllReadyH.cons rfl (fun K hK => ?_) AllReadyH.nil
            refine step_append_rd rfl _ _ 25 rfl wd.heap.size 3 i0 (.int .i64 0) 8 Tryd.underlying25 HI.out.1 HI.out.2.1 HI.out.2.2.1 HI.out.2.2.2 rfl (.slice (some ⟨wd.heap.size, 0, none⟩) 0 0) 0 [] rfl (own_lit0 wd) (by simp) At t ct L rfl (HL10.out.below (below_alloc wd _)) HLl.out ?c3 ?c4 ?c5 ?_
            case c3 => unfold maxLen; omega
            case c4 => omega
            case c5 => simp
            intro v11 w11 hown hgrow hne
            have hNS : NS wd w11 v11 L := ⟨by have h1 := hown; rw [Nat.zero_add, List.nil_append, ← HLl.out] at h1; exact h1, (below_alloc wd _).grown hgrow (by simp) (fun k hk => by cases hk; exact Nat.le_refl _)⟩
            obtain ⟨A11, c11, hz11, hzz, _, _⟩ := hNS.zin
            subst hz11
            obtain ⟨at11, rfl⟩ := ns_some hNS hne
            have hb11 := hNS.2
            refine hK.out _ _ ⟨cell_stays hb11 hS0.1, cell_stays hb11 hS0.2.1, cell_stays hb11 hS0.2.2.1, cell_stays hb11 hS0.2.2.2⟩ (fun hHeld => ?_)
            clear hK K
            rw [HLl.out]
            try go_simp
            have HB11 := Lib.hid (below_then HB10.out hb11)
            have HNb11 := Lib.hid (HNb10.out.below hb11)
            have HIn11 := Lib.hid (HIn10.out.below hb11)
            have HZ11 := Lib.hid (HZ10.out.below hb11)
            have HT11 := Lib.hid (HT10.out.below hb11)
            have HL11 := Lib.hid (HL10.out.below hb11)
            have HX11 := Lib.hid (HX10.out.below hb11)
            have HSp11 := Lib.hid (HSp10.out.below hb11)
            have HFt := Lib.hid (fault_tg N A n c Am m cm M at11 t c11 L 0 (mo : Int) w11 HIn11.out HNl.out hn2 HZ11.out HM.out (by omega) hzz HLl.out (by omega))
            rw [HFg.out] at HFt
            have hS1 := hHeld
            clear hS0 hown hgrow hne hNS hzz hb11 HX10 HSp10
            clear HB10 HNb10 HIn10 HZ10 HT10 HL10
            refine wpAnyH_ready (rs := [6]) (by kernel_rfl) (by simp) ?_
            refine AllReadyH.cons rfl (fun K hK => ?_) AllReadyH.nil
            go_simp
            ((refine HFt.out.mono ?_); rintro e w12 ⟨rfl, hb12⟩)
            refine hK.out _ _ (⟨cell_stays hb12 hS1.1, cell_stays hb12 hS1.2.1, cell_stays hb12 hS1.2.2.1, cell_stays hb12 hS1.2.2.2⟩) (fun hHeld => ?_)
            clear hK K
            try go_simp
            have HB12 := Lib.hid (below_then HB11.out hb12)
            have HNb12 := Lib.hid (HNb11.out.below hb12)
            have HIn12 := Lib.hid (HIn11.out.below hb12)
            have HZ12 := Lib.hid (HZ11.out.below hb12)
            have HT12 := Lib.hid (HT11.out.below hb12)
            have HL12 := Lib.hid (HL11.out.below hb12)
            have HX12 := Lib.hid (HX11.out.below hb12)
            have HSp12 := Lib.hid (HSp11.out.below hb12)
            refine wpAnyH_take (i := 7) (v := ?_) rfl (by kernel_rfl) (by kernel_rfl) (by kernel_rfl) (fun _ _ _ h => h) (Or.inl ⟨by rfl, ?_⟩) (by assumption) ?_
            rotate_left
            · intro w hSw; (try dsimp only at hSw); go_simp; try (with_reducible rfl)
            try go_simp
            refine wpAnyH_done (by kernel_rfl) ?_ _
            clear hHeld hS1 hb12 HFt HX11 HSp11
            clear HB11 HNb11 HIn11 HZ11 HT11 HL11
            go_wp2_with fail
            go_ret
            exact ⟨ret_bool (by simp), HB12.out⟩
          · have HFg := Lib.hid hfg
            have HCv0 := Lib.hid (hcv T hgr)
            have HTn := Lib.hid (show _ ∧ _ ∧ _ ∧ _ ∧ _ from ⟨HTm.out.1, HTm.out.2.1, HTm.out.2.2.1, HTm.out.2.2.2.1, HTm.out.2.2.2.2 hml⟩)
            clear hfg hcv hgr hml
            rcases lidx_cases (covB L) T.states with ⟨_, hno⟩ | ⟨goal, hgi, hgl, sg, hsg, hcg⟩
            · have HNo := Lib.hid hno
              clear hno
              have HBn := Lib.hid (bn_yes (bound_any N A n c Am m cm M (p : Int) (mo : Int) w2 HIn2.out HNl.out hn2 HZ2.out HM.out hm1 hm2 HT2.out) HBn0.out)
              clear HAw
              go_wp2_with fail
              ((with_reducible refine HBn.out.mono ?_); rintro e w3 ⟨rfl, hb3⟩)
              have HB3 := Lib.hid (below_then HB2.out hb3)
              have HNb3 := Lib.hid (HNb2.out.below hb3)
              have HIn3 := Lib.hid (HIn2.out.below hb3)
              have HZ3 := Lib.hid (HZ2.out.below hb3)
              have HT3 := Lib.hid (HT2.out.below hb3)
              have HL3 := Lib.hid (HL2.out.below hb3)
              clear hb3 HBn b0 b1 b2 b3
              clear HB2 HNb2 HIn2 HZ2 HT2 HL2
              obtain ⟨b0, b1, b2, b3⟩ := HNb3.out.cells
              have HCv := Lib.hid (cv_no (covers_any N A n c Am m cm M At t ct L (mo : Int) w3 HIn3.out HNl.out hn2 HZ3.out HM.out hm1 hm2 HL3.out HLl.out hl1 hl2 HT3.out) HCv0.out HNo.out)
              go_wp2_with fail
              ((with_reducible refine HCv.out.mono ?_); rintro e w4 ⟨rfl, hb4⟩)
              have HB4 := Lib.hid (below_then HB3.out hb4)
              have HNb4 := Lib.hid (HNb3.out.below hb4)
              have HIn4 := Lib.hid (HIn3.out.below hb4)
              have HZ4 := Lib.hid (HZ3.out.below hb4)
              have HT4 := Lib.hid (HT3.out.below hb4)
              have HL4 := Lib.hid (HL3.out.below hb4)
              clear hb4 HCv b0 b1 b2 b3
              clear HB3 HNb3 HIn3 HZ3 HT3 HL3
              have HA := Lib.hid (below_alloc w4 (.cells #[.slice none 0 0, .slice none 0 0, .bool false] 31))
              have HX := Lib.hid (SpB.new w4 (.slice none 0 0) (.slice none 0 0) false)
              obtain ⟨b0, b1, b2, b3⟩ := HNb4.out.cells
              have hlt4 := HNb4.out.lt
              have HFa := Lib.hid (fault_nil N A n c Am m cm M 0 (mo : Int) _ (HIn4.out.below HA.out) HNl.out hn2 (HZ4.out.below HA.out) HM.out (by omega))
              rw [HF0.out] at HFa
              go_wp2_with fail
              ((with_reducible refine HFa.out.mono ?_); rintro e w5 ⟨rfl, hb5⟩)
              have hb45 := below_then HA.out hb5
              have HB5 := Lib.hid (below_then HB4.out hb45)
              have HNb5 := Lib.hid (HNb4.out.below hb45)
              have HIn5 := Lib.hid (HIn4.out.below hb45)
              have HZ5 := Lib.hid (HZ4.out.below hb45)
              have HT5 := Lib.hid (HT4.out.below hb45)
              have HL5 := Lib.hid (HL4.out.below hb45)
              have HX5 := Lib.hid (HX.out.below hb5)
              have hsw : w.heap.size < w4.heap.size := hlt4
              have HB45 := Lib.hid hb45
              clear hb45 hb5 HFa HA HX hlt4 b0 b1 b2 b3
              obtain ⟨b0, b1, b2, b3⟩ := HNb5.out.cells
              obtain ⟨sb, hsb⟩ : ∃ sb, w4.heap.size = sb := ⟨_, rfl⟩
              rw [hsb] at HX5 hsw ⊢
              have HRg := Lib.hid (rgraph_any N A n c Am m cm M mo w5 HIn5.out.1 HNl.out HZ5.out HM.out hm1 hm2 HMk.out (by omega))
              go_wp2_with fail
              ((with_reducible refine HRg.out.mono ?_); rintro e w6 ⟨hb6, hP⟩)
              rw [HG.out] at hP
              obtain ⟨v, rfl, hs⟩ := hP
              have HS2 := Lib.hid hs
              obtain ⟨Ac, cc, Ad, cd, rfl, _⟩ := hs
              have HX6 := Lib.hid (HX5.out.below hb6)
              have HB46 := Lib.hid (below_then HB45.out hb6)
              clear hb6 b0 b1 b2 b3 HRg HX5
              clear HB5 HNb5 HIn5 HZ5 HT5 HL5
              obtain ⟨x0, x1, x2⟩ := HX6.out.cells
              have f0 := HX6.out.soft 0
              have f1 := HX6.out.soft 1
              have f2 := HX6.out.soft 2
              have hlt6 := HX6.out.lt
              have HX7 := Lib.hid (((HX6.out.set0 (.slice Ac T.states.length cc)).set1 (.slice Ad (movesOf T).length cd)).set2 true)
              have hgr7 : w6.grownBy (((w6.setCell ⟨sb, 0, none⟩ (.slice Ac T.states.length cc)).setCell ⟨sb, 1, none⟩ (.slice Ad (movesOf T).length cd)).setCell ⟨sb, 2, none⟩ (.bool true)) (some sb) := Lib.grownBy_setB (Lib.grownBy_setB (Lib.grownBy_setB (grown_refl w6 (some sb)) 0 _) 1 _) 2 _
              have hb47 : Below w4.heap.size w4 (((w6.setCell ⟨sb, 0, none⟩ (.slice Ac T.states.length cc)).setCell ⟨sb, 1, none⟩ (.slice Ad (movesOf T).length cd)).setCell ⟨sb, 2, none⟩ (.bool true)) := HB46.out.grown hgr7 HB46.out.size (fun k hk => Nat.le_of_eq (hsb.trans (Option.some.inj hk)))
              have HB7 := Lib.hid (below_then HB4.out hb47)
              have HNb7 := Lib.hid (HNb4.out.below hb47)
              have HIn7 := Lib.hid (HIn4.out.below hb47)
              have HZ7 := Lib.hid (HZ4.out.below hb47)
              have HT7 := Lib.hid (HT4.out.below hb47)
              have HL7 := Lib.hid (HL4.out.below hb47)
              have HSp7 := Lib.hid (HS2.out.kept HSne.out HX6.out hgr7)
              clear hb47 hgr7 HX6 HB46 HS2
              clear HB4 HNb4 HIn4 HZ4 HT4 HL4
              obtain ⟨b0, b1, b2, b3⟩ := HNb7.out.cells
              have HFq := Lib.hid (fault_nil N A n c Am m cm M (p : Int) (mo : Int) _ HIn7.out HNl.out hn2 HZ7.out HM.out (by omega))
              rw [HFp.out] at HFq
              go_wp2_with fail
              ((with_reducible refine HFq.out.mono ?_); rintro e w8 ⟨rfl, hb8⟩)
              have HB8 := Lib.hid (below_then HB7.out hb8)
              have HNb8 := Lib.hid (HNb7.out.below hb8)
              have HIn8 := Lib.hid (HIn7.out.below hb8)
              have HZ8 := Lib.hid (HZ7.out.below hb8)
              have HT8 := Lib.hid (HT7.out.below hb8)
              have HL8 := Lib.hid (HL7.out.below hb8)
              have HX8 := Lib.hid (HX7.out.below hb8)
              have HSp8 := Lib.hid (HSp7.out.below hb8)
              clear hb8 HFq HX7 b0 b1 b2 b3 x0 x1 x2 f0 f1 f2 hlt6 HSp7
              clear HB7 HNb7 HIn7 HZ7 HT7 HL7
              obtain ⟨x0, x1, x2⟩ := HX8.out.cells
              have HRb := Lib.hid (rbound_any _ T.states (movesOf T) true p w8 HSp8.out HPn.out)
              go_wp2_with fail
              ((with_reducible refine HRb.out.mono ?_); rintro e w9 ⟨rfl, hb9⟩)
              have HB9 := Lib.hid (below_then HB8.out hb9)
              have HNb9 := Lib.hid (HNb8.out.below hb9)
              have HIn9 := Lib.hid (HIn8.out.below hb9)
              have HZ9 := Lib.hid (HZ8.out.below hb9)
              have HT9 := Lib.hid (HT8.out.below hb9)
              have HL9 := Lib.hid (HL8.out.below hb9)
              have HX9 := Lib.hid (HX8.out.below hb9)
              have HSp9 := Lib.hid (HSp8.out.below hb9)
              clear hb9 HRb HX8 HSp8 x0 x1 x2
              clear HB8 HNb8 HIn8 HZ8 HT8 HL8
              go_wp2_with fail
              skip
              have hbd : Below w9.heap.size w9 w9.drew := (Below.refl _ _).drew
              have HB10 := Lib.hid (below_then HB9.out hbd)
              have HNb10 := Lib.hid (HNb9.out.below hbd)
              have HIn10 := Lib.hid (HIn9.out.below hbd)
              have HZ10 := Lib.hid (HZ9.out.below hbd)
              have HT10 := Lib.hid (HT9.out.below hbd)
              have HL10 := Lib.hid (HL9.out.below hbd)
              have HX10 := Lib.hid (HX9.out.below hbd)
              have HSp10 := Lib.hid (HSp9.out.below hbd)
              obtain ⟨s0, s1, s2, s3⟩ := HNb10.out.cells
              have hS0 := And.intro s0 (And.intro s1 (And.intro s2 s3))
              refine wp_region_held_drew (S := fun w' => w'.cell? ⟨w.heap.size, 0, none⟩ = some (.int .i64 N.pl) ∧ w'.cell? ⟨w.heap.size, 1, none⟩ = some (.slice A n c) ∧ w'.cell? ⟨w.heap.size, 2, none⟩ = some (.int .i64 N.src) ∧ w'.cell? ⟨w.heap.size, 3, none⟩ = some (.int .i64 N.snk)) (by kernel_rfl) hS0 (fun hHeld => ?_)
              clear hS0 hbd s0 s1 s2 s3 HX9 HSp9
              clear HB9 HNb9 HIn9 HZ9 HT9 HL9
              generalize w9.drew = wd at *
              refine wpAnyH_take (i := 0) (v := ?_) rfl (by kernel_rfl) (by kernel_rfl) (by kernel_rfl) (fun _ _ _ h => h) (Or.inl ⟨by rfl, ?_⟩) (by assumption) ?_
              rotate_left
              · intro w hSw; (try dsimp only at hSw); go_simp; try (with_reducible rfl)
              try go_simp
              refine wpAnyH_take (i := 1) (v := ?_) rfl (by kernel_rfl) (by kernel_rfl) (by kernel_rfl) (fun _ _ _ h => h) (Or.inl ⟨by rfl, ?_⟩) (by assumption) ?_
              rotate_left
              · intro w hSw; (try dsimp only at hSw); go_simp; try (with_reducible rfl)
              try go_simp
              refine wpAnyH_take (i := 3) (v := ?_) rfl (by kernel_rfl) (by kernel_rfl) (by kernel_rfl) (fun _ _ _ h => h) (Or.inl ⟨by rfl, ?_⟩) (by assumption) ?_
              rotate_left
              · intro w hSw; (try dsimp only at hSw); go_simp; try (with_reducible rfl)
              try go_simp
              refine wpAnyH_take (i := 5) (v := ?_) rfl (by kernel_rfl) (by kernel_rfl) (by kernel_rfl) (fun _ _ _ h => h) (Or.inl ⟨by rfl, ?_⟩) (by assumption) ?_
              rotate_left
              · intro w hSw; (try dsimp only at hSw); go_simp; try (with_reducible rfl)
              try go_simp
              have hS0 := hHeld
              refine wpAnyH_ready (rs := [2]) (by kernel_rfl) (by simp) ?_
              refine AllReadyH.cons rfl (fun K hK => ?_) AllReadyH.nil
              go_simp
              skip
              refine hK.out _ _ (⟨cell_stays (below_alloc _ _) hS0.1, cell_stays (below_alloc _ _) hS0.2.1, cell_stays (below_alloc _ _) hS0.2.2.1, cell_stays (below_alloc _ _) hS0.2.2.2⟩) (fun hHeld => ?_)
              clear hK K
              try go_simp
              refine wpAnyH_ready (rs := [4]) (by kernel_rfl) (by simp) ?_
              refine AllReadyH.cons rfl (fun K hK => ?_) AllReadyH.nil
              refine step_append_rd rfl _ _ 25 rfl wd.heap.size 3 i0 (.int .i64 0) 8 Tryd.underlying25 HI.out.1 HI.out.2.1 HI.out.2.2.1 HI.out.2.2.2 rfl (.slice (some ⟨wd.heap.size, 0, none⟩) 0 0) 0 [] rfl (own_lit0 wd) (by simp) At t ct L rfl (HL10.out.below (below_alloc wd _)) HLl.out ?c3 ?c4 ?c5 ?_
              case c3 => unfold maxLen; omega
              case c4 => omega
              case c5 => simp
              intro v11 w11 hown hgrow hne
              have hNS : NS wd w11 v11 L := ⟨by have h1 := hown; rw [Nat.zero_add, List.nil_append, ← HLl.out] at h1; exact h1, (below_alloc wd _).grown hgrow (by simp) (fun k hk => by cases hk; exact Nat.le_refl _)⟩
              obtain ⟨A11, c11, hz11, hzz, _, _⟩ := hNS.zin
              subst hz11
              obtain ⟨at11, rfl⟩ := ns_some hNS hne
              have hb11 := hNS.2
              refine hK.out _ _ ⟨cell_stays hb11 hS0.1, cell_stays hb11 hS0.2.1, cell_stays hb11 hS0.2.2.1, cell_stays hb11 hS0.2.2.2⟩ (fun hHeld => ?_)
              clear hK K
              rw [HLl.out]
              try go_simp
              have HB11 := Lib.hid (below_then HB10.out hb11)
              have HNb11 := Lib.hid (HNb10.out.below hb11)
              have HIn11 := Lib.hid (HIn10.out.below hb11)
              have HZ11 := Lib.hid (HZ10.out.below hb11)
              have HT11 := Lib.hid (HT10.out.below hb11)
              have HL11 := Lib.hid (HL10.out.below hb11)
              have HX11 := Lib.hid (HX10.out.below hb11)
              have HSp11 := Lib.hid (HSp10.out.below hb11)
              have HFt := Lib.hid (fault_tg N A n c Am m cm M at11 t c11 L 0 (mo : Int) w11 HIn11.out HNl.out hn2 HZ11.out HM.out (by omega) hzz HLl.out (by omega))
              rw [HFg.out] at HFt
              have hS1 := hHeld
              clear hS0 hown hgrow hne hNS hzz hb11 HX10 HSp10
              clear HB10 HNb10 HIn10 HZ10 HT10 HL10
              refine wpAnyH_ready (rs := [6]) (by kernel_rfl) (by simp) ?_
              refine AllReadyH.cons rfl (fun K hK => ?_) AllReadyH.nil
              go_simp
              ((refine HFt.out.mono ?_); rintro e w12 ⟨rfl, hb12⟩)
              refine hK.out _ _ (⟨cell_stays hb12 hS1.1, cell_stays hb12 hS1.2.1, cell_stays hb12 hS1.2.2.1, cell_stays hb12 hS1.2.2.2⟩) (fun hHeld => ?_)
              clear hK K
              try go_simp
              have HB12 := Lib.hid (below_then HB11.out hb12)
              have HNb12 := Lib.hid (HNb11.out.below hb12)
              have HIn12 := Lib.hid (HIn11.out.below hb12)
              have HZ12 := Lib.hid (HZ11.out.below hb12)
              have HT12 := Lib.hid (HT11.out.below hb12)
              have HL12 := Lib.hid (HL11.out.below hb12)
              have HX12 := Lib.hid (HX11.out.below hb12)
              have HSp12 := Lib.hid (HSp11.out.below hb12)
              refine wpAnyH_take (i := 7) (v := ?_) rfl (by kernel_rfl) (by kernel_rfl) (by kernel_rfl) (fun _ _ _ h => h) (Or.inl ⟨by rfl, ?_⟩) (by assumption) ?_
              rotate_left
              · intro w hSw; (try dsimp only at hSw); go_simp; try (with_reducible rfl)
              try go_simp
              refine wpAnyH_done (by kernel_rfl) ?_ _
              clear hHeld hS1 hb12 HFt HX11 HSp11
              clear HB11 HNb11 HIn11 HZ11 HT11 HL11
              obtain ⟨x0, x1, x2⟩ := HX12.out.cells
              have hrc := rcovers_any _ T.states (movesOf T) true T.states.length At t ct L (fun _ => []) w12 HSp12.out rfl HTn.out.1 HTn.out.2.1 HTn.out.2.2.1 HTn.out.2.2.2.1 HL12.out HLl.out HTn.out.2.2.2.2 (fun g hg => by rw [lidx_no HNo.out] at hg; omega)
              have HRc := Lib.hid (rc_no hrc HNo.out)
              clear hrc
              go_wp2_with fail
              ((with_reducible refine HRc.out.mono ?_); rintro e w13 ⟨rfl, hb13⟩)
              have HB13 := Lib.hid (below_then HB12.out hb13)
              have HEq := Lib.hid (equal_any none 0 0 none 0 0 [] [] w13 zin_empty rfl zin_empty rfl (by omega) (by omega))
              rw [decide_eq_true rfl] at HEq
              clear hb13 HRc x0 x1 x2
              go_wp2_with fail
              ((with_reducible refine HEq.out.mono ?_); rintro e w14 ⟨rfl, hb14⟩)
              have HB14 := Lib.hid (below_then HB13.out hb14)
              go_wp2_with fail
              go_ret
              exact ⟨rfl, HB14.out⟩
            · have HGi := Lib.hid hgi
              have HSg := Lib.hid (And.intro hsg hcg)
              clear hgi hgl hsg hcg
              have HBn := Lib.hid (bn_yes (bound_any N A n c Am m cm M (p : Int) (mo : Int) w2 HIn2.out HNl.out hn2 HZ2.out HM.out hm1 hm2 HT2.out) HBn0.out)
              clear HAw
              go_wp2_with fail
              ((with_reducible refine HBn.out.mono ?_); rintro e w3 ⟨rfl, hb3⟩)
              have HB3 := Lib.hid (below_then HB2.out hb3)
              have HNb3 := Lib.hid (HNb2.out.below hb3)
              have HIn3 := Lib.hid (HIn2.out.below hb3)
              have HZ3 := Lib.hid (HZ2.out.below hb3)
              have HT3 := Lib.hid (HT2.out.below hb3)
              have HL3 := Lib.hid (HL2.out.below hb3)
              clear hb3 HBn b0 b1 b2 b3
              clear HB2 HNb2 HIn2 HZ2 HT2 HL2
              obtain ⟨b0, b1, b2, b3⟩ := HNb3.out.cells
              have HCv := Lib.hid (cv_yes (covers_any N A n c Am m cm M At t ct L (mo : Int) w3 HIn3.out HNl.out hn2 HZ3.out HM.out hm1 hm2 HL3.out HLl.out hl1 hl2 HT3.out) HCv0.out HGi.out HSg.out.1 HSg.out.2)
              go_wp2_with fail
              ((with_reducible refine HCv.out.mono ?_); rintro e w4 ⟨F, Aw, cw, rfl, hD, hf0, hS⟩)
              have hb4 := hS.2
              have HD := Lib.hid hD
              have HF00 := Lib.hid hf0
              have HWz := Lib.hid (show ZIn w4 Aw (wayD (movesOf T) F goal (fd F 0).toNat 0) by obtain ⟨A', c', e, hz, _⟩ := hS.zin; cases e; exact hz)
              have HWl := Lib.hid (show (wayD (movesOf T) F goal (fd F 0).toNat 0).length ≤ 20001 from Nat.le_trans (way_len _ _ _ _ _) (by have h1 := hD.top 0 HGt.out.1; have h2 := HGt.out.2; simp only [Int.natCast_zero] at h1; omega))
              clear hD hf0 hS
              obtain ⟨wl, hwl⟩ : ∃ wl, (wayD (movesOf T) F goal (fd F 0).toNat 0).length = wl := ⟨_, rfl⟩
              rw [hwl] at HWl ⊢
              have HWe := Lib.hid hwl
              clear hwl
              have HB4 := Lib.hid (below_then HB3.out hb4)
              have HNb4 := Lib.hid (HNb3.out.below hb4)
              have HIn4 := Lib.hid (HIn3.out.below hb4)
              have HZ4 := Lib.hid (HZ3.out.below hb4)
              have HT4 := Lib.hid (HT3.out.below hb4)
              have HL4 := Lib.hid (HL3.out.below hb4)
              clear hb4 HCv b0 b1 b2 b3
              clear HB3 HNb3 HIn3 HZ3 HT3 HL3
              have HA := Lib.hid (below_alloc w4 (.cells #[.slice none 0 0, .slice none 0 0, .bool false] 31))
              have HX := Lib.hid (SpB.new w4 (.slice none 0 0) (.slice none 0 0) false)
              obtain ⟨b0, b1, b2, b3⟩ := HNb4.out.cells
              have hlt4 := HNb4.out.lt
              have HFa := Lib.hid (fault_nil N A n c Am m cm M 0 (mo : Int) _ (HIn4.out.below HA.out) HNl.out hn2 (HZ4.out.below HA.out) HM.out (by omega))
              rw [HF0.out] at HFa
              go_wp2_with fail
              ((with_reducible refine HFa.out.mono ?_); rintro e w5 ⟨rfl, hb5⟩)
              have hb45 := below_then HA.out hb5
              have HB5 := Lib.hid (below_then HB4.out hb45)
              have HNb5 := Lib.hid (HNb4.out.below hb45)
              have HIn5 := Lib.hid (HIn4.out.below hb45)
              have HZ5 := Lib.hid (HZ4.out.below hb45)
              have HT5 := Lib.hid (HT4.out.below hb45)
              have HL5 := Lib.hid (HL4.out.below hb45)
              have HX5 := Lib.hid (HX.out.below hb5)
              have hsw : w.heap.size < w4.heap.size := hlt4
              have HB45 := Lib.hid hb45
              clear hb45 hb5 HFa HA HX hlt4 b0 b1 b2 b3
              obtain ⟨b0, b1, b2, b3⟩ := HNb5.out.cells
              obtain ⟨sb, hsb⟩ : ∃ sb, w4.heap.size = sb := ⟨_, rfl⟩
              rw [hsb] at HX5 hsw ⊢
              have HRg := Lib.hid (rgraph_any N A n c Am m cm M mo w5 HIn5.out.1 HNl.out HZ5.out HM.out hm1 hm2 HMk.out (by omega))
              go_wp2_with fail
              ((with_reducible refine HRg.out.mono ?_); rintro e w6 ⟨hb6, hP⟩)
              rw [HG.out] at hP
              obtain ⟨v, rfl, hs⟩ := hP
              have HS2 := Lib.hid hs
              obtain ⟨Ac, cc, Ad, cd, rfl, _⟩ := hs
              have HX6 := Lib.hid (HX5.out.below hb6)
              have HB46 := Lib.hid (below_then HB45.out hb6)
              clear hb6 b0 b1 b2 b3 HRg HX5
              clear HB5 HNb5 HIn5 HZ5 HT5 HL5
              obtain ⟨x0, x1, x2⟩ := HX6.out.cells
              have f0 := HX6.out.soft 0
              have f1 := HX6.out.soft 1
              have f2 := HX6.out.soft 2
              have hlt6 := HX6.out.lt
              have HX7 := Lib.hid (((HX6.out.set0 (.slice Ac T.states.length cc)).set1 (.slice Ad (movesOf T).length cd)).set2 true)
              have hgr7 : w6.grownBy (((w6.setCell ⟨sb, 0, none⟩ (.slice Ac T.states.length cc)).setCell ⟨sb, 1, none⟩ (.slice Ad (movesOf T).length cd)).setCell ⟨sb, 2, none⟩ (.bool true)) (some sb) := Lib.grownBy_setB (Lib.grownBy_setB (Lib.grownBy_setB (grown_refl w6 (some sb)) 0 _) 1 _) 2 _
              have hb47 : Below w4.heap.size w4 (((w6.setCell ⟨sb, 0, none⟩ (.slice Ac T.states.length cc)).setCell ⟨sb, 1, none⟩ (.slice Ad (movesOf T).length cd)).setCell ⟨sb, 2, none⟩ (.bool true)) := HB46.out.grown hgr7 HB46.out.size (fun k hk => Nat.le_of_eq (hsb.trans (Option.some.inj hk)))
              have HB7 := Lib.hid (below_then HB4.out hb47)
              have HNb7 := Lib.hid (HNb4.out.below hb47)
              have HIn7 := Lib.hid (HIn4.out.below hb47)
              have HZ7 := Lib.hid (HZ4.out.below hb47)
              have HT7 := Lib.hid (HT4.out.below hb47)
              have HL7 := Lib.hid (HL4.out.below hb47)
              have HSp7 := Lib.hid (HS2.out.kept HSne.out HX6.out hgr7)
              have HWz7 := Lib.hid (HWz.out.below hb47)
              clear HWz
              clear hb47 hgr7 HX6 HB46 HS2
              clear HB4 HNb4 HIn4 HZ4 HT4 HL4
              obtain ⟨b0, b1, b2, b3⟩ := HNb7.out.cells
              have HFq := Lib.hid (fault_nil N A n c Am m cm M (p : Int) (mo : Int) _ HIn7.out HNl.out hn2 HZ7.out HM.out (by omega))
              rw [HFp.out] at HFq
              go_wp2_with fail
              ((with_reducible refine HFq.out.mono ?_); rintro e w8 ⟨rfl, hb8⟩)
              have HB8 := Lib.hid (below_then HB7.out hb8)
              have HNb8 := Lib.hid (HNb7.out.below hb8)
              have HIn8 := Lib.hid (HIn7.out.below hb8)
              have HZ8 := Lib.hid (HZ7.out.below hb8)
              have HT8 := Lib.hid (HT7.out.below hb8)
              have HL8 := Lib.hid (HL7.out.below hb8)
              have HX8 := Lib.hid (HX7.out.below hb8)
              have HSp8 := Lib.hid (HSp7.out.below hb8)
              have HWz8 := Lib.hid (HWz7.out.below hb8)
              clear hb8 HFq HX7 b0 b1 b2 b3 x0 x1 x2 f0 f1 f2 hlt6 HSp7 HWz7
              clear HB7 HNb7 HIn7 HZ7 HT7 HL7
              obtain ⟨x0, x1, x2⟩ := HX8.out.cells
              have HRb := Lib.hid (rbound_any _ T.states (movesOf T) true p w8 HSp8.out HPn.out)
              go_wp2_with fail
              ((with_reducible refine HRb.out.mono ?_); rintro e w9 ⟨rfl, hb9⟩)
              have HB9 := Lib.hid (below_then HB8.out hb9)
              have HNb9 := Lib.hid (HNb8.out.below hb9)
              have HIn9 := Lib.hid (HIn8.out.below hb9)
              have HZ9 := Lib.hid (HZ8.out.below hb9)
              have HT9 := Lib.hid (HT8.out.below hb9)
              have HL9 := Lib.hid (HL8.out.below hb9)
              have HX9 := Lib.hid (HX8.out.below hb9)
              have HSp9 := Lib.hid (HSp8.out.below hb9)
              have HWz9 := Lib.hid (HWz8.out.below hb9)
              clear hb9 HRb HX8 HSp8 x0 x1 x2 HWz8
              clear HB8 HNb8 HIn8 HZ8 HT8 HL8
              go_wp2_with fail
              skip
              have hbd : Below w9.heap.size w9 w9.drew := (Below.refl _ _).drew
              have HB10 := Lib.hid (below_then HB9.out hbd)
              have HNb10 := Lib.hid (HNb9.out.below hbd)
              have HIn10 := Lib.hid (HIn9.out.below hbd)
              have HZ10 := Lib.hid (HZ9.out.below hbd)
              have HT10 := Lib.hid (HT9.out.below hbd)
              have HL10 := Lib.hid (HL9.out.below hbd)
              have HX10 := Lib.hid (HX9.out.below hbd)
              have HSp10 := Lib.hid (HSp9.out.below hbd)
              have HWz10 := Lib.hid (HWz9.out.below hbd)
              obtain ⟨s0, s1, s2, s3⟩ := HNb10.out.cells
              have hS0 := And.intro s0 (And.intro s1 (And.intro s2 s3))
              refine wp_region_held_drew (S := fun w' => w'.cell? ⟨w.heap.size, 0, none⟩ = some (.int .i64 N.pl) ∧ w'.cell? ⟨w.heap.size, 1, none⟩ = some (.slice A n c) ∧ w'.cell? ⟨w.heap.size, 2, none⟩ = some (.int .i64 N.src) ∧ w'.cell? ⟨w.heap.size, 3, none⟩ = some (.int .i64 N.snk)) (by kernel_rfl) hS0 (fun hHeld => ?_)
              clear hS0 hbd s0 s1 s2 s3 HX9 HSp9 HWz9
              clear HB9 HNb9 HIn9 HZ9 HT9 HL9
              generalize w9.drew = wd at *
              refine wpAnyH_take (i := 0) (v := ?_) rfl (by kernel_rfl) (by kernel_rfl) (by kernel_rfl) (fun _ _ _ h => h) (Or.inl ⟨by rfl, ?_⟩) (by assumption) ?_
              rotate_left
              · intro w hSw; (try dsimp only at hSw); go_simp; try (with_reducible rfl)
              try go_simp
              refine wpAnyH_take (i := 1) (v := ?_) rfl (by kernel_rfl) (by kernel_rfl) (by kernel_rfl) (fun _ _ _ h => h) (Or.inl ⟨by rfl, ?_⟩) (by assumption) ?_
              rotate_left
              · intro w hSw; (try dsimp only at hSw); go_simp; try (with_reducible rfl)
              try go_simp
              refine wpAnyH_take (i := 3) (v := ?_) rfl (by kernel_rfl) (by kernel_rfl) (by kernel_rfl) (fun _ _ _ h => h) (Or.inl ⟨by rfl, ?_⟩) (by assumption) ?_
              rotate_left
              · intro w hSw; (try dsimp only at hSw); go_simp; try (with_reducible rfl)
              try go_simp
              refine wpAnyH_take (i := 5) (v := ?_) rfl (by kernel_rfl) (by kernel_rfl) (by kernel_rfl) (fun _ _ _ h => h) (Or.inl ⟨by rfl, ?_⟩) (by assumption) ?_
              rotate_left
              · intro w hSw; (try dsimp only at hSw); go_simp; try (with_reducible rfl)
              try go_simp
              have hS0 := hHeld
              refine wpAnyH_ready (rs := [2]) (by kernel_rfl) (by simp) ?_
              refine AllReadyH.cons rfl (fun K hK => ?_) AllReadyH.nil
              go_simp
              skip
              refine hK.out _ _ (⟨cell_stays (below_alloc _ _) hS0.1, cell_stays (below_alloc _ _) hS0.2.1, cell_stays (below_alloc _ _) hS0.2.2.1, cell_stays (below_alloc _ _) hS0.2.2.2⟩) (fun hHeld => ?_)
              clear hK K
              try go_simp
              refine wpAnyH_ready (rs := [4]) (by kernel_rfl) (by simp) ?_
              refine AllReadyH.cons rfl (fun K hK => ?_) AllReadyH.nil
              refine step_append_rd rfl _ _ 25 rfl wd.heap.size 3 i0 (.int .i64 0) 8 Tryd.underlying25 HI.out.1 HI.out.2.1 HI.out.2.2.1 HI.out.2.2.2 rfl (.slice (some ⟨wd.heap.size, 0, none⟩) 0 0) 0 [] rfl (own_lit0 wd) (by simp) At t ct L rfl (HL10.out.below (below_alloc wd _)) HLl.out ?c3 ?c4 ?c5 ?_
              case c3 => unfold maxLen; omega
              case c4 => omega
              case c5 => simp
              intro v11 w11 hown hgrow hne
              have hNS : NS wd w11 v11 L := ⟨by have h1 := hown; rw [Nat.zero_add, List.nil_append, ← HLl.out] at h1; exact h1, (below_alloc wd _).grown hgrow (by simp) (fun k hk => by cases hk; exact Nat.le_refl _)⟩
              obtain ⟨A11, c11, hz11, hzz, _, _⟩ := hNS.zin
              subst hz11
              obtain ⟨at11, rfl⟩ := ns_some hNS hne
              have hb11 := hNS.2
              refine hK.out _ _ ⟨cell_stays hb11 hS0.1, cell_stays hb11 hS0.2.1, cell_stays hb11 hS0.2.2.1, cell_stays hb11 hS0.2.2.2⟩ (fun hHeld => ?_)
              clear hK K
              rw [HLl.out]
              try go_simp
              have HB11 := Lib.hid (below_then HB10.out hb11)
              have HNb11 := Lib.hid (HNb10.out.below hb11)
              have HIn11 := Lib.hid (HIn10.out.below hb11)
              have HZ11 := Lib.hid (HZ10.out.below hb11)
              have HT11 := Lib.hid (HT10.out.below hb11)
              have HL11 := Lib.hid (HL10.out.below hb11)
              have HX11 := Lib.hid (HX10.out.below hb11)
              have HSp11 := Lib.hid (HSp10.out.below hb11)
              have HWz11 := Lib.hid (HWz10.out.below hb11)
              have HFt := Lib.hid (fault_tg N A n c Am m cm M at11 t c11 L 0 (mo : Int) w11 HIn11.out HNl.out hn2 HZ11.out HM.out (by omega) hzz HLl.out (by omega))
              rw [HFg.out] at HFt
              have hS1 := hHeld
              clear hS0 hown hgrow hne hNS hzz hb11 HX10 HSp10 HWz10
              clear HB10 HNb10 HIn10 HZ10 HT10 HL10
              refine wpAnyH_ready (rs := [6]) (by kernel_rfl) (by simp) ?_
              refine AllReadyH.cons rfl (fun K hK => ?_) AllReadyH.nil
              go_simp
              ((refine HFt.out.mono ?_); rintro e w12 ⟨rfl, hb12⟩)
              refine hK.out _ _ (⟨cell_stays hb12 hS1.1, cell_stays hb12 hS1.2.1, cell_stays hb12 hS1.2.2.1, cell_stays hb12 hS1.2.2.2⟩) (fun hHeld => ?_)
              clear hK K
              try go_simp
              have HB12 := Lib.hid (below_then HB11.out hb12)
              have HNb12 := Lib.hid (HNb11.out.below hb12)
              have HIn12 := Lib.hid (HIn11.out.below hb12)
              have HZ12 := Lib.hid (HZ11.out.below hb12)
              have HT12 := Lib.hid (HT11.out.below hb12)
              have HL12 := Lib.hid (HL11.out.below hb12)
              have HX12 := Lib.hid (HX11.out.below hb12)
              have HSp12 := Lib.hid (HSp11.out.below hb12)
              have HWz12 := Lib.hid (HWz11.out.below hb12)
              refine wpAnyH_take (i := 7) (v := ?_) rfl (by kernel_rfl) (by kernel_rfl) (by kernel_rfl) (fun _ _ _ h => h) (Or.inl ⟨by rfl, ?_⟩) (by assumption) ?_
              rotate_left
              · intro w hSw; (try dsimp only at hSw); go_simp; try (with_reducible rfl)
              try go_simp
              refine wpAnyH_done (by kernel_rfl) ?_ _
              clear hHeld hS1 hb12 HFt HX11 HSp11 HWz11
              clear HB11 HNb11 HIn11 HZ11 HT11 HL11
              obtain ⟨x0, x1, x2⟩ := HX12.out.cells
              have hrc := rcovers_any _ T.states (movesOf T) true T.states.length At t ct L (fun _ => F) w12 HSp12.out rfl HTn.out.1 HTn.out.2.1 HTn.out.2.2.1 HTn.out.2.2.2.1 HL12.out HLl.out HTn.out.2.2.2.2 (fun g hg => by cases (Int.ofNat.inj (HGi.out.symm.trans hg)); exact ⟨HD.out, HF00.out⟩)
              have HRc := Lib.hid (rc_yes hrc HGi.out)
              clear hrc
              rw [HWe.out] at HRc
              go_wp2_with fail
              ((with_reducible refine HRc.out.mono ?_); rintro e w13 ⟨A13, c13, rfl, hS13⟩)
              have hb13 := hS13.2
              have HB13 := Lib.hid (below_then HB12.out hb13)
              have hz13 : ZIn w13 A13 (wayD (movesOf T) F goal (fd F 0).toNat 0) := by obtain ⟨A', c', e, hz, _⟩ := hS13.zin; rw [HWe.out] at e; cases e; exact hz
              have HEq := Lib.hid (equal_any Aw wl cw A13 wl c13 _ _ w13 (HWz12.out.below hb13) HWe.out hz13 HWe.out (by have := HWl.out; omega) (by have := HWl.out; omega))
              rw [decide_eq_true rfl] at HEq
              clear hS13 hb13 hz13 HRc x0 x1 x2
              go_wp2_with fail
              ((with_reducible refine HEq.out.mono ?_); rintro e w14 ⟨rfl, hb14⟩)
              have HB14 := Lib.hid (below_then HB13.out hb14)
              go_wp2_with fail
              go_ret
              exact ⟨rfl, HB14.out⟩

end Go.Proofs.YtjojmmabcjccdaaDoor
