/- CoverBounded: the walk through the statement. -/
import Derived.Test.YtjojmmabcjccdaaDoorHi
import Derived.Test.YtjojmmabcjccdaaDoorIj
namespace Go.Proofs.YtjojmmabcjccdaaDoor
open Go.RowKit

theorem ct_z (w : World) : CtIn w zCt ⟨0, 0, [], [], []⟩ := ⟨none, 0, 0, none, 0, 0, none, 0, 0, none, 0, 0, none, 0, 0, none, 0, 0, rfl, ⟨zin_empty, rfl⟩, ⟨zin_empty, rfl⟩, fun i hi => absurd hi (by simp), rfl, by omega⟩
theorem ct_bnd {w0 w : World} {v : Value} {LL : List (List Int)} (h : OLL w0 w v LL) (hl : LL.length ≤ 1000) : CtIn w (.agg #[.int .i64 5, .int .i64 0, .slice none 0 0, .slice none 0 0, v, .slice none 0 0, .slice none 0 0, .slice none 0 0]) ⟨5, 0, [], [], LL⟩ := by
  obtain ⟨A, c, rfl, h1, h2, h3⟩ := h.lin
  exact ⟨none, 0, 0, none, 0, 0, A, _, c, none, 0, 0, none, 0, 0, none, 0, 0, rfl, ⟨zin_empty, rfl⟩, ⟨zin_empty, rfl⟩, h1, rfl, by omega⟩
theorem ct_om {w0 w : World} {v1 v2 : Value} {L1 L2 : List Int} {p : Nat} (h1 : NS w0 w v1 L1) (h2 : NS w0 w v2 L2) : CtIn w (.agg #[.int .i64 6, .int .i64 p, v1, v2, .slice none 0 0, .slice none 0 0, .slice none 0 0, .slice none 0 0]) ⟨6, p, L1, L2, []⟩ := by
  obtain ⟨A, c, rfl, a1, _, _⟩ := h1.zin
  obtain ⟨B, d, rfl, b1, _, _⟩ := h2.zin
  exact ⟨A, _, c, B, _, d, none, 0, 0, none, 0, 0, none, 0, 0, none, 0, 0, rfl, ⟨a1, rfl⟩, ⟨b1, rfl⟩, fun i hi => absurd hi (by simp), rfl, by omega⟩
theorem CtB.new (w : World) (vs : Array Value) : CtB (w.alloc (.cells vs 41)) w.heap.size vs := heap_alloc_new w _
set_option maxHeartbeats 25600000 in
set_option maxRecDepth 100000 in
theorem coverBounded_walk (N : Nt) (A : Option Addr) (n c : Nat) (Am : Option Addr) (m cm : Nat) (M : List Int) (most : Int) (w : World) (ht : Tb w) (h : NtIn w A N) (hn : N.tr.length = n) (hn2 : n ≤ 9223372036854775807) (hM : ZIn w Am M) (hm : M.length = m) (hm1 : m ≤ cm) (hm2 : cm ≤ 9223372036854775807) (_hz : ∀ z ∈ M, -9223372036854775808 ≤ z ∧ z ≤ 9223372036854775807) (_b : -9223372036854775808 ≤ most) (_B : most ≤ 9223372036854775807) :
    Calls Tryd.prog 4 #[.agg #[.int .i64 N.pl, .slice A n c, .int .i64 N.src, .int .i64 N.snk], .slice Am m cm, .int .i64 most] w fun e w' => e = .returned (.bool true) ∧ Below w.heap.size w w' := by
  have HB := Lib.hid (below_alloc w (.cells #[.int .i64 N.pl, .slice A n c, .int .i64 N.src, .int .i64 N.snk] 24))
  have HNb := Lib.hid (NB.new w N.pl A n c N.src N.snk)
  have HIn := Lib.hid (h.below HB.out)
  have HZ := Lib.hid (hM.below HB.out)
  have HT := Lib.hid (ht.below HB.out)
  have HM := Lib.hid hm
  have HNl := Lib.hid hn
  clear h hM ht hm hn
  go_enter Tryd.func4, Tryd.ntmps4
  go_wp2_with fail
  generalize w.alloc _ = w0 at *
  have HAw := Lib.hid (awake_any w0 HT.out)
  ((with_reducible refine HAw.out.mono ?_); rintro e w1 ⟨rfl, hb1⟩)
  have HB1 := Lib.hid (below_then HB.out hb1)
  have HNb1 := Lib.hid (HNb.out.below hb1)
  have HIn1 := Lib.hid (HIn.out.below hb1)
  have HZ1 := Lib.hid (HZ.out.below hb1)
  have HT1 := Lib.hid (HT.out.below hb1)
  clear HAw hb1 HB HNb HIn HZ HT
  obtain ⟨b0, b1, b2, b3⟩ := HNb1.out.cells
  have HSm := Lib.hid (small_any N A n c Am m cm w1 HIn1.out HNl.out hn2)
  go_wp2_with fail
  ((with_reducible refine HSm.out.mono ?_); rintro e w2 ⟨b, rfl, hb2⟩)
  have HB2 := Lib.hid (below_then HB1.out hb2)
  have HNb2 := Lib.hid (HNb1.out.below hb2)
  have HIn2 := Lib.hid (HIn1.out.below hb2)
  have HZ2 := Lib.hid (HZ1.out.below hb2)
  have HT2 := Lib.hid (HT1.out.below hb2)
  clear HSm hb2 HB1 HNb1 HIn1 HZ1 HT1 b0 b1 b2 b3
  obtain ⟨b0, b1, b2, b3⟩ := HNb2.out.cells
  have HAw := Lib.hid (awake_any w2 HT2.out)
  cases b with
  | false =>
    go_wp2_with fail
    ((with_reducible refine HAw.out.mono ?_); rintro e w3 ⟨rfl, hb3⟩)
    have HB3 := Lib.hid (below_then HB2.out hb3)
    go_wp2_with fail
    go_ret
    exact ⟨rfl, HB3.out⟩
  | true =>
    by_cases h6 : 60 < most
    · by_cases h10 : most ≤ 1000
      · have q6 : decide (60 < most) = true := by simpa using h6
        have q10 : decide (most ≤ 1000) = true := by simpa using h10
        clear h6 h10
        go_wp2_with fail
        ((with_reducible refine HAw.out.mono ?_); rintro e w3 ⟨rfl, hb3⟩)
        have HB3 := Lib.hid (below_then HB2.out hb3)
        go_wp2_with fail
        go_ret
        exact ⟨rfl, HB3.out⟩
      · have q6 : decide (60 < most) = true := by simpa using h6
        have q10 : decide (most ≤ 1000) = false := by simpa using h10
        clear h6
        have HGr := Lib.hid (bounded_any N A n c Am m cm M most w2 HIn2.out HNl.out hn2 HZ2.out HM.out hm1 hm2 HT2.out)
        clear HAw
        go_wp2_with fail
        ((with_reducible refine HGr.out.mono ?_); rintro e w3 ⟨hb3, hP⟩)
        have HB3 := Lib.hid (below_then HB2.out hb3)
        have HNb3 := Lib.hid (HNb2.out.below hb3)
        have HIn3 := Lib.hid (HIn2.out.below hb3)
        have HZ3 := Lib.hid (HZ2.out.below hb3)
        have HT3 := Lib.hid (HT2.out.below hb3)
        clear hb3 HGr HB2 HNb2 HIn2 HZ2 HT2 b0 b1 b2 b3
        rcases fault_parts N M most with ⟨f, hf, hf12, hbe⟩ | ⟨hf, hmk, hmo1, hmo2, ⟨hg, hbe⟩ | ⟨T, hg, hbe⟩⟩
        · rw [hbe] at hP
          have he : e = .returned (.tuple #[.bool false, zCt, .int .i64 f]) := hP
          subst he
          clear hP
          have q1 : (f != 0) = true := by rcases hf12 with rfl | rfl <;> rfl
          have HA := Lib.hid (below_alloc w3 (.cells #[.int .i64 0, .int .i64 0, .slice none 0 0, .slice none 0 0, .slice none 0 0, .slice none 0 0, .slice none 0 0, .slice none 0 0] 41))
          have HX := Lib.hid (CtB.new w3 #[.int .i64 0, .int .i64 0, .slice none 0 0, .slice none 0 0, .slice none 0 0, .slice none 0 0, .slice none 0 0, .slice none 0 0])
          obtain ⟨b0, b1, b2, b3⟩ := HNb3.out.cells
          have hlt3 := HNb3.out.lt
          have HFa := Lib.hid (fault_nil N A n c Am m cm M 0 most _ (HIn3.out.below HA.out) HNl.out hn2 (HZ3.out.below HA.out) HM.out (by omega))
          rw [hf] at HFa
          clear hf hbe hf12
          unfold zCt
          go_wp2_with fail
          ((with_reducible refine HFa.out.mono ?_); rintro e w4 ⟨rfl, hb4⟩)
          have HB4 := Lib.hid (below_then HB3.out (below_then HA.out hb4))
          obtain ⟨x0, x1, x2, x3, x4, x5, x6, x7⟩ := (HX.out.below hb4).cells
          have HNz := none_z w4
          unfold zCt at HNz
          go_wp2_with fail
          ((with_reducible refine HNz.mono ?_); rintro e w5 ⟨rfl, hb5⟩)
          have HB5 := Lib.hid (below_then HB4.out hb5)
          go_wp2_with fail
          go_ret
          exact ⟨ret_bool (by simp), HB5.out⟩
        · omega
        · omega
    · have q6 : decide (60 < most) = false := by simpa using h6
      have HGr := Lib.hid (bounded_any N A n c Am m cm M most w2 HIn2.out HNl.out hn2 HZ2.out HM.out hm1 hm2 HT2.out)
      clear HAw
      go_wp2_with fail
      ((with_reducible refine HGr.out.mono ?_); rintro e w3 ⟨hb3, hP⟩)
      have HB3 := Lib.hid (below_then HB2.out hb3)
      have HNb3 := Lib.hid (HNb2.out.below hb3)
      have HIn3 := Lib.hid (HIn2.out.below hb3)
      have HZ3 := Lib.hid (HZ2.out.below hb3)
      have HT3 := Lib.hid (HT2.out.below hb3)
      clear hb3 HGr HB2 HNb2 HIn2 HZ2 HT2 b0 b1 b2 b3
      rcases fault_parts N M most with ⟨f, hf, hf12, hbe⟩ | ⟨hf, hmk, hmo1, hmo2, ⟨hg, hbe⟩ | ⟨T, hg, hbe⟩⟩
      · rw [hbe] at hP
        have he : e = .returned (.tuple #[.bool false, zCt, .int .i64 f]) := hP
        subst he
        clear hP
        have q1 : (f != 0) = true := by rcases hf12 with rfl | rfl <;> rfl
        have HA := Lib.hid (below_alloc w3 (.cells #[.int .i64 0, .int .i64 0, .slice none 0 0, .slice none 0 0, .slice none 0 0, .slice none 0 0, .slice none 0 0, .slice none 0 0] 41))
        have HX := Lib.hid (CtB.new w3 #[.int .i64 0, .int .i64 0, .slice none 0 0, .slice none 0 0, .slice none 0 0, .slice none 0 0, .slice none 0 0, .slice none 0 0])
        obtain ⟨b0, b1, b2, b3⟩ := HNb3.out.cells
        have hlt3 := HNb3.out.lt
        have HFa := Lib.hid (fault_nil N A n c Am m cm M 0 most _ (HIn3.out.below HA.out) HNl.out hn2 (HZ3.out.below HA.out) HM.out (by omega))
        rw [hf] at HFa
        clear hf hbe hf12
        unfold zCt
        go_wp2_with fail
        ((with_reducible refine HFa.out.mono ?_); rintro e w4 ⟨rfl, hb4⟩)
        have HB4 := Lib.hid (below_then HB3.out (below_then HA.out hb4))
        obtain ⟨x0, x1, x2, x3, x4, x5, x6, x7⟩ := (HX.out.below hb4).cells
        have HNz := none_z w4
        unfold zCt at HNz
        go_wp2_with fail
        ((with_reducible refine HNz.mono ?_); rintro e w5 ⟨rfl, hb5⟩)
        have HB5 := Lib.hid (below_then HB4.out hb5)
        go_wp2_with fail
        go_ret
        exact ⟨ret_bool (by simp), HB5.out⟩
      · rw [hbe] at hP
        have he : e = .returned (.tuple #[.bool false, zCt, .int .i64 13]) := hP
        subst he
        clear hP
        have HA := Lib.hid (below_alloc w3 (.cells #[.int .i64 0, .int .i64 0, .slice none 0 0, .slice none 0 0, .slice none 0 0, .slice none 0 0, .slice none 0 0, .slice none 0 0] 41))
        have HX := Lib.hid (CtB.new w3 #[.int .i64 0, .int .i64 0, .slice none 0 0, .slice none 0 0, .slice none 0 0, .slice none 0 0, .slice none 0 0, .slice none 0 0])
        obtain ⟨b0, b1, b2, b3⟩ := HNb3.out.cells
        have hlt3 := HNb3.out.lt
        have HFa := Lib.hid (fault_nil N A n c Am m cm M 0 most _ (HIn3.out.below HA.out) HNl.out hn2 (HZ3.out.below HA.out) HM.out (by omega))
        rw [hf] at HFa
        have HMk := Lib.hid hmk
        have HG := Lib.hid hg
        clear hf hbe hmk hg
        unfold zCt
        go_wp2_with fail
        ((with_reducible refine HFa.out.mono ?_); rintro e w4 ⟨rfl, hb4⟩)
        have hb34 := below_then HA.out hb4
        have HB4 := Lib.hid (below_then HB3.out hb34)
        have HNb4 := Lib.hid (HNb3.out.below hb34)
        have HIn4 := Lib.hid (HIn3.out.below hb34)
        have HZ4 := Lib.hid (HZ3.out.below hb34)
        have HT4 := Lib.hid (HT3.out.below hb34)
        have HX4 := Lib.hid (HX.out.below hb4)
        clear hb34 hb4 HFa HA HX HB3 HNb3 HIn3 HZ3 HT3 b0 b1 b2 b3 hlt3
        obtain ⟨b0, b1, b2, b3⟩ := HNb4.out.cells
        obtain ⟨mo, rfl⟩ := Int.eq_ofNat_of_zero_le (show 0 ≤ most by omega)
        have HRg := Lib.hid (rgraph_any N A n c Am m cm M mo w4 HIn4.out.1 HNl.out HZ4.out HM.out hm1 hm2 HMk.out (by omega))
        go_wp2_with fail
        ((with_reducible refine HRg.out.mono ?_); rintro e w5 ⟨hb5, hP⟩)
        have hg9 := HG.out
        rw [Int.toNat_natCast] at hg9
        rw [hg9] at hP
        have he : e = .returned (.tuple #[.agg #[.slice none 0 0, .slice none 0 0, .bool false], .bool false]) := hP
        subst he
        have HA5 := Lib.hid (below_alloc w5 (.cells #[.slice none 0 0, .slice none 0 0, .bool false] 31))
        have HB5 := Lib.hid (below_then HB4.out (below_then hb5 HA5.out))
        have HX5 := Lib.hid (HX4.out.below hb5)
        have hx5 := HX5.out.lt
        clear hP hb5 b0 b1 b2 b3
        obtain ⟨x0, x1, x2, x3, x4, x5, x6, x7⟩ := HX5.out.cells
        have HNz := none_z (w5.alloc (.cells #[.slice none 0 0, .slice none 0 0, .bool false] 31))
        unfold zCt at HNz
        go_wp2_with fail
        ((with_reducible refine HNz.mono ?_); rintro e w6 ⟨rfl, hb6⟩)
        have HB6 := Lib.hid (below_then HB5.out hb6)
        go_wp2_with fail
        go_ret
        exact ⟨ret_bool (by simp), HB6.out⟩
      · rw [hbe] at hP
        have hmo6 : most ≤ 60 := by omega
        rcases hP with ⟨v, rfl, hS, hno⟩ | ⟨i, d, g, z, W1, W2, p, v1, v2, hfo, rfl, hS, hS2⟩
        · have hst := growT_le hg
          obtain ⟨Aa, ca, rfl⟩ := hS.slice
          clear hst
          have HA := Lib.hid (below_alloc w3 (.cells #[.int .i64 5, .int .i64 0, .slice none 0 0, .slice none 0 0, .slice Aa T.states.length ca, .slice none 0 0, .slice none 0 0, .slice none 0 0] 41))
          have HX := Lib.hid (CtB.new w3 #[.int .i64 5, .int .i64 0, .slice none 0 0, .slice none 0 0, .slice Aa T.states.length ca, .slice none 0 0, .slice none 0 0, .slice none 0 0])
          obtain ⟨b0, b1, b2, b3⟩ := HNb3.out.cells
          have hlt3 := HNb3.out.lt
          have HFa := Lib.hid (fault_nil N A n c Am m cm M 0 most _ (HIn3.out.below HA.out) HNl.out hn2 (HZ3.out.below HA.out) HM.out (by omega))
          rw [hf] at HFa
          have HCt := Lib.hid (ct_bnd hS (by have := growT_le hg; omega))
          have HCr := Lib.hid (bnd_cert hmk hg (by omega) hno)
          have HMk := Lib.hid hmk
          have HG := Lib.hid hg
          clear hf hbe hmk hg hS hno
          go_wp2_with fail
          ((with_reducible refine HFa.out.mono ?_); rintro e w4 ⟨rfl, hb4⟩)
          have hb34 := below_then HA.out hb4
          have HB4 := Lib.hid (below_then HB3.out hb34)
          have HNb4 := Lib.hid (HNb3.out.below hb34)
          have HIn4 := Lib.hid (HIn3.out.below hb34)
          have HZ4 := Lib.hid (HZ3.out.below hb34)
          have HT4 := Lib.hid (HT3.out.below hb34)
          have HX4 := Lib.hid (HX.out.below hb4)
          have HCt4 := Lib.hid (HCt.out.below hb34)
          clear hb34 hb4 HFa HA HX HB3 HNb3 HIn3 HZ3 HT3 b0 b1 b2 b3 hlt3 HCt
          obtain ⟨b0, b1, b2, b3⟩ := HNb4.out.cells
          obtain ⟨mo, rfl⟩ := Int.eq_ofNat_of_zero_le (show 0 ≤ most by omega)
          have HRg := Lib.hid (rgraph_any N A n c Am m cm M mo w4 HIn4.out.1 HNl.out HZ4.out HM.out hm1 hm2 HMk.out (by omega))
          go_wp2_with fail
          ((with_reducible refine HRg.out.mono ?_); rintro e w5 ⟨hb5, hP⟩)
          have hg9 := HG.out
          rw [Int.toNat_natCast] at hg9
          rw [hg9] at hP
          obtain ⟨v, rfl, hs⟩ := hP
          have HS2 := Lib.hid hs
          obtain ⟨Ac, cc, Ad, cd, rfl, _⟩ := hs
          have HA5 := Lib.hid (below_alloc w5 (.cells #[.slice Ac T.states.length cc, .slice Ad (movesOf T).length cd, .bool true] 31))
          have HX5 := Lib.hid (HX4.out.below hb5)
          have hx5 := HX5.out.lt
          have hnb5 := HNb4.out.below hb5
          have hnl5 := hnb5.lt
          have hb5a := below_then hb5 HA5.out
          have HB5 := Lib.hid (below_then HB4.out hb5a)
          have HNb5 := Lib.hid (HNb4.out.below hb5a)
          have HIn5 := Lib.hid (HIn4.out.below hb5a)
          have HZ5 := Lib.hid (HZ4.out.below hb5a)
          have HT5 := Lib.hid (HT4.out.below hb5a)
          have HX6 := Lib.hid (HX5.out.below HA5.out)
          have HCt5 := Lib.hid (HCt4.out.below hb5a)
          have HOm := Lib.hid (hasOmega_any _ T.states (movesOf T) true _ (HS2.out.below HA5.out))
          rw [HCr.out.2.2] at HOm
          clear hb5 hb5a b0 b1 b2 b3 HX4 HCt4 HX5 HRg HB4 HNb4 HIn4 HZ4 HT4 hnb5
          go_wp2_with fail
          ((with_reducible refine HOm.out.mono ?_); rintro e w6 ⟨rfl, hb6⟩)
          have HB6 := Lib.hid (below_then HB5.out hb6)
          have HNb6 := Lib.hid (HNb5.out.below hb6)
          have HIn6 := Lib.hid (HIn5.out.below hb6)
          have HZ6 := Lib.hid (HZ5.out.below hb6)
          have HT6 := Lib.hid (HT5.out.below hb6)
          have HX7 := Lib.hid (HX6.out.below hb6)
          have HCt6 := Lib.hid (HCt5.out.below hb6)
          clear hb6 HOm HX6 HCt5 HB5 HNb5 HIn5 HZ5 HT5 HS2 HA5
          have HFt := Lib.hid (fits_any _ _ w6 HCt6.out)
          rw [HCr.out.2.1] at HFt
          obtain ⟨x0, x1, x2, x3, x4, x5, x6, x7⟩ := HX7.out.cells
          go_wp2_with fail
          ((with_reducible refine HFt.out.mono ?_); rintro e w7 ⟨rfl, hb7⟩)
          have HB7 := Lib.hid (below_then HB6.out hb7)
          have HNb7 := Lib.hid (HNb6.out.below hb7)
          have HIn7 := Lib.hid (HIn6.out.below hb7)
          have HZ7 := Lib.hid (HZ6.out.below hb7)
          have HT7 := Lib.hid (HT6.out.below hb7)
          have HX8 := Lib.hid (HX7.out.below hb7)
          have HCt7 := Lib.hid (HCt6.out.below hb7)
          clear hb7 HFt HX7 HCt6 HB6 HNb6 HIn6 HZ6 HT6 x0 x1 x2 x3 x4 x5 x6 x7
          have HCk := Lib.hid (rcheck_any N A n c Am m cm M _ _ w7 HIn7.out HNl.out hn2 HZ7.out HM.out (by omega) HCt7.out)
          rw [HCr.out.1] at HCk
          obtain ⟨x0, x1, x2, x3, x4, x5, x6, x7⟩ := HX8.out.cells
          obtain ⟨b0, b1, b2, b3⟩ := HNb7.out.cells
          go_wp2_with fail
          ((with_reducible refine HCk.out.mono ?_); rintro e w8 ⟨rfl, hb8⟩)
          have HB8 := Lib.hid (below_then HB7.out hb8)
          go_wp2_with fail
          go_ret
          exact ⟨rfl, HB8.out⟩
        · obtain ⟨A1, c1, hv1⟩ := hS.slice
          obtain ⟨A2, c2, hv2⟩ := hS2.slice
          rw [List.length_map] at hv1 hv2
          subst hv1 hv2
          have HA := Lib.hid (below_alloc w3 (.cells #[.int .i64 6, .int .i64 p, .slice A1 W1.length c1, .slice A2 W2.length c2, .slice none 0 0, .slice none 0 0, .slice none 0 0, .slice none 0 0] 41))
          have HX := Lib.hid (CtB.new w3 #[.int .i64 6, .int .i64 p, .slice A1 W1.length c1, .slice A2 W2.length c2, .slice none 0 0, .slice none 0 0, .slice none 0 0, .slice none 0 0])
          obtain ⟨b0, b1, b2, b3⟩ := HNb3.out.cells
          have hlt3 := HNb3.out.lt
          have HFa := Lib.hid (fault_nil N A n c Am m cm M 0 most _ (HIn3.out.below HA.out) HNl.out hn2 (HZ3.out.below HA.out) HM.out (by omega))
          rw [hf] at HFa
          have HCt := Lib.hid (ct_om (p := p) hS hS2)
          have HCr := Lib.hid (om_cert hmk hg (by omega) hfo)
          have HMk := Lib.hid hmk
          have HG := Lib.hid hg
          clear hf hbe hmk hg hS hS2 hfo
          go_wp2_with fail
          ((with_reducible refine HFa.out.mono ?_); rintro e w4 ⟨rfl, hb4⟩)
          have hb34 := below_then HA.out hb4
          have HB4 := Lib.hid (below_then HB3.out hb34)
          have HNb4 := Lib.hid (HNb3.out.below hb34)
          have HIn4 := Lib.hid (HIn3.out.below hb34)
          have HZ4 := Lib.hid (HZ3.out.below hb34)
          have HT4 := Lib.hid (HT3.out.below hb34)
          have HX4 := Lib.hid (HX.out.below hb4)
          have HCt4 := Lib.hid (HCt.out.below hb34)
          clear hb34 hb4 HFa HA HX HB3 HNb3 HIn3 HZ3 HT3 b0 b1 b2 b3 hlt3 HCt
          obtain ⟨b0, b1, b2, b3⟩ := HNb4.out.cells
          obtain ⟨mo, rfl⟩ := Int.eq_ofNat_of_zero_le (show 0 ≤ most by omega)
          have HRg := Lib.hid (rgraph_any N A n c Am m cm M mo w4 HIn4.out.1 HNl.out HZ4.out HM.out hm1 hm2 HMk.out (by omega))
          go_wp2_with fail
          ((with_reducible refine HRg.out.mono ?_); rintro e w5 ⟨hb5, hP⟩)
          have hg9 := HG.out
          rw [Int.toNat_natCast] at hg9
          rw [hg9] at hP
          obtain ⟨v, rfl, hs⟩ := hP
          have HS2 := Lib.hid hs
          obtain ⟨Ac, cc, Ad, cd, rfl, _⟩ := hs
          have HA5 := Lib.hid (below_alloc w5 (.cells #[.slice Ac T.states.length cc, .slice Ad (movesOf T).length cd, .bool true] 31))
          have HX5 := Lib.hid (HX4.out.below hb5)
          have hx5 := HX5.out.lt
          have hnb5 := HNb4.out.below hb5
          have hnl5 := hnb5.lt
          have hb5a := below_then hb5 HA5.out
          have HB5 := Lib.hid (below_then HB4.out hb5a)
          have HNb5 := Lib.hid (HNb4.out.below hb5a)
          have HIn5 := Lib.hid (HIn4.out.below hb5a)
          have HZ5 := Lib.hid (HZ4.out.below hb5a)
          have HT5 := Lib.hid (HT4.out.below hb5a)
          have HX6 := Lib.hid (HX5.out.below HA5.out)
          have HCt5 := Lib.hid (HCt4.out.below hb5a)
          have HOm := Lib.hid (hasOmega_any _ T.states (movesOf T) true _ (HS2.out.below HA5.out))
          rw [HCr.out.2.2.1] at HOm
          clear hb5 hb5a b0 b1 b2 b3 HX4 HCt4 HX5 HRg HB4 HNb4 HIn4 HZ4 HT4 hnb5
          go_wp2_with fail
          ((with_reducible refine HOm.out.mono ?_); rintro e w6 ⟨rfl, hb6⟩)
          have HB6 := Lib.hid (below_then HB5.out hb6)
          have HNb6 := Lib.hid (HNb5.out.below hb6)
          have HIn6 := Lib.hid (HIn5.out.below hb6)
          have HZ6 := Lib.hid (HZ5.out.below hb6)
          have HT6 := Lib.hid (HT5.out.below hb6)
          have HX7 := Lib.hid (HX6.out.below hb6)
          have HCt6 := Lib.hid (HCt5.out.below hb6)
          clear hb6 HOm HX6 HCt5 HB5 HNb5 HIn5 HZ5 HT5 HS2 HA5
          have HFt := Lib.hid (fits_any _ _ w6 HCt6.out)
          rw [HCr.out.2.1] at HFt
          obtain ⟨x0, x1, x2, x3, x4, x5, x6, x7⟩ := HX7.out.cells
          go_wp2_with fail
          ((with_reducible refine HFt.out.mono ?_); rintro e w7 ⟨rfl, hb7⟩)
          have HB7 := Lib.hid (below_then HB6.out hb7)
          have HNb7 := Lib.hid (HNb6.out.below hb7)
          have HIn7 := Lib.hid (HIn6.out.below hb7)
          have HZ7 := Lib.hid (HZ6.out.below hb7)
          have HT7 := Lib.hid (HT6.out.below hb7)
          have HX8 := Lib.hid (HX7.out.below hb7)
          have HCt7 := Lib.hid (HCt6.out.below hb7)
          clear hb7 HFt HX7 HCt6 HB6 HNb6 HIn6 HZ6 HT6 x0 x1 x2 x3 x4 x5 x6 x7
          have HCk := Lib.hid (rcheck_any N A n c Am m cm M _ _ w7 HIn7.out HNl.out hn2 HZ7.out HM.out (by omega) HCt7.out)
          rw [HCr.out.1] at HCk
          obtain ⟨x0, x1, x2, x3, x4, x5, x6, x7⟩ := HX8.out.cells
          obtain ⟨b0, b1, b2, b3⟩ := HNb7.out.cells
          go_wp2_with fail
          ((with_reducible refine HCk.out.mono ?_); rintro e w8 ⟨rfl, hb8⟩)
          have HB8 := Lib.hid (below_then HB7.out hb8)
          go_wp2_with fail
          go_ret
          exact ⟨rfl, HB8.out⟩
end Go.Proofs.YtjojmmabcjccdaaDoor
