/- CoverGraphs: the walk through the statement. -/
import Derived.Test.YtjojmmabcjccdaaDoorHh
namespace Go.Proofs.YtjojmmabcjccdaaDoor
open Go.RowKit

theorem fault_parts (N : Nt) (M : List Int) (most : Int) :
    (∃ k : Int, faultR N M none 0 most = k ∧ (k = 1 ∨ k = 2) ∧ beR N [M] 0 most = .inl k) ∨
    (faultR N M none 0 most = 0 ∧ mkB N M = true ∧ 1 ≤ most ∧ most ≤ 1000 ∧ ((growT N M most.toNat = none ∧ beR N [M] 0 most = .inl 13) ∨ ∃ T, growT N M most.toNat = some T ∧ beR N [M] 0 most = .inr T)) := by
  unfold faultR beR
  simp only [List.all_cons, List.all_nil, Bool.and_true, List.headD_cons]
  cases hm : mkB N M with
  | false => exact .inl ⟨1, rfl, .inl rfl, rfl⟩
  | true =>
    simp only [if_true]
    cases hb : badR N 0 most with
    | true => exact .inl ⟨2, rfl, .inr rfl, rfl⟩
    | false =>
      have h1 : 1 ≤ most ∧ most ≤ 1000 := by
        unfold badR at hb
        simp only [Bool.or_eq_false_iff, decide_eq_false_iff_not] at hb
        omega
      refine .inr ⟨rfl, trivial, h1.1, h1.2, ?_⟩
      simp only [Bool.false_eq_true, if_false]
      cases hg : growT N M most.toNat with
      | none => exact .inl ⟨rfl, rfl⟩
      | some T => exact .inr ⟨T, rfl, rfl⟩
set_option maxHeartbeats 12800000 in
set_option maxRecDepth 100000 in
theorem coverGraphs_walk (N : Nt) (A : Option Addr) (n c : Nat) (Am : Option Addr) (m cm : Nat) (M : List Int) (most : Int) (w : World) (ht : Tb w) (h : NtIn w A N) (hn : N.tr.length = n) (hn2 : n ≤ 9223372036854775807) (hM : ZIn w Am M) (hm : M.length = m) (hm1 : m ≤ cm) (hm2 : cm ≤ 9223372036854775807) (_hz : ∀ z ∈ M, -9223372036854775808 ≤ z ∧ z ≤ 9223372036854775807) (_b : -9223372036854775808 ≤ most) (_B : most ≤ 9223372036854775807) :
    Calls Tryd.prog 3 #[.agg #[.int .i64 N.pl, .slice A n c, .int .i64 N.src, .int .i64 N.snk], .slice Am m cm, .int .i64 most] w fun e w' => e = .returned (.bool true) ∧ Below w.heap.size w w' := by
  have HB := Lib.hid (below_alloc w (.cells #[.int .i64 N.pl, .slice A n c, .int .i64 N.src, .int .i64 N.snk] 24))
  have HNb := Lib.hid (NB.new w N.pl A n c N.src N.snk)
  have HIn := Lib.hid (h.below HB.out)
  have HZ := Lib.hid (hM.below HB.out)
  have HT := Lib.hid (ht.below HB.out)
  have HM := Lib.hid hm
  have HNl := Lib.hid hn
  clear h hM ht hm hn
  go_enter Tryd.func3, Tryd.ntmps3
  go_wp2_with fail
  generalize w.alloc _ = w0 at *
  have HAw := Lib.hid (awake_any w0 HT.out)
  ((with_reducible refine HAw.out.mono ?_); rintro e w1 ⟨rfl, hb1⟩)
  have HB1 := Lib.hid (below_then HB.out hb1)
  have HNb1 := Lib.hid (HNb.out.below hb1)
  have HIn1 := Lib.hid (HIn.out.below hb1)
  have HZ1 := Lib.hid (HZ.out.below hb1)
  have HT1 := Lib.hid (HT.out.below hb1)
  clear HAw hb1 HB HNb HIn HZ HT
  obtain ⟨b0, b1, b2, b3⟩ := HNb1.out.cells
  have HSm := Lib.hid (small_any N A n c Am m cm w1 HIn1.out HNl.out hn2)
  go_wp2_with fail
  ((with_reducible refine HSm.out.mono ?_); rintro e w2 ⟨b, rfl, hb2⟩)
  have HB2 := Lib.hid (below_then HB1.out hb2)
  have HNb2 := Lib.hid (HNb1.out.below hb2)
  have HIn2 := Lib.hid (HIn1.out.below hb2)
  have HZ2 := Lib.hid (HZ1.out.below hb2)
  have HT2 := Lib.hid (HT1.out.below hb2)
  clear HSm hb2 HB1 HNb1 HIn1 HZ1 HT1 b0 b1 b2 b3
  obtain ⟨b0, b1, b2, b3⟩ := HNb2.out.cells
  have HAw := Lib.hid (awake_any w2 HT2.out)
  cases b with
  | false =>
    go_wp2_with fail
    ((with_reducible refine HAw.out.mono ?_); rintro e w3 ⟨rfl, hb3⟩)
    have HB3 := Lib.hid (below_then HB2.out hb3)
    go_wp2_with fail
    go_ret
    exact ⟨rfl, HB3.out⟩
  | true =>
    by_cases h6 : 60 < most
    · by_cases h10 : most ≤ 1000
      · have q6 : decide (60 < most) = true := by simpa using h6
        have q10 : decide (most ≤ 1000) = true := by simpa using h10
        clear h6 h10
        go_wp2_with fail
        ((with_reducible refine HAw.out.mono ?_); rintro e w3 ⟨rfl, hb3⟩)
        have HB3 := Lib.hid (below_then HB2.out hb3)
        go_wp2_with fail
        go_ret
        exact ⟨rfl, HB3.out⟩
      · have q6 : decide (60 < most) = true := by simpa using h6
        have q10 : decide (most ≤ 1000) = false := by simpa using h10
        clear h6
        have hgr := graph_any N A n c Am m cm M most w2 HIn2.out HNl.out hn2 HZ2.out HM.out hm1 hm2 HT2.out
        have HGr := Lib.hid hgr
        clear hgr HAw
        go_wp2_with fail
        ((with_reducible refine HGr.out.mono ?_); rintro e w3 ⟨hb3, hP⟩)
        have HB3 := Lib.hid (below_then HB2.out hb3)
        have HNb3 := Lib.hid (HNb2.out.below hb3)
        have HIn3 := Lib.hid (HIn2.out.below hb3)
        have HZ3 := Lib.hid (HZ2.out.below hb3)
        have HT3 := Lib.hid (HT2.out.below hb3)
        clear hb3 HGr HB2 HNb2 HIn2 HZ2 HT2 b0 b1 b2 b3
        rcases fault_parts N M most with ⟨f, hf, hf12, hbe⟩ | ⟨hf, hmk, hmo1, hmo2, ⟨hg, hbe⟩ | ⟨T, hg, hbe⟩⟩
        · rw [hbe] at hP
          have he : e = .returned (.tuple #[.agg #[.slice none 0 0, .slice none 0 0, .bool false], .int .i64 f]) := hP
          subst he
          clear hP
          have HA := Lib.hid (below_alloc w3 (.cells #[.slice none 0 0, .slice none 0 0, .bool false] 31))
          have HX := Lib.hid (SpB.new w3 (.slice none 0 0) (.slice none 0 0) false)
          obtain ⟨b0, b1, b2, b3⟩ := HNb3.out.cells
          have hlt3 := HNb3.out.lt
          have q1 : (f != 0) = true := by rcases hf12 with rfl | rfl <;> rfl
          have HFa := Lib.hid (fault_nil N A n c Am m cm M 0 most _ (HIn3.out.below HA.out) HNl.out hn2 (HZ3.out.below HA.out) HM.out (by omega))
          rw [hf] at HFa
          clear hf hbe hf12
          go_wp2_with fail
          ((with_reducible refine HFa.out.mono ?_); rintro e w4 ⟨rfl, hb4⟩)
          have HB4 := Lib.hid (below_then HB3.out (below_then HA.out hb4))
          obtain ⟨x0, x1, x2⟩ := (HX.out.below hb4).cells
          go_wp2_with fail
          go_ret
          exact ⟨ret_bool (by simp), HB4.out⟩
        · omega
        · omega
    · have q6 : decide (60 < most) = false := by simpa using h6
      clear h6
      have hgr := graph_any N A n c Am m cm M most w2 HIn2.out HNl.out hn2 HZ2.out HM.out hm1 hm2 HT2.out
      have HGr := Lib.hid hgr
      clear hgr HAw
      go_wp2_with fail
      ((with_reducible refine HGr.out.mono ?_); rintro e w3 ⟨hb3, hP⟩)
      have HB3 := Lib.hid (below_then HB2.out hb3)
      have HNb3 := Lib.hid (HNb2.out.below hb3)
      have HIn3 := Lib.hid (HIn2.out.below hb3)
      have HZ3 := Lib.hid (HZ2.out.below hb3)
      have HT3 := Lib.hid (HT2.out.below hb3)
      clear hb3 HGr HB2 HNb2 HIn2 HZ2 HT2 b0 b1 b2 b3
      rcases fault_parts N M most with ⟨f, hf, hf12, hbe⟩ | ⟨hf, hmk, hmo1, hmo2, ⟨hg, hbe⟩ | ⟨T, hg, hbe⟩⟩
      · rw [hbe] at hP
        have he : e = .returned (.tuple #[.agg #[.slice none 0 0, .slice none 0 0, .bool false], .int .i64 f]) := hP
        subst he
        clear hP
        have HA := Lib.hid (below_alloc w3 (.cells #[.slice none 0 0, .slice none 0 0, .bool false] 31))
        have HX := Lib.hid (SpB.new w3 (.slice none 0 0) (.slice none 0 0) false)
        obtain ⟨b0, b1, b2, b3⟩ := HNb3.out.cells
        have hlt3 := HNb3.out.lt
        have q1 : (f != 0) = true := by rcases hf12 with rfl | rfl <;> rfl
        have HFa := Lib.hid (fault_nil N A n c Am m cm M 0 most _ (HIn3.out.below HA.out) HNl.out hn2 (HZ3.out.below HA.out) HM.out (by omega))
        rw [hf] at HFa
        clear hf hbe hf12
        go_wp2_with fail
        ((with_reducible refine HFa.out.mono ?_); rintro e w4 ⟨rfl, hb4⟩)
        have HB4 := Lib.hid (below_then HB3.out (below_then HA.out hb4))
        obtain ⟨x0, x1, x2⟩ := (HX.out.below hb4).cells
        go_wp2_with fail
        go_ret
        exact ⟨ret_bool (by simp), HB4.out⟩
      · rw [hbe] at hP
        have he : e = .returned (.tuple #[.agg #[.slice none 0 0, .slice none 0 0, .bool false], .int .i64 13]) := hP
        subst he
        clear hP
        have HA := Lib.hid (below_alloc w3 (.cells #[.slice none 0 0, .slice none 0 0, .bool false] 31))
        have HX := Lib.hid (SpB.new w3 (.slice none 0 0) (.slice none 0 0) false)
        obtain ⟨b0, b1, b2, b3⟩ := HNb3.out.cells
        have hlt3 := HNb3.out.lt
        have HFa := Lib.hid (fault_nil N A n c Am m cm M 0 most _ (HIn3.out.below HA.out) HNl.out hn2 (HZ3.out.below HA.out) HM.out (by omega))
        rw [hf] at HFa
        have HMk := Lib.hid hmk
        have HG := Lib.hid hg
        clear hf hbe hmk hg
        go_wp2_with fail
        ((with_reducible refine HFa.out.mono ?_); rintro e w4 ⟨rfl, hb4⟩)
        have hb34 := below_then HA.out hb4
        have HB4 := Lib.hid (below_then HB3.out hb34)
        have HNb4 := Lib.hid (HNb3.out.below hb34)
        have HIn4 := Lib.hid (HIn3.out.below hb34)
        have HZ4 := Lib.hid (HZ3.out.below hb34)
        have HT4 := Lib.hid (HT3.out.below hb34)
        have HX4 := Lib.hid (HX.out.below hb4)
        clear hb34 hb4 HFa HA HX HB3 HNb3 HIn3 HZ3 HT3 b0 b1 b2 b3 hlt3
        obtain ⟨b0, b1, b2, b3⟩ := HNb4.out.cells
        obtain ⟨mo, rfl⟩ := Int.eq_ofNat_of_zero_le (show 0 ≤ most by omega)
        have HRg := Lib.hid (rgraph_any N A n c Am m cm M mo w4 HIn4.out.1 HNl.out HZ4.out HM.out hm1 hm2 HMk.out (by omega))
        go_wp2_with fail
        ((with_reducible refine HRg.out.mono ?_); rintro e w5 ⟨hb5, hP⟩)
        have hg9 := HG.out
        rw [Int.toNat_natCast] at hg9
        rw [hg9] at hP
        have he : e = .returned (.tuple #[.agg #[.slice none 0 0, .slice none 0 0, .bool false], .bool false]) := hP
        subst he
        have HB5 := Lib.hid (below_then HB4.out (below_then hb5 (below_alloc w5 (.cells #[.slice none 0 0, .slice none 0 0, .bool false] 31))))
        have HX5 := Lib.hid (HX4.out.below hb5)
        have hx5 := HX5.out.lt
        clear hP hb5 b0 b1 b2 b3
        obtain ⟨x0, x1, x2⟩ := HX5.out.cells
        go_wp2_with fail
        go_ret
        exact ⟨ret_bool (by simp), HB5.out⟩
      · rw [hbe] at hP
        obtain ⟨vS, vM, rfl, hO, hMv⟩ := hP
        have HSp := Lib.hid (SpIn.mk (fl := true) hO hMv)
        obtain ⟨Aa, ca, rfl⟩ := hO.slice
        obtain ⟨Ab, cb, rfl⟩ := hMv.slice
        clear hO hMv
        have HA := Lib.hid (below_alloc w3 (.cells #[.slice Aa T.states.length ca, .slice Ab (movesOf T).length cb, .bool true] 31))
        have HX := Lib.hid (SpB.new w3 (.slice Aa T.states.length ca) (.slice Ab (movesOf T).length cb) true)
        obtain ⟨b0, b1, b2, b3⟩ := HNb3.out.cells
        have hlt3 := HNb3.out.lt
        have HFa := Lib.hid (fault_nil N A n c Am m cm M 0 most _ (HIn3.out.below HA.out) HNl.out hn2 (HZ3.out.below HA.out) HM.out (by omega))
        rw [hf] at HFa
        have HMk := Lib.hid hmk
        have HG := Lib.hid hg
        clear hf hbe hmk hg
        go_wp2_with fail
        ((with_reducible refine HFa.out.mono ?_); rintro e w4 ⟨rfl, hb4⟩)
        have hb34 := below_then HA.out hb4
        have HB4 := Lib.hid (below_then HB3.out hb34)
        have HNb4 := Lib.hid (HNb3.out.below hb34)
        have HIn4 := Lib.hid (HIn3.out.below hb34)
        have HZ4 := Lib.hid (HZ3.out.below hb34)
        have HT4 := Lib.hid (HT3.out.below hb34)
        have HX4 := Lib.hid (HX.out.below hb4)
        have HSp4 := Lib.hid (HSp.out.below hb34)
        clear hb34 hb4 HFa HA HX HB3 HNb3 HIn3 HZ3 HT3 b0 b1 b2 b3 hlt3 HSp
        obtain ⟨b0, b1, b2, b3⟩ := HNb4.out.cells
        obtain ⟨mo, rfl⟩ := Int.eq_ofNat_of_zero_le (show 0 ≤ most by omega)
        have HRg := Lib.hid (rgraph_any N A n c Am m cm M mo w4 HIn4.out.1 HNl.out HZ4.out HM.out hm1 hm2 HMk.out (by omega))
        go_wp2_with fail
        ((with_reducible refine HRg.out.mono ?_); rintro e w5 ⟨hb5, hP⟩)
        have hg9 := HG.out
        rw [Int.toNat_natCast] at hg9
        rw [hg9] at hP
        obtain ⟨v, rfl, hs⟩ := hP
        have HS2 := Lib.hid hs
        obtain ⟨Ac, cc, Ad, cd, rfl, _⟩ := hs
        have HX5 := Lib.hid (HX4.out.below hb5)
        have HSp5 := Lib.hid (HSp4.out.below hb5)
        have hx5 := HX5.out.lt
        have HB5 := Lib.hid (below_then HB4.out hb5)
        have HA5 := Lib.hid (below_alloc w5 (.cells #[.slice Ac T.states.length cc, .slice Ad (movesOf T).length cd, .bool true] 31))
        clear hb5 b0 b1 b2 b3 HX4 HSp4
        obtain ⟨x0, x1, x2⟩ := HX5.out.cells
        have HSs := Lib.hid (sameSpace_any _ _ _ _ _ _ _ _ _ (HSp5.out.below HA5.out) (HS2.out.below HA5.out))
        have HE := Lib.hid (show sameSp T.states T.states (movesOf T) (movesOf T) true true = true by simp [sameSp])
        rw [HE.out] at HSs
        go_wp2_with fail
        ((with_reducible refine HSs.out.mono ?_); rintro e w6 ⟨rfl, hb6⟩)
        have HB6 := Lib.hid (below_then HB5.out (below_then HA5.out hb6))
        go_wp2_with fail
        go_ret
        exact ⟨rfl, HB6.out⟩
end Go.Proofs.YtjojmmabcjccdaaDoor
