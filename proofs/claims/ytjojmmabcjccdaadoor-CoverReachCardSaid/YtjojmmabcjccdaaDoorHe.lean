/- Fault, HasOmega, SameSpace of reference 24: what a call returns. -/
import Derived.Test.YtjojmmabcjccdaaDoorDr
import Derived.Test.YtjojmmabcjccdaaDoorDe
namespace Go.Proofs.YtjojmmabcjccdaaDoor
open Go.RowKit

/-- the first error number of the arguments; target: none, or a list that is not nil -/
def faultR (N : Nt) (M : List Int) (tg : Option (List Int)) (place most : Int) : Int :=
  if mkB N M && (match tg with | some L => mkB N L | none => true) then (if badR N place most then 2 else 0) else 1
/-- Omega is in a space -/
def omB (ST : List (List Int)) : Bool := ST.any hasO
theorem hasO_take {L : List Int} {k : Nat} (h : k < L.length) : hasO (L.take (k + 1)) = (hasO (L.take k) || decide (L[k] = -1)) := by
  unfold hasO; rw [List.take_succ_eq_append_getElem h, List.any_append]; simp
theorem hasO_at {L : List Int} {k : Nat} (h : k < L.length) (hk : L[k] = -1) : hasO L = true := by
  unfold hasO; rw [List.any_eq_true]; exact ⟨_, List.getElem_mem h, decide_eq_true hk⟩
theorem omB_at {LL : List (List Int)} {k : Nat} (h : k < LL.length) (hk : hasO LL[k] = true) : omB LL = true := by
  unfold omB; rw [List.any_eq_true]; exact ⟨_, List.getElem_mem h, hk⟩
theorem omB_take {LL : List (List Int)} {k : Nat} (h : k < LL.length) : omB (LL.take (k + 1)) = (omB (LL.take k) || hasO LL[k]) := by
  unfold omB; rw [List.take_succ_eq_append_getElem h, List.any_append]; simp
theorem SpB.new (w : World) (vS vM : Value) (fl : Bool) : SpB (w.alloc (.cells #[vS, vM, .bool fl] 31)) w.heap.size vS vM fl := heap_alloc_new w _
set_option maxHeartbeats 6400000 in
set_option maxRecDepth 100000 in
theorem hasOmega_any (v : Value) (LL : List (List Int)) (MV : List Mv) (fl : Bool) (w : World) (h : SpIn w v LL MV fl) :
    Calls Tryd.prog 18 #[v] w fun e w' => e = .returned (.bool (omB LL)) ∧ Below w.heap.size w w' := by
  obtain ⟨A, c, A', c', rfl, hl, hll, _, _⟩ := h
  have HB := Lib.hid (below_alloc w (.cells #[.slice A LL.length c, .slice A' MV.length c', .bool fl] 31))
  have HX := Lib.hid (SpB.new w (.slice A LL.length c) (.slice A' MV.length c') fl)
  have HL := Lib.hid (hl.below HB.out)
  clear hl
  obtain ⟨n, hn⟩ : ∃ n, n = LL.length := ⟨_, rfl⟩
  have HN := Lib.hid hn.symm
  rw [← hn] at HB HX HL hll ⊢
  clear hn
  go_enter Tryd.func18, Tryd.ntmps18
  go_wp2_with fail
  generalize w.alloc _ = w0 at *
  go_loopg [3] (n) (fun g iv wr => ∃ k : Nat, k + g = n ∧ iv = .int .i64 k ∧ omB (LL.take k) = false ∧ Below w0.heap.size w0 wr)
  case atStart => exact ⟨0, by omega, rfl, rfl, Below.refl _ _⟩
  case round =>
    obtain ⟨k, hk, rfl, hp, hB⟩ := hrel
    have HK := Lib.hid hk
    have HP := Lib.hid hp
    have HBr := Lib.hid hB
    have HLr := Lib.hid (HL.out.below hB)
    have hle : k ≤ n := by omega
    obtain ⟨x0, x1, x2⟩ := (HX.out.below hB).cells
    clear hk hp hB
    by_cases hlt : k < n
    · have hlt' : k < LL.length := by rw [HN.out]; exact hlt
      obtain ⟨ad, rfl, hpa, u, q0, Ax, nx, cx, rfl, zx, hx1, hx2, hx3⟩ := HLr.out k hlt'
      have HOm := Lib.hid (omB_take hlt')
      have HAt := Lib.hid (omB_at hlt')
      generalize LL[k] = X at *
      have HZ := Lib.hid zx
      have HXl := Lib.hid hx1
      clear hlt' zx hx1
      obtain ⟨go, rfl⟩ : ∃ go, go = gk := ⟨_, rfl⟩
      obtain ⟨wo, rfl⟩ : ∃ wo : World, wo = wr := ⟨_, rfl⟩
      go_wp2_with fail
      go_loopg [4] (nx) (fun g iv wx => ∃ j : Nat, j + g = nx ∧ iv = .int .i64 j ∧ hasO (X.take j) = false ∧ wo = wx)
      case atStart => exact ⟨0, by omega, rfl, rfl, rfl⟩
      case round =>
        obtain ⟨j, hj, rfl, hq, rfl⟩ := hrel
        have HJ := Lib.hid hj
        have HQ := Lib.hid hq
        have hjl : j ≤ nx := by omega
        clear hj hq
        by_cases hjt : j < nx
        · have hjt' : j < X.length := by rw [HXl.out]; exact hjt
          obtain ⟨ae, rfl, hpe, q5⟩ := HZ.out j hjt'
          have HTk := Lib.hid (hasO_take hjt')
          have HJa := Lib.hid (hasO_at hjt')
          generalize X[j] = x at *
          by_cases hx : x = -1
          · have q1 : (x == -1) = true := by rw [hx]; rfl
            have HV := Lib.hid (HAt.out (HJa.out hx))
            clear hx HAt
            go_wp2_with fail
            go_ret
            exact ⟨ret_bool HV.out.symm, HB.out.trans (HBr.out.mono HB.out.size)⟩
          · have q1 : (x == -1) = false := by simpa using hx
            have HV := Lib.hid (show hasO (X.take (j + 1)) = false by rw [HTk.out, HQ.out]; simpa using hx)
            clear hx
            go_wp2_with fail
            go_roundg (gk - 1)
            case measure => have := HJ.out; omega
            case rel => exact ⟨j + 1, by have := HJ.out; omega, by go_num, HV.out, rfl⟩
        · have HV := Lib.hid (show omB (LL.take (k + 1)) = false by
            rw [HOm.out, HP.out]
            have := HQ.out
            rw [List.take_of_length_le (by rw [HXl.out]; omega)] at this
            rw [this]; rfl)
          go_wp2_with fail
          go_roundg (go - 1)
          case measure => have := HK.out; omega
          case rel => exact ⟨k + 1, by have := HK.out; omega, by go_num, HV.out, HBr.out⟩
    · have HV := Lib.hid (show omB LL = false by have := HP.out; rwa [List.take_of_length_le (by rw [HN.out]; omega)] at this)
      go_wp2_with fail
      go_ret
      exact ⟨ret_bool HV.out.symm, HB.out.trans (HBr.out.mono HB.out.size)⟩
instance : DecidableEq Mv := fun a b => by
  cases a; cases b
  simp only [Mv.mk.injEq]
  infer_instance
/-- two spaces are equal -/
def sameSp (L1 L2 : List (List Int)) (M1 M2 : List Mv) (f1 f2 : Bool) : Bool := decide (L1 = L2) && (decide (M1 = M2) && decide (f1 = f2))
theorem take_grow' {α : Type} {X Y : List α} {k : Nat} (h1 : k < X.length) (h2 : k < Y.length) (ht : X.take k = Y.take k) (h : X[k] = Y[k]) : X.take (k + 1) = Y.take (k + 1) := by
  rw [List.take_succ_eq_append_getElem h1, List.take_succ_eq_append_getElem h2, ht, h]
/-- FAULT -/
theorem fault_mark : True := trivial
set_option maxHeartbeats 6400000 in
set_option maxRecDepth 100000 in
theorem fault_nil (N : Nt) (A : Option Addr) (n c : Nat) (Am : Option Addr) (m cm : Nat) (M : List Int) (place most : Int) (w : World) (h : NtIn w A N) (hn : N.tr.length = n) (hn2 : n ≤ 9223372036854775807) (hM : ZIn w Am M) (hm : M.length = m) (hm2 : m ≤ 9223372036854775807) :
    Calls Tryd.prog 13 #[.agg #[.int .i64 N.pl, .slice A n c, .int .i64 N.src, .int .i64 N.snk], .slice Am m cm, .slice none 0 0, .int .i64 place, .int .i64 most] w fun e w' => e = .returned (.int .i64 (faultR N M none place most)) ∧ Below w.heap.size w w' := by
  have HB := Lib.hid (below_alloc w (.cells #[.int .i64 N.pl, .slice A n c, .int .i64 N.src, .int .i64 N.snk] 24))
  have HNb := Lib.hid (NB.new w N.pl A n c N.src N.snk)
  have HIn := Lib.hid (h.below HB.out)
  have HM := Lib.hid (hM.below HB.out)
  have HMl := Lib.hid hm
  have HNl := Lib.hid hn
  clear h hn hM hm
  go_enter Tryd.func13, Tryd.ntmps13
  go_wp2_with fail
  generalize w.alloc _ = w0 at *
  obtain ⟨b0, b1, b2, b3⟩ := HNb.out.cells
  cases hv : ntB N with
  | false =>
    have HVd := Lib.hid (rvalid_any N A n c w0 HIn.out HNl.out hn2)
    rw [hv] at HVd
    have HV := Lib.hid (show faultR N M none place most = 1 by unfold faultR mkB; rw [hv]; rfl)
    ((with_reducible refine HVd.out.mono ?_); rintro e w1 ⟨rfl, hb1⟩)
    have HFin := Lib.hid (below_then HB.out hb1)
    go_wp2_with fail
    go_ret
    exact ⟨ret_int HV.out.symm, HFin.out⟩
  | true =>
    have HVd := Lib.hid (rvalid_any N A n c w0 HIn.out HNl.out hn2)
    rw [hv] at HVd
    ((with_reducible refine HVd.out.mono ?_); rintro e w1 ⟨rfl, hb1⟩)
    have HB1 := Lib.hid (below_then HB.out hb1)
    have HNb1 := Lib.hid (HNb.out.below hb1)
    have HM1 := Lib.hid (HM.out.below hb1)
    have HMk := Lib.hid (show mkB N M = (decide ((m : Int) = N.pl) && !(M.any badK)) by unfold mkB; rw [hv, HMl.out]; rfl)
    have HVt := Lib.hid hv
    clear hb1 HVd b0 b1 b2 b3 hv
    obtain ⟨b0, b1, b2, b3⟩ := HNb1.out.cells
    have HRm := Lib.hid (rmarking_any N.pl A n c N.src N.snk Am m cm M w1 HM1.out HMl.out hm2)
    rw [← HMk.out] at HRm
    go_wp2_with fail
    cases hk : mkB N M with
    | false =>
      rw [hk] at HRm
      have HV := Lib.hid (show faultR N M none place most = 1 by unfold faultR; rw [hk]; rfl)
      ((with_reducible refine HRm.out.mono ?_); rintro e w2 ⟨rfl, hb2⟩)
      have HFin := Lib.hid (below_then HB1.out hb2)
      go_wp2_with fail
      go_ret
      exact ⟨ret_int HV.out.symm, HFin.out⟩
    | true =>
      rw [hk] at HRm
      ((with_reducible refine HRm.out.mono ?_); rintro e w2 ⟨rfl, hb2⟩)
      have HFin := Lib.hid (below_then HB1.out hb2)
      have HNb2 := Lib.hid (HNb1.out.below hb2)
      clear hb2 HRm b0 b1 b2 b3
      obtain ⟨b0, b1, b2, b3⟩ := HNb2.out.cells
      have HX := Lib.hid (show faultR N M none place most = if badR N place most then 2 else 0 by unfold faultR; rw [hk]; rfl)
      clear hk
      have HBad := Lib.hid (show badR N place most = (decide (place < 0) || (decide (N.pl ≤ place) || (decide (most < 1) || decide (1000 < most)))) from rfl)
      by_cases h1 : place < 0
      · have HV := Lib.hid (show faultR N M none place most = 2 by rw [HX.out, HBad.out, decide_eq_true h1]; rfl)
        go_wp2_with fail
        go_ret
        exact ⟨ret_int HV.out.symm, HFin.out⟩
      have d1 : decide (place < 0) = false := by simpa using h1
      have g1 : 0 ≤ place := by omega
      by_cases h2 : N.pl ≤ place
      · clear h1
        have HV := Lib.hid (show faultR N M none place most = 2 by rw [HX.out, HBad.out, d1, decide_eq_true h2]; rfl)
        go_wp2_with fail
        go_ret
        exact ⟨ret_int HV.out.symm, HFin.out⟩
      have d2 : decide (N.pl ≤ place) = false := by simpa using h2
      by_cases h3 : most < 1
      · clear h1 h2
        have HV := Lib.hid (show faultR N M none place most = 2 by rw [HX.out, HBad.out, d1, d2, decide_eq_true h3]; rfl)
        go_wp2_with fail
        go_ret
        exact ⟨ret_int HV.out.symm, HFin.out⟩
      have d3 : decide (most < 1) = false := by simpa using h3
      by_cases h4 : 1000 < most
      · clear h1 h2 h3
        have HV := Lib.hid (show faultR N M none place most = 2 by rw [HX.out, HBad.out, d1, d2, d3, decide_eq_true h4]; rfl)
        go_wp2_with fail
        go_ret
        exact ⟨ret_int HV.out.symm, HFin.out⟩
      have d4 : decide (1000 < most) = false := by simpa using h4
      clear h1 h2 h3 h4
      have HV := Lib.hid (show faultR N M none place most = 0 by rw [HX.out, HBad.out, d1, d2, d3, d4]; rfl)
      go_wp2_with fail
      go_ret
      exact ⟨ret_int HV.out.symm, HFin.out⟩
set_option maxHeartbeats 6400000 in
set_option maxRecDepth 100000 in
theorem fault_tg (N : Nt) (A : Option Addr) (n c : Nat) (Am : Option Addr) (m cm : Nat) (M : List Int) (at_ : Addr) (mt ct : Nat) (L : List Int) (place most : Int) (w : World) (h : NtIn w A N) (hn : N.tr.length = n) (hn2 : n ≤ 9223372036854775807) (hM : ZIn w Am M) (hm : M.length = m) (hm2 : m ≤ 9223372036854775807) (hT : ZIn w (some at_) L) (ht : L.length = mt) (ht2 : mt ≤ 9223372036854775807) :
    Calls Tryd.prog 13 #[.agg #[.int .i64 N.pl, .slice A n c, .int .i64 N.src, .int .i64 N.snk], .slice Am m cm, .slice (some at_) mt ct, .int .i64 place, .int .i64 most] w fun e w' => e = .returned (.int .i64 (faultR N M (some L) place most)) ∧ Below w.heap.size w w' := by
  have HB := Lib.hid (below_alloc w (.cells #[.int .i64 N.pl, .slice A n c, .int .i64 N.src, .int .i64 N.snk] 24))
  have HNb := Lib.hid (NB.new w N.pl A n c N.src N.snk)
  have HIn := Lib.hid (h.below HB.out)
  have HM := Lib.hid (hM.below HB.out)
  have HMl := Lib.hid hm
  have HNl := Lib.hid hn
  have HT := Lib.hid (hT.below HB.out)
  have HTl := Lib.hid ht
  clear hT ht
  clear h hn hM hm
  go_enter Tryd.func13, Tryd.ntmps13
  go_wp2_with fail
  generalize w.alloc _ = w0 at *
  obtain ⟨b0, b1, b2, b3⟩ := HNb.out.cells
  cases hv : ntB N with
  | false =>
    have HVd := Lib.hid (rvalid_any N A n c w0 HIn.out HNl.out hn2)
    rw [hv] at HVd
    have HV := Lib.hid (show faultR N M (some L) place most = 1 by unfold faultR mkB; rw [hv]; rfl)
    ((with_reducible refine HVd.out.mono ?_); rintro e w1 ⟨rfl, hb1⟩)
    have HFin := Lib.hid (below_then HB.out hb1)
    go_wp2_with fail
    go_ret
    exact ⟨ret_int HV.out.symm, HFin.out⟩
  | true =>
    have HVd := Lib.hid (rvalid_any N A n c w0 HIn.out HNl.out hn2)
    rw [hv] at HVd
    ((with_reducible refine HVd.out.mono ?_); rintro e w1 ⟨rfl, hb1⟩)
    have HB1 := Lib.hid (below_then HB.out hb1)
    have HNb1 := Lib.hid (HNb.out.below hb1)
    have HM1 := Lib.hid (HM.out.below hb1)
    have HT1 := Lib.hid (HT.out.below hb1)
    have HMk := Lib.hid (show mkB N M = (decide ((m : Int) = N.pl) && !(M.any badK)) by unfold mkB; rw [hv, HMl.out]; rfl)
    have HVt := Lib.hid hv
    clear hb1 HVd b0 b1 b2 b3 hv
    obtain ⟨b0, b1, b2, b3⟩ := HNb1.out.cells
    have HRm := Lib.hid (rmarking_any N.pl A n c N.src N.snk Am m cm M w1 HM1.out HMl.out hm2)
    rw [← HMk.out] at HRm
    go_wp2_with fail
    cases hk : mkB N M with
    | false =>
      rw [hk] at HRm
      have HV := Lib.hid (show faultR N M (some L) place most = 1 by unfold faultR; rw [hk]; rfl)
      ((with_reducible refine HRm.out.mono ?_); rintro e w2 ⟨rfl, hb2⟩)
      have HFin := Lib.hid (below_then HB1.out hb2)
      go_wp2_with fail
      go_ret
      exact ⟨ret_int HV.out.symm, HFin.out⟩
    | true =>
      rw [hk] at HRm
      ((with_reducible refine HRm.out.mono ?_); rintro e w2 ⟨rfl, hb2⟩)
      have HFin := Lib.hid (below_then HB1.out hb2)
      have HNb2 := Lib.hid (HNb1.out.below hb2)
      have HT2 := Lib.hid (HT1.out.below hb2)
      clear hb2 HRm b0 b1 b2 b3
      obtain ⟨b0, b1, b2, b3⟩ := HNb2.out.cells
      have HTk := Lib.hid (show mkB N L = (decide ((mt : Int) = N.pl) && !(L.any badK)) by unfold mkB; rw [HVt.out, HTl.out]; rfl)
      have HRt := Lib.hid (rmarking_any N.pl A n c N.src N.snk (some at_) mt ct L w2 HT2.out HTl.out ht2)
      rw [← HTk.out] at HRt
      go_wp2_with fail
      cases hl : mkB N L with
      | false =>
        rw [hl] at HRt
        have HV := Lib.hid (show faultR N M (some L) place most = 1 by unfold faultR; rw [hk]; simp only [hl]; rfl)
        ((with_reducible refine HRt.out.mono ?_); rintro e w3 ⟨rfl, hb3⟩)
        have HFin := Lib.hid (below_then HFin.out hb3)
        go_wp2_with fail
        go_ret
        exact ⟨ret_int HV.out.symm, HFin.out⟩
      | true =>
        rw [hl] at HRt
        have HX := Lib.hid (show faultR N M (some L) place most = if badR N place most then 2 else 0 by unfold faultR; rw [hk]; simp only [hl]; rfl)
        ((with_reducible refine HRt.out.mono ?_); rintro e w3 ⟨rfl, hb3⟩)
        have HFin := Lib.hid (below_then HFin.out hb3)
        have HNb3 := Lib.hid (HNb2.out.below hb3)
        clear hb3 HRt b0 b1 b2 b3 hk hl
        obtain ⟨b0, b1, b2, b3⟩ := HNb3.out.cells
        have HBad := Lib.hid (show badR N place most = (decide (place < 0) || (decide (N.pl ≤ place) || (decide (most < 1) || decide (1000 < most)))) from rfl)
        by_cases h1 : place < 0
        · have HV := Lib.hid (show faultR N M (some L) place most = 2 by rw [HX.out, HBad.out, decide_eq_true h1]; rfl)
          go_wp2_with fail
          go_ret
          exact ⟨ret_int HV.out.symm, HFin.out⟩
        have d1 : decide (place < 0) = false := by simpa using h1
        have g1 : 0 ≤ place := by omega
        by_cases h2 : N.pl ≤ place
        · clear h1
          have HV := Lib.hid (show faultR N M (some L) place most = 2 by rw [HX.out, HBad.out, d1, decide_eq_true h2]; rfl)
          go_wp2_with fail
          go_ret
          exact ⟨ret_int HV.out.symm, HFin.out⟩
        have d2 : decide (N.pl ≤ place) = false := by simpa using h2
        by_cases h3 : most < 1
        · clear h1 h2
          have HV := Lib.hid (show faultR N M (some L) place most = 2 by rw [HX.out, HBad.out, d1, d2, decide_eq_true h3]; rfl)
          go_wp2_with fail
          go_ret
          exact ⟨ret_int HV.out.symm, HFin.out⟩
        have d3 : decide (most < 1) = false := by simpa using h3
        by_cases h4 : 1000 < most
        · clear h1 h2 h3
          have HV := Lib.hid (show faultR N M (some L) place most = 2 by rw [HX.out, HBad.out, d1, d2, d3, decide_eq_true h4]; rfl)
          go_wp2_with fail
          go_ret
          exact ⟨ret_int HV.out.symm, HFin.out⟩
        have d4 : decide (1000 < most) = false := by simpa using h4
        clear h1 h2 h3 h4
        have HV := Lib.hid (show faultR N M (some L) place most = 0 by rw [HX.out, HBad.out, d1, d2, d3, d4]; rfl)
        go_wp2_with fail
        go_ret
        exact ⟨ret_int HV.out.symm, HFin.out⟩
end Go.Proofs.YtjojmmabcjccdaaDoor
