/- Find and raise of reference 24: what a call returns. -/
import Derived.Test.YtjojmmabcjccdaaDoorDo
namespace Go.Proofs.YtjojmmabcjccdaaDoor
open Go.RowKit

/-- the index of a marking in a list, -1 if it is not there -/
def findR (LL : List (List Int)) (m : List Int) : Int := if (LL.findIdx fun s => decide (s = m)) = LL.length then -1 else ((LL.findIdx fun s => decide (s = m) : Nat) : Int)
theorem find_no {LL : List (List Int)} {m : List Int} (h : ∀ s ∈ LL, s ≠ m) : findR LL m = -1 := by
  unfold findR
  rw [if_pos]
  apply List.findIdx_eq_length_of_false
  intro x hx
  simp only [decide_eq_false_iff_not]
  exact h x hx
theorem find_at {LL : List (List Int)} {m : List Int} {k : Nat} (h : k < LL.length) (hm : LL[k] = m) (hno : ∀ s ∈ LL.take k, s ≠ m) : findR LL m = (k : Int) := by
  have e : (LL.findIdx fun s => decide (s = m)) = k := by
    rw [List.findIdx_eq h]
    refine ⟨by simpa using hm, fun j hj => ?_⟩
    simp only [decide_eq_false_iff_not]
    exact hno _ (by rw [List.mem_take_iff_getElem]; exact ⟨j, by omega, rfl⟩)
  unfold findR
  rw [e, if_neg (by omega)]
theorem find_neg {LL : List (List Int)} {m : List Int} : findR LL m < 0 ↔ m ∉ LL := by
  constructor
  · intro h hm
    unfold findR at h
    have := List.findIdx_lt_length_of_exists (xs := LL) (p := fun s => decide (s = m)) ⟨m, hm, by simp⟩
    rw [if_neg (by omega)] at h; omega
  · intro h
    rw [find_no (fun s hs e => h (by subst e; exact hs))]; omega
set_option maxHeartbeats 3200000 in
set_option maxRecDepth 100000 in
theorem find_any (A : Option Addr) (n c : Nat) (LL : List (List Int)) (Am : Option Addr) (m cm : Nat) (M : List Int) (w : World) (h : LIn w A LL) (hn : LL.length = n) (hn2 : n ≤ 9223372036854775806) (hM : ZIn w Am M) (hm : M.length = m) :
    Calls Tryd.prog 47 #[.slice A n c, .slice Am m cm] w fun e w' => e = .returned (.int .i64 (findR LL M)) ∧ Below w.heap.size w w' := by
  have HL := Lib.hid h
  have HM := Lib.hid hM
  have HN := Lib.hid hn
  have HMl := Lib.hid hm
  clear h hM hn hm
  go_enter Tryd.func47, Tryd.ntmps47
  go_wp2_with fail
  go_loopg [5] (n) (fun g iv wr => ∃ k : Nat, k + g = n ∧ iv = .int .i64 k ∧ (∀ s ∈ LL.take k, s ≠ M) ∧ Below w.heap.size w wr)
  case atStart => exact ⟨0, by omega, rfl, by simp, Below.refl _ _⟩
  case round =>
    obtain ⟨k, hk, rfl, hp, hB⟩ := hrel
    have HB := Lib.hid hB
    have HK := Lib.hid hk
    have HP := Lib.hid hp
    have HLr := Lib.hid (HL.out.below hB)
    have HMr := Lib.hid (HM.out.below hB)
    have hle : k ≤ n := by omega
    clear hk hp hB
    by_cases hlt : k < n
    · have hlt' : k < LL.length := by rw [HN.out]; exact hlt
      obtain ⟨ad, rfl, hpa, u, q0, Ax, nx, cx, rfl, zx, hx1, hx2, hx3⟩ := HLr.out k hlt'
      have HAt := Lib.hid (fun e => find_at hlt' e HP.out)
      have HTk := Lib.hid (List.take_succ_eq_append_getElem hlt')
      generalize LL[k] = X at *
      have HS := Lib.hid (same_any Ax nx cx Am m cm X M wr zx hx1 HMr.out HMl.out (by omega))
      clear hlt' zx hx1
      by_cases he : X = M
      · have HV := Lib.hid (HAt.out he)
        rw [decide_eq_true he] at HS
        clear he HAt
        go_wp2_with fail
        ((with_reducible refine HS.out.mono ?_); rintro e w1 ⟨rfl, hb1⟩)
        have HB1 := Lib.hid (below_then HB.out hb1)
        clear hb1
        go_wp2_with fail
        go_ret
        exact ⟨ret_int HV.out.symm, HB1.out⟩
      · have HV := Lib.hid (show ∀ s ∈ LL.take (k + 1), s ≠ M by
          rw [HTk.out]; intro s hs
          rcases List.mem_append.1 hs with h1 | h1
          · exact HP.out s h1
          · have : s = X := by simpa using h1
            subst this; exact he)
        rw [decide_eq_false he] at HS
        clear he HAt
        go_wp2_with fail
        ((with_reducible refine HS.out.mono ?_); rintro e w1 ⟨rfl, hb1⟩)
        have HB1 := Lib.hid (below_then HB.out hb1)
        clear hb1
        go_wp2_with fail
        go_roundg (gk - 1)
        case measure => have := HK.out; omega
        case rel => exact ⟨k + 1, by have := HK.out; omega, by go_num, HV.out, HB1.out⟩
    · have HV := Lib.hid (show findR LL M = -1 from find_no (by have := HP.out; rwa [List.take_of_length_le (by rw [HN.out]; omega)] at this))
      go_wp2_with fail
      go_ret
      exact ⟨ret_int HV.out.symm, HB.out⟩
/-- a node of the reference's tree -/
structure Rv where
  d : Nd
  v : Value
def rdC (x : Rv) : List Value := [x.v, .int .i64 (x.d.st : Int), .int .i64 x.d.ab, .bool x.d.nw]
theorem rdC_len (x : Rv) : (rdC x).length = 4 := rfl
/-- the reference's tree as it is read -/
def RIn (w : World) (g : Nat) (NL : List Rv) : Prop := g < w.heap.size ∧ ∀ (i : Nat) (x : Rv), NL[i]? = some x → (∀ j u, (rdC x)[j]? = some u → w.cell? ⟨g, i * 4 + j, none⟩ = some u) ∧ SlIn w x.v x.d.ms
theorem RIn.below {w w' : World} {g : Nat} {NL : List Rv} (h : RIn w g NL) (hb : Below w.heap.size w w') : RIn w' g NL :=
  ⟨by have := hb.size; have := h.1; omega, fun i x hx => ⟨fun j u hu => by rw [hb.cell (p := ⟨g, i * 4 + j, none⟩) h.1]; exact (h.2 i x hx).1 j u hu, (h.2 i x hx).2.below hb⟩⟩
/-- under a marking that is at least as great -/
theorem less_ne {z y : List Int} (h : atMost z y = true) {p : Nat} (hz : p < z.length) (hy : p < y.length) : lessE y[p] z[p] = decide (z[p] = y[p]) := by
  have h1 := (atMost_iff z y).1 h p hz
  rw [lessE_iff] at h1
  simp only [List.getD_eq_getElem?_getD, List.getElem?_eq_getElem hz, List.getElem?_eq_getElem hy, Option.getD_some] at h1
  rw [Bool.eq_iff_iff, lessE_iff, decide_eq_true_iff]
  omega
/-- the loop up the tree -/
def RaI (T : TS) (i m : Nat) (w0 : World) (yg yc : Nat) (U : List Int) (g : Nat) (av : Value) (wr : World) : Prop :=
  ∃ (a : Int) (u : Up), av = .int .i64 a ∧ -1 ≤ a ∧ a < (g : Int) ∧ a ≤ (i : Int) ∧ (upAll T.nodes g a u).y = U ∧ u.y.length = m ∧ NS w0 wr (.slice (some ⟨yg, 0, none⟩) m yc) u.y
/-- the loop over the places -/
def RpI (z y : List Int) (m : Nat) (w0 : World) (yg yc : Nat) (g : Nat) (pv : Value) (wr : World) : Prop :=
  ∃ q : Nat, q + g = m ∧ pv = .int .i64 (q : Int) ∧ NS w0 wr (.slice (some ⟨yg, 0, none⟩) m yc) (zipTo z y q)
set_option maxHeartbeats 12800000 in
set_option maxRecDepth 100000 in
theorem raise_any (N : Nt) (M0 : List Int) (T : TS) (NL : List Rv) (gN : Nat) (nl cN : Nat) (i : Nat) (Ay : Option Addr) (m cy : Nat) (Y : List Int) (gr : Int) (om : Bool) (w : World) (h : RIn w gN NL) (hnl : NL.length = nl) (hnm : NL.map Rv.d = T.nodes) (hI : TInv N M0 T) (hml : ∀ d ∈ T.nodes, d.ms.length = m) (hi : i < nl) (hY : ZIn w Ay Y) (hy : Y.length = m) (hm0 : 0 < m) (hm2 : m ≤ 1000) (hnl2 : nl ≤ 100000) :
    Calls Tryd.prog 46 #[.slice (some ⟨gN, 0, none⟩) nl cN, .int .i64 i, .slice Ay m cy] w fun e w' => ∃ v, e = .returned v ∧ NS w w' v (upAll T.nodes (i + 1) i ⟨Y, gr, om⟩).y := by
  generalize hUg : (upAll T.nodes (i + 1) i ⟨Y, gr, om⟩).y = U
  have HN := Lib.hid h
  have HM := Lib.hid hy
  have HNm := Lib.hid hnm
  have HNl := Lib.hid hnl
  have HTI := Lib.hid hI
  have HMl := Lib.hid hml
  have HOwn := Lib.hid (own_lit0 w)
  have HAl := Lib.hid (below_alloc w (.cells #[] 3))
  have HRd := Lib.hid (rd_of_z (hY.below HAl.out))
  clear h hy hnm hnl hI hml hY
  obtain ⟨i0, hii, hz0, hz1, hz2⟩ := info_parts intInfo
  have HI := Lib.hid (And.intro hii (And.intro hz0 (And.intro hz1 hz2)))
  clear hii hz0 hz1 hz2
  go_enter Tryd.func46, Tryd.ntmps46
  go_wp2_with (at_builtin; refine wpList_append_rd intC_len intC_one _ rfl _ _ 25 rfl w.heap.size 3 i0 (.int .i64 0) 8 Tryd.underlying25 HI.out.1 HI.out.2.1 HI.out.2.2.1 HI.out.2.2.2 rfl (by decide) (.slice (some ⟨w.heap.size, 0, none⟩) 0 0) 0 [] rfl HOwn.out Ay m cy Y rfl HRd.out HM.out ?c3 ?c4 ?c5 ?_)
  case c3 => unfold maxLen; omega
  case c4 => omega
  case c5 => exact HAl.out.size
  intro v' w1 hown1 hgrow1
  have hS1 := NS.of_app (w := w) (L := []) (n := 0) HAl.out HOwn.out (by simpa using hown1) hgrow1 rfl HM.out
  rw [List.nil_append] at hS1
  clear hown1 hgrow1 HRd HOwn HAl
  obtain ⟨yg, yc, rfl, hgb, hgl⟩ := hS1.row (by rw [HM.out]; exact hm0)
  rw [HM.out] at hS1 ⊢
  have HS1 := Lib.hid hS1
  clear hS1
  go_wp2_with fail
  go_loopg [8] (i + 1) (fun g av wr => RaI T i m w yg yc U g av wr)
  case atStart => exact ⟨i, ⟨Y, gr, om⟩, rfl, by omega, by omega, by omega, hUg, HM.out, HS1.out⟩
  case round =>
    clear hUg HS1
    obtain ⟨a, u, rfl, ha1, hag, hai, hup, hul, hS⟩ := hrel
    have HS := Lib.hid hS
    have HUp := Lib.hid hup
    have HUl := Lib.hid hul
    have HNr := Lib.hid (HN.out.below hS.2)
    clear hS hup hul
    by_cases ha0 : a < 0
    · rw [upAll_neg (by omega)] at HUp
      rw [HUp.out] at HS
      go_wp2_with fail
      go_ret
      exact ⟨_, rfl, HS.out⟩
    · obtain ⟨b, rfl⟩ := Int.eq_ofNat_of_zero_le (show 0 ≤ a by omega)
      have hbn : b < T.nodes.length := by rw [← HNm.out, List.length_map, HNl.out]; omega
      obtain ⟨z, hz⟩ : ∃ z, T.nodes[b]? = some z := ⟨_, List.getElem?_eq_getElem hbn⟩
      obtain ⟨x, hx, hxz⟩ : ∃ x, NL[b]? = some x ∧ x.d = z := by
        have h1 := hz
        rw [← HNm.out, List.getElem?_map] at h1
        obtain ⟨x, h2, h3⟩ := Option.map_eq_some_iff.1 h1
        exact ⟨x, h2, h3⟩
      obtain ⟨hc, Az, nz, cz, hv, zz, hz1, hz2, hz3⟩ := HN.out.2 b x hx
      have HAb := Lib.hid (And.intro (HTI.out.ab_ge b z hz) (HTI.out.ab b z hz))
      have hlz : z.ms.length = m := HMl.out z (List.mem_of_getElem? hz)
      rw [hxz] at zz hz1
      have z0 : w.cell? ⟨gN, b * 4, none⟩ = some x.v := hc 0 _ rfl
      have z2 := hc 2 _ rfl
      rw [hxz] at z2
      obtain rfl : nz = m := by rw [← hz1, hlz]
      rw [hv] at z0
      have HZz := Lib.hid zz
      have HLz := Lib.hid hlz
      rw [upAll_pos (by omega) hz] at HUp
      have Z0 := Lib.hid z0
      have Z2 := Lib.hid z2
      clear hc hv zz hz1 hlz hz hx hxz z0 z2 hbn
      have hb0 : (0 : Int) ≤ (b : Int) := by omega
      have hb1 : (b : Int) < (nl : Int) := by omega
      have z0 := cell_stays HS.out.2 Z0.out
      have HZr := Lib.hid (HZz.out.below HS.out.2)
      have HZy := Lib.hid (show ZIn wr (some ⟨yg, 0, none⟩) u.y by obtain ⟨A', c', e, hz, _⟩ := HS.out.zin; cases e; exact hz)
      have HBe := Lib.hid (atmost_any Az nz cz (some ⟨yg, 0, none⟩) nz yc z.ms u.y wr HZr.out HLz.out HZy.out HUl.out (Nat.le_refl _) (by omega))
      cases hle : atMost z.ms u.y with
      | false =>
        rw [hle] at HBe
        rw [upOne_no (by rw [hle]; rfl)] at HUp
        clear hle
        go_wp2_with fail
        ((with_reducible refine HBe.out.mono ?_); rintro e w7 ⟨rfl, hb7⟩)
        have HS7 := Lib.hid (HS.out.below hb7)
        clear hb7 z0
        have z2n := cell_stays HS7.out.2 Z2.out
        go_wp2_with fail
        go_roundg (gk - 1)
        case measure => omega
        case rel => exact ⟨z.ab, u, rfl, by have := HAb.out; omega, by have := HAb.out; omega, by have := HAb.out; omega, HUp.out, HUl.out, HS7.out⟩
      | true =>
        rw [hle] at HBe
        go_wp2_with fail
        ((with_reducible refine HBe.out.mono ?_); rintro e w7 ⟨rfl, hb7⟩)
        have HS7 := Lib.hid (HS.out.below hb7)
        have HEq := Lib.hid (same_any Az nz cz (some ⟨yg, 0, none⟩) nz yc z.ms u.y w7 (HZr.out.below hb7) HLz.out (HZy.out.below hb7) HUl.out (by omega))
        clear hb7 z0 HS HZr HZy HBe
        by_cases heq : z.ms = u.y
        · rw [decide_eq_true heq] at HEq
          rw [upOne_no (by simp [heq])] at HUp
          clear heq hle
          go_wp2_with fail
          ((with_reducible refine HEq.out.mono ?_); rintro e w9 ⟨rfl, hb9⟩)
          have HS9 := Lib.hid (HS7.out.below hb9)
          clear hb9
          have z2n := cell_stays HS9.out.2 Z2.out
          go_wp2_with fail
          go_roundg (gk - 1)
          case measure => omega
          case rel => exact ⟨z.ab, u, rfl, by have := HAb.out; omega, by have := HAb.out; omega, by have := HAb.out; omega, HUp.out, HUl.out, HS9.out⟩
        · rw [decide_eq_false heq] at HEq
          have HLe := Lib.hid hle
          rw [upOne_yes (by rw [hle, Bool.true_and]; simpa using heq)] at HUp
          clear heq hle
          go_wp2_with fail
          ((with_reducible refine HEq.out.mono ?_); rintro e w9 ⟨rfl, hb9⟩)
          have HS9 := Lib.hid (HS7.out.below hb9)
          clear hb9 HS7 HEq
          obtain ⟨ga, rfl⟩ : ∃ ga, ga = gk := ⟨_, rfl⟩
          obtain ⟨wu, rfl⟩ : ∃ wu : World, wu = wr := ⟨_, rfl⟩
          have HZl := Lib.hid (show z.ms.length = u.y.length by rw [HLz.out, HUl.out])
          go_wp2_with fail
          go_loopg [10] (nz) (fun g pv wx => RpI z.ms u.y nz w yg yc g pv wx)
          case atStart => exact ⟨0, by omega, rfl, by rw [zipTo_zero]; exact HS9.out⟩
          case round =>
            obtain ⟨q, hqg, rfl, hSx⟩ := hrel
            have HKq := Lib.hid hqg
            have HSx := Lib.hid hSx
            have hqm : q ≤ nz := by omega
            clear hqg hSx HS9
            by_cases hq : q < nz
            · obtain ⟨az, rfl, hpz, c5⟩ := (HZz.out.below HSx.out.2) q (by rw [HLz.out]; exact hq)
              obtain ⟨hql, e1, e2⟩ := zipTo_get HZl.out (q := q) (by rw [HUl.out]; exact hq)
              have HC := Lib.hid (HSx.out.cells q hql)
              rw [e1] at HC
              have HE2 := Lib.hid e2
              have hqz : q < z.ms.length := by rw [HLz.out]; exact hq
              have hqy : q < u.y.length := by rw [HUl.out]; exact hq
              have HLs := Lib.hid (less_ne HLe.out hqz hqy)
              generalize z.ms[q] = zq at *
              generalize u.y[q] = yq at *
              clear e1 e2 hql
              obtain ⟨r0, r1⟩ := HC.out
              have HL := Lib.hid (less_any yq zq)
              rw [HLs.out] at HL
              by_cases hne : zq = yq
              · rw [if_neg (by simp [hne])] at HE2
                rw [decide_eq_true hne] at HL
                clear hne HLs
                go_wp2_with fail
                have a0 := fun d os => cell_regrown r0 d os
                have a5 := fun d os => cell_regrown c5 d os
                refine wp_region_quiet_below (by kernel_rfl) (by kernel_rfl) ?_
                repeat (quiet_step (exact Calls.regrown_of (HL.out _)))
                refine wpQuiet_nil ?_
                intro _ hw'
                obtain ⟨⟨dq, osq⟩, hw''⟩ := hw'
                subst hw''
                clear a0 a5
                go_wp2_with fail
                go_roundg (gk - 1)
                case measure => have := HKq.out; omega
                case rel => exact ⟨q + 1, by have := HKq.out; omega, by go_num, by rw [HE2.out]; exact HSx.out.below (below_regrown _ dq osq)⟩
              · rw [if_pos hne] at HE2
                rw [decide_eq_false hne] at HL
                clear hne HLs
                go_wp2_with fail
                have a0 := fun d os => cell_regrown r0 d os
                have a5 := fun d os => cell_regrown c5 d os
                refine wp_region_quiet_below (by kernel_rfl) (by kernel_rfl) ?_
                repeat (quiet_step (exact Calls.regrown_of (HL.out _)))
                refine wpQuiet_nil ?_
                intro _ hw'
                obtain ⟨⟨dq, osq⟩, hw''⟩ := hw'
                subst hw''
                clear a0 a5 r0 r1 c5 HC
                have HSd := Lib.hid (HSx.out.below (below_regrown _ dq osq))
                generalize Sort.grow (redrawn wr dq) osq = wd at *
                obtain ⟨s0, s1⟩ := HSd.out.cells q (by rw [zipTo_len HZl.out, HUl.out]; exact hq)
                have hyl : yg < wd.heap.size := (HSd.out.1.lt yg rfl).2
                go_wp2_with fail
                go_roundg (gk - 1)
                case measure => have := HKq.out; omega
                case rel => exact ⟨q + 1, by have := HKq.out; omega, by go_num, by rw [HE2.out]; exact HSd.out.set hgb q (-1)⟩
            · have HX2 := Lib.hid (zipTo_all HZl.out (q := q) (by rw [HUl.out]; omega))
              rw [HX2.out] at HSx
              have z2n := cell_stays HSx.out.2 Z2.out
              go_wp2_with fail
              go_roundg (ga - 1)
              case measure => omega
              case rel => exact ⟨z.ab, ⟨_, _, _⟩, rfl, by have := HAb.out; omega, by have := HAb.out; omega, by have := HAb.out; omega, HUp.out, by rw [List.length_zipWith, HLz.out, HUl.out, Nat.min_self], HSx.out⟩
end Go.Proofs.YtjojmmabcjccdaaDoor
