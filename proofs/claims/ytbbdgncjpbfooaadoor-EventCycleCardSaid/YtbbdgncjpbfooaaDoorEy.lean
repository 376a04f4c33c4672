/- slices.Clone and Contains at numbers; EventCycle: what a call returns. -/
import Derived.Test.YtbbdgncjpbfooaaDoorEx
namespace Go.Proofs.YtbbdgncjpbfooaaDoor
open Go.RowKit

theorem z_news {w : World} {ad : Addr} {Z : List Int} (h : ZIn w (some ad) Z) : ∀ j u, (Z.map (Value.int .i64))[j]? = some u → w.cell? (ad.add j) = some u := by
  intro j u hj
  rw [List.getElem?_map] at hj
  obtain ⟨x, hx, rfl⟩ := Option.map_eq_some_iff.1 hj
  obtain ⟨hlt, rfl⟩ := List.getElem?_eq_some_iff.1 hx
  obtain ⟨ad', e, _, hc⟩ := h j hlt
  cases e
  exact hc
/-- what Clone of numbers returns -/
def CzPost (Z : List Int) (w : World) (e : Ending) (w' : World) : Prop := ∃ v, e = .returned v ∧ w'.ownsRow w.heap.size 3 1 v Z.length (Z.map (Value.int .i64)) ∧ Below w.heap.size w w'
set_option maxHeartbeats 1600000 in
set_option maxRecDepth 100000 in
theorem clone_ints (A : Option Addr) (n cap : Nat) (Z : List Int) (w : World) (h : ZIn w A Z) (hn : Z.length = n) (hn4 : n ≤ 1000000) :
    Calls Tryd.prog 11 #[.slice A n cap] w (CzPost Z w) := by
  cases A with
  | none =>
    have h0 : Z = [] := by
      cases Z with
      | nil => rfl
      | cons a L => obtain ⟨ad, e, _⟩ := h 0 (by simp); cases e
    subst h0
    obtain rfl : n = 0 := by simpa using hn.symm
    clear h hn
    have he : ∀ w : World, (binOp .eql 22 (.slice none 0 cap) (.slice none 0 0)).run Tryd.prog w = .ok (.bool true) w := fun _ => rfl
    go_enter Tryd.func11, Tryd.ntmps11
    go_wp2_with fail
    go_ret
    exact ⟨_, rfl, World.ownsRow_nil _ _ _ _, Below.refl _ _⟩
  | some ad =>
    have H := Lib.hid h; clear h
    have HN := Lib.hid hn; clear hn
    obtain ⟨i0, hi, hz0, hz1, hz2⟩ := info_parts intInfo
    have HI := Lib.hid (And.intro hi (And.intro hz0 (And.intro hz1 hz2)))
    clear hi hz0 hz1 hz2
    have he : ∀ w : World, (binOp .eql 22 (.slice (some ad) n cap) (.slice none 0 0)).run Tryd.prog w = .ok (.bool false) w := fun _ => rfl
    go_enter Tryd.func11, Tryd.ntmps11
    go_wp2_with (at_builtin; refine wpList_append_own _ rfl _ _ 22 rfl w.heap.size 3 i0 (.int .i64 0) 1 8 Tryd.underlying22 HI.out.1 HI.out.2.1 HI.out.2.2.1 HI.out.2.2.2 rfl (by decide) (.slice (some ⟨w.heap.size, 0, none⟩) 0 0) 0 [] rfl ⟨rfl, .inr ⟨w.heap.size, 0, #[], rfl, Nat.le_refl _, Array.getElem?_push_size .., Nat.le_refl _, by unfold maxLen; omega, rfl, rfl⟩⟩ ad n cap (Z.map (Value.int .i64)) rfl (by rw [List.length_map, HN.out]; simp) ?c1 (ints_oneCell _ Z) ?c3 ?c4 ?c5 ?_)
    case c1 => exact z_news (H.out.below (below_alloc w _))
    case c3 => unfold maxLen; omega
    case c4 => omega
    case c5 => simp
    intro v' w4 hown4 hgrow4 _
    have HO := Lib.hid hown4
    have HG := Lib.hid hgrow4
    clear hown4 hgrow4
    go_wp2_with fail
    go_ret
    refine ⟨_, rfl, ?_, Below.grown (row := some w.heap.size) (below_alloc w _) HG.out (by simp) (fun k hk => by cases hk; omega)⟩
    have := HO.out
    rw [HN.out]; exact this
/-- slices.Contains at a row of one's own -/
theorem contains_ints {Z : List Int} {v : Value} {b : Nat} (x : Int) (w : World) (hl : Z.length ≤ 9223372036854775807) (h : w.ownsRow b 3 1 v Z.length (Z.map (Value.int .i64))) :
    Calls Tryd.prog 12 #[v, .int .i64 x] w fun e w' => e = .returned (.bool (Z.contains x)) ∧ w' = w := by
  obtain ⟨A1, c1, rfl, _, _, _, _, g1⟩ := own_ints h
  rcases Nat.eq_zero_or_pos Z.length with h0 | h0
  · have hz : Z = [] := List.eq_nil_of_length_eq_zero h0
    subst hz
    exact Tryd.slices_Contains_int_empty A1 c1 x w
  · obtain ⟨a1, rfl, _, _, k1⟩ := g1 h0
    have := Tryd.slices_Contains_int a1 0 Z.length c1 Z x w (Nat.le_refl _) hl k1
    rw [List.take_length] at this
    exact this
theorem ZIn.take {w : World} {A : Option Addr} {Z : List Int} (h : ZIn w A Z) (k : Nat) : ZIn w A (Z.take k) := by
  intro i hi
  rw [List.length_take] at hi
  obtain ⟨ad, e, h1, h2⟩ := h i (by omega)
  exact ⟨ad, e, h1, by rw [h2]; simp⟩
/-- how often an execution is suspended, and ended -/
def Cyc (st : Int) (k n : Nat) (u d : Int) : Prop := (st ≤ 3 ∧ d = 0 ∧ ((st ≠ 3 ∧ u = 0) ∨ (st = 3 ∧ u = 1))) ∨ (4 ≤ st ∧ d = 1 ∧ k = n ∧ (u = 0 ∨ u = 1))
set_option maxHeartbeats 3200000 in
set_option maxRecDepth 100000 in
theorem cycle_err (A : Option Addr) (n cap : Nat) (Z : List Int) (w : World) (hP : PW w) (h : ZIn w A Z) (hn : Z.length = n) (hc : n ≤ cap) (hm : cap ≤ 9223372036854775807) (h60 : n ≤ 60) (i e : Int) (hv : livesV Z = (i, e)) (he : e ≠ 0) :
    Calls Tryd.prog 4 #[.slice A n cap] w fun e w' => e = .returned (.bool true) ∧ Below w.heap.size w w' := by
  obtain ⟨h1, m, rfl, h3, h4, h5⟩ := cyc_err Z (by omega) i e hv he
  have hml : (Z.take m).length = m := by rw [List.length_take]; omega
  have hml2 : (Z.take (m + 1)).length = m + 1 := by rw [List.length_take]; omega
  have HL := Lib.hid (fun w h => lives_any A n cap Z w h hn (by omega))
  have HN := Lib.hid (fun w h => enext_any A n cap Z w h hn (by omega))
  have HA := Lib.hid (fun w h => lives_any A m cap (Z.take m) w h hml (by omega))
  have HB2 := Lib.hid (fun w h => lives_any A (m + 1) cap (Z.take (m + 1)) w h hml2 (by omega))
  rw [next_err Z (by rw [hv]; exact he), hv] at HN
  rw [hv] at HL
  rw [h5] at HB2
  obtain ⟨⟨st, er⟩, hx⟩ : ∃ x, livesV (Z.take m) = x := ⟨_, rfl⟩
  rw [hx] at HA h4
  simp only at h4
  subst h4
  have H0 := Lib.hid h
  have HP := Lib.hid hP
  have hmn : m < n := by omega
  have q0 : (n : Int) ≤ 60 := by omega
  have q1 : (m : Int) < (n : Int) := by omega
  have q3 : (m : Int) + 1 ≤ (n : Int) := by omega
  have q4 : (m : Int) ≤ (cap : Int) := by omega
  have q5 : (m : Int) + 1 ≤ (cap : Int) := by omega
  have b1 : (e != 0) = true := by simpa using he
  have hca : A ≠ none := by
    obtain ⟨ad, ha, _⟩ := h 0 (by omega)
    rw [ha]; simp
  obtain ⟨ad, rfl⟩ : ∃ ad, A = some ad := by
    cases A with
    | none => exact absurd rfl hca
    | some ad => exact ⟨ad, rfl⟩
  clear h hP hn hv hx h3 h5 hml hml2 he hca
  go_enter Tryd.func4, Tryd.ntmps4
  go_wp2_with fail
  ((with_reducible refine (awake_any _ HP.out).mono ?_); rintro e w1 ⟨rfl, hb1⟩)
  have HB := Lib.hid hb1
  clear hb1
  go_wp2_with fail
  ((with_reducible refine (HL.out _ (H0.out.below HB.out)).mono ?_); rintro e w2 ⟨rfl, hb2⟩)
  replace HB := Lib.hid (below_then HB.out hb2)
  clear hb2
  go_wp2_with fail
  ((with_reducible refine (HN.out _ (H0.out.below HB.out)).mono ?_); rintro e w3 ⟨v, rfl, ho, hb3⟩)
  obtain ⟨A', c', rfl, _⟩ := own_ints ho
  replace HB := Lib.hid (below_then HB.out hb3)
  clear hb3 ho
  go_wp2_with fail
  ((with_reducible refine (HA.out _ ((H0.out.take m).below HB.out)).mono ?_); rintro e w4 ⟨rfl, hb4⟩)
  replace HB := Lib.hid (below_then HB.out hb4)
  clear hb4
  go_wp2_with fail
  ((with_reducible refine (HB2.out _ ((H0.out.take (m + 1)).below HB.out)).mono ?_); rintro e w5 ⟨rfl, hb5⟩)
  replace HB := Lib.hid (below_then HB.out hb5)
  clear hb5
  go_wp2_with fail
  go_ret
  exact ⟨rfl, HB.out⟩
set_option maxHeartbeats 12800000 in
set_option maxRecDepth 100000 in
theorem cycle_ok (A : Option Addr) (n cap : Nat) (Z : List Int) (w : World) (hP : PW w) (h : ZIn w A Z) (hn : Z.length = n) (_hc : n ≤ cap) (_hm : cap ≤ 9223372036854775807) (h60 : n ≤ 60) (fin : Int) (hv : livesV Z = (fin, 0)) :
    Calls Tryd.prog 4 #[.slice A n cap] w fun e w' => e = .returned (.bool true) ∧ Below w.heap.size w w' := by
  have hst := lives_state Z (by rw [hv])
  rw [hv] at hst
  obtain ⟨hs0, hs5⟩ := hst
  simp only at hs0 hs5
  have HL := Lib.hid (fun w h => lives_any A n cap Z w h hn (by omega))
  have HNx := Lib.hid (fun w h => enext_any A n cap Z w h hn (by omega))
  have HVZ := Lib.hid hv
  have HAS := Lib.hid (next_asc Z fin hs0 hs5 hv)
  have HXE := Lib.hid (fun h4 => next_end Z fin h4 hs5 hv)
  have HSH := Lib.hid (show livesZ 0 0 (Z.drop 0) = (fin, 0) by rw [List.drop_zero, ← lives_short Z (by omega), hv])
  have hXl := nextV_len Z
  rw [hv] at HL HNx
  obtain ⟨X, hX⟩ : ∃ X, X = nextV Z := ⟨_, rfl⟩
  rw [← hX] at HNx HAS HXE hXl
  have HNE := Lib.hid hX
  have H0 := Lib.hid h
  have HP := Lib.hid hP
  have HN := Lib.hid hn
  have q0 : (n : Int) ≤ 60 := by omega
  have d0 : decide (fin < 0) = false := by simpa using hs0
  have d5 : decide (5 < fin) = false := by simpa using hs5
  obtain ⟨i0, hi, hz0, hz1, hz2⟩ := info_parts intInfo
  have HI := Lib.hid (And.intro hi (And.intro hz0 (And.intro hz1 hz2)))
  clear hi hz0 hz1 hz2 h hP hn hv hX
  go_enter Tryd.func4, Tryd.ntmps4
  go_wp2_with fail
  ((with_reducible refine (awake_any _ HP.out).mono ?_); rintro e w1 ⟨rfl, hb1⟩)
  have HB := Lib.hid hb1
  clear hb1
  go_wp2_with fail
  ((with_reducible refine (HL.out _ (H0.out.below HB.out)).mono ?_); rintro e w2 ⟨rfl, hb2⟩)
  replace HB := Lib.hid (below_then HB.out hb2)
  clear hb2
  go_wp2_with fail
  ((with_reducible refine (HNx.out _ (H0.out.below HB.out)).mono ?_); rintro e w3 ⟨v, rfl, ho, hb3⟩)
  have HOX := Lib.hid ho
  have SIZE := Lib.hid hb3.size
  replace HB := Lib.hid (below_then HB.out hb3)
  obtain ⟨AX, cX, rfl, _⟩ := own_ints ho
  clear hb3 ho HL HNx
  go_wp2_with fail
  go_loopg [11, 12, 92] (n) (fun g uv dv i wr => ∃ (k : Nat) (st u d : Int), k + g = n ∧ i = .int .i64 k ∧ uv = .int .i64 u ∧ dv = .int .i64 d ∧ Cyc st k n u d ∧ 0 ≤ st ∧ st ≤ 5 ∧ livesZ k st (Z.drop k) = (fin, 0) ∧ Below w3.heap.size w3 wr)
  case atStart => exact ⟨0, 0, 0, 0, by omega, rfl, rfl, rfl, .inl ⟨by omega, rfl, .inl ⟨by omega, rfl⟩⟩, by omega, by omega, HSH.out, Below.refl _ _⟩
  case round =>
    obtain ⟨k, st, u, d, hk, rfl, rfl, rfl, hC, ht0, ht5, hI, hB⟩ := hrel
    have HK := Lib.hid hk
    have HIv := Lib.hid hI
    have HBw := Lib.hid hB
    have hle : k ≤ n := by omega
    clear hk hI hB HSH
    by_cases hlt : k < n
    · have hlt' : k < Z.length := by rw [HN.out]; exact hlt
      obtain ⟨ad, rfl, hp, c0⟩ := (H0.out.below (below_then HB.out HBw.out)) k hlt'
      have hD := drop_at Z k hlt'
      have hrl : (Z.drop (k + 1)).length = n - (k + 1) := by rw [List.length_drop, HN.out]
      generalize Z[k] = x at *
      have hI2 := HIv.out
      rw [hD] at hI2
      rcases hC with ⟨hst3, rfl, hu⟩ | ⟨_, _, hkn, _⟩
      case inr => omega
      obtain ⟨st', hn', hcase⟩ := cyc_step k st x fin (Z.drop (k + 1)) ht0 hst3 hI2
      have HNW := Lib.hid hn'
      clear hD hI2 hn' hlt'
      rcases hcase with ⟨hx, h3, h4, h5⟩ | ⟨rfl, h3, rfl⟩ | ⟨rfl, rfl, rfl⟩ | ⟨rfl, h3, rfl, hnil⟩ | ⟨rfl, rfl, hnil⟩
      · have hu0 : u = 0 := by omega
        subst hu0
        have HC2 := Lib.hid (show Cyc st' (k + 1) n 0 0 from .inl ⟨by omega, rfl, .inl ⟨by omega, rfl⟩⟩)
        clear hu hrl h3
        rcases hx with rfl | rfl
        all_goals
          go_wp2_with fail
          go_roundg (gk - 1)
          case measure => have := HK.out; omega
          case rel => exact ⟨k + 1, st', 0, 0, by have := HK.out; omega, by go_num, rfl, rfl, HC2.out, h4, by omega, HNW.out, HBw.out⟩
      · have hu0 : u = 0 := by omega
        subst hu0
        clear hu hrl h3
        go_wp2_with fail
        go_roundg (gk - 1)
        case measure => have := HK.out; omega
        case rel => exact ⟨k + 1, 3, 1, 0, by have := HK.out; omega, by go_num, rfl, rfl, .inl ⟨by omega, rfl, .inr ⟨rfl, rfl⟩⟩, by omega, by omega, HNW.out, HBw.out⟩
      · have hu0 : u = 1 := by omega
        subst hu0
        clear hu hrl
        go_wp2_with fail
        go_roundg (gk - 1)
        case measure => have := HK.out; omega
        case rel => exact ⟨k + 1, 2, 0, 0, by have := HK.out; omega, by go_num, rfl, rfl, .inl ⟨by omega, rfl, .inl ⟨by omega, rfl⟩⟩, by omega, by omega, HNW.out, HBw.out⟩
      · have hu0 : u = 0 := by omega
        subst hu0
        have hnk : n = k + 1 := by rw [hnil] at hrl; simp at hrl; omega
        have HNK := Lib.hid hnk
        have b1 : ((k : Int) != (n : Int) - 1) = false := by simp; omega
        have b2 : IntKind.i64.wrap ((n : Int) - 1) = (n : Int) - 1 := IntWalk.i64_in _ (by omega)
        clear hu hrl h3 hnk hnil
        go_wp2_with fail
        go_roundg (gk - 1)
        case measure => have := HK.out; omega
        case rel => exact ⟨k + 1, 4, 0, 1, by have := HK.out; omega, by go_num, rfl, rfl, .inr ⟨by omega, rfl, HNK.out.symm, .inl rfl⟩, by omega, by omega, HNW.out, HBw.out⟩
      · have hnk : n = k + 1 := by rw [hnil] at hrl; simp at hrl; omega
        have HNK := Lib.hid hnk
        have b1 : ((k : Int) != (n : Int) - 1) = false := by simp; omega
        have b2 : IntKind.i64.wrap ((n : Int) - 1) = (n : Int) - 1 := IntWalk.i64_in _ (by omega)
        have hu2 : u = 0 ∨ u = 1 := by omega
        clear hu hrl hnk hnil
        rcases hu2 with rfl | rfl
        · go_wp2_with fail
          go_roundg (gk - 1)
          case measure => have := HK.out; omega
          case rel => exact ⟨k + 1, 5, 0, 1, by have := HK.out; omega, by go_num, rfl, rfl, .inr ⟨by omega, rfl, HNK.out.symm, .inl rfl⟩, by omega, by omega, HNW.out, HBw.out⟩
        · go_wp2_with fail
          go_roundg (gk - 1)
          case measure => have := HK.out; omega
          case rel => exact ⟨k + 1, 5, 1, 1, by have := HK.out; omega, by go_num, rfl, rfl, .inr ⟨by omega, rfl, HNK.out.symm, .inr rfl⟩, by omega, by omega, HNW.out, HBw.out⟩
    · obtain rfl : n = k := by omega
      have hf : fin = st := by
        have := HIv.out
        rw [List.drop_eq_nil_of_le (by rw [HN.out]; exact Nat.le_refl _), lives_nil] at this
        exact (Prod.mk.inj this).1.symm
      subst hf
      clear HIv HK hle
      rcases hC with ⟨hst3, rfl, (⟨h3, rfl⟩ | ⟨h3, rfl⟩)⟩ | ⟨h4, rfl, _, hu⟩
      · have e1 : (fin == 3) = false := by simpa using h3
        have e2 : decide (4 ≤ fin) = false := by simp; omega
        clear h3 hst3
        go_wp2_with fail
        go_loopg [15] (6) (fun g s wr => ∃ k : Nat, k + g = 7 ∧ 1 ≤ k ∧ s = .int .i64 k ∧ Below w3.heap.size w3 wr)
        case atStart => exact ⟨1, by omega, by omega, rfl, HBw.out⟩
        case round =>
          obtain ⟨k, hk, hk1, rfl, hB⟩ := hrel
          have HK := Lib.hid hk
          have HBr := Lib.hid hB
          have hk7 : k ≤ 7 := by omega
          clear hk hB
          by_cases hlt : k ≤ 6
          · have HCL := Lib.hid (clone_ints A n cap Z wr (H0.out.below (below_then HB.out HBr.out)) HN.out (by omega))
            have HSN := Lib.hid (cyc_snoc Z (by rw [HN.out]; omega) fin k (by omega) (by omega) HVZ.out)
            have hha := next_has Z fin k (by omega) (by omega) HVZ.out
            rw [← HNE.out] at hha
            have HHA := Lib.hid hha
            clear hha
            go_wp2_with fail
            ((with_reducible refine HCL.out.mono ?_); rintro e w4 ⟨v4, rfl, ho4, hb4⟩)
            have HO4 := Lib.hid ho4
            have HB4 := Lib.hid (below_then HBr.out hb4)
            have hs4 := hb4.size
            obtain ⟨A4, c4, rfl, _⟩ := own_ints ho4
            rw [HN.out] at HO4 ⊢
            clear hb4 ho4
            go_wp2_with (at_builtin; refine wpList_append_own _ rfl _ _ 22 rfl wr.heap.size 3 i0 (.int .i64 0) 1 8 Tryd.underlying22 HI.out.1 HI.out.2.1 HI.out.2.2.1 HI.out.2.2.2 rfl (by decide) (.slice A4 n c4) _ _ rfl (HO4.out.alloc _) ⟨w4.heap.size, 0, none⟩ 1 1 [.int .i64 k] rfl rfl ?c1 ?c2 ?c3 ?c4 ?c5 ?_)
            case c1 => intro j u hj; match j, hj with | 0, hj => simp at hj; subst hj; simp [Addr.add] | j + 1, hj => simp at hj
            case c2 => intro u hu; simp at hu; subst hu; rfl
            case c3 => unfold maxLen; omega
            case c4 => omega
            case c5 => simp; omega
            intro v' w5 hown5 hgrow5 _
            have ho5 : w5.ownsRow wr.heap.size 3 1 v' (n + 1) ((Z ++ [(k : Int)]).map (Value.int .i64)) := by rw [List.map_append]; exact hown5
            obtain ⟨A5, c5, rfl, hz5, hl5, _⟩ := own_ints ho5
            have HLV := Lib.hid (lives_any A5 (n + 1) c5 (Z ++ [(k : Int)]) w5 hz5 hl5 (by omega))
            rw [HSN.out] at HLV
            have HB5 := Lib.hid (show Below w3.heap.size w3 w5 from Below.grown (row := (Value.slice A4 n c4).ownBlock) (HB4.out.alloc HB4.out.size _) hgrow5 (by have := HB4.out.size; simp; omega) (fun j hj => by have := (HO4.out.lt j hj).1; have := HBr.out.size; omega))
            clear hown5 hgrow5 ho5 hz5 hl5
            by_cases ha : aftZ fin k = -1
            · rw [if_pos ha] at HLV
              rw [ha] at HHA
              clear ha
              go_wp2_with fail
              ((with_reducible refine HLV.out.mono ?_); rintro e w6 ⟨rfl, hb6⟩)
              have HCO := Lib.hid (contains_ints (k : Int) w6 (by omega) (own_stays HOX.out (below_then HB5.out hb6)))
              rw [HHA.out] at HCO
              try rw [List.length_nil] at HCO
              have HB6 := Lib.hid (below_then HB5.out hb6)
              clear hb6
              go_wp2_with fail
              ((with_reducible refine HCO.out.mono ?_); rintro e w7 ⟨rfl, rfl⟩)
              go_wp2_with fail
              go_roundg (gk - 1)
              case measure => have := HK.out; omega
              case rel => exact ⟨k + 1, by have := HK.out; omega, by omega, by go_num, HB6.out⟩
            · rw [if_neg ha] at HLV
              have hne : (aftZ fin k != -1) = true := by simpa using ha
              rw [hne] at HHA
              clear ha hne
              generalize aftZ fin k = st2 at HLV
              go_wp2_with fail
              ((with_reducible refine HLV.out.mono ?_); rintro e w6 ⟨rfl, hb6⟩)
              have HCO := Lib.hid (contains_ints (k : Int) w6 (by omega) (own_stays HOX.out (below_then HB5.out hb6)))
              rw [HHA.out] at HCO
              try rw [List.length_nil] at HCO
              have HB6 := Lib.hid (below_then HB5.out hb6)
              clear hb6
              go_wp2_with fail
              ((with_reducible refine HCO.out.mono ?_); rintro e w7 ⟨rfl, rfl⟩)
              go_wp2_with fail
              go_roundg (gk - 1)
              case measure => have := HK.out; omega
              case rel => exact ⟨k + 1, by have := HK.out; omega, by omega, by go_num, HB6.out⟩
          · obtain rfl : k = 7 := by omega
            obtain ⟨A9, c9, hv9, hz9, hl9, _⟩ := own_ints (own_stays HOX.out HBr.out)
            have hXl0 := Nat.le_trans hXl (show 7 ≤ 1000000 by omega)
            have HSO := Lib.hid (sorted_true A9 _ c9 _ wr hz9 hl9 hXl0 HAS.out)
            have HBB := Lib.hid (below_then HB.out HBr.out)
            cases hv9
            try rw [List.length_nil] at HSO
            clear hz9 hl9 hXl0
            go_wp2_with fail
            ((with_reducible refine HSO.out.mono ?_); rintro e w6 ⟨rfl, hb6⟩)
            go_wp2_with fail
            go_ret
            exact ⟨rfl, below_then HBB.out hb6⟩
      · have e1 : (fin == 3) = true := by rw [h3]; rfl
        have e2 : decide (4 ≤ fin) = false := by simp; omega
        clear h3 hst3
        go_wp2_with fail
        go_loopg [15] (6) (fun g s wr => ∃ k : Nat, k + g = 7 ∧ 1 ≤ k ∧ s = .int .i64 k ∧ Below w3.heap.size w3 wr)
        case atStart => exact ⟨1, by omega, by omega, rfl, HBw.out⟩
        case round =>
          obtain ⟨k, hk, hk1, rfl, hB⟩ := hrel
          have HK := Lib.hid hk
          have HBr := Lib.hid hB
          have hk7 : k ≤ 7 := by omega
          clear hk hB
          by_cases hlt : k ≤ 6
          · have HCL := Lib.hid (clone_ints A n cap Z wr (H0.out.below (below_then HB.out HBr.out)) HN.out (by omega))
            have HSN := Lib.hid (cyc_snoc Z (by rw [HN.out]; omega) fin k (by omega) (by omega) HVZ.out)
            have hha := next_has Z fin k (by omega) (by omega) HVZ.out
            rw [← HNE.out] at hha
            have HHA := Lib.hid hha
            clear hha
            go_wp2_with fail
            ((with_reducible refine HCL.out.mono ?_); rintro e w4 ⟨v4, rfl, ho4, hb4⟩)
            have HO4 := Lib.hid ho4
            have HB4 := Lib.hid (below_then HBr.out hb4)
            have hs4 := hb4.size
            obtain ⟨A4, c4, rfl, _⟩ := own_ints ho4
            rw [HN.out] at HO4 ⊢
            clear hb4 ho4
            go_wp2_with (at_builtin; refine wpList_append_own _ rfl _ _ 22 rfl wr.heap.size 3 i0 (.int .i64 0) 1 8 Tryd.underlying22 HI.out.1 HI.out.2.1 HI.out.2.2.1 HI.out.2.2.2 rfl (by decide) (.slice A4 n c4) _ _ rfl (HO4.out.alloc _) ⟨w4.heap.size, 0, none⟩ 1 1 [.int .i64 k] rfl rfl ?c1 ?c2 ?c3 ?c4 ?c5 ?_)
            case c1 => intro j u hj; match j, hj with | 0, hj => simp at hj; subst hj; simp [Addr.add] | j + 1, hj => simp at hj
            case c2 => intro u hu; simp at hu; subst hu; rfl
            case c3 => unfold maxLen; omega
            case c4 => omega
            case c5 => simp; omega
            intro v' w5 hown5 hgrow5 _
            have ho5 : w5.ownsRow wr.heap.size 3 1 v' (n + 1) ((Z ++ [(k : Int)]).map (Value.int .i64)) := by rw [List.map_append]; exact hown5
            obtain ⟨A5, c5, rfl, hz5, hl5, _⟩ := own_ints ho5
            have HLV := Lib.hid (lives_any A5 (n + 1) c5 (Z ++ [(k : Int)]) w5 hz5 hl5 (by omega))
            rw [HSN.out] at HLV
            have HB5 := Lib.hid (show Below w3.heap.size w3 w5 from Below.grown (row := (Value.slice A4 n c4).ownBlock) (HB4.out.alloc HB4.out.size _) hgrow5 (by have := HB4.out.size; simp; omega) (fun j hj => by have := (HO4.out.lt j hj).1; have := HBr.out.size; omega))
            clear hown5 hgrow5 ho5 hz5 hl5
            by_cases ha : aftZ fin k = -1
            · rw [if_pos ha] at HLV
              rw [ha] at HHA
              clear ha
              go_wp2_with fail
              ((with_reducible refine HLV.out.mono ?_); rintro e w6 ⟨rfl, hb6⟩)
              have HCO := Lib.hid (contains_ints (k : Int) w6 (by omega) (own_stays HOX.out (below_then HB5.out hb6)))
              rw [HHA.out] at HCO
              try rw [List.length_nil] at HCO
              have HB6 := Lib.hid (below_then HB5.out hb6)
              clear hb6
              go_wp2_with fail
              ((with_reducible refine HCO.out.mono ?_); rintro e w7 ⟨rfl, rfl⟩)
              go_wp2_with fail
              go_roundg (gk - 1)
              case measure => have := HK.out; omega
              case rel => exact ⟨k + 1, by have := HK.out; omega, by omega, by go_num, HB6.out⟩
            · rw [if_neg ha] at HLV
              have hne : (aftZ fin k != -1) = true := by simpa using ha
              rw [hne] at HHA
              clear ha hne
              generalize aftZ fin k = st2 at HLV
              go_wp2_with fail
              ((with_reducible refine HLV.out.mono ?_); rintro e w6 ⟨rfl, hb6⟩)
              have HCO := Lib.hid (contains_ints (k : Int) w6 (by omega) (own_stays HOX.out (below_then HB5.out hb6)))
              rw [HHA.out] at HCO
              try rw [List.length_nil] at HCO
              have HB6 := Lib.hid (below_then HB5.out hb6)
              clear hb6
              go_wp2_with fail
              ((with_reducible refine HCO.out.mono ?_); rintro e w7 ⟨rfl, rfl⟩)
              go_wp2_with fail
              go_roundg (gk - 1)
              case measure => have := HK.out; omega
              case rel => exact ⟨k + 1, by have := HK.out; omega, by omega, by go_num, HB6.out⟩
          · obtain rfl : k = 7 := by omega
            obtain ⟨A9, c9, hv9, hz9, hl9, _⟩ := own_ints (own_stays HOX.out HBr.out)
            have hXl0 := Nat.le_trans hXl (show 7 ≤ 1000000 by omega)
            have HSO := Lib.hid (sorted_true A9 _ c9 _ wr hz9 hl9 hXl0 HAS.out)
            have HBB := Lib.hid (below_then HB.out HBr.out)
            cases hv9
            try rw [List.length_nil] at HSO
            clear hz9 hl9 hXl0
            go_wp2_with fail
            ((with_reducible refine HSO.out.mono ?_); rintro e w6 ⟨rfl, hb6⟩)
            go_wp2_with fail
            go_ret
            exact ⟨rfl, below_then HBB.out hb6⟩
      · have e1 : (fin == 3) = false := by rw [beq_eq_false_iff_ne]; omega
        have e2 : decide (4 ≤ fin) = true := by simp; omega
        have hXn : X = [] := HXE.out h4
        subst hXn
        clear h4
        rcases hu with rfl | rfl
        · skip
          go_wp2_with fail
          go_loopg [15] (6) (fun g s wr => ∃ k : Nat, k + g = 7 ∧ 1 ≤ k ∧ s = .int .i64 k ∧ Below w3.heap.size w3 wr)
          case atStart => exact ⟨1, by omega, by omega, rfl, HBw.out⟩
          case round =>
            obtain ⟨k, hk, hk1, rfl, hB⟩ := hrel
            have HK := Lib.hid hk
            have HBr := Lib.hid hB
            have hk7 : k ≤ 7 := by omega
            clear hk hB
            by_cases hlt : k ≤ 6
            · have HCL := Lib.hid (clone_ints A n cap Z wr (H0.out.below (below_then HB.out HBr.out)) HN.out (by omega))
              have HSN := Lib.hid (cyc_snoc Z (by rw [HN.out]; omega) fin k (by omega) (by omega) HVZ.out)
              have hha := next_has Z fin k (by omega) (by omega) HVZ.out
              rw [← HNE.out] at hha
              have HHA := Lib.hid hha
              clear hha
              go_wp2_with fail
              ((with_reducible refine HCL.out.mono ?_); rintro e w4 ⟨v4, rfl, ho4, hb4⟩)
              have HO4 := Lib.hid ho4
              have HB4 := Lib.hid (below_then HBr.out hb4)
              have hs4 := hb4.size
              obtain ⟨A4, c4, rfl, _⟩ := own_ints ho4
              rw [HN.out] at HO4 ⊢
              clear hb4 ho4
              go_wp2_with (at_builtin; refine wpList_append_own _ rfl _ _ 22 rfl wr.heap.size 3 i0 (.int .i64 0) 1 8 Tryd.underlying22 HI.out.1 HI.out.2.1 HI.out.2.2.1 HI.out.2.2.2 rfl (by decide) (.slice A4 n c4) _ _ rfl (HO4.out.alloc _) ⟨w4.heap.size, 0, none⟩ 1 1 [.int .i64 k] rfl rfl ?c1 ?c2 ?c3 ?c4 ?c5 ?_)
              case c1 => intro j u hj; match j, hj with | 0, hj => simp at hj; subst hj; simp [Addr.add] | j + 1, hj => simp at hj
              case c2 => intro u hu; simp at hu; subst hu; rfl
              case c3 => unfold maxLen; omega
              case c4 => omega
              case c5 => simp; omega
              intro v' w5 hown5 hgrow5 _
              have ho5 : w5.ownsRow wr.heap.size 3 1 v' (n + 1) ((Z ++ [(k : Int)]).map (Value.int .i64)) := by rw [List.map_append]; exact hown5
              obtain ⟨A5, c5, rfl, hz5, hl5, _⟩ := own_ints ho5
              have HLV := Lib.hid (lives_any A5 (n + 1) c5 (Z ++ [(k : Int)]) w5 hz5 hl5 (by omega))
              rw [HSN.out] at HLV
              have HB5 := Lib.hid (show Below w3.heap.size w3 w5 from Below.grown (row := (Value.slice A4 n c4).ownBlock) (HB4.out.alloc HB4.out.size _) hgrow5 (by have := HB4.out.size; simp; omega) (fun j hj => by have := (HO4.out.lt j hj).1; have := HBr.out.size; omega))
              clear hown5 hgrow5 ho5 hz5 hl5
              by_cases ha : aftZ fin k = -1
              · rw [if_pos ha] at HLV
                rw [ha] at HHA
                clear ha
                go_wp2_with fail
                ((with_reducible refine HLV.out.mono ?_); rintro e w6 ⟨rfl, hb6⟩)
                have HCO := Lib.hid (contains_ints (k : Int) w6 (by omega) (own_stays HOX.out (below_then HB5.out hb6)))
                rw [HHA.out] at HCO
                try rw [List.length_nil] at HCO
                have HB6 := Lib.hid (below_then HB5.out hb6)
                clear hb6
                go_wp2_with fail
                ((with_reducible refine HCO.out.mono ?_); rintro e w7 ⟨rfl, rfl⟩)
                go_wp2_with fail
                go_roundg (gk - 1)
                case measure => have := HK.out; omega
                case rel => exact ⟨k + 1, by have := HK.out; omega, by omega, by go_num, HB6.out⟩
              · rw [if_neg ha] at HLV
                have hne : (aftZ fin k != -1) = true := by simpa using ha
                rw [hne] at HHA
                clear ha hne
                generalize aftZ fin k = st2 at HLV
                go_wp2_with fail
                ((with_reducible refine HLV.out.mono ?_); rintro e w6 ⟨rfl, hb6⟩)
                have HCO := Lib.hid (contains_ints (k : Int) w6 (by omega) (own_stays HOX.out (below_then HB5.out hb6)))
                rw [HHA.out] at HCO
                try rw [List.length_nil] at HCO
                have HB6 := Lib.hid (below_then HB5.out hb6)
                clear hb6
                go_wp2_with fail
                ((with_reducible refine HCO.out.mono ?_); rintro e w7 ⟨rfl, rfl⟩)
                go_wp2_with fail
                go_roundg (gk - 1)
                case measure => have := HK.out; omega
                case rel => exact ⟨k + 1, by have := HK.out; omega, by omega, by go_num, HB6.out⟩
            · obtain rfl : k = 7 := by omega
              obtain ⟨A9, c9, hv9, hz9, hl9, _⟩ := own_ints (own_stays HOX.out HBr.out)
              have hXl0 := Nat.le_trans hXl (show 7 ≤ 1000000 by omega)
              have HSO := Lib.hid (sorted_true A9 _ c9 _ wr hz9 hl9 hXl0 HAS.out)
              have HBB := Lib.hid (below_then HB.out HBr.out)
              cases hv9
              try rw [List.length_nil] at HSO
              clear hz9 hl9 hXl0
              go_wp2_with fail
              ((with_reducible refine HSO.out.mono ?_); rintro e w6 ⟨rfl, hb6⟩)
              go_wp2_with fail
              go_ret
              exact ⟨rfl, below_then HBB.out hb6⟩
        · skip
          go_wp2_with fail
          go_loopg [15] (6) (fun g s wr => ∃ k : Nat, k + g = 7 ∧ 1 ≤ k ∧ s = .int .i64 k ∧ Below w3.heap.size w3 wr)
          case atStart => exact ⟨1, by omega, by omega, rfl, HBw.out⟩
          case round =>
            obtain ⟨k, hk, hk1, rfl, hB⟩ := hrel
            have HK := Lib.hid hk
            have HBr := Lib.hid hB
            have hk7 : k ≤ 7 := by omega
            clear hk hB
            by_cases hlt : k ≤ 6
            · have HCL := Lib.hid (clone_ints A n cap Z wr (H0.out.below (below_then HB.out HBr.out)) HN.out (by omega))
              have HSN := Lib.hid (cyc_snoc Z (by rw [HN.out]; omega) fin k (by omega) (by omega) HVZ.out)
              have hha := next_has Z fin k (by omega) (by omega) HVZ.out
              rw [← HNE.out] at hha
              have HHA := Lib.hid hha
              clear hha
              go_wp2_with fail
              ((with_reducible refine HCL.out.mono ?_); rintro e w4 ⟨v4, rfl, ho4, hb4⟩)
              have HO4 := Lib.hid ho4
              have HB4 := Lib.hid (below_then HBr.out hb4)
              have hs4 := hb4.size
              obtain ⟨A4, c4, rfl, _⟩ := own_ints ho4
              rw [HN.out] at HO4 ⊢
              clear hb4 ho4
              go_wp2_with (at_builtin; refine wpList_append_own _ rfl _ _ 22 rfl wr.heap.size 3 i0 (.int .i64 0) 1 8 Tryd.underlying22 HI.out.1 HI.out.2.1 HI.out.2.2.1 HI.out.2.2.2 rfl (by decide) (.slice A4 n c4) _ _ rfl (HO4.out.alloc _) ⟨w4.heap.size, 0, none⟩ 1 1 [.int .i64 k] rfl rfl ?c1 ?c2 ?c3 ?c4 ?c5 ?_)
              case c1 => intro j u hj; match j, hj with | 0, hj => simp at hj; subst hj; simp [Addr.add] | j + 1, hj => simp at hj
              case c2 => intro u hu; simp at hu; subst hu; rfl
              case c3 => unfold maxLen; omega
              case c4 => omega
              case c5 => simp; omega
              intro v' w5 hown5 hgrow5 _
              have ho5 : w5.ownsRow wr.heap.size 3 1 v' (n + 1) ((Z ++ [(k : Int)]).map (Value.int .i64)) := by rw [List.map_append]; exact hown5
              obtain ⟨A5, c5, rfl, hz5, hl5, _⟩ := own_ints ho5
              have HLV := Lib.hid (lives_any A5 (n + 1) c5 (Z ++ [(k : Int)]) w5 hz5 hl5 (by omega))
              rw [HSN.out] at HLV
              have HB5 := Lib.hid (show Below w3.heap.size w3 w5 from Below.grown (row := (Value.slice A4 n c4).ownBlock) (HB4.out.alloc HB4.out.size _) hgrow5 (by have := HB4.out.size; simp; omega) (fun j hj => by have := (HO4.out.lt j hj).1; have := HBr.out.size; omega))
              clear hown5 hgrow5 ho5 hz5 hl5
              by_cases ha : aftZ fin k = -1
              · rw [if_pos ha] at HLV
                rw [ha] at HHA
                clear ha
                go_wp2_with fail
                ((with_reducible refine HLV.out.mono ?_); rintro e w6 ⟨rfl, hb6⟩)
                have HCO := Lib.hid (contains_ints (k : Int) w6 (by omega) (own_stays HOX.out (below_then HB5.out hb6)))
                rw [HHA.out] at HCO
                try rw [List.length_nil] at HCO
                have HB6 := Lib.hid (below_then HB5.out hb6)
                clear hb6
                go_wp2_with fail
                ((with_reducible refine HCO.out.mono ?_); rintro e w7 ⟨rfl, rfl⟩)
                go_wp2_with fail
                go_roundg (gk - 1)
                case measure => have := HK.out; omega
                case rel => exact ⟨k + 1, by have := HK.out; omega, by omega, by go_num, HB6.out⟩
              · rw [if_neg ha] at HLV
                have hne : (aftZ fin k != -1) = true := by simpa using ha
                rw [hne] at HHA
                clear ha hne
                generalize aftZ fin k = st2 at HLV
                go_wp2_with fail
                ((with_reducible refine HLV.out.mono ?_); rintro e w6 ⟨rfl, hb6⟩)
                have HCO := Lib.hid (contains_ints (k : Int) w6 (by omega) (own_stays HOX.out (below_then HB5.out hb6)))
                rw [HHA.out] at HCO
                try rw [List.length_nil] at HCO
                have HB6 := Lib.hid (below_then HB5.out hb6)
                clear hb6
                go_wp2_with fail
                ((with_reducible refine HCO.out.mono ?_); rintro e w7 ⟨rfl, rfl⟩)
                go_wp2_with fail
                go_roundg (gk - 1)
                case measure => have := HK.out; omega
                case rel => exact ⟨k + 1, by have := HK.out; omega, by omega, by go_num, HB6.out⟩
            · obtain rfl : k = 7 := by omega
              obtain ⟨A9, c9, hv9, hz9, hl9, _⟩ := own_ints (own_stays HOX.out HBr.out)
              have hXl0 := Nat.le_trans hXl (show 7 ≤ 1000000 by omega)
              have HSO := Lib.hid (sorted_true A9 _ c9 _ wr hz9 hl9 hXl0 HAS.out)
              have HBB := Lib.hid (below_then HB.out HBr.out)
              cases hv9
              try rw [List.length_nil] at HSO
              clear hz9 hl9 hXl0
              go_wp2_with fail
              ((with_reducible refine HSO.out.mono ?_); rintro e w6 ⟨rfl, hb6⟩)
              go_wp2_with fail
              go_ret
              exact ⟨rfl, below_then HBB.out hb6⟩
set_option maxRecDepth 100000 in
theorem eventCycle_walk (A : Option Addr) (n cap : Nat) (Z : List Int) (w : World) (hP : PW w) (h : ZIn w A Z) (hn : Z.length = n) (hc : n ≤ cap) (hm : cap ≤ 9223372036854775807) (_hz : ∀ z ∈ Z, -9223372036854775808 ≤ z ∧ z ≤ 9223372036854775807) :
    Calls Tryd.prog 4 #[.slice A n cap] w fun e w' => e = .returned (.bool true) ∧ Below w.heap.size w w' := by
  by_cases h60 : n ≤ 60
  · obtain ⟨⟨i, e⟩, hv⟩ : ∃ x, livesV Z = x := ⟨_, rfl⟩
    by_cases he : e = 0
    · subst he
      exact cycle_ok A n cap Z w hP h hn hc hm h60 i hv
    · exact cycle_err A n cap Z w hP h hn hc hm h60 i e hv he
  · have q : (60 : Int) < (n : Int) := by omega
    have HP := Lib.hid hP
    clear h hn hP _hz h60
    go_enter Tryd.func4, Tryd.ntmps4
    go_wp2_with fail
    ((with_reducible refine (awake_any _ HP.out).mono ?_); rintro e w1 ⟨rfl, hb1⟩)
    go_wp2_with fail
    go_ret
    exact ⟨rfl, hb1⟩
end Go.Proofs.YtbbdgncjpbfooaaDoor
