/- name.Join at printable strings: what a call returns. -/
import Derived.Test.YtbbdgncjpbfooaaGreatDoorEe
import Derived.Lib.Join
namespace Go.Proofs.YtbbdgncjpbfooaaGreatDoor
open Go.RowKit

/-- a slice of strings reads as a list -/
def SIn (w : World) (A : Option Addr) (L : List ByteArray) : Prop :=
  ∀ i (h : i < L.length), ∃ ad, A = some ad ∧ (ad.add i).block < w.heap.size ∧ w.cell? (ad.add i) = some (.string L[i])
theorem SIn.below {w w' : World} {A : Option Addr} {L : List ByteArray} (h : SIn w A L) (hb : Below w.heap.size w w') : SIn w' A L := by
  intro i hi
  obtain ⟨ad, e, hl, h0⟩ := h i hi
  exact ⟨ad, e, by have := hb.size; omega, by rw [hb.cell hl]; exact h0⟩
/-- a row of one's own is a slice of strings that is read -/
theorem own_sin {w : World} {b n : Nat} {v : Value} {L : List ByteArray} (h : w.ownsRow b 9 1 v n (L.map Value.string)) :
    ∃ A cap, v = .slice A n cap ∧ SIn w A L ∧ L.length = n ∧ n ≤ cap ∧ cap ≤ 9223372036854775807 ∧ (0 < n → ∃ g, A = some ⟨g, 0, none⟩ ∧ b ≤ g ∧ g < w.heap.size) := by
  have hl := h.1
  rw [List.length_map] at hl
  have hln : L.length = n := by omega
  rcases h.2 with ⟨hv, hn⟩ | ⟨g, cap, cur, hv, hg, hh, hnc, hc, _⟩
  · refine ⟨none, 0, by rw [hv, hn], fun i hi => ?_, hln, by omega, by omega, fun h => by omega⟩
    omega
  · subst hv
    have hlt : g < w.heap.size := by
      rcases Nat.lt_or_ge g w.heap.size with h2 | h2
      · exact h2
      · rw [Array.getElem?_eq_none h2] at hh; cases hh
    refine ⟨some ⟨g, 0, none⟩, cap, rfl, fun i hi => ⟨_, rfl, ?_, ?_⟩, hln, hnc, hc, fun _ => ⟨g, rfl, hg, hlt⟩⟩
    · unfold Addr.add; split <;> exact hlt
    · exact h.cells (g := g) rfl i _ (by rw [List.getElem?_map, List.getElem?_eq_getElem hi]; rfl)
theorem lnil (s : ByteArray) (h : s.size = 0) : s.data.toList = [] := List.eq_nil_of_length_eq_zero (by rw [len_byte]; exact h)
theorem lne (s : ByteArray) (h : 0 < s.size) : s.data.toList ≠ [] := fun e => by have := len_byte s; rw [e] at this; simp at this; omega
set_option maxHeartbeats 400000 in
theorem nj1_any (s : ByteArray) (w : World) (hs : s.size ≤ 9223372036854775000) :
    Calls Tryz.prog 63 #[.string s] w fun e w' => e = .returned (.bool (!(s.data.toList.all isPr))) ∧ w = w' := by
  have HP := Lib.hid (nprintable_any s w hs)
  generalize s.data.toList.all isPr = r at HP ⊢
  go_enter Tryz.func63, Tryz.ntmps63
  go_wp2_with fail
  ((with_reducible refine HP.out.mono ?_); rintro e w1 ⟨rfl, rfl⟩)
  go_wp2_with fail
  go_ret
  exact ⟨rfl, rfl⟩
set_option maxHeartbeats 1600000 in
theorem sidx_none (A : Option Addr) (n cap : Nat) (L : List ByteArray) (w : World) (h : SIn w A L) (hn : L.length = n) (hn4 : n ≤ 1000000) (hu : ∀ t ∈ L, t.size ≤ 9223372036854775000) (hp : ∀ t ∈ L, t.data.toList.all isPr = true) :
    Calls Tryz.prog 91 #[.slice A n cap, .func (.func 63) #[] #[]] w fun e w' => e = .returned (.int .i64 (-1)) ∧ Below w.heap.size w w' := by
  have H0 := Lib.hid h; clear h
  have HU := Lib.hid hu; clear hu
  have HP := Lib.hid hp; clear hp
  have HN := Lib.hid hn; clear hn
  go_enter Tryz.func91, Tryz.ntmps91
  go_wp2_with fail
  go_loopg [8] (n) (fun g i wr => ∃ k : Nat, k + g = n ∧ i = .int .i64 k ∧ SIn wr A L ∧ Below w.heap.size w wr)
  case atStart => exact ⟨0, by omega, rfl, H0.out, Below.refl _ _⟩
  case round =>
    obtain ⟨k, hk, rfl, hT, hB⟩ := hrel
    have HK := Lib.hid hk
    have HT := Lib.hid hT
    have HB := Lib.hid hB
    have hle : k ≤ n := by omega
    clear hk hT hB H0
    by_cases hlt : k < n
    · have hlt' : k < L.length := by rw [HN.out]; exact hlt
      obtain ⟨ad, rfl, hp, c0⟩ := HT.out k hlt'
      have HX := Lib.hid (fun w => nj1_any L[k] w (HU.out _ (List.getElem_mem hlt')))
      rw [HP.out _ (List.getElem_mem hlt')] at HX
      generalize L[k] = x at *
      go_wp2_with fail
      ((with_reducible refine (HX.out _).mono ?_); rintro e w1 ⟨rfl, rfl⟩)
      go_wp2_with fail
      go_roundg (gk - 1)
      case measure => have := HK.out; omega
      case rel => exact ⟨k + 1, by have := HK.out; omega, by go_num, HT.out, HB.out⟩
    · go_wp2_with fail
      go_ret
      exact ⟨rfl, HB.out⟩
set_option maxHeartbeats 800000 in
theorem scont_none (A : Option Addr) (n cap : Nat) (L : List ByteArray) (w : World) (h : SIn w A L) (hn : L.length = n) (hn4 : n ≤ 1000000) (hu : ∀ t ∈ L, t.size ≤ 9223372036854775000) (hp : ∀ t ∈ L, t.data.toList.all isPr = true) :
    Calls Tryz.prog 62 #[.slice A n cap, .func (.func 63) #[] #[]] w fun e w' => e = .returned (.bool false) ∧ Below w.heap.size w w' := by
  have HI := Lib.hid (sidx_none A n cap L w h hn hn4 hu hp)
  clear h hu hp hn
  go_enter Tryz.func62, Tryz.ntmps62
  go_wp2_with fail
  ((with_reducible refine HI.out.mono ?_); rintro e w1 ⟨rfl, hb⟩)
  go_wp2_with fail
  go_ret
  exact ⟨rfl, hb⟩
theorem idx_byte (l : List UInt8) (c : UInt8) : decide (0 ≤ Lib.indexByte l c) = l.any (fun x => decide (x = c)) := by
  induction l with
  | nil => simp [Lib.indexByte]
  | cons b l ih =>
    have hg := Lib.indexByte_ge l c
    unfold Lib.indexByte
    by_cases h : b = c
    · simp [h]
    · rw [List.any_cons, ← ih]
      simp only [beq_iff_eq, h, if_false, decide_false, Bool.false_or]
      split
      · rename_i h2; simp [h2]
      · rename_i h2
        have : 0 ≤ Lib.indexByte l c := by omega
        simp; omega
theorem bare_eq (l : List UInt8) (h : l ≠ []) : bareB l = (!(l.any (fun x => decide (x = 32))) && !(l.any (fun x => decide (x = 34)))) := by
  unfold bareB
  have he : l.isEmpty = false := by cases l with | nil => exact absurd rfl h | cons _ _ => rfl
  rw [he]
  simp only [Bool.not_false, Bool.true_and]
  clear h he
  have key : ∀ c d : UInt8, decide (c = d) = decide (c.toNat = d.toNat) := fun c d => by
    rw [Bool.eq_iff_iff]; simp [UInt8.toNat_inj]
  induction l with
  | nil => rfl
  | cons c l ih =>
    rw [List.all_cons, List.any_cons, List.any_cons, ih, key c 32, key c 34]
    unfold isBw
    have e1 : (32 : UInt8).toNat = 32 := rfl
    have e2 : (34 : UInt8).toNat = 34 := rfl
    rw [e1, e2]
    cases decide (c.toNat = 32) <;> cases decide (c.toNat = 34) <;> cases (l.any fun x => decide (x = 32)) <;> cases (l.any fun x => decide (x = 34)) <;> rfl
set_option maxHeartbeats 800000 in
theorem nbare_any (s : ByteArray) (w : World) : Calls Tryz.prog 65 #[.string s] w fun e w' => e = .returned (.bool (bareB s.data.toList)) ∧ w = w' := by
  by_cases hz : s.size = 0
  · have e1 : s.toList = [] := by rw [ByteArray.toList_eq]; exact lnil s hz
    have e2 : s.toList.isEmpty = true := by rw [e1]; rfl
    have e3 : (!s.toList.isEmpty) = false := by rw [e2]; rfl
    have HV := Lib.hid (show bareB s.data.toList = false by rw [lnil s hz]; rfl)
    clear hz
    go_enter Tryz.func65, Tryz.ntmps65
    go_wp2_with fail
    go_ret
    exact ⟨ret_bool HV.out.symm, rfl⟩
  · have e2 := nonempty s (by omega)
    have e3 : (!s.toList.isEmpty) = true := by rw [e2]; rfl
    have HV := Lib.hid (bare_eq s.data.toList (lne s (by omega)))
    have H1 := Lib.hid (fun w => Tryz.strings_Contains_one s 32 w)
    have H2 := Lib.hid (fun w => Tryz.strings_Contains_one s 34 w)
    rw [idx_byte] at H1 H2
    clear hz
    cases h1 : s.data.toList.any (fun x => decide (x = 32)) with
    | true =>
      rw [h1] at H1 HV
      clear h1
      go_enter Tryz.func65, Tryz.ntmps65
      go_wp2_with fail
      ((with_reducible refine (H1.out _).mono ?_); rintro e w1 ⟨rfl, rfl⟩)
      go_wp2_with fail
      go_ret
      exact ⟨ret_bool HV.out.symm, rfl⟩
    | false =>
      rw [h1] at H1 HV
      clear h1
      go_enter Tryz.func65, Tryz.ntmps65
      go_wp2_with fail
      ((with_reducible refine (H1.out _).mono ?_); rintro e w1 ⟨rfl, rfl⟩)
      go_wp2_with fail
      ((with_reducible refine (H2.out _).mono ?_); rintro e w1 ⟨rfl, rfl⟩)
      go_wp2_with fail
      go_ret
      exact ⟨ret_bool (by rw [HV.out]; simp), rfl⟩
/-- while a line is made: the parts so far -/
def JSt (w wr : World) (v : Value) (P : List ByteArray) : Prop := wr.ownsRow w.heap.size 9 1 v P.length (P.map Value.string) ∧ Below w.heap.size w wr
def partsB (L : List ByteArray) : List ByteArray := L.map fun t => if bareB t.data.toList then t else ⟨(quoteL t.data.toList).toArray⟩
theorem partsB_data (L : List ByteArray) : (partsB L).map (·.data.toList) = L.map (fun t => partL t.data.toList) := by
  unfold partsB
  rw [List.map_map]
  refine List.map_congr_left fun t _ => ?_
  simp only [Function.comp_apply]
  unfold partL
  split <;> rfl
theorem line_join (L : List (List UInt8)) : Lib.join (L.map partL) [32] = lineL L := by
  unfold Lib.join
  induction L with
  | nil => rfl
  | cons x L ih =>
    cases L with
    | nil => simp [List.intercalate, lineL]
    | cons y L =>
      rw [lineL_cons, ← ih]
      simp [List.intercalate]
theorem partsB_take (L : List ByteArray) (k : Nat) (h : k < L.length) : partsB (L.take (k + 1)) = partsB (L.take k) ++ [if bareB L[k].data.toList then L[k] else ⟨(quoteL L[k].data.toList).toArray⟩] := by
  unfold partsB
  rw [List.take_succ_eq_append_getElem h, List.map_append]; rfl
theorem add_zero (g j : Nat) : (⟨g, 0, none⟩ : Addr).add j = ⟨g, 0 + j, none⟩ := by
  unfold Addr.add
  split
  · rename_i h; have : j = 0 := by simpa using h
    subst this; rfl
  · rfl
set_option maxHeartbeats 3200000 in
set_option maxRecDepth 100000 in
theorem njoin_ok (A : Option Addr) (n cap : Nat) (L : List ByteArray) (w : World) (h : SIn w A L) (hn : L.length = n) (hn0 : 0 < n) (hn4 : n ≤ 1000) (hu : ∀ t ∈ L, t.size ≤ 16384) (hp : ∀ t ∈ L, t.data.toList.all isPr = true) (hl : (lineL (L.map (·.data.toList))).length ≤ 16384) :
    Calls Tryz.prog 34 #[.slice A n cap] w fun e w' => e = .returned (.tuple #[.string ⟨(lineL (L.map (·.data.toList))).toArray⟩, .int .i64 0]) ∧ Below w.heap.size w w' := by
  have HC := Lib.hid (fun w h => scont_none A n cap L w h hn (by omega) (fun t ht => by have := hu t ht; omega) hp)
  have H0 := Lib.hid h; clear h
  have HU := Lib.hid hu; clear hu hp
  have HN := Lib.hid hn; clear hn
  have HLN := Lib.hid hl; clear hl
  obtain ⟨i0, hi, hz0, hz1, hz2⟩ := info_parts strInfo
  have HI := Lib.hid (And.intro hi (And.intro hz0 (And.intro hz1 hz2)))
  clear hi hz0 hz1 hz2
  go_enter Tryz.func34, Tryz.ntmps34
  go_wp2_with fail
  ((with_reducible refine (HC.out _ H0.out).mono ?_); rintro e w1 ⟨rfl, hb1⟩)
  have HB1 := Lib.hid hb1
  clear hb1 HC
  go_wp2_with fail
  go_loopg [4, 6, 15] (n) (fun g vx _ i wr => ∃ (k : Nat) (v : Value), k + g = n ∧ i = .int .i64 k ∧ v = vx ∧ JSt w wr v (partsB (L.take k)))
  case atStart => exact ⟨0, _, by omega, rfl, rfl, ⟨World.ownsRow_nil _ _ _ _, HB1.out⟩⟩
  case round =>
    obtain ⟨k, v, hk, rfl, rfl, hJ⟩ := hrel
    have HK := Lib.hid hk
    have HJ := Lib.hid hJ
    have HS := Lib.hid (H0.out.below hJ.2)
    have hle : k ≤ n := by omega
    have hlen : (partsB (L.take k)).length ≤ k := by unfold partsB; rw [List.length_map, List.length_take]; omega
    have hsz : w.heap.size ≤ wr.heap.size := hJ.2.size
    clear hk hJ
    by_cases hlt : k < n
    · have hlt' : k < L.length := by rw [HN.out]; exact hlt
      obtain ⟨ad, rfl, hp, c0⟩ := HS.out k hlt'
      have hux := HU.out _ (List.getElem_mem hlt')
      have HT := Lib.hid (partsB_take L k hlt')
      generalize L[k] = x at *
      have HBr := Lib.hid (fun w => nbare_any x w)
      cases hb : bareB x.data.toList with
      | true =>
        rw [hb] at HT HBr
        clear hb
        go_wp2_with fail
        ((with_reducible refine (HBr.out _).mono ?_); rintro e w2 ⟨rfl, rfl⟩)
        go_wp2_with (at_builtin; refine wpList_append_own _ rfl _ _ 61 rfl w.heap.size 9 i0 (.string ⟨#[]⟩) 1 16 Tryz.underlying61 HI.out.1 HI.out.2.1 HI.out.2.2.1 HI.out.2.2.2 rfl (by decide) v _ _ rfl (HJ.out.1.alloc _) ⟨wr.heap.size, 0, none⟩ 1 1 [.string x] rfl rfl ?c1 ?c2 ?c3 ?c4 ?c5 ?_)
        case c1 => intro j u hj; match j, hj with | 0, hj => simp at hj; subst hj; simp [Addr.add] | j + 1, hj => simp at hj
        case c2 => intro u hu; simp at hu; subst hu; rfl
        case c3 => unfold maxLen; omega
        case c4 => omega
        case c5 => simp; omega
        intro v' w7 hown7 hgrow7 _
        have HB7 := Lib.hid (Below.grown (row := v.ownBlock) (HJ.out.2.alloc (by omega) _) hgrow7 (by simp; omega) (fun k hk => (HJ.out.1.lt k hk).1))
        have HJ7 := Lib.hid (show JSt w w7 v' (partsB (L.take (k + 1))) from ⟨by rw [HT.out, List.length_append, List.map_append]; exact hown7, HB7.out⟩)
        clear hown7 hgrow7
        go_wp2_with fail
        go_roundg (gk - 1)
        case measure => have := HK.out; omega
        case rel => exact ⟨k + 1, v', by have := HK.out; omega, by go_num, rfl, HJ7.out⟩
      | false =>
        rw [hb] at HT HBr
        clear hb
        go_wp2_with fail
        ((with_reducible refine (HBr.out _).mono ?_); rintro e w2 ⟨rfl, rfl⟩)
        go_wp2_with fail
        ((with_reducible refine (nlit_any x _ (by omega)).mono ?_); rintro e w2 ⟨rfl, hb2⟩)
        obtain ⟨y, hy⟩ : ∃ y : ByteArray, y = ⟨(quoteL x.data.toList).toArray⟩ := ⟨_, rfl⟩
        simp only [Bool.false_eq_true, if_false] at HT
        rw [← hy] at HT ⊢
        replace HJ := Lib.hid (show JSt w w2 v (partsB (L.take k)) from ⟨own_stays HJ.out.1 hb2, below_then HJ.out.2 hb2⟩)
        have hsz2 : w.heap.size ≤ w2.heap.size := HJ.out.2.size
        clear hy hb2
        go_wp2_with (at_builtin; refine wpList_append_own _ rfl _ _ 61 rfl w.heap.size 9 i0 (.string ⟨#[]⟩) 1 16 Tryz.underlying61 HI.out.1 HI.out.2.1 HI.out.2.2.1 HI.out.2.2.2 rfl (by decide) v _ _ rfl (HJ.out.1.alloc _) ⟨w2.heap.size, 0, none⟩ 1 1 [.string y] rfl rfl ?c1 ?c2 ?c3 ?c4 ?c5 ?_)
        case c1 => intro j u hj; match j, hj with | 0, hj => simp at hj; subst hj; simp [Addr.add] | j + 1, hj => simp at hj
        case c2 => intro u hu; simp at hu; subst hu; rfl
        case c3 => unfold maxLen; omega
        case c4 => omega
        case c5 => simp; omega
        intro v' w7 hown7 hgrow7 _
        have HB7 := Lib.hid (Below.grown (row := v.ownBlock) (HJ.out.2.alloc (by omega) _) hgrow7 (by simp; omega) (fun k hk => (HJ.out.1.lt k hk).1))
        have HJ7 := Lib.hid (show JSt w w7 v' (partsB (L.take (k + 1))) from ⟨by rw [HT.out, List.length_append, List.map_append]; exact hown7, HB7.out⟩)
        clear hown7 hgrow7
        go_wp2_with fail
        go_roundg (gk - 1)
        case measure => have := HK.out; omega
        case rel => exact ⟨k + 1, v', by have := HK.out; omega, by go_num, rfl, HJ7.out⟩
    · obtain rfl : k = n := by omega
      have HTK := Lib.hid (show partsB (L.take k) = partsB L by rw [List.take_of_length_le (by have := HN.out; omega)])
      rw [HTK.out] at HJ hlen
      have HPL := Lib.hid (show (partsB L).length = k by unfold partsB; rw [List.length_map]; exact HN.out)
      have HPD := Lib.hid (show Lib.join ((partsB L).map (·.data.toList)) [32] = lineL (L.map (·.data.toList)) by rw [partsB_data, ← line_join, List.map_map]; rfl)
      obtain ⟨A2, cp2, hv2, hS2, hl2, hc2, _, hg⟩ := own_sin HJ.out.1
      rw [HPL.out] at hv2 hc2 hg
      obtain ⟨g, rfl, hg1, hg2⟩ := hg hn0
      subst hv2
      have HJo := Lib.hid (Tryz.strings_Join g 0 cp2 (partsB L) ⟨#[32]⟩ wr (fun j x hx => by
        obtain ⟨hj, rfl⟩ := List.getElem?_eq_some_iff.1 hx
        obtain ⟨ad, e, _, h3⟩ := hS2 j hj
        cases e
        rw [add_zero] at h3
        exact h3) hg2 (by rw [HPL.out]; omega) (by rw [HPL.out]; exact hc2) (by rw [HPD.out]; have := HLN.out; omega))
      rw [HPL.out, HPD.out] at HJo
      obtain ⟨y, hy⟩ : ∃ y : ByteArray, y = ⟨(lineL (L.map (·.data.toList))).toArray⟩ := ⟨_, rfl⟩
      have hyl : y.size ≤ 16384 := by rw [← len_byte, hy]; exact HLN.out
      have hyq : (y.size : Int) ≤ 16384 := by omega
      rw [← hy] at HJo
      have HY := Lib.hid hy
      have HBJ := Lib.hid HJ.out.2
      clear hy hS2 hl2 HTK HPL HPD HJ hlen
      go_wp2_with fail
      ((with_reducible refine HJo.out.mono ?_); rintro e w3 ⟨rfl, hb3⟩)
      have HB3 := Lib.hid (below_then HBJ.out hb3)
      clear hb3
      go_wp2_with fail
      go_ret2
      exact ⟨ret_si HY.out, HB3.out⟩
end Go.Proofs.YtbbdgncjpbfooaaGreatDoor
