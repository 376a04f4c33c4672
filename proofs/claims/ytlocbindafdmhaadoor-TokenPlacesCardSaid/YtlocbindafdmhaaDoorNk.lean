/- TokenBack: what a call returns. -/
import Derived.Test.YtlocbindafdmhaaDoorNj
import Derived.Test.YtlocbindafdmhaaDoorNi
import Derived.Test.YtlocbindafdmhaaDoorPj
namespace Go.Proofs.YtlocbindafdmhaaDoor
open Go.RowKit

/-- the end as it is written in a law -/
def endT : Td := ⟨5, ⟨#[]⟩, 0, 0, 0⟩
theorem ok_nonneg (t : Td) (h : t.ok = true) : 0 ≤ t.k ∧ 0 ≤ t.n := by
  unfold Td.ok validB at h
  split at h
  · simp at h; omega
  · split at h
    · cases h
    · rename_i hn
      have hn' : t.n = 0 := by simpa using hn
      split at h
      · omega
      · split at h
        · omega
        · split at h
          · omega
          · simp at h; omega
theorem like_of (M : List Tk) (W : List Td) (h : M.map (·.1) = W.map Td.tok) (hw : ∀ t ∈ W, 0 ≤ t.k ∧ 0 ≤ t.n) :
    M.length = W.length ∧ ∀ i (a : i < (M.map tkTd).length) (b : i < W.length), (M.map tkTd)[i].like W[i] := by
  have hl := congrArg List.length h
  rw [List.length_map, List.length_map] at hl
  refine ⟨hl, fun i a b => ?_⟩
  have a' : i < M.length := by simpa using a
  have e : M[i].1 = W[i].tok := by
    have := congrArg (fun l => l[i]?) h
    simp [a', b] at this
    exact this
  obtain ⟨h1, h2⟩ := hw W[i] (List.getElem_mem b)
  rw [List.getElem_map]
  unfold tkTd Td.like
  rw [e]
  unfold Td.tok
  exact ⟨by simp; omega, rfl, by simp; omega⟩
theorem back_all (L : List Td) (m : Nat) (hl : L.length = m + 1) (h5 : (L[m]'(by omega)).k ≠ 5) : backL L = L ++ [endT] := by
  unfold backL; rw [bodyN_all L m hl h5, List.take_of_length_le (by omega)]; rfl
theorem back_nil : backL [] = [] ++ [endT] := rfl
theorem back_end (L : List Td) (m : Nat) (hl : L.length = m + 1) (hj : joinB L = true) (h5 : (L[m]'(by omega)).k = 5) : (backL L).map Td.tok = L.map Td.tok := by
  unfold backL; rw [bodyN_end L m hl h5]
  have e : L = L.take m ++ [L[m]'(by omega)] := by rw [← List.take_succ_eq_append_getElem (by omega), List.take_of_length_le (by omega)]
  have hv := joinB_ok L m (by omega) hj
  generalize (L[m]'(by omega)) = x at *
  have ht : x.tok = ⟨5, [], 0⟩ := by
    unfold Td.ok validB at hv
    rw [h5] at hv
    by_cases hn : x.n = 0
    · simp [hn] at hv
      unfold Td.tok; rw [h5, hn, hv]; rfl
    · simp [hn] at hv
  rw [e]
  simp only [List.map_append, List.map_cons, List.map_nil, ht]
  rw [List.take_append_of_le_length (by simp; omega), List.take_take]
  simp [Td.tok]

set_option maxHeartbeats 6400000 in
set_option maxRecDepth 100000 in
theorem tokenBack_walk (A : Option Addr) (n cap : Nat) (L : List Td) (w : World) (h : TA w A L) (hu : ∀ t ∈ L, t.u.size ≤ 9223372036854775807) (hn : L.length = n) (hc : n ≤ cap) (hcap : cap ≤ 9223372036854775807) :
    Calls Tryd.prog 7 #[.slice A n cap] w fun e w' => e = .returned (.bool true) ∧ Below w.heap.size w w' := by
  have H := Lib.hid h; clear h
  have HP := Lib.hid H.out.pr
  have HS := Lib.hid (fun w (h : TkIn w A L) => small_any A cap L w h hu (by omega))
  rw [hn] at HS
  clear hu
  cases hv : smallB L with
  | false =>
    rw [hv] at HS
    clear hv hn
    go_enter Tryd.func7, Tryd.ntmps7
    go_wp2_with fail
    ((with_reducible refine (awake_any _ H.out.pr).mono ?_); rintro e w1 ⟨rfl, hb1⟩)
    have HB := Lib.hid hb1
    replace H := Lib.hid (H.out.below hb1)
    clear hb1
    go_wp2_with fail
    ((with_reducible refine (HS.out _ H.out.tk).mono ?_); rintro e w2 ⟨rfl, hb2⟩)
    replace HB := Lib.hid (below_then HB.out hb2)
    replace H := Lib.hid (H.out.below hb2)
    clear hb2
    go_wp2_with fail
    ((with_reducible refine (awake_any _ H.out.pr).mono ?_); rintro e w3 ⟨rfl, hb3⟩)
    go_wp2_with fail
    go_ret
    exact ⟨rfl, below_then HB.out hb3⟩
  | true =>
    rw [hv] at HS
    have h40 := small_few hv
    have hn40 : n ≤ 40 := by omega
    have HJ := Lib.hid (fun w (h : TA w A L) => tjoin_any A n cap L w h.tk h.tb (fun t ht => by have := small_short hv t ht; omega) hn (by omega) hc hcap (fun hj => by have := small_join hv hj; omega))
    have HZ := Lib.hid (fun hj => small_join hv hj)
    have HN := Lib.hid hn
    have HCl := Lib.hid (fun w (h : TkIn w A L) => clone_any A n cap L w h HN.out (by omega))
    clear hv hn h40
    cases hj : joinB L with
    | false =>
      rw [joinRet_no hj] at HJ
      clear hj
      go_enter Tryd.func7, Tryd.ntmps7
      go_wp2_with fail
      ((with_reducible refine (awake_any _ H.out.pr).mono ?_); rintro e w1 ⟨rfl, hb1⟩)
      have HB := Lib.hid hb1
      replace H := Lib.hid (H.out.below hb1)
      clear hb1
      go_wp2_with fail
      ((with_reducible refine (HS.out _ H.out.tk).mono ?_); rintro e w2 ⟨rfl, hb2⟩)
      replace HB := Lib.hid (below_then HB.out hb2)
      replace H := Lib.hid (H.out.below hb2)
      clear hb2
      go_wp2_with fail
      ((with_reducible refine (HJ.out _ H.out).mono ?_); rintro e w3 ⟨rfl, hb3⟩)
      replace HB := Lib.hid (below_then HB.out hb3)
      clear hb3
      go_wp2_with fail
      go_ret
      exact ⟨rfl, HB.out⟩
    | true =>
      rw [joinRet_yes hj] at HJ
      obtain ⟨M, hM, hM2⟩ := tokens_join L hj (by have := HZ.out hj; omega) (by have := HN.out; omega)
      have HOK := Lib.hid (fun t ht => ok_nonneg t (joinB_all L hj t ht))
      have HM2 := Lib.hid hM2
      have HJB := Lib.hid hj
      obtain ⟨s, hs⟩ : ∃ s : ByteArray, s = ⟨(joinL L).toArray⟩ := ⟨_, rfl⟩
      rw [← hs] at HJ
      have HTK := Lib.hid (fun w hp => tokens_any s w hp)
      rw [show s.data.toList = joinL L by rw [hs], hM] at HTK
      clear hs hM hM2 hj HZ
      obtain ⟨i0, hi, hz0, hz1, hz2⟩ := info_parts tkInfo
      have HI := Lib.hid (And.intro hi (And.intro hz0 (And.intro hz1 hz2)))
      clear hi hz0 hz1 hz2
      by_cases h0 : n = 0
      · have hL0 : L = [] := List.eq_nil_of_length_eq_zero (by rw [HN.out]; exact h0)
        subst hL0
        subst h0
        have HWT := Lib.hid (show M.map (·.1) = (([] : List Td) ++ [endT]).map Td.tok from HM2.out)
        go_enter Tryd.func7, Tryd.ntmps7
        go_wp2_with fail
        ((with_reducible refine (awake_any _ H.out.pr).mono ?_); rintro e w1 ⟨rfl, hb1⟩)
        have HB := Lib.hid hb1
        replace H := Lib.hid (H.out.below hb1)
        clear hb1
        go_wp2_with fail
        ((with_reducible refine (HS.out _ H.out.tk).mono ?_); rintro e w2 ⟨rfl, hb2⟩)
        replace HB := Lib.hid (below_then HB.out hb2)
        replace H := Lib.hid (H.out.below hb2)
        clear hb2
        go_wp2_with fail
        ((with_reducible refine (HJ.out _ H.out).mono ?_); rintro e w3 ⟨rfl, hb3⟩)
        replace HB := Lib.hid (below_then HB.out hb3)
        replace H := Lib.hid (H.out.below hb3)
        clear hb3
        go_wp2_with fail
        ((with_reducible refine (HCl.out _ H.out.tk).mono ?_); rintro e w4 ⟨v4, rfl, hown4, hb4⟩)
        have HO := Lib.hid hown4
        have h3s := HB.out.size
        have h4s := hb4.size
        replace HB := Lib.hid (below_then HB.out hb4)
        replace H := Lib.hid (H.out.below hb4)
        clear hown4 hb4
        go_wp2_with (at_builtin; refine wpList_append_own _ rfl _ _ 23 rfl w3.heap.size 33 i0 (.agg #[.int .i64 0, .string ⟨#[]⟩, .int .i64 0, .int .i64 0, .int .i64 0]) 5 48 Tryd.underlying23 HI.out.1 HI.out.2.1 HI.out.2.2.1 HI.out.2.2.2 rfl (by decide) v4 _ _ rfl (HO.out.alloc _) ⟨w4.heap.size, 0, none⟩ 1 1 endT.cells rfl rfl ?c1 ?c2 ?c3 ?c4 ?c5 ?_)
        case c1 =>
          intro j u hj
          match j, hj with
          | 0, hj => simp [endT, Td.cells] at hj; subst hj; simp [Addr.add]
          | 1, hj => simp [endT, Td.cells] at hj; subst hj; simp [Addr.add]
          | 2, hj => simp [endT, Td.cells] at hj; subst hj; simp [Addr.add]
          | 3, hj => simp [endT, Td.cells] at hj; subst hj; simp [Addr.add]
          | 4, hj => simp [endT, Td.cells] at hj; subst hj; simp [Addr.add]
          | j + 5, hj => simp [endT, Td.cells] at hj
        case c2 => intro u hu; simp [endT, Td.cells] at hu; rcases hu with rfl | rfl | rfl | rfl | rfl <;> rfl
        case c3 => have := HN.out; unfold maxLen; omega
        case c4 => have := HN.out; omega
        case c5 => simp; omega
        intro v5 w5 hown5 hgrow5 _
        replace HB := Lib.hid (Below.grown (row := v4.ownBlock) (HB.out.alloc (by omega) _) hgrow5 (by simp; omega) (fun k hk => by have := (HO.out.lt k hk).1; omega))
        clear HO hgrow5
        have HO := Lib.hid hown5
        clear hown5
        obtain ⟨hMN, hlk⟩ := like_of M (([] : List Td) ++ [endT]) HWT.out (fun t ht => (List.mem_append.1 ht).elim (HOK.out t) (fun h => by rw [List.mem_singleton.1 h]; exact ⟨by decide, by decide⟩))
        have HLK := Lib.hid hlk; clear hlk
        obtain ⟨A2, cp2, hv2, ht2, hl2, _, _⟩ := own_tkin (L := ([] : List Td) ++ [endT]) (n := 0 + 1) (by have := HO.out; first | (rw [HN.out] at this; first | exact this | (rw [tdRow_append]; exact this)) | exact this | (rw [tdRow_append]; exact this))
        subst hv2
        have HW2 := Lib.hid ht2; clear ht2
        have hMN2 : M.length = 0 + 1 := by rw [hMN, hl2]
        clear HO
        go_wp2_with fail
        ((with_reducible refine (HTK.out _ (HP.out.below HB.out)).mono ?_); rintro e w6 ⟨v6, he, hown6, hb6⟩)
        have he' : e = .returned (.tuple #[v6, .agg #[.int .i64 0, .int .i64 0], .int .i64 0]) := he
        clear he; subst he'
        obtain ⟨A1, cp1, hv1, ht1, hl1, _, _⟩ := own_tkin (L := M.map tkTd) (n := M.length) (by rw [← tkRow_td]; exact hown6)
        rw [hMN2] at hv1 hl1
        subst hv1
        have HW1 := Lib.hid (ht1.below (below_alloc w6 (.cells #[.int .i64 0, .int .i64 0] 25)))
        have HW3 := Lib.hid ((HW2.out.below hb6).below (below_alloc w6 (.cells #[.int .i64 0, .int .i64 0] 25)))
        replace HB := Lib.hid (below_then (below_then HB.out hb6) (below_alloc w6 (.cells #[.int .i64 0, .int .i64 0] 25)))
        have HL1 := Lib.hid hl1
        have HL2 := Lib.hid hl2
        clear ht1 hown6 hb6 HW2 hl1 hl2 hMN hMN2
        go_wp2_with fail
        ((with_reducible refine (same_any A1 A2 (0 + 1) cp1 cp2 (M.map tkTd) (([] : List Td) ++ [endT]) _ HW1.out HW3.out HL1.out HL2.out (by omega) HLK.out).mono ?_); rintro e w8 ⟨rfl, hb8⟩)
        go_wp2_with fail
        go_ret
        exact ⟨rfl, below_then HB.out hb8⟩
      · obtain ⟨m, rfl⟩ : ∃ m, n = m + 1 := ⟨n - 1, by omega⟩
        clear h0
        have hml : m < L.length := by rw [HN.out]; omega
        have q0 : ((m : Int) + 1 == 0) = false := by simp; omega
        by_cases h5 : (L[m]).k = 5
        · have q5 : ((L[m]).k != 5) = false := by rw [h5]; rfl
          have HWT := Lib.hid (show M.map (·.1) = L.map Td.tok by rw [HM2.out, back_end L m HN.out HJB.out h5])
          clear h5
          go_enter Tryd.func7, Tryd.ntmps7
          go_wp2_with fail
          ((with_reducible refine (awake_any _ H.out.pr).mono ?_); rintro e w1 ⟨rfl, hb1⟩)
          have HB := Lib.hid hb1
          replace H := Lib.hid (H.out.below hb1)
          clear hb1
          go_wp2_with fail
          ((with_reducible refine (HS.out _ H.out.tk).mono ?_); rintro e w2 ⟨rfl, hb2⟩)
          replace HB := Lib.hid (below_then HB.out hb2)
          replace H := Lib.hid (H.out.below hb2)
          clear hb2
          go_wp2_with fail
          ((with_reducible refine (HJ.out _ H.out).mono ?_); rintro e w3 ⟨rfl, hb3⟩)
          replace HB := Lib.hid (below_then HB.out hb3)
          replace H := Lib.hid (H.out.below hb3)
          clear hb3
          go_wp2_with fail
          ((with_reducible refine (HCl.out _ H.out.tk).mono ?_); rintro e w4 ⟨v4, rfl, hown4, hb4⟩)
          have HO := Lib.hid hown4
          have h3s := HB.out.size
          have h4s := hb4.size
          replace HB := Lib.hid (below_then HB.out hb4)
          replace H := Lib.hid (H.out.below hb4)
          clear hown4 hb4
          obtain ⟨ad, rfl, hp, c0, c1, c2, c3, c4⟩ := H.out.tk m hml
          generalize L[m] = x at *
          obtain ⟨hMN, hlk⟩ := like_of M (L) HWT.out HOK.out
          have HLK := Lib.hid hlk; clear hlk
          obtain ⟨A2, cp2, hv2, ht2, hl2, _, _⟩ := own_tkin (L := L) (n := m + 1) (by have := HO.out; first | (rw [HN.out] at this; first | exact this | (rw [tdRow_append]; exact this)) | exact this | (rw [tdRow_append]; exact this))
          subst hv2
          have HW2 := Lib.hid ht2; clear ht2
          have hMN2 : M.length = m + 1 := by rw [hMN, hl2]
          clear HO
          go_wp2_with fail
          ((with_reducible refine (HTK.out _ (HP.out.below HB.out)).mono ?_); rintro e w6 ⟨v6, he, hown6, hb6⟩)
          have he' : e = .returned (.tuple #[v6, .agg #[.int .i64 0, .int .i64 0], .int .i64 0]) := he
          clear he; subst he'
          obtain ⟨A1, cp1, hv1, ht1, hl1, _, _⟩ := own_tkin (L := M.map tkTd) (n := M.length) (by rw [← tkRow_td]; exact hown6)
          rw [hMN2] at hv1 hl1
          subst hv1
          have HW1 := Lib.hid (ht1.below (below_alloc w6 (.cells #[.int .i64 0, .int .i64 0] 25)))
          have HW3 := Lib.hid ((HW2.out.below hb6).below (below_alloc w6 (.cells #[.int .i64 0, .int .i64 0] 25)))
          replace HB := Lib.hid (below_then (below_then HB.out hb6) (below_alloc w6 (.cells #[.int .i64 0, .int .i64 0] 25)))
          have HL1 := Lib.hid hl1
          have HL2 := Lib.hid hl2
          clear ht1 hown6 hb6 HW2 hl1 hl2 hMN hMN2
          go_wp2_with fail
          ((with_reducible refine (same_any A1 A2 (m + 1) cp1 cp2 (M.map tkTd) (L) _ HW1.out HW3.out HL1.out HL2.out (by omega) HLK.out).mono ?_); rintro e w8 ⟨rfl, hb8⟩)
          go_wp2_with fail
          go_ret
          exact ⟨rfl, below_then HB.out hb8⟩
        · have q5 : ((L[m]).k != 5) = true := by simpa using h5
          have HWT := Lib.hid (show M.map (·.1) = (L ++ [endT]).map Td.tok by rw [HM2.out, back_all L m HN.out h5])
          clear h5
          go_enter Tryd.func7, Tryd.ntmps7
          go_wp2_with fail
          ((with_reducible refine (awake_any _ H.out.pr).mono ?_); rintro e w1 ⟨rfl, hb1⟩)
          have HB := Lib.hid hb1
          replace H := Lib.hid (H.out.below hb1)
          clear hb1
          go_wp2_with fail
          ((with_reducible refine (HS.out _ H.out.tk).mono ?_); rintro e w2 ⟨rfl, hb2⟩)
          replace HB := Lib.hid (below_then HB.out hb2)
          replace H := Lib.hid (H.out.below hb2)
          clear hb2
          go_wp2_with fail
          ((with_reducible refine (HJ.out _ H.out).mono ?_); rintro e w3 ⟨rfl, hb3⟩)
          replace HB := Lib.hid (below_then HB.out hb3)
          replace H := Lib.hid (H.out.below hb3)
          clear hb3
          go_wp2_with fail
          ((with_reducible refine (HCl.out _ H.out.tk).mono ?_); rintro e w4 ⟨v4, rfl, hown4, hb4⟩)
          have HO := Lib.hid hown4
          have h3s := HB.out.size
          have h4s := hb4.size
          replace HB := Lib.hid (below_then HB.out hb4)
          replace H := Lib.hid (H.out.below hb4)
          clear hown4 hb4
          obtain ⟨ad, rfl, hp, c0, c1, c2, c3, c4⟩ := H.out.tk m hml
          generalize L[m] = x at *
          go_wp2_with (at_builtin; refine wpList_append_own _ rfl _ _ 23 rfl w3.heap.size 33 i0 (.agg #[.int .i64 0, .string ⟨#[]⟩, .int .i64 0, .int .i64 0, .int .i64 0]) 5 48 Tryd.underlying23 HI.out.1 HI.out.2.1 HI.out.2.2.1 HI.out.2.2.2 rfl (by decide) v4 _ _ rfl (HO.out.alloc _) ⟨w4.heap.size, 0, none⟩ 1 1 endT.cells rfl rfl ?c1 ?c2 ?c3 ?c4 ?c5 ?_)
          case c1 =>
            intro j u hj
            match j, hj with
            | 0, hj => simp [endT, Td.cells] at hj; subst hj; simp [Addr.add]
            | 1, hj => simp [endT, Td.cells] at hj; subst hj; simp [Addr.add]
            | 2, hj => simp [endT, Td.cells] at hj; subst hj; simp [Addr.add]
            | 3, hj => simp [endT, Td.cells] at hj; subst hj; simp [Addr.add]
            | 4, hj => simp [endT, Td.cells] at hj; subst hj; simp [Addr.add]
            | j + 5, hj => simp [endT, Td.cells] at hj
          case c2 => intro u hu; simp [endT, Td.cells] at hu; rcases hu with rfl | rfl | rfl | rfl | rfl <;> rfl
          case c3 => have := HN.out; unfold maxLen; omega
          case c4 => have := HN.out; omega
          case c5 => simp; omega
          intro v5 w5 hown5 hgrow5 _
          replace HB := Lib.hid (Below.grown (row := v4.ownBlock) (HB.out.alloc (by omega) _) hgrow5 (by simp; omega) (fun k hk => by have := (HO.out.lt k hk).1; omega))
          clear HO hgrow5
          have HO := Lib.hid hown5
          clear hown5
          obtain ⟨hMN, hlk⟩ := like_of M (L ++ [endT]) HWT.out (fun t ht => (List.mem_append.1 ht).elim (HOK.out t) (fun h => by rw [List.mem_singleton.1 h]; exact ⟨by decide, by decide⟩))
          have HLK := Lib.hid hlk; clear hlk
          obtain ⟨A2, cp2, hv2, ht2, hl2, _, _⟩ := own_tkin (L := L ++ [endT]) (n := m + 1 + 1) (by have := HO.out; first | (rw [HN.out] at this; first | exact this | (rw [tdRow_append]; exact this)) | exact this | (rw [tdRow_append]; exact this))
          subst hv2
          have HW2 := Lib.hid ht2; clear ht2
          have hMN2 : M.length = m + 1 + 1 := by rw [hMN, hl2]
          clear HO
          go_wp2_with fail
          ((with_reducible refine (HTK.out _ (HP.out.below HB.out)).mono ?_); rintro e w6 ⟨v6, he, hown6, hb6⟩)
          have he' : e = .returned (.tuple #[v6, .agg #[.int .i64 0, .int .i64 0], .int .i64 0]) := he
          clear he; subst he'
          obtain ⟨A1, cp1, hv1, ht1, hl1, _, _⟩ := own_tkin (L := M.map tkTd) (n := M.length) (by rw [← tkRow_td]; exact hown6)
          rw [hMN2] at hv1 hl1
          subst hv1
          have HW1 := Lib.hid (ht1.below (below_alloc w6 (.cells #[.int .i64 0, .int .i64 0] 25)))
          have HW3 := Lib.hid ((HW2.out.below hb6).below (below_alloc w6 (.cells #[.int .i64 0, .int .i64 0] 25)))
          replace HB := Lib.hid (below_then (below_then HB.out hb6) (below_alloc w6 (.cells #[.int .i64 0, .int .i64 0] 25)))
          have HL1 := Lib.hid hl1
          have HL2 := Lib.hid hl2
          clear ht1 hown6 hb6 HW2 hl1 hl2 hMN hMN2
          go_wp2_with fail
          ((with_reducible refine (same_any A1 A2 (m + 1 + 1) cp1 cp2 (M.map tkTd) (L ++ [endT]) _ HW1.out HW3.out HL1.out HL2.out (by omega) HLK.out).mono ?_); rintro e w8 ⟨rfl, hb8⟩)
          go_wp2_with fail
          go_ret
          exact ⟨rfl, below_then HB.out hb8⟩
end Go.Proofs.YtlocbindafdmhaaDoor
