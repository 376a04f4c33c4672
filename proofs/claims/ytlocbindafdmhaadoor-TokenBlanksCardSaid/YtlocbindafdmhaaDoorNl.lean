/- TokenBlanks: what a call returns. -/
import Derived.Test.YtlocbindafdmhaaDoorPl
namespace Go.Proofs.YtlocbindafdmhaaDoor
open Go.RowKit

/-- which blanks stand behind token number k -/
def kindR (K : List Nat) (k : Nat) : Nat := if h : k < K.length then K[k] % 6 else 0
theorem kindR_in (K : List Nat) (k : Nat) (h : k < K.length) : kindR K k = K[k] % 6 := by unfold kindR; rw [dif_pos h]
theorem kindR_out (K : List Nat) (k : Nat) (h : ¬ k < K.length) : kindR K k = 0 := by unfold kindR; rw [dif_neg h]
theorem six (y : Nat) : y % 6 = 0 ∨ y % 6 = 1 ∨ y % 6 = 2 ∨ y % 6 = 3 ∨ y % 6 = 4 ∨ y % 6 = 5 := by omega

set_option maxHeartbeats 6400000 in
set_option maxRecDepth 100000 in
theorem tokenBlanks_walk (A : Option Addr) (n cap : Nat) (L : List Td) (B : Option Addr) (nb cb : Nat) (K : List Nat) (w : World) (h : TA w A L) (hu : ∀ t ∈ L, t.u.size ≤ 9223372036854775807) (hn : L.length = n) (hc : n ≤ cap) (hcap : cap ≤ 9223372036854775807) (hk : KIn w B K) (hK : ∀ x ∈ K, x ≤ 255) (hnb : K.length = nb) (hnb2 : nb ≤ 9223372036854775807) :
    Calls Tryd.prog 6 #[.slice A n cap, .slice B nb cb] w fun e w' => e = .returned (.bool true) ∧ Below w.heap.size w w' := by
  have H0 := Lib.hid h; clear h
  have H := H0
  have HK0 := Lib.hid hk; clear hk
  have HK := Lib.hid hK; clear hK
  have HNB := Lib.hid hnb; clear hnb
  have HS := Lib.hid (fun w (h : TkIn w A L) => small_any A cap L w h hu (by omega))
  rw [hn] at HS
  clear hu
  cases hv : smallB L with
  | false =>
    rw [hv] at HS
    clear hv hn
    go_enter Tryd.func6, Tryd.ntmps6
    go_wp2_with fail
    ((with_reducible refine (awake_any _ H.out.pr).mono ?_); rintro e w1 ⟨rfl, hb1⟩)
    have HB := Lib.hid hb1
    replace H := Lib.hid (H.out.below hb1)
    clear hb1
    go_wp2_with fail
    ((with_reducible refine (HS.out _ H.out.tk).mono ?_); rintro e w2 ⟨rfl, hb2⟩)
    replace HB := Lib.hid (below_then HB.out hb2)
    replace H := Lib.hid (H.out.below hb2)
    clear hb2
    go_wp2_with fail
    ((with_reducible refine (awake_any _ H.out.pr).mono ?_); rintro e w3 ⟨rfl, hb3⟩)
    go_wp2_with fail
    go_ret
    exact ⟨rfl, below_then HB.out hb3⟩
  | true =>
    rw [hv] at HS
    by_cases h60 : nb ≤ 60
    · have q60 : (nb : Int) ≤ 60 := by omega
      have h40 := small_few hv
      have hn40 : n ≤ 40 := by omega
      have HJ := Lib.hid (fun w (h : TA w A L) => tjoin_any A n cap L w h.tk h.tb (fun t ht => by have := small_short hv t ht; omega) hn (by omega) hc hcap (fun hj => by have := small_join hv hj; omega))
      have HSH := Lib.hid (small_short hv)
      have HN := Lib.hid hn
      clear hv hn h40
      cases hj : joinB L with
      | false =>
        rw [joinRet_no hj] at HJ
        clear hj
        go_enter Tryd.func6, Tryd.ntmps6
        go_wp2_with fail
        ((with_reducible refine (awake_any _ H.out.pr).mono ?_); rintro e w1 ⟨rfl, hb1⟩)
        have HB := Lib.hid hb1
        replace H := Lib.hid (H.out.below hb1)
        clear hb1
        go_wp2_with fail
        ((with_reducible refine (HS.out _ H.out.tk).mono ?_); rintro e w2 ⟨rfl, hb2⟩)
        replace HB := Lib.hid (below_then HB.out hb2)
        replace H := Lib.hid (H.out.below hb2)
        clear hb2
        go_wp2_with fail
        ((with_reducible refine (HJ.out _ H.out).mono ?_); rintro e w3 ⟨rfl, hb3⟩)
        replace HB := Lib.hid (below_then HB.out hb3)
        clear hb3
        go_wp2_with fail
        go_ret
        exact ⟨rfl, HB.out⟩
      | true =>
        rw [joinRet_yes hj] at HJ
        have HTX := Lib.hid (fun t ht => tx_len t (joinB_all L hj t ht) (HSH.out t ht))
        have HOK := Lib.hid (joinB_all L hj)
        obtain ⟨M, hM, hM2⟩ := tokens_blanks L (kindR K) hj HTX.out (by have := HN.out; omega)
        have HM := Lib.hid hM
        have HM2 := Lib.hid hM2
        have HNN := Lib.hid (want_nonneg L (kindR K) hj)
        obtain ⟨s0, hs0⟩ : ∃ s : ByteArray, s = ⟨(joinL L).toArray⟩ := ⟨_, rfl⟩
        rw [← hs0] at HJ
        clear hs0 hM hM2 hj
        obtain ⟨i0, hi, hz0, hz1, hz2⟩ := info_parts tkInfo
        have HI := Lib.hid (And.intro hi (And.intro hz0 (And.intro hz1 hz2)))
        clear hi hz0 hz1 hz2
        go_enter Tryd.func6, Tryd.ntmps6
        go_wp2_with fail
        ((with_reducible refine (awake_any _ H.out.pr).mono ?_); rintro e w1 ⟨rfl, hb1⟩)
        have HB := Lib.hid hb1
        replace H := Lib.hid (H.out.below hb1)
        clear hb1
        go_wp2_with fail
        ((with_reducible refine (HS.out _ H.out.tk).mono ?_); rintro e w2 ⟨rfl, hb2⟩)
        replace HB := Lib.hid (below_then HB.out hb2)
        replace H := Lib.hid (H.out.below hb2)
        clear hb2
        go_wp2_with fail
        ((with_reducible refine (HJ.out _ H.out).mono ?_); rintro e w3 ⟨rfl, hb3⟩)
        replace HB := Lib.hid (below_then HB.out hb3)
        clear hb3 H HJ HS
        go_wp2_with fail
        go_loopg [7, 8, 39] (n) (fun g sv vx i wr => ∃ (k : Nat) (s : ByteArray) (vv : Value), k + g = n ∧ sv = .string s ∧ i = .int .i64 k ∧ vv = vx ∧ s.data.toList = segT (segTo L (kindR K) k) ∧ wr.ownsRow w.heap.size 33 5 vv ((segTo L (kindR K) k).map (·.1)).length (tdRow ((segTo L (kindR K) k).map (·.1))) ∧ Below w.heap.size w wr)
        case atStart => exact ⟨0, ⟨#[]⟩, _, by omega, rfl, rfl, rfl, rfl, World.ownsRow_nil _ _ _ _, HB.out⟩
        case round =>
          obtain ⟨k, s, vv, hk, rfl, rfl, rfl, hs, hown, hB⟩ := hrel
          have HKG := Lib.hid hk
          have HSS := Lib.hid hs
          have HO := Lib.hid hown
          replace HB := Lib.hid hB
          have hle : k ≤ n := by omega
          obtain ⟨hl1, hl2⟩ := segTo_len L (kindR K) HTX.out k (by rw [HN.out]; exact hle)
          have hs1 : s.size ≤ 209 * k := by rw [← len_byte, hs]; exact hl2
          have hsz : w.heap.size ≤ wr.heap.size := HB.out.size
          have hlen : ((segTo L (kindR K) k).map (·.1)).length ≤ k := by rw [List.length_map]; exact hl1
          clear hk hs hown hB hl2 hl1
          by_cases hlt : k < n
          · have hlt' : k < L.length := by rw [HN.out]; exact hlt
            obtain ⟨ad, rfl, hp, c0, c1, c2, c3, c4⟩ := (H0.out.below HB.out).tk k hlt'
            have HOKx := Lib.hid (HOK.out _ (List.getElem_mem hlt'))
            have HSHx := Lib.hid (HSH.out _ (List.getElem_mem hlt'))
            have htx := HTX.out _ (List.getElem_mem hlt')
            have HE5 := Lib.hid (segTo_end L (kindR K) k hlt')
            have HNX := Lib.hid (segTo_next L (kindR K) k hlt')
            generalize L[k] = x at *
            clear hlt'
            by_cases h5 : x.k = 5
            · have q5 : (x.k == 5) = true := by rw [h5]; rfl
              have HE := Lib.hid (HE5.out h5)
              clear h5
              go_wp2_with fail
              go_roundg (gk - 1)
              case measure => have := HKG.out; omega
              case rel => exact ⟨k + 1, s, vv, by have := HKG.out; omega, rfl, by go_num, rfl, by rw [HE.out]; exact HSS.out, by rw [HE.out]; exact HO.out.alloc _, HB.out.alloc (by omega) _⟩
            · have q5 : (x.k == 5) = false := by simpa using h5
              have HE := Lib.hid (HNX.out h5)
              have HOne := Lib.hid (fun b w hk hT => one_any x b w hk hT HSHx.out HOKx.out h5)
              obtain ⟨px, hpx⟩ : ∃ y : ByteArray, y = ⟨x.tx.toArray⟩ := ⟨_, rfl⟩
              rw [← hpx] at HOne
              have HPX := Lib.hid (show px.data.toList = x.tx by rw [hpx])
              have hps : px.size ≤ 202 := by rw [← len_byte, HPX.out]; exact htx
              clear h5 hpx htx
              go_wp2_with fail
              have HR1 := Lib.hid (read_one 33 (wr.alloc (.cells #[.int .i64 x.k, .string x.u, .int .i64 x.n, .int .i64 x.l, .int .i64 x.c] 33)) x)
              have HT1 := Lib.hid (((H0.out.below HB.out).tb.below (below_alloc wr (.cells #[.int .i64 x.k, .string x.u, .int .i64 x.n, .int .i64 x.l, .int .i64 x.c] 33))).below (below_alloc (wr.alloc (.cells #[.int .i64 x.k, .string x.u, .int .i64 x.n, .int .i64 x.l, .int .i64 x.c] 33)) (.cells #[.int .i64 x.k, .string x.u, .int .i64 x.n, .int .i64 x.l, .int .i64 x.c] 33)))
              rw [World.size_alloc] at HR1
              ((with_reducible refine (HOne.out _ _ HR1.out HT1.out).mono ?_); rintro e w5 ⟨rfl, hb5⟩)
              have hb5' := below_then (below_alloc _ _) hb5
              obtain ⟨t0, t1, t2, t3, t4, ft0, ft1, ft2, ft3, ft4⟩ := tk_facts hb5'
              replace HO := Lib.hid (own_below (HO.out.alloc _) hb5')
              replace HB := Lib.hid (below_then (below_then HB.out (below_alloc wr _)) hb5')
              have hsz5 : w.heap.size ≤ w5.heap.size := HB.out.size
              clear hb5 hb5' HR1 HT1 c0 c1 c2 c3 c4
              go_wp2_with (at_builtin; refine wpList_append_own _ rfl _ _ 23 rfl w.heap.size 33 i0 (.agg #[.int .i64 0, .string ⟨#[]⟩, .int .i64 0, .int .i64 0, .int .i64 0]) 5 48 Tryd.underlying23 HI.out.1 HI.out.2.1 HI.out.2.2.1 HI.out.2.2.2 rfl (by decide) vv _ _ rfl (HO.out.alloc _) ⟨w5.heap.size, 0, none⟩ 1 1 x.cells rfl rfl ?c1 ?c2 ?c3 ?c4 ?c5 ?_)
              case c1 =>
                intro j u hj
                match j, hj with
                | 0, hj => simp [Td.cells] at hj; subst hj; simp [Addr.add]
                | 1, hj => simp [Td.cells] at hj; subst hj; simp [Addr.add]
                | 2, hj => simp [Td.cells] at hj; subst hj; simp [Addr.add]
                | 3, hj => simp [Td.cells] at hj; subst hj; simp [Addr.add]
                | 4, hj => simp [Td.cells] at hj; subst hj; simp [Addr.add]
                | j + 5, hj => simp [Td.cells] at hj
              case c2 => intro u hu; simp [Td.cells] at hu; rcases hu with rfl | rfl | rfl | rfl | rfl <;> rfl
              case c3 => unfold maxLen; omega
              case c4 => omega
              case c5 => simp; omega
              intro v7 w7 hown7 hgrow7 _
              replace HB := Lib.hid (Below.grown (row := vv.ownBlock) (HB.out.alloc (by omega) _) hgrow7 (by simp; omega) (fun k hk => (HO.out.lt k hk).1))
              have HO7 := Lib.hid (show w7.ownsRow w.heap.size 33 5 v7 ((segTo L (kindR K) (k + 1)).map (·.1)).length (tdRow ((segTo L (kindR K) (k + 1)).map (·.1))) by
                rw [HE.out, List.map_append, tdRow_append, List.length_append, List.length_map]; exact hown7)
              have hsz7 : w.heap.size ≤ w7.heap.size := HB.out.size
              clear hown7 hgrow7 HO t0 t1 t2 t3 t4 ft0 ft1 ft2 ft3 ft4
              by_cases hkk : k < nb
              · have hkk' : k < K.length := by rw [HNB.out]; exact hkk
                obtain ⟨bd, rfl, hbp, b0⟩ := (HK0.out.below HB.out) k hkk'
                have hy := HK.out _ (List.getElem_mem hkk')
                have HR := Lib.hid (kindR_in K k hkk')
                generalize K[k] = y at *
                clear hkk'
                rcases six y with h6 | h6 | h6 | h6 | h6 | h6
                · have HG := Lib.hid (show gapL (kindR K k) = [32] by rw [HR.out, h6]; rfl)
                  have r1 : (y : Int) % 6 = 0 := by omega
                  have r2 : Int.tmod (y : Int) 6 = 0 := by rw [Int.tmod_eq_emod_of_nonneg (by omega)]; omega
                  go_wp2_with fail
                  go_roundg (gk - 1)
                  case measure => have := HKG.out; omega
                  case rel => exact ⟨k + 1, _, v7, by have := HKG.out; omega, rfl, by go_num, rfl, by rw [HE.out, segT_snoc, cat_list, cat_list, HSS.out, HPX.out, HG.out], HO7.out.alloc _, HB.out.alloc (by omega) _⟩
                · have HG := Lib.hid (show gapL (kindR K k) = [32, 32] by rw [HR.out, h6]; rfl)
                  have r1 : (y : Int) % 6 = 1 := by omega
                  have r2 : Int.tmod (y : Int) 6 = 1 := by rw [Int.tmod_eq_emod_of_nonneg (by omega)]; omega
                  go_wp2_with fail
                  go_roundg (gk - 1)
                  case measure => have := HKG.out; omega
                  case rel => exact ⟨k + 1, _, v7, by have := HKG.out; omega, rfl, by go_num, rfl, by rw [HE.out, segT_snoc, cat_list, cat_list, HSS.out, HPX.out, HG.out], HO7.out.alloc _, HB.out.alloc (by omega) _⟩
                · have HG := Lib.hid (show gapL (kindR K k) = [10] by rw [HR.out, h6]; rfl)
                  have r1 : (y : Int) % 6 = 2 := by omega
                  have r2 : Int.tmod (y : Int) 6 = 2 := by rw [Int.tmod_eq_emod_of_nonneg (by omega)]; omega
                  go_wp2_with fail
                  go_roundg (gk - 1)
                  case measure => have := HKG.out; omega
                  case rel => exact ⟨k + 1, _, v7, by have := HKG.out; omega, rfl, by go_num, rfl, by rw [HE.out, segT_snoc, cat_list, cat_list, HSS.out, HPX.out, HG.out], HO7.out.alloc _, HB.out.alloc (by omega) _⟩
                · have HG := Lib.hid (show gapL (kindR K k) = [9, 13, 10, 32] by rw [HR.out, h6]; rfl)
                  have r1 : (y : Int) % 6 = 3 := by omega
                  have r2 : Int.tmod (y : Int) 6 = 3 := by rw [Int.tmod_eq_emod_of_nonneg (by omega)]; omega
                  go_wp2_with fail
                  go_roundg (gk - 1)
                  case measure => have := HKG.out; omega
                  case rel => exact ⟨k + 1, _, v7, by have := HKG.out; omega, rfl, by go_num, rfl, by rw [HE.out, segT_snoc, cat_list, cat_list, HSS.out, HPX.out, HG.out], HO7.out.alloc _, HB.out.alloc (by omega) _⟩
                · have HG := Lib.hid (show gapL (kindR K k) = [32, 35, 32, 34, 97, 10] by rw [HR.out, h6]; rfl)
                  have r1 : (y : Int) % 6 = 4 := by omega
                  have r2 : Int.tmod (y : Int) 6 = 4 := by rw [Int.tmod_eq_emod_of_nonneg (by omega)]; omega
                  go_wp2_with fail
                  go_roundg (gk - 1)
                  case measure => have := HKG.out; omega
                  case rel => exact ⟨k + 1, _, v7, by have := HKG.out; omega, rfl, by go_num, rfl, by rw [HE.out, segT_snoc, cat_list, cat_list, HSS.out, HPX.out, HG.out], HO7.out.alloc _, HB.out.alloc (by omega) _⟩
                · have HG := Lib.hid (show gapL (kindR K k) = [35, 10, 35, 120, 32, 35, 10] by rw [HR.out, h6]; rfl)
                  have r1 : (y : Int) % 6 = 5 := by omega
                  have r2 : Int.tmod (y : Int) 6 = 5 := by rw [Int.tmod_eq_emod_of_nonneg (by omega)]; omega
                  go_wp2_with fail
                  go_roundg (gk - 1)
                  case measure => have := HKG.out; omega
                  case rel => exact ⟨k + 1, _, v7, by have := HKG.out; omega, rfl, by go_num, rfl, by rw [HE.out, segT_snoc, cat_list, cat_list, HSS.out, HPX.out, HG.out], HO7.out.alloc _, HB.out.alloc (by omega) _⟩
              · have HG := Lib.hid (show gapL (kindR K k) = [32] by rw [kindR_out K k (by rw [HNB.out]; exact hkk)]; rfl)
                go_wp2_with fail
                go_roundg (gk - 1)
                case measure => have := HKG.out; omega
                case rel => exact ⟨k + 1, _, v7, by have := HKG.out; omega, rfl, by go_num, rfl, by rw [HE.out, segT_snoc, cat_list, cat_list, HSS.out, HPX.out, HG.out], HO7.out.alloc _, HB.out.alloc (by omega) _⟩
          · obtain rfl : k = n := by omega
            have HTK := Lib.hid (fun w hp => tokens_any s w hp)
            rw [HSS.out, show k = L.length from HN.out.symm, HM.out] at HTK
            have hlen40 : ((segTo L (kindR K) L.length).map (·.1)).length ≤ 40 := by rw [HN.out]; omega
            rw [show k = L.length from HN.out.symm] at HO
            obtain ⟨hMN, hlk⟩ := like_of M _ HM2.out HNN.out
            have HLK := Lib.hid hlk; clear hlk
            generalize (segTo L (kindR K) L.length).map (·.1) = W at *
            clear HM2 HM HNN HSS
            go_wp2_with fail
            ((with_reducible refine (HTK.out _ (H0.out.below HB.out).pr).mono ?_); rintro e w6 ⟨v6, he, hown6, hb6⟩)
            have he' : e = .returned (.tuple #[v6, .agg #[.int .i64 0, .int .i64 0], .int .i64 0]) := he
            clear he; subst he'
            have HO6 := Lib.hid (show w6.ownsRow wr.heap.size 33 5 v6 M.length (tkRow M) from hown6)
            have hs6 := hb6.size
            have hvr : ∀ b, vv.ownBlock = some b → b < wr.heap.size := fun b hb => (HO.out.lt b hb).2
            replace HO := Lib.hid (own_below HO.out hb6)
            replace HB := Lib.hid (below_then HB.out hb6)
            have hvl : ∀ b, vv.ownBlock = some b → w.heap.size ≤ b ∧ b < w6.heap.size := HO.out.lt
            clear hown6 hb6
            go_wp2_with (at_builtin; refine wpList_append_wanted rfl _ _ 23 rfl w.heap.size 33 i0 (.agg #[.int .i64 0, .string ⟨#[]⟩, .int .i64 0, .int .i64 0, .int .i64 0]) 5 48 Tryd.underlying23 HI.out.1 HI.out.2.1 HI.out.2.2.1 HI.out.2.2.2 rfl (by decide) vv _ _ rfl ((HO.out.alloc _).alloc _) ⟨w6.heap.size + 1, 0, none⟩ 1 1 endT.cells rfl rfl ?c1 ?c2 ?c3 ?c4 ?c5 ?_)
            case c1 =>
              intro j u hj
              match j, hj with
              | 0, hj => simp [endT, Td.cells] at hj; subst hj; simp [Addr.add]
              | 1, hj => simp [endT, Td.cells] at hj; subst hj; simp [Addr.add]
              | 2, hj => simp [endT, Td.cells] at hj; subst hj; simp [Addr.add]
              | 3, hj => simp [endT, Td.cells] at hj; subst hj; simp [Addr.add]
              | 4, hj => simp [endT, Td.cells] at hj; subst hj; simp [Addr.add]
              | j + 5, hj => simp [endT, Td.cells] at hj
            case c2 => intro u hu; simp [endT, Td.cells] at hu; rcases hu with rfl | rfl | rfl | rfl | rfl <;> rfl
            case c3 => unfold maxLen; omega
            case c4 => omega
            case c5 => simp; omega
            intro v7 w7 hown7 hgrow7 _
            have hlt6 : ∀ b, v6.ownBlock = some b → wr.heap.size ≤ b := fun b hb => (HO6.out.lt b hb).1
            have HK6 := Lib.hid (((HO6.out.alloc _).alloc _).kept hgrow7 (by
              cases hv6 : v6.ownBlock with
              | none => exact .inl rfl
              | some b =>
                refine .inr fun he => ?_
                have h1 := hlt6 b hv6
                have h2 := hvr b he.symm
                omega))
            replace HB := Lib.hid (Below.grown (row := vv.ownBlock) ((HB.out.alloc (by omega) _).alloc (by simp; omega) _) hgrow7 (by simp; omega) (fun k hk => (hvl k hk).1))
            have HO7 := Lib.hid hown7
            clear hown7 hgrow7 HO HO6 hlt6
            obtain ⟨A2, cp2, hv2, ht2, hl2, _, _⟩ := own_tkin (L := W ++ [endT]) (n := W.length + 1) (by have := HO7.out; rw [tdRow_append]; exact this)
            subst hv2
            have HW2 := Lib.hid ht2; clear ht2
            obtain ⟨A1, cp1, hv1, ht1, hl1, _, _⟩ := own_tkin (L := M.map tkTd) (n := M.length) (by rw [← tkRow_td]; exact HK6.out)
            have hMN2 : M.length = W.length + 1 := by rw [hMN]; simp
            rw [hMN2] at hv1 hl1
            subst hv1
            have HW1 := Lib.hid ht1
            have HL1 := Lib.hid hl1
            have HL2 := Lib.hid hl2
            clear ht1 HO7 HK6 hl1 hl2 hMN hMN2
            go_wp2_with fail
            ((with_reducible refine (same_any A1 A2 (W.length + 1) cp1 cp2 (M.map tkTd) (W ++ [endT]) _ HW1.out HW2.out HL1.out HL2.out (by omega) HLK.out).mono ?_); rintro e w8 ⟨rfl, hb8⟩)
            go_wp2_with fail
            go_ret
            exact ⟨rfl, below_then HB.out hb8⟩
    · have q60 : (60 : Int) < (nb : Int) := by omega
      clear hv hn
      go_enter Tryd.func6, Tryd.ntmps6
      go_wp2_with fail
      ((with_reducible refine (awake_any _ H.out.pr).mono ?_); rintro e w1 ⟨rfl, hb1⟩)
      have HB := Lib.hid hb1
      replace H := Lib.hid (H.out.below hb1)
      clear hb1
      go_wp2_with fail
      ((with_reducible refine (HS.out _ H.out.tk).mono ?_); rintro e w2 ⟨rfl, hb2⟩)
      replace HB := Lib.hid (below_then HB.out hb2)
      replace H := Lib.hid (H.out.below hb2)
      clear hb2
      go_wp2_with fail
      ((with_reducible refine (awake_any _ H.out.pr).mono ?_); rintro e w3 ⟨rfl, hb3⟩)
      go_wp2_with fail
      go_ret
      exact ⟨rfl, below_then HB.out hb3⟩
end Go.Proofs.YtlocbindafdmhaaDoor
