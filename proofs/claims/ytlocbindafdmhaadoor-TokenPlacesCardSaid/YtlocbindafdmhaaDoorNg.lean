/- Join of package token: what a call returns. -/
import Derived.Test.YtlocbindafdmhaaDoorNf
namespace Go.Proofs.YtlocbindafdmhaaDoor
open Go.RowKit

theorem ret_ss {a b : ByteArray} (h : a = b) : Ending.returned (.tuple #[.string a, .int .i64 0]) = .returned (.tuple #[.string b, .int .i64 0]) := by rw [h]
theorem ttext_td (x : Td) (w : World) (hT : Tb w) (hv : x.ok = true) :
    Calls Tryd.prog 47 #[.agg #[.int .i64 x.k, .string x.u, .int .i64 x.n, .int .i64 x.l, .int .i64 x.c]] w fun e w' => e = .returned (.string ⟨x.tx.toArray⟩) ∧ Below w.heap.size w w' := ttext_any x.k x.n x.l x.c x.u w hT hv
theorem bLen_any (B b : Nat) (l : List UInt8) (w : World) (h : Bld B b l w) :
    Calls Tryd.prog 48 #[.pointer (some ⟨b, 0, none⟩)] w fun e w' => e = .returned (.int .i64 l.length) ∧ w = w' :=
  (Tryd.Builder_Len_f B b (Lib.byteCells l) w h).mono fun e w' ⟨h1, h2⟩ => ⟨by rw [h1, Lib.byteCells_length], h2.symm⟩
theorem joinRet_at {L : List Td} {t : List UInt8} (h : joinB L = true) (ht : joinL L = t) : Ending.returned (.tuple #[.string ⟨t.toArray⟩, .int .i64 0]) = joinRet L := by rw [joinRet_yes h, ht]
theorem tk_kept {w2 w3 : World} {a b c d e : Value} {g : Nat} (hk : Lib.OthersKept 5 (some g) (w2.alloc (.cells #[a, b, c, d, e] 33)) w3) (hg : w2.heap.size ≠ g) :
    w3.cell? ⟨w2.heap.size, 0, none⟩ = some a ∧ w3.cell? ⟨w2.heap.size, 1, none⟩ = some b ∧ w3.cell? ⟨w2.heap.size, 2, none⟩ = some c ∧ w3.cell? ⟨w2.heap.size, 3, none⟩ = some d ∧ w3.cell? ⟨w2.heap.size, 4, none⟩ = some e := by
  have b0 : w3.heap[w2.heap.size]? = some (.cells #[a, b, c, d, e] 33 (0, 0)) :=
    hk _ _ (Array.getElem?_push_size ..) (fun h => hg (Option.some.inj h)) (fun cs fz h => by injection h with _ h; exact absurd h (by decide))
  refine ⟨?_, ?_, ?_, ?_, ?_⟩
  all_goals (rw [Lib.cell_of_heap b0]; rfl)
theorem bld_ne {w wr : World} {acc : List UInt8} (h : LB w wr acc) : wr.heap.size ≠ w.heap.size := by
  have h1 : w.heap.size < wr.heap.size := by
    rcases h.1 with h | h
    · exact h.lt
    · exact h.lt
  omega
set_option maxHeartbeats 6400000 in
set_option maxRecDepth 100000 in
theorem tjoin_any (A : Option Addr) (n cap : Nat) (L : List Td) (w : World) (h : TkIn w A L) (hT : Tb w) (hu : ∀ t ∈ L, t.u.size ≤ 9223372036854775000) (hn : L.length = n) (hn4 : n ≤ 4000) (hc : n ≤ cap) (hcap : cap ≤ 9223372036854775807) (hsz : joinB L = true → (joinL L).length ≤ 16384) :
    Calls Tryd.prog 21 #[.slice A n cap] w fun e w' => e = joinRet L ∧ Below w.heap.size w w' := by
  have H0 := Lib.hid (show JS w w A L from ⟨h, hT, Below.refl _ _⟩); clear h hT
  have HU := Lib.hid hu; clear hu
  have HZ := Lib.hid hsz; clear hsz
  have HN := Lib.hid hn; clear hn
  go_enter Tryd.func21, Tryd.ntmps21
  go_wp2_with fail
  go_loopg [5, 11] (n) (fun g _ i wr => ∃ k : Nat, k + g = n ∧ i = .int .i64 k ∧ okTo L k = true ∧ JS w wr A L)
  case atStart => exact ⟨0, by omega, rfl, rfl, H0.out⟩
  case round =>
    obtain ⟨k, hk, rfl, hok, hJ⟩ := hrel
    have HK := Lib.hid hk
    have HO := Lib.hid hok
    have HJ := Lib.hid hJ
    have hle : k ≤ n := by omega
    clear hk hok hJ H0
    by_cases hlt : k < n
    · have hlt' : k < L.length := by rw [HN.out]; exact hlt
      obtain ⟨ad, rfl, hp, c0, c1, c2, c3, c4⟩ := HJ.out.tk k hlt'
      have HL := Lib.hid (HU.out _ (List.getElem_mem hlt'))
      have HA := Lib.hid (okAt_at L k hlt')
      have HS := Lib.hid (okTo_succ L k)
      have HNO := Lib.hid (joinB_no L k hlt')
      generalize L[k] = x at *
      clear hlt'
      have HX := Lib.hid (fun w => tvalid_any x.k x.n x.l x.c x.u w HL.out)
      cases hv : x.ok with
      | false =>
        have HV := Lib.hid hv; clear hv
        have HR := Lib.hid (joinRet_no (HNO.out (by rw [HA.out, HV.out]; rfl)))
        go_wp2_with fail
        ((with_reducible refine (HX.out _).mono ?_); rintro e w1 ⟨rfl, hb1⟩)
        rw [show validB x.k x.n x.u.data.toList = false from HV.out]
        go_wp2_with fail
        go_ret2
        exact ⟨HR.out.symm, below_then HJ.out.bel (below_then (below_alloc wr _) hb1)⟩
      | true =>
        have HV := Lib.hid hv; clear hv
        by_cases h5 : x.k = 5
        · have q5 : (x.k == 5) = true := by rw [h5]; rfl
          by_cases hl : k + 1 < n
          · have q6 : decide ((k : Int) < (n : Int) - 1) = true := by simp; omega
            have HR := Lib.hid (joinRet_no (HNO.out (by rw [HA.out, HV.out, h5, HN.out]; simp [hl])))
            clear h5
            go_wp2_with fail
            ((with_reducible refine (HX.out _).mono ?_); rintro e w1 ⟨rfl, hb1⟩)
            rw [show validB x.k x.n x.u.data.toList = true from HV.out]
            obtain ⟨t0, t1, t2, t3, t4, ft0, ft1, ft2, ft3, ft4⟩ := tk_facts hb1
            have HC := Lib.hid hb1
            clear hb1
            go_wp2_with fail
            go_ret2
            exact ⟨HR.out.symm, below_then HJ.out.bel (below_then (below_alloc wr _) HC.out)⟩
          · have q6 : decide ((k : Int) < (n : Int) - 1) = false := by simp; omega
            have HY := Lib.hid (show okTo L (k + 1) = true by rw [HS.out, HO.out, HA.out, HV.out, HN.out]; simp [hl])
            clear h5
            go_wp2_with fail
            ((with_reducible refine (HX.out _).mono ?_); rintro e w1 ⟨rfl, hb1⟩)
            rw [show validB x.k x.n x.u.data.toList = true from HV.out]
            obtain ⟨t0, t1, t2, t3, t4, ft0, ft1, ft2, ft3, ft4⟩ := tk_facts hb1
            have HC := Lib.hid hb1
            clear hb1
            go_wp2_with fail
            go_roundg (gk - 1)
            case measure => have := HK.out; omega
            case rel => exact ⟨k + 1, by have := HK.out; omega, by go_num, HY.out, HJ.out.below (below_then (below_alloc wr _) HC.out)⟩
        · have q5 : (x.k == 5) = false := by simpa using h5
          have HY := Lib.hid (show okTo L (k + 1) = true by rw [HS.out, HO.out, HA.out, HV.out]; simp [h5])
          clear h5
          go_wp2_with fail
          ((with_reducible refine (HX.out _).mono ?_); rintro e w1 ⟨rfl, hb1⟩)
          rw [show validB x.k x.n x.u.data.toList = true from HV.out]
          obtain ⟨t0, t1, t2, t3, t4, ft0, ft1, ft2, ft3, ft4⟩ := tk_facts hb1
          have HC := Lib.hid hb1
          clear hb1
          go_wp2_with fail
          go_roundg (gk - 1)
          case measure => have := HK.out; omega
          case rel => exact ⟨k + 1, by have := HK.out; omega, by go_num, HY.out, HJ.out.below (below_then (below_alloc wr _) HC.out)⟩
    · have hkn : k = n := by omega
      have HB := Lib.hid (show joinB L = true by unfold joinB; rw [HN.out, ← hkn]; exact HO.out)
      clear HO HK
      subst hkn
      obtain ⟨wo, rfl⟩ : ∃ wo : World, wo = wr := ⟨_, rfl⟩
      by_cases hz : k = 0
      · subst hz
        have HM := Lib.hid (bodyN_nil L HN.out)
        obtain ⟨m, rfl⟩ : ∃ m, m = 0 := ⟨0, rfl⟩
        have HW := Lib.hid (LB.start wo)
        have hml : 0 ≤ L.length := by rw [HN.out]; omega
        have HZ2 := Lib.hid (show (jn (L.take 0)).length ≤ 16384 by have := HZ.out HB.out; unfold joinL at this; rw [HM.out] at this; exact this)
        go_wp2_with fail
        go_loopg [8, 55] (0) (fun g _ i wr => ∃ j : Nat, j + g = 0 ∧ i = .int .i64 j ∧ LB wo wr (jn (L.take j)))
        case atStart => exact ⟨0, by omega, rfl, by simpa [jn] using HW.out⟩
        case round =>
          obtain ⟨j, hj, rfl, hLB⟩ := hrel
          have HK := Lib.hid hj
          have hle : j ≤ 0 := by omega
          have HLB := Lib.hid hLB
          have HJ2 := Lib.hid (HJ.out.below hLB.2)
          have hlen := Nat.le_trans (jn_take_le L 0 j hle hml) HZ2.out
          have HLn := Lib.hid hlen
          clear hj hLB HW hlen
          by_cases hlt : j < 0
          · exact absurd hlt (by omega)
          · have hjm : j = 0 := by omega
            have HF := Lib.hid (show joinL L = jn (L.take j) by unfold joinL; rw [HM.out, hjm])
            clear hjm
            have hlen3 := HLn.out
            go_wp2_with fail
            ((with_reducible refine (bLen_any wo.heap.size wo.heap.size _ _ HLB.out.bld).mono ?_); rintro e w1 ⟨rfl, rfl⟩)
            go_wp2_with fail
            ((with_reducible refine (bString_any wo.heap.size wo.heap.size _ _ HLB.out.bld HLB.out.size).mono ?_); rintro e w2 ⟨rfl, hB2, hl2, _⟩)
            go_wp2_with fail
            go_ret2
            exact ⟨joinRet_at HB.out HF.out, below_then HJ.out.bel (HLB.out.2.trans hl2)⟩
      · obtain ⟨m, rfl⟩ : ∃ m, k = m + 1 := ⟨k - 1, by omega⟩
        have hlt' : m < L.length := by rw [HN.out]; omega
        obtain ⟨ad, rfl, hp, c0, c1, c2, c3, c4⟩ := HJ.out.tk m hlt'
        by_cases h5 : L[m].k = 5
        · have q5 : (L[m].k == 5) = true := by rw [h5]; rfl
          have HM := Lib.hid (bodyN_end L m HN.out h5)
          generalize L[m] = y at *
          clear h5 hlt'
          have HW := Lib.hid (LB.start wo)
          have hml : m ≤ L.length := by rw [HN.out]; omega
          have HZ2 := Lib.hid (show (jn (L.take m)).length ≤ 16384 by have := HZ.out HB.out; unfold joinL at this; rw [HM.out] at this; exact this)
          go_wp2_with fail
          clear c0 c1 c2 c3 c4 hp q5
          go_loopg [8, 55] (m) (fun g _ i wr => ∃ j : Nat, j + g = m ∧ i = .int .i64 j ∧ LB wo wr (jn (L.take j)))
          case atStart => exact ⟨0, by omega, rfl, by simpa [jn] using HW.out⟩
          case round =>
            obtain ⟨j, hj, rfl, hLB⟩ := hrel
            have HK := Lib.hid hj
            have hle : j ≤ m := by omega
            have HLB := Lib.hid hLB
            have HJ2 := Lib.hid (HJ.out.below hLB.2)
            have hlen := Nat.le_trans (jn_take_le L m j hle hml) HZ2.out
            have HLn := Lib.hid hlen
            clear hj hLB HW hlen
            by_cases hlt : j < m
            · have hlt' : j < L.length := by omega
              obtain ⟨ad2, had, hp, c0, c1, c2, c3, c4⟩ := HJ2.out.tk j hlt'; obtain rfl := Option.some.inj had
              have HOK := Lib.hid (joinB_ok L j hlt' HB.out)
              have HTK := Lib.hid (jn_take L j hlt')
              have hlen2 := Nat.le_trans (jn_take_le L m (j + 1) hlt hml) HZ2.out
              have HLn2 := Lib.hid hlen2
              generalize L[j] = x at *
              clear hlt' hlen2
              have HW2 := Lib.hid (HLB.out.below (below_alloc wr (.cells #[.int .i64 x.k, .string x.u, .int .i64 x.n, .int .i64 x.l, .int .i64 x.c] 33)))
              have HT2 := Lib.hid (HJ2.out.tb.below (below_alloc wr (.cells #[.int .i64 x.k, .string x.u, .int .i64 x.n, .int .i64 x.l, .int .i64 x.c] 33)))
              by_cases hj0 : j = 0
              · have HE := Lib.hid (show jn (L.take (j + 1)) = jn (L.take j) ++ x.tx by rw [HTK.out, if_pos hj0, hj0]; simp [jn])
                have q7 : (j : Int) ≤ 0 := by omega
                clear hj0
                go_wp2_with fail
                ((with_reducible refine (ttext_td x _ HT2.out HOK.out).mono ?_); rintro e w1 ⟨rfl, hb1⟩)
                replace HW2 := Lib.hid (HW2.out.below hb1)
                clear hb1
                go_wp2_with fail
                ((with_reducible refine (writeString_any wo.heap.size wo.heap.size _ _ _ HW2.out.bld (by have h1 := HLn2.out; rw [HE.out, List.length_append] at h1; rw [← len_byte]; exact Nat.le_trans h1 (by decide)) HW2.out.size).mono ?_); rintro e w2 ⟨rfl, hB2, hl2, _⟩)
                replace HW2 := Lib.hid (HW2.out.write hB2 hl2)
                clear hB2 hl2
                go_wp2_with fail
                go_roundg (gk - 1)
                case measure => have := HK.out; omega
                case rel => exact ⟨j + 1, by have := HK.out; omega, by go_num, by rw [HE.out]; exact HW2.out⟩
              · have HE := Lib.hid (show jn (L.take (j + 1)) = (jn (L.take j) ++ [32]) ++ x.tx by rw [HTK.out, if_neg hj0]; simp)
                have q7 : (0 : Int) < (j : Int) := by omega
                clear hj0
                go_wp2_with fail
                ((with_reducible refine (writeByte_at 32 32 rfl wo.heap.size wo.heap.size _ _ HW2.out.bld (by have h1 := HLn.out; exact Nat.le_trans (Nat.succ_le_succ h1) (by decide)) HW2.out.size).mono ?_); rintro e w2 ⟨rfl, hB2, hl2, hk2⟩)
                obtain ⟨d0, d1, d2, d3, d4⟩ := tk_kept hk2 (by have := HLB.out.1; exact bld_ne HLB.out)
                replace HW2 := Lib.hid (HW2.out.write hB2 hl2)
                have HT3 := Lib.hid (HJ.out.tb.below HW2.out.2)
                clear hB2 hl2 hk2
                go_wp2_with fail
                ((with_reducible refine (ttext_td x _ HT3.out HOK.out).mono ?_); rintro e w3 ⟨rfl, hb1⟩)
                replace HW2 := Lib.hid (HW2.out.below hb1)
                clear hb1
                go_wp2_with fail
                ((with_reducible refine (writeString_any wo.heap.size wo.heap.size _ _ _ HW2.out.bld (by have h1 := HLn2.out; rw [HE.out, List.length_append] at h1; rw [← len_byte]; exact Nat.le_trans h1 (by decide)) HW2.out.size).mono ?_); rintro e w4 ⟨rfl, hB2, hl2, _⟩)
                replace HW2 := Lib.hid (HW2.out.write hB2 hl2)
                clear hB2 hl2
                go_wp2_with fail
                go_roundg (gk - 1)
                case measure => have := HK.out; omega
                case rel => exact ⟨j + 1, by have := HK.out; omega, by go_num, by rw [HE.out]; exact HW2.out⟩
            · have hjm : j = m := by omega
              have HF := Lib.hid (show joinL L = jn (L.take j) by unfold joinL; rw [HM.out, hjm])
              clear hjm
              have hlen3 := HLn.out
              go_wp2_with fail
              ((with_reducible refine (bLen_any wo.heap.size wo.heap.size _ _ HLB.out.bld).mono ?_); rintro e w1 ⟨rfl, rfl⟩)
              go_wp2_with fail
              ((with_reducible refine (bString_any wo.heap.size wo.heap.size _ _ HLB.out.bld HLB.out.size).mono ?_); rintro e w2 ⟨rfl, hB2, hl2, _⟩)
              go_wp2_with fail
              go_ret2
              exact ⟨joinRet_at HB.out HF.out, below_then HJ.out.bel (HLB.out.2.trans hl2)⟩
        · have q5 : (L[m].k == 5) = false := by simpa using h5
          have HM := Lib.hid (bodyN_all L m HN.out h5)
          generalize L[m] = y at *
          clear h5 hlt'
          have HW := Lib.hid (LB.start wo)
          have hml : (m + 1) ≤ L.length := by rw [HN.out]; omega
          have HZ2 := Lib.hid (show (jn (L.take (m + 1))).length ≤ 16384 by have := HZ.out HB.out; unfold joinL at this; rw [HM.out] at this; exact this)
          go_wp2_with fail
          clear c0 c1 c2 c3 c4 hp q5
          go_loopg [8, 55] ((m + 1)) (fun g _ i wr => ∃ j : Nat, j + g = (m + 1) ∧ i = .int .i64 j ∧ LB wo wr (jn (L.take j)))
          case atStart => exact ⟨0, by omega, rfl, by simpa [jn] using HW.out⟩
          case round =>
            obtain ⟨j, hj, rfl, hLB⟩ := hrel
            have HK := Lib.hid hj
            have hle : j ≤ (m + 1) := by omega
            have HLB := Lib.hid hLB
            have HJ2 := Lib.hid (HJ.out.below hLB.2)
            have hlen := Nat.le_trans (jn_take_le L (m + 1) j hle hml) HZ2.out
            have HLn := Lib.hid hlen
            clear hj hLB HW hlen
            by_cases hlt : j < (m + 1)
            · have hlt' : j < L.length := by omega
              obtain ⟨ad2, had, hp, c0, c1, c2, c3, c4⟩ := HJ2.out.tk j hlt'; obtain rfl := Option.some.inj had
              have HOK := Lib.hid (joinB_ok L j hlt' HB.out)
              have HTK := Lib.hid (jn_take L j hlt')
              have hlen2 := Nat.le_trans (jn_take_le L (m + 1) (j + 1) hlt hml) HZ2.out
              have HLn2 := Lib.hid hlen2
              generalize L[j] = x at *
              clear hlt' hlen2
              have HW2 := Lib.hid (HLB.out.below (below_alloc wr (.cells #[.int .i64 x.k, .string x.u, .int .i64 x.n, .int .i64 x.l, .int .i64 x.c] 33)))
              have HT2 := Lib.hid (HJ2.out.tb.below (below_alloc wr (.cells #[.int .i64 x.k, .string x.u, .int .i64 x.n, .int .i64 x.l, .int .i64 x.c] 33)))
              by_cases hj0 : j = 0
              · have HE := Lib.hid (show jn (L.take (j + 1)) = jn (L.take j) ++ x.tx by rw [HTK.out, if_pos hj0, hj0]; simp [jn])
                have q7 : (j : Int) ≤ 0 := by omega
                clear hj0
                go_wp2_with fail
                ((with_reducible refine (ttext_td x _ HT2.out HOK.out).mono ?_); rintro e w1 ⟨rfl, hb1⟩)
                replace HW2 := Lib.hid (HW2.out.below hb1)
                clear hb1
                go_wp2_with fail
                ((with_reducible refine (writeString_any wo.heap.size wo.heap.size _ _ _ HW2.out.bld (by have h1 := HLn2.out; rw [HE.out, List.length_append] at h1; rw [← len_byte]; exact Nat.le_trans h1 (by decide)) HW2.out.size).mono ?_); rintro e w2 ⟨rfl, hB2, hl2, _⟩)
                replace HW2 := Lib.hid (HW2.out.write hB2 hl2)
                clear hB2 hl2
                go_wp2_with fail
                go_roundg (gk - 1)
                case measure => have := HK.out; omega
                case rel => exact ⟨j + 1, by have := HK.out; omega, by go_num, by rw [HE.out]; exact HW2.out⟩
              · have HE := Lib.hid (show jn (L.take (j + 1)) = (jn (L.take j) ++ [32]) ++ x.tx by rw [HTK.out, if_neg hj0]; simp)
                have q7 : (0 : Int) < (j : Int) := by omega
                clear hj0
                go_wp2_with fail
                ((with_reducible refine (writeByte_at 32 32 rfl wo.heap.size wo.heap.size _ _ HW2.out.bld (by have h1 := HLn.out; exact Nat.le_trans (Nat.succ_le_succ h1) (by decide)) HW2.out.size).mono ?_); rintro e w2 ⟨rfl, hB2, hl2, hk2⟩)
                obtain ⟨d0, d1, d2, d3, d4⟩ := tk_kept hk2 (by have := HLB.out.1; exact bld_ne HLB.out)
                replace HW2 := Lib.hid (HW2.out.write hB2 hl2)
                have HT3 := Lib.hid (HJ.out.tb.below HW2.out.2)
                clear hB2 hl2 hk2
                go_wp2_with fail
                ((with_reducible refine (ttext_td x _ HT3.out HOK.out).mono ?_); rintro e w3 ⟨rfl, hb1⟩)
                replace HW2 := Lib.hid (HW2.out.below hb1)
                clear hb1
                go_wp2_with fail
                ((with_reducible refine (writeString_any wo.heap.size wo.heap.size _ _ _ HW2.out.bld (by have h1 := HLn2.out; rw [HE.out, List.length_append] at h1; rw [← len_byte]; exact Nat.le_trans h1 (by decide)) HW2.out.size).mono ?_); rintro e w4 ⟨rfl, hB2, hl2, _⟩)
                replace HW2 := Lib.hid (HW2.out.write hB2 hl2)
                clear hB2 hl2
                go_wp2_with fail
                go_roundg (gk - 1)
                case measure => have := HK.out; omega
                case rel => exact ⟨j + 1, by have := HK.out; omega, by go_num, by rw [HE.out]; exact HW2.out⟩
            · have hjm : j = (m + 1) := by omega
              have HF := Lib.hid (show joinL L = jn (L.take j) by unfold joinL; rw [HM.out, hjm])
              clear hjm
              have hlen3 := HLn.out
              go_wp2_with fail
              ((with_reducible refine (bLen_any wo.heap.size wo.heap.size _ _ HLB.out.bld).mono ?_); rintro e w1 ⟨rfl, rfl⟩)
              go_wp2_with fail
              ((with_reducible refine (bString_any wo.heap.size wo.heap.size _ _ HLB.out.bld HLB.out.size).mono ?_); rintro e w2 ⟨rfl, hB2, hl2, _⟩)
              go_wp2_with fail
              go_ret2
              exact ⟨joinRet_at HB.out HF.out, below_then HJ.out.bel (HLB.out.2.trans hl2)⟩
end Go.Proofs.YtlocbindafdmhaaDoor
