/- Valid of the reference: what a call returns. -/
import Derived.Test.YtpnhcimmlnjfaaaDoorCg
namespace Go.Proofs.YtpnhcimmlnjfaaaDoor
open Go.Lib (hid)
open Go.RowKit

set_option maxHeartbeats 3200000 in
set_option maxRecDepth 100000 in
theorem rvalid_any (N : Nt) (A : Option Addr) (n c : Nat) (w : World) (h : NtIn w A N) (hn : N.tr.length = n) (hn2 : n ≤ 9223372036854775807) :
 Calls Tryd.prog 8 #[.agg #[.int .i64 N.pl, .slice A n c, .int .i64 N.src, .int .i64 N.snk]] w fun e w' => e = .returned (.bool (ntB N)) ∧ Below w.heap.size w w' := by
 obtain ⟨pl, L, src, snk⟩ := N
 simp only at hn ⊢
 have HB := hid (below_alloc w (.cells #[.int .i64 pl, .slice A n c, .int .i64 src, .int .i64 snk] 24))
 have HN := hid (NB.new w pl A n c src snk)
 have H0 := hid (h.below HB.out)
 have HM := hid hn
 have HD := hid (nt_head ⟨pl, L, src, snk⟩)
 have HT := hid (nt_tail ⟨pl, L, src, snk⟩)
 have HNo := hid (nt_no ⟨pl, L, src, snk⟩)
 simp only at HD HT HNo
 generalize ntB ⟨pl, L, src, snk⟩ = R at *
 clear h hn
 by_cases hh : 1 ≤ pl ∧ pl ≤ 40 ∧ n ≤ 60 ∧ 0 ≤ src ∧ src < pl ∧ 0 ≤ snk ∧ snk < pl
 · obtain ⟨h1, h2, h3, h4, h5, h6, h7⟩ := hh
   have hd3 : decide ((60 : Int) < (n : Int)) = false := by simp; omega
   have hd4 : decide (src < 0) = false := by simp; omega
   have hd5 : decide (pl ≤ src) = false := by simp; omega
   have hd6 : decide (snk < 0) = false := by simp; omega
   have hd7 : decide (pl ≤ snk) = false := by simp; omega
   have h3i : (n : Int) ≤ 60 := by omega
   have hd1 : decide (pl < 1) = false := by simp; omega
   have hd2 : decide (40 < pl) = false := by simp; omega
   go_enter Tryd.func8, Tryd.ntmps8
   go_wp2_with fail
   generalize w.alloc _ = w0 at HB HN H0 ⊢
   go_loopg [3] (n) (fun g iv wr => ∃ k : Nat, k + g = n ∧ iv = .int .i64 k ∧ trTo pl L k = true ∧ NB wr w.heap.size pl A n c src snk ∧ NtIn wr A ⟨pl, L, src, snk⟩ ∧ Below w.heap.size w wr)
   case atStart => exact ⟨0, by omega, rfl, rfl, HN.out, H0.out, HB.out⟩
   case round =>
    obtain ⟨k, hk, rfl, hT, hNB, hI, hB⟩ := hrel
    have HK := hid hk
    have HTo := hid hT
    have HNb := hid hNB
    have HIn := hid hI
    have HBl := hid hB
    have hle : k ≤ n := by omega
    have hnl := hNB.lt
    clear hk hT hNB hI hB HN H0 HB
    obtain ⟨c0, c1, c2, c3⟩ := HNb.out.cells
    by_cases hlt : k < n
    · have hlt' : k < L.length := by rw [HM.out]; exact hlt
      obtain ⟨ad, rfl, hpa, m0, ⟨u1, m1, s1⟩, u2, m2, s2⟩ := HIn.out.tr k hlt'
      have HSu := hid (trTo_succ pl L k hlt')
      have HBad := hid (fun h => HNo.out (tr_bad pl L k hlt' h))
      have hlb := HIn.out.2 _ (List.getElem_mem hlt')
      simp only at m0 m1 s1 m2 s2 HSu HBad hlb
      generalize L[k] = t at *
      clear hlt'
      obtain ⟨lb, ti, tu⟩ := t
      simp only at m0 m1 s1 m2 s2 hlb
      obtain ⟨Ai, ni, ci, rfl, zi, hi1, hi2, hi3⟩ := s1
      obtain ⟨Ao, no, co, rfl, zo, ho1, ho2, ho3⟩ := s2
      have HA := hid (below_alloc wr (.cells #[.string lb, .slice Ai ni ci, .slice Ao no co] 48))
      have HI1 := hid (fun w h => rplaces_any pl Ai ni ci ti w h hi1 (by omega))
      have HI2 := hid (fun w h => rplaces_any pl Ao no co tu w h ho1 (by omega))
      have HZi := hid (zi.below HA.out)
      have HZo := hid (zo.below HA.out)
      have HNa := hid (fun w => sisName_any lb w hlb)
      have HIa := hid (HIn.out.below HA.out)
      have HNBa := hid (HNb.out.below HA.out)
      have HBla := hid (below_then HBl.out HA.out)
      have HK2 := hid (show (wr.alloc (.cells #[.string lb, .slice Ai ni ci, .slice Ao no co] 48)).cell? ⟨wr.heap.size, 2, none⟩ = some (.slice Ao no co) by simp)
      clear zi zo hi1 ho1 hlb
      rcases empty_facts lb with ⟨e0, e1, e2, e3⟩ | ⟨e0, e2, e3⟩
      · have HLb := hid (show lb.data.toList.isEmpty = true ∨ isNameB lb.data.toList = true from .inl (by rw [e0]; rfl))
        clear e0
        cases hpi : plB pl ti with
        | false =>
         rw [hpi] at HI1
         have HV := hid (HBad.out (tr_in (t := ⟨lb, ti, tu⟩) hpi))
         clear hpi
         go_wp2_with fail
         ((with_reducible refine (HI1.out _ HZi.out).mono ?_); rintro e w1 ⟨rfl, hb1⟩)
         go_wp2_with fail
         go_ret
         exact ⟨ret_bool HV.out.symm, below_then HBla.out hb1⟩
        | true =>
         rw [hpi] at HI1
         have HPi := hid hpi
         clear hpi
         go_wp2_with fail
         ((with_reducible refine (HI1.out _ HZi.out).mono ?_); rintro e w1 ⟨rfl, hb1⟩)
         have k2 := cell_stays hb1 HK2.out
         replace HZo := hid (HZo.out.below hb1)
         replace HIa := hid (HIa.out.below hb1)
         replace HNBa := hid (HNBa.out.below hb1)
         replace HBla := hid (below_then HBla.out hb1)
         clear hb1 c0 c1 c2 c3 m0 m1 m2
         obtain ⟨c0, c1, c2, c3⟩ := HNBa.out.cells
         cases hpo : plB pl tu with
         | false =>
          rw [hpo] at HI2
          have HV := hid (HBad.out (tr_out (t := ⟨lb, ti, tu⟩) hpo))
          clear hpo
          go_wp2_with fail
          ((with_reducible refine (HI2.out _ HZo.out).mono ?_); rintro e w2 ⟨rfl, hb2⟩)
          go_wp2_with fail
          go_ret
          exact ⟨ret_bool HV.out.symm, below_then HBla.out hb2⟩
         | true =>
          rw [hpo] at HI2
          have HV := hid (show trTo pl L (k + 1) = true by rw [HSu.out, HTo.out, tr_yes (t := ⟨lb, ti, tu⟩) HLb.out HPi.out hpo]; rfl)
          clear hpo
          go_wp2_with fail
          ((with_reducible refine (HI2.out _ HZo.out).mono ?_); rintro e w2 ⟨rfl, hb2⟩)
          replace HIa := hid (HIa.out.below hb2)
          replace HNBa := hid (HNBa.out.below hb2)
          replace HBla := hid (below_then HBla.out hb2)
          clear hb2
          go_wp2_with fail
          go_roundg (gk - 1)
          case measure => have := HK.out; omega
          case rel => exact ⟨k + 1, by have := HK.out; omega, by go_num, HV.out, HNBa.out, HIa.out, HBla.out⟩
      · cases hnm : isNameB lb.data.toList with
        | false =>
         rw [hnm] at HNa
         have HV := hid (HBad.out (tr_lab (t := ⟨lb, ti, tu⟩) (by simpa using e0) hnm))
         clear hnm e0
         go_wp2_with fail
         ((with_reducible refine (HNa.out _).mono ?_); rintro e w1 ⟨rfl, rfl⟩)
         go_wp2_with fail
         go_ret
         exact ⟨ret_bool HV.out.symm, HBla.out⟩
        | true =>
         rw [hnm] at HNa
         have HLb := hid (show lb.data.toList.isEmpty = true ∨ isNameB lb.data.toList = true from .inr hnm)
         clear hnm e0
         cases hpi : plB pl ti with
         | false =>
          rw [hpi] at HI1
          have HV := hid (HBad.out (tr_in (t := ⟨lb, ti, tu⟩) hpi))
          clear hpi
          go_wp2_with fail
          ((with_reducible refine (HNa.out _).mono ?_); rintro e w1 ⟨rfl, rfl⟩)
          go_wp2_with fail
          ((with_reducible refine (HI1.out _ HZi.out).mono ?_); rintro e w1 ⟨rfl, hb1⟩)
          go_wp2_with fail
          go_ret
          exact ⟨ret_bool HV.out.symm, below_then HBla.out hb1⟩
         | true =>
          rw [hpi] at HI1
          have HPi := hid hpi
          clear hpi
          go_wp2_with fail
          ((with_reducible refine (HNa.out _).mono ?_); rintro e w1 ⟨rfl, rfl⟩)
          go_wp2_with fail
          ((with_reducible refine (HI1.out _ HZi.out).mono ?_); rintro e w1 ⟨rfl, hb1⟩)
          have k2 := cell_stays hb1 HK2.out
          replace HZo := hid (HZo.out.below hb1)
          replace HIa := hid (HIa.out.below hb1)
          replace HNBa := hid (HNBa.out.below hb1)
          replace HBla := hid (below_then HBla.out hb1)
          clear hb1 c0 c1 c2 c3 m0 m1 m2
          obtain ⟨c0, c1, c2, c3⟩ := HNBa.out.cells
          cases hpo : plB pl tu with
          | false =>
           rw [hpo] at HI2
           have HV := hid (HBad.out (tr_out (t := ⟨lb, ti, tu⟩) hpo))
           clear hpo
           go_wp2_with fail
           ((with_reducible refine (HI2.out _ HZo.out).mono ?_); rintro e w2 ⟨rfl, hb2⟩)
           go_wp2_with fail
           go_ret
           exact ⟨ret_bool HV.out.symm, below_then HBla.out hb2⟩
          | true =>
           rw [hpo] at HI2
           have HV := hid (show trTo pl L (k + 1) = true by rw [HSu.out, HTo.out, tr_yes (t := ⟨lb, ti, tu⟩) HLb.out HPi.out hpo]; rfl)
           clear hpo
           go_wp2_with fail
           ((with_reducible refine (HI2.out _ HZo.out).mono ?_); rintro e w2 ⟨rfl, hb2⟩)
           replace HIa := hid (HIa.out.below hb2)
           replace HNBa := hid (HNBa.out.below hb2)
           replace HBla := hid (below_then HBla.out hb2)
           clear hb2
           go_wp2_with fail
           go_roundg (gk - 1)
           case measure => have := HK.out; omega
           case rel => exact ⟨k + 1, by have := HK.out; omega, by go_num, HV.out, HNBa.out, HIa.out, HBla.out⟩
    · have HAll := hid (HT.out ⟨h1, h2, by rw [HM.out]; exact h3⟩ (by
       have := HTo.out
       unfold trTo at this
       rwa [List.take_of_length_le (by rw [HM.out]; omega)] at this))
      go_wp2_with fail
      go_ret
      exact ⟨ret_bool (by rw [HAll.out, decide_eq_true ⟨h4, h5, h6, h7⟩]), HBl.out⟩
 · have HV := hid (show R = false from by
    by_cases h3 : 1 ≤ pl ∧ pl ≤ 40 ∧ L.length ≤ 60
    · cases ha : L.all (trB pl) with
      | false => exact HNo.out ha
      | true => rw [HT.out h3 ha]; refine decide_eq_false (fun h4 => hh ⟨h3.1, h3.2.1, by rw [← HM.out]; exact h3.2.2, h4⟩)
    · exact HD.out h3)
   have hcase : pl < 1 ∨ (decide (pl < 1) = false ∧ 40 < pl) ∨ (decide (pl < 1) = false ∧ decide (40 < pl) = false ∧ (60 : Int) < (n : Int)) ∨ (decide (pl < 1) = false ∧ decide (40 < pl) = false ∧ decide ((60 : Int) < (n : Int)) = false ∧ src < 0) ∨ (decide (pl < 1) = false ∧ decide (40 < pl) = false ∧ decide ((60 : Int) < (n : Int)) = false ∧ decide (src < 0) = false ∧ pl ≤ src) ∨ (decide (pl < 1) = false ∧ decide (40 < pl) = false ∧ decide ((60 : Int) < (n : Int)) = false ∧ decide (src < 0) = false ∧ decide (pl ≤ src) = false ∧ snk < 0) ∨ (decide (pl < 1) = false ∧ decide (40 < pl) = false ∧ decide ((60 : Int) < (n : Int)) = false ∧ decide (src < 0) = false ∧ decide (pl ≤ src) = false ∧ decide (snk < 0) = false ∧ pl ≤ snk) := by
    simp only [decide_eq_false_iff_not]
    omega
   clear hh
   rcases hcase with h1 | ⟨d1, h1⟩ | ⟨d1, d2, h1⟩ | ⟨d1, d2, d3, h1⟩ | ⟨d1, d2, d3, d4, h1⟩ | ⟨d1, d2, d3, d4, d5, h1⟩ | ⟨d1, d2, d3, d4, d5, d6, h1⟩
   all_goals
    go_enter Tryd.func8, Tryd.ntmps8
    go_wp2_with fail
    go_ret
    exact ⟨ret_bool HV.out.symm, HB.out⟩
end Go.Proofs.YtpnhcimmlnjfaaaDoor
