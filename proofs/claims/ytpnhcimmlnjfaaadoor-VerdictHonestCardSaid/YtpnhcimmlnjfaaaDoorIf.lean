/- petri.Run: what a call returns. -/
import Derived.Test.YtpnhcimmlnjfaaaDoorIe
namespace Go.Proofs.YtpnhcimmlnjfaaaDoor
open Go.Lib (hid)
open Go.RowKit

set_option maxHeartbeats 6400000 in
set_option maxRecDepth 100000 in
theorem pFire_any (N : Nt) (A : Option Addr) (n c : Nat) (Am : Option Addr) (m cm : Nat) (M : List Int) (t : Int) (w : World) (h : NtIn w A N) (hn : N.tr.length = n) (hn2 : n ≤ 9223372036854775807) (hM : ZIn w Am M) (hm : M.length = m) (hm2 : m ≤ 9223372036854775807) :
 Calls Tryd.prog 48 #[.agg #[.int .i64 N.pl, .slice A n c, .int .i64 N.src, .int .i64 N.snk], .slice Am m cm, .int .i64 t] w (FvPo (fire21 N M t) w) := by
 have HB := hid (below_alloc w (.cells #[.int .i64 N.pl, .slice A n c, .int .i64 N.src, .int .i64 N.snk] 24))
 have HNb := hid (NB.new w N.pl A n c N.src N.snk)
 have HIn := hid (h.below HB.out)
 have HZ := hid (hM.below HB.out)
 have HM := hid hm
 have HNl := hid hn
 clear h hn hM hm
 go_enter Tryd.func48, Tryd.ntmps48
 go_wp2_with fail
 generalize w.alloc _ = w0 at *
 have HMk := hid (pmarking_any N A n c Am m cm M w0 HIn.out HNl.out hn2 HZ.out HM.out hm2)
 cases hk : mkB N M with
 | false =>
  rw [hk] at HMk
  have HV := hid (show fire21 N M t = ([], 1) by unfold fire21; rw [hk]; rfl)
  ((with_reducible refine HMk.out.mono ?_); rintro e w1 ⟨rfl, hb1⟩)
  have HFn := hid (below_then HB.out hb1)
  go_wp2_with fail
  go_ret2
  exact FvPo.no HV.out (by decide) rfl HFn.out
 | true =>
  rw [hk] at HMk
  have HV := hid (show fire21 N M t = fireV N M t by unfold fire21; rw [hk]; rfl)
  have HMt := hid hk
  ((with_reducible refine HMk.out.mono ?_); rintro e w1 ⟨rfl, hb1⟩)
  have HB1 := hid (below_then HB.out hb1)
  have HFi := hid (pfire_any N A n c Am m cm M t w1 (HIn.out.below hb1) HNl.out (HZ.out.below hb1) HM.out HMt.out)
  obtain ⟨b0, b1, b2, b3⟩ := (HNb.out.below hb1).cells
  clear hb1 hk
  by_cases h0 : (fireV N M t).2 = 0
  · have HFy := hid (fv_yes HFi.out h0)
    have HE := hid (show fire21 N M t = ((fireV N M t).1, 0) by rw [HV.out, ← h0])
    clear h0
    go_wp2_with fail
    ((with_reducible refine HFy.out.mono ?_); rintro e w2 ⟨v, rfl, hS⟩)
    have HSf := hid (NS.up HB1.out hS)
    go_wp2_with fail
    go_ret2
    exact FvPo.yes HE.out rfl HSf.out
  · have HFn := hid (fv_no HFi.out h0)
    have HE := hid (show FvPo (fire21 N M t) w = FvPo ([], (fireV N M t).2) w by
     funext e w'
     rw [HV.out]
     unfold FvPo
     simp only [if_neg h0])
    have H0 := hid h0
    clear h0
    generalize (fireV N M t).2 = er at *
    go_wp2_with fail
    ((with_reducible refine HFn.out.mono ?_); rintro e w2 ⟨rfl, hb2⟩)
    have HFb := hid (below_then HB1.out hb2)
    go_wp2_with fail
    go_ret2
    rw [HE.out]
    exact FvPo.no rfl H0.out rfl HFb.out
set_option maxHeartbeats 12800000 in
set_option maxRecDepth 100000 in
theorem pRun_any (N : Nt) (A : Option Addr) (n c : Nat) (Am : Option Addr) (m cm : Nat) (M : List Int) (Al : Option Addr) (nl cl : Nat) (l : List Int) (w : World) (h : NtIn w A N) (hn : N.tr.length = n) (hn2 : n ≤ 9223372036854775807) (hM : ZIn w Am M) (hm : M.length = m) (hm2 : m ≤ 9223372036854775807) (hL : ZIn w Al l) (hl : l.length = nl) :
 Calls Tryd.prog 58 #[.agg #[.int .i64 N.pl, .slice A n c, .int .i64 N.src, .int .i64 N.snk], .slice Am m cm, .slice Al nl cl] w (RvPo (run21 N M l) w) := by
 have HB := hid (below_alloc w (.cells #[.int .i64 N.pl, .slice A n c, .int .i64 N.src, .int .i64 N.snk] 24))
 have HNb0 := hid (NB.new w N.pl A n c N.src N.snk)
 have HIn0 := hid (h.below HB.out)
 have HM0 := hid (hM.below HB.out)
 have HL0 := hid (hL.below HB.out)
 have HM := hid hm
 have HLl := hid hl
 have HNl := hid hn
 clear h hn hM hm hL hl
 go_enter Tryd.func58, Tryd.ntmps58
 go_wp2_with fail
 generalize w.alloc _ = wa at *
 have HMk := hid (pmarking_any N A n c Am m cm M wa HIn0.out HNl.out hn2 HM0.out HM.out hm2)
 cases hk : mkB N M with
 | false =>
  rw [hk] at HMk
  have HV := hid (show run21 N M l = ([], 0, 1) by unfold run21; rw [hk]; rfl)
  ((with_reducible refine HMk.out.mono ?_); rintro e w1 ⟨rfl, hb1⟩)
  have HFn := hid (below_then HB.out hb1)
  go_wp2_with fail
  go_ret3
  exact RvPo.no HV.out (by decide) rfl HFn.out
 | true =>
  rw [hk] at HMk
  have HMkt := hid hk
  have hm40 : m ≤ 40 := by have := nt_small (mk_nt hk); have := mk_len hk; have := HM.out; omega
  ((with_reducible refine HMk.out.mono ?_); rintro e w0 ⟨rfl, hb1⟩)
  have HB2 := hid (below_then HB.out hb1)
  have HNb := hid (HNb0.out.below hb1)
  have HM2 := hid (HM0.out.below hb1)
  have HL2 := hid (HL0.out.below hb1)
  have HIn2 := hid (HIn0.out.below hb1)
  clear hb1 HMk HB HNb0 HM0 HIn0 HL0
  by_cases hlen : 1000 < nl
  · have HV := hid (show run21 N M l = ([], 0, 5) by unfold run21; rw [hk, if_pos rfl, if_pos (by rw [HLl.out]; exact hlen)])
    clear hk
    go_wp2_with fail
    go_ret3
    exact RvPo.no HV.out (by decide) rfl HB2.out
  have HV := hid (show run21 N M l = runV N M 0 l by unfold run21; rw [hk, if_pos rfl, if_neg (by rw [HLl.out]; exact hlen)])
  have hl1 : nl ≤ 1000 := by omega
  have q3 : decide ((1000 : Int) < (nl : Int)) = false := by simp; omega
  have HCl := hid (clone_any Am m cm M w0 HM2.out HM.out (by omega))
  clear hk hlen
  go_wp2_with fail
  ((with_reducible refine HCl.out.mono ?_); rintro e w1 ⟨v1, rfl, hS1⟩)
  have HS1 := hid hS1
  clear hS1 HCl
  go_wp2_with fail
  go_loopg [27, 9] (nl) (fun g iv ov wr => RnI N (run21 N M l) l nl w0 g iv ov wr)
  case atStart => exact ⟨0, M, by omega, rfl, HS1.out, HMkt.out, by rw [HV.out, List.drop_zero]⟩
  case round =>
   clear HS1 HV
   obtain ⟨k, L, hkg, rfl, hS, hmk, hR⟩ := hrel
   have HK := hid hkg
   have HR := hid hR
   have HMkL := hid hmk
   obtain ⟨Ao, co, rfl⟩ := hS.slice
   have hLl : L.length = m := by have := mk_len hmk; have := mk_len HMkt.out; have := HM.out; omega
   rw [hLl] at hS ⊢
   have HS := hid hS
   have HLL := hid hLl
   have HZo := hid (show ZIn wr Ao L by obtain ⟨A', c', e, hz, _⟩ := hS.zin; rw [hLl] at e; cases e; exact hz)
   have HNbr := hid (HNb.out.below hS.2)
   have HInr := hid (HIn2.out.below hS.2)
   have HLr := hid (HL2.out.below hS.2)
   have hkl : k ≤ nl := by omega
   clear hkg hmk hS hR hLl
   obtain ⟨b0, b1, b2, b3⟩ := HNbr.out.cells
   by_cases hlt : k < nl
   · have hlt' : k < l.length := by rw [HLl.out]; exact hlt
     obtain ⟨al, rfl, hpa, q0⟩ := HLr.out k hlt'
     have HDr := hid (List.drop_eq_getElem_cons hlt')
     generalize l[k] = t at *
     rw [HDr.out] at HR
     have HFi := hid (pfire_any N A n c Ao m co L t wr HInr.out HNl.out HZo.out HLL.out HMkL.out)
     clear HDr hlt'
     by_cases h0 : (fireV N L t).2 = 0
     · have HFy := hid (fv_yes HFi.out h0)
       have HMn := hid (fire_mk HMkL.out h0)
       rw [runV_step h0] at HR
       clear HFi h0
       go_wp2_with fail
       ((with_reducible refine HFy.out.mono ?_); rintro e w4 ⟨v4, rfl, hS4⟩)
       have HS4 := hid (NS.up HS.out.2 hS4)
       clear hS4 q0 b0 b1 b2 b3
       go_wp2_with fail
       go_roundg (gk - 1)
       case measure => have := HK.out; omega
       case rel => exact ⟨k + 1, _, by have := HK.out; omega, by go_num, HS4.out, HMn.out, HR.out⟩
     · have HFn := hid (fv_no HFi.out h0)
       rw [runV_stop h0] at HR
       have q5 : ((fireV N L t).2 != 0) = true := by rw [bne_iff_ne]; exact h0
       have H0 := hid h0
       clear HFi h0
       generalize (fireV N L t).2 = er at *
       go_wp2_with fail
       ((with_reducible refine HFn.out.mono ?_); rintro e w4 ⟨rfl, hb4⟩)
       have HB4 := hid (below_then HB2.out (below_then HS.out.2 hb4))
       go_wp2_with fail
       go_ret3
       exact RvPo.no HR.out H0.out rfl HB4.out
   · have HE := hid (show run21 N M l = (L, nl, 0) by rw [HR.out, List.drop_eq_nil_of_le (by rw [HLl.out]; omega), show k = nl by omega]; rfl)
     have HSf := hid (NS.up HB2.out HS.out)
     go_wp2_with fail
     go_ret3
     exact RvPo.yes HE.out rfl HSf.out
end Go.Proofs.YtpnhcimmlnjfaaaDoor
