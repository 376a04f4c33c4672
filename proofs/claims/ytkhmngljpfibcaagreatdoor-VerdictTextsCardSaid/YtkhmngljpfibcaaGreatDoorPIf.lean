/- petri.fire, Fire: what a call returns. petri.Run: what a call returns. -/
import Derived.Test.YtkhmngljpfibcaaGreatDoorPId
namespace Go.Proofs.YtkhmngljpfibcaaGreatDoor
set_option maxRecDepth 100000
set_option maxHeartbeats 12800000
open Go.Lib (hid)
section
open Go.RowKit

theorem pfire_any (N : Nt) (A : Option Addr) (n c : Nat) (Am : Option Addr) (m cm : Nat) (M : List Int) (tt : Int) (w : World) (h : NtIn w A N) (hn : N.tr.length = n) (hM : ZIn w Am M) (hm : M.length = m) (hmk : mkB N M = true) :
 Calls Tryz.prog 82 #[.agg #[.int .i64 N.pl, .slice A n c, .int .i64 N.src, .int .i64 N.snk], .slice Am m cm, .int .i64 tt] w (FvPo (fireV N M tt) w) := by
 have HB := hid (below_alloc w (.cells #[.int .i64 N.pl, .slice A n c, .int .i64 N.src, .int .i64 N.snk] 24));have HM := hid hm;have HNl := hid hn;have HMkt := hid hmk;have hsm := nt_small (mk_nt hmk);have hml : (m : Int) = N.pl := by rw [← hm]; exact mk_len hmk
 have hm0 : 0 < m := by omega
 have hm40 : m ≤ 40 := by omega
 have hn60 : n ≤ 60 := by omega
 by_cases ht0 : tt < 0
 · have HV := hid (show fireV N M tt = ([], 2) by unfold fireV; rw [if_pos ht0]);clear h hn hM hm hmk hsm hml;go_enter Tryz.func82, Tryz.ntmps82;go_wp2_with fail;go_ret2;exact FvPo.no HV.out (by decide) rfl HB.out
 by_cases ht1 : (n : Int) ≤ tt
 · have HV := hid (show fireV N M tt = ([], 2) by unfold fireV; rw [if_neg ht0, List.getElem?_eq_none (by omega)]);clear h hn hM hm hmk hsm ht0 hml;have q3 : decide (tt < 0) = false := by simp; omega
   go_enter Tryz.func82, Tryz.ntmps82;go_wp2_with fail;go_ret2;exact FvPo.no HV.out (by decide) rfl HB.out
 obtain ⟨t, rfl⟩ := Int.eq_ofNat_of_zero_le (show 0 ≤ tt by omega);have htn : t < n := by omega
 have htl : t < N.tr.length := by omega
 have HTg := hid (List.getElem?_eq_getElem htl);obtain ⟨ad, rfl, hpa, hTr⟩ := (h.below HB.out).1 t htl;have HInT := hid ((nt_inM (mk_nt hmk) (m := m) hml) _ (List.getElem_mem htl));have hok := (netOk_of (mk_nt hmk) (m := m) hml) t _ HTg.out;have HisM := hid (mkM hmk);have HNum := hid (mk_nums hmk);have HFv := hid (show fireV N M (t : Int) = if canT N.tr[t] M then (if bigM (fireT N.tr[t] M) then ([], 5) else (fireT N.tr[t] M, 0)) else ([], 12) by
  unfold fireV;rw [if_neg (by omega), Int.toNat_natCast, HTg.out])
 have HNR := hid (show canT N.tr[t] M = true → nonneg (fireT N.tr[t] M) from fun hc p => by
  obtain ⟨e1, e2⟩ := fire_real (t := N.tr[t]) (x := M) (by rw [hm]; exact hok) (fun p => (HisM.out p).1) hc p;rw [e1]; exact e2)
 have HN1 := hid (fun (hc : canT N.tr[t] M = true) => decs_nonneg (t := N.tr[t]) (M := M) (by rw [hm]; exact hok.1) (fun p => (HisM.out p).1) hc);have HNn := hid (show nonneg M from fun p => (HisM.out p).1);have HR := hid (show fireT N.tr[t] M = incs (decs M N.tr[t].i) N.tr[t].o from rfl);have HOk := hid hok;clear ht0 ht1 HTg hsm hok;generalize N.tr[t] = T at *;obtain ⟨lb, li, lo⟩ := T;generalize fireT ⟨lb, li, lo⟩ M = R at HR HFv HNR;obtain ⟨q0, ⟨u1, q1, s1⟩, u2, q2, s2⟩ := hTr;obtain ⟨Ai, ni, ci, rfl, zi, hi1, hi2, hi3⟩ := s1;obtain ⟨Ao, no, co, rfl, zo, ho1, ho2, ho3⟩ := s2;simp only at hi1 ho1 zi zo q0 q1 q2 HOk HInT HR HN1;have HBx := hid (below_alloc (w.alloc (.cells #[.int .i64 N.pl, .slice (some ad) n c, .int .i64 N.src, .int .i64 N.snk] 24)) (.cells #[.string lb, .slice Ai ni ci, .slice Ao no co] 79));have hTn := TB.new (w.alloc (.cells #[.int .i64 N.pl, .slice (some ad) n c, .int .i64 N.src, .int .i64 N.snk] 24)) lb Ai ni ci Ao no co;rw [World.size_alloc] at hTn;have HT0 := hid hTn;have HB2 := hid (below_then HB.out HBx.out);have HZi := hid (zi.below HBx.out);have HZo := hid (zo.below HBx.out);have HMz := hid (hM.below HB2.out);have Hli := hid hi1;have Hlo := hid ho1;have HOkli := hid HOk.out.1;have HOklo := hid HOk.out.2;have HLp := hid hm;have HBd := hid (show bnd 1000 M from fun x hx => by have := HNum.out x hx; omega);have hni : ni ≤ 1000 := by have := pls_len HOk.out.1; simp only at this; rw [← hi1]; omega
 have hno : no ≤ 1000 := by have := pls_len HOk.out.2; simp only at this; rw [← ho1]; omega
 have HEn := hid (enabled_petri lb Ai Ao Am ni ci no co m cm li lo M _ HZi.out hi1 (by omega) HMz.out hm HInT.out.1);clear hml h hn hM hm hmk hTn zi zo hi1 ho1 hi2 ho2;have ht0 : (0 : Int) ≤ (t : Int) := by omega
 have ht1 : (t : Int) < (n : Int) := by omega
 have q3 : decide ((n : Int) ≤ (t : Int)) = false := by simp; omega
 go_enter Tryz.func82, Tryz.ntmps82;go_wp2_with fail;generalize (w.alloc _).alloc _ = wb at *;cases hcan : canT ⟨lb, li, lo⟩ M with
 | false =>
  rw [hcan] at HEn;have HV := hid (show fireV N M (t : Int) = ([], 12) by rw [HFv.out, hcan]; rfl);((with_reducible refine HEn.out.mono ?_); rintro e w3 ⟨rfl, hb3⟩)
  have HB3 := hid (below_then HB2.out hb3);go_wp2_with fail;go_ret2;exact FvPo.no HV.out (by decide) rfl HB3.out
 | true =>
  rw [hcan] at HEn;have HV := hid (show fireV N M (t : Int) = if bigM R then ([], 5) else (R, 0) by rw [HFv.out, hcan]; rfl);have HN2 := hid (HN1.out hcan);clear hcan HFv HNR HN1 HInT;((with_reducible refine HEn.out.mono ?_); rintro e w0 ⟨rfl, hb3⟩)
  have HB3 := hid (below_then HB2.out hb3);have HT := hid (HT0.out.below hb3);have HZli := hid (HZi.out.below hb3);have HZlo := hid (HZo.out.below hb3);have HCl := hid (clone_any Am m cm M w0 (HMz.out.below hb3) HM.out (by omega));clear hb3 HT0 HZi HZo HMz HEn HB2 HBx HB q0 q1 q2;go_wp2_with fail;((with_reducible refine HCl.out.mono ?_); rintro e w1 ⟨v, rfl, hS1⟩)
  obtain ⟨gb, cap, rfl, hgb, hgl⟩ := hS1.row (by rw [HM.out]; exact hm0);rw [HM.out] at hS1 ⊢;have HGb := hid hgb;have HS1 := hid hS1;obtain ⟨tc0, tc1, tc2⟩ := HT.out.below hS1.2;clear hS1 HCl hgb;go_wp2_with fail;clear tc0 tc1 tc2;go_loopg [37] (ni) (fun g iv wr => ∃ k : Nat, k + g = ni ∧ iv = .int .i64 k ∧ NS w0 wr (.slice (some ⟨gb, 0, none⟩) m cap) (decs M (li.take k)));case atStart => exact ⟨0, by omega, rfl, by rw [List.take_zero]; exact HS1.out⟩
  case round =>
   obtain ⟨k, hk, rfl, hS⟩ := hrel;have HK := hid hk;have HS := hid hS;have hle : k ≤ ni := by omega
   have HZr := hid (HZli.out.below hS.2);have HTr := hid (HT.out.below hS.2);have hgr : gb < wr.heap.size := (hS.1.lt gb rfl).2;clear hk hS;obtain ⟨tc0, tc1, tc2⟩ := HTr.out;by_cases hlt : k < ni
   · have hlt' : k < li.length := by rw [Hli.out]; exact hlt
     obtain ⟨ap, rfl, hpa, q0⟩ := HZr.out k hlt';obtain ⟨p, hp⟩ := Int.eq_ofNat_of_zero_le (HOkli.out.1 _ (List.getElem_mem hlt')).1;have hpm : p < m := by have := (HOkli.out.1 _ (List.getElem_mem hlt')).2; omega
     obtain ⟨hpl, hrd, hx1, hx2⟩ := decs_round M li k p hlt' hp (by rw [HLp.out]; exact hpm) 1000 (by omega) HBd.out;obtain ⟨_, hat⟩ := decs_at (by rw [HLp.out]; exact HOkli.out) hlt' hp (by rw [HLp.out]; exact hpm);have hxn : 0 ≤ (decs M (li.take k))[p] := by rw [hat]; exact HNn.out p
     have h1e : dec1 (decs M (li.take k))[p] = (decs M (li.take k))[p] - 1 := if_neg (by omega);rw [h1e] at hrd;rw [hp] at q0;have HRd := hid hrd;have HC := hid (HS.out.cells p hpl);generalize (decs M (li.take k))[p] = x at *;generalize decs M (li.take k) = D at *;clear hrd hp hlt' hpl hat h1e;obtain ⟨r0, r1⟩ := HC.out;have hp0 : (0 : Int) ≤ (p : Int) := by omega
     have hp9 : (p : Int) < (m : Int) := by omega
     go_wp2_with fail;go_roundg (gk - 1);case measure => have := HK.out; omega
     case rel => exact ⟨k + 1, by have := HK.out; omega, by go_num, by rw [HRd.out]; exact HS.out.set HGb.out p _⟩
   · have HD := hid (show decs M (li.take k) = decs M li by rw [List.take_of_length_le (by rw [Hli.out]; omega)]);rw [HD.out] at HS;clear HD;have HLp1 := hid (show (decs M li).length = m by rw [decs_len]; exact HLp.out);have HBd1 := hid (show bnd (1000 + (ni : Int)) (decs M li) by have := decs_bnd li 1000 M (by omega) HBd.out; rw [Hli.out] at this; exact this);go_wp2_with fail;clear HLp HBd HK hle hgr HTr HZr HNn tc0 tc1 tc2 hlt HS1;have HLp := hid HLp1.out;have HBd := hid HBd1.out;have HNn := hid HN2.out;clear HLp1 HBd1 HN2;generalize decs M li = M1 at *;obtain ⟨go, rfl⟩ : ∃ go, go = gk := ⟨_, rfl⟩;go_loopg [51] (no) (fun g iv wr => ∃ k : Nat, k + g = no ∧ iv = .int .i64 k ∧ NS w0 wr (.slice (some ⟨gb, 0, none⟩) m cap) (incs M1 (lo.take k)));case atStart => exact ⟨0, by omega, rfl, by rw [List.take_zero]; exact HS.out⟩
     case round =>
      obtain ⟨k, hk, rfl, hS⟩ := hrel;have HK := hid hk;have HS := hid hS;have hle : k ≤ no := by omega
      have HZr := hid (HZlo.out.below hS.2);have HTr := hid (HT.out.below hS.2);have hgr : gb < wr.heap.size := (hS.1.lt gb rfl).2;clear hk hS;obtain ⟨tc0, tc1, tc2⟩ := HTr.out;by_cases hlt : k < no
      · have hlt' : k < lo.length := by rw [Hlo.out]; exact hlt
        obtain ⟨ap, rfl, hpa, q0⟩ := HZr.out k hlt';obtain ⟨p, hp⟩ := Int.eq_ofNat_of_zero_le (HOklo.out.1 _ (List.getElem_mem hlt')).1;have hpm : p < m := by have := (HOklo.out.1 _ (List.getElem_mem hlt')).2; omega
        obtain ⟨hpl, hrd, hx1, hx2⟩ := incs_round M1 lo k p hlt' hp (by rw [HLp.out]; exact hpm) (1000 + ni) (by omega) HBd.out;obtain ⟨_, hat⟩ := incs_at (by rw [HLp.out]; exact HOklo.out) hlt' hp (by rw [HLp.out]; exact hpm);have hxn : 0 ≤ (incs M1 (lo.take k))[p] := by rw [hat]; exact HNn.out p
        have h1e : inc1 (incs M1 (lo.take k))[p] = (incs M1 (lo.take k))[p] + 1 := if_neg (by omega);rw [h1e] at hrd;rw [hp] at q0;have HRd := hid hrd;have HC := hid (HS.out.cells p hpl);generalize (incs M1 (lo.take k))[p] = x at *;generalize incs M1 (lo.take k) = D at *;clear hrd hp hlt' hpl hat h1e;obtain ⟨r0, r1⟩ := HC.out;have hp0 : (0 : Int) ≤ (p : Int) := by omega
        have hp9 : (p : Int) < (m : Int) := by omega
        go_wp2_with fail;go_roundg (gk - 1);case measure => have := HK.out; omega
        case rel => exact ⟨k + 1, by have := HK.out; omega, by go_num, by rw [HRd.out]; exact HS.out.set HGb.out p _⟩
      · have HFin := hid (show incs M1 (lo.take k) = R by rw [List.take_of_length_le (by rw [Hlo.out]; omega)]; exact HR.out.symm);rw [HFin.out] at HS;have HLr := hid (show R.length = m by rw [HR.out, incs_len]; exact HLp.out);have HMx := hid (max_any (some ⟨gb, 0, none⟩) m cap R wr (show ZIn wr (some ⟨gb, 0, none⟩) R by obtain ⟨A', c', e, hz, _⟩ := HS.out.zin; cases e; exact hz) HLr.out hm0 (by omega));have HBig := hid (max_big R (by rw [HLr.out]; exact hm0));cases hbig : bigM R with
        | true =>
         have q5 : decide (Lib.maxOf R ≤ 100) = false := by rw [HBig.out, hbig]; rfl
         have q6 : 100 < Lib.maxOf R := by have := of_decide_eq_false q5; omega
         rw [hbig] at HV;clear hbig q5;go_wp2_with fail;((with_reducible refine HMx.out.mono ?_); rintro e w3 ⟨rfl, hb3⟩)
         have HFn := hid (below_then HB3.out (below_then HS.out.2 hb3));go_wp2_with fail;go_ret2;exact FvPo.no HV.out (by decide) rfl HFn.out
        | false =>
         have q5 : decide (Lib.maxOf R ≤ 100) = true := by rw [HBig.out, hbig]; rfl
         have q6 : Lib.maxOf R ≤ 100 := of_decide_eq_true q5;rw [hbig] at HV;clear hbig q5;go_wp2_with fail;((with_reducible refine HMx.out.mono ?_); rintro e w3 ⟨rfl, hb3⟩)
         have HSf := hid (NS.up HB3.out (HS.out.below hb3));go_wp2_with fail;go_ret2;exact FvPo.yes HV.out rfl HSf.out
end
section
open Go.RowKit

theorem pFire_any (N : Nt) (A : Option Addr) (n c : Nat) (Am : Option Addr) (m cm : Nat) (M : List Int) (t : Int) (w : World) (h : NtIn w A N) (hn : N.tr.length = n) (hn2 : n ≤ 9223372036854775807) (hM : ZIn w Am M) (hm : M.length = m) (hm2 : m ≤ 9223372036854775807) :
 Calls Tryz.prog 28 #[.agg #[.int .i64 N.pl, .slice A n c, .int .i64 N.src, .int .i64 N.snk], .slice Am m cm, .int .i64 t] w (FvPo (fire21 N M t) w) := by
 have HB := hid (below_alloc w (.cells #[.int .i64 N.pl, .slice A n c, .int .i64 N.src, .int .i64 N.snk] 24));have HNb := hid (NB.new w N.pl A n c N.src N.snk);have HIn := hid (h.below HB.out);have HZ := hid (hM.below HB.out);have HM := hid hm;have HNl := hid hn;clear h hn hM hm;go_enter Tryz.func28, Tryz.ntmps28;go_wp2_with fail;generalize w.alloc _ = w0 at *;have HMk := hid (pmarking_any N A n c Am m cm M w0 HIn.out HNl.out hn2 HZ.out HM.out hm2);cases hk : mkB N M with
 | false =>
  rw [hk] at HMk;have HV := hid (show fire21 N M t = ([], 1) by unfold fire21; rw [hk]; rfl);((with_reducible refine HMk.out.mono ?_); rintro e w1 ⟨rfl, hb1⟩)
  have HFn := hid (below_then HB.out hb1);go_wp2_with fail;go_ret2;exact FvPo.no HV.out (by decide) rfl HFn.out
 | true =>
  rw [hk] at HMk;have HV := hid (show fire21 N M t = fireV N M t by unfold fire21; rw [hk]; rfl);have HMt := hid hk;((with_reducible refine HMk.out.mono ?_); rintro e w1 ⟨rfl, hb1⟩)
  have HB1 := hid (below_then HB.out hb1);have HFi := hid (pfire_any N A n c Am m cm M t w1 (HIn.out.below hb1) HNl.out (HZ.out.below hb1) HM.out HMt.out);obtain ⟨b0, b1, b2, b3⟩ := (HNb.out.below hb1).cells;clear hb1 hk;by_cases h0 : (fireV N M t).2 = 0
  · have HFy := hid (fv_yes HFi.out h0);have HE := hid (show fire21 N M t = ((fireV N M t).1, 0) by rw [HV.out, ← h0]);clear h0;go_wp2_with fail;((with_reducible refine HFy.out.mono ?_); rintro e w2 ⟨v, rfl, hS⟩)
    have HSf := hid (NS.up HB1.out hS);go_wp2_with fail;go_ret2;exact FvPo.yes HE.out rfl HSf.out
  · have HFn := hid (fv_no HFi.out h0);have HE := hid (show FvPo (fire21 N M t) w = FvPo ([], (fireV N M t).2) w by
     funext e w'
     rw [HV.out];unfold FvPo;simp only [if_neg h0])
    have H0 := hid h0;clear h0;generalize (fireV N M t).2 = er at *;go_wp2_with fail;((with_reducible refine HFn.out.mono ?_); rintro e w2 ⟨rfl, hb2⟩)
    have HFb := hid (below_then HB1.out hb2);go_wp2_with fail;go_ret2;rw [HE.out];exact FvPo.no rfl H0.out rfl HFb.out
theorem pRun_any (N : Nt) (A : Option Addr) (n c : Nat) (Am : Option Addr) (m cm : Nat) (M : List Int) (Al : Option Addr) (nl cl : Nat) (l : List Int) (w : World) (h : NtIn w A N) (hn : N.tr.length = n) (hn2 : n ≤ 9223372036854775807) (hM : ZIn w Am M) (hm : M.length = m) (hm2 : m ≤ 9223372036854775807) (hL : ZIn w Al l) (hl : l.length = nl) :
 Calls Tryz.prog 29 #[.agg #[.int .i64 N.pl, .slice A n c, .int .i64 N.src, .int .i64 N.snk], .slice Am m cm, .slice Al nl cl] w (RvPo (run21 N M l) w) := by
 have HB := hid (below_alloc w (.cells #[.int .i64 N.pl, .slice A n c, .int .i64 N.src, .int .i64 N.snk] 24));have HNb0 := hid (NB.new w N.pl A n c N.src N.snk);have HIn0 := hid (h.below HB.out);have HM0 := hid (hM.below HB.out);have HL0 := hid (hL.below HB.out);have HM := hid hm;have HLl := hid hl;have HNl := hid hn;clear h hn hM hm hL hl;go_enter Tryz.func29, Tryz.ntmps29;go_wp2_with fail;generalize w.alloc _ = wa at *;have HMk := hid (pmarking_any N A n c Am m cm M wa HIn0.out HNl.out hn2 HM0.out HM.out hm2);cases hk : mkB N M with
 | false =>
  rw [hk] at HMk;have HV := hid (show run21 N M l = ([], 0, 1) by unfold run21; rw [hk]; rfl);((with_reducible refine HMk.out.mono ?_); rintro e w1 ⟨rfl, hb1⟩)
  have HFn := hid (below_then HB.out hb1);go_wp2_with fail;go_ret3;exact RvPo.no HV.out (by decide) rfl HFn.out
 | true =>
  rw [hk] at HMk;have HMkt := hid hk;have hm40 : m ≤ 40 := by have := nt_small (mk_nt hk); have := mk_len hk; have := HM.out; omega
  ((with_reducible refine HMk.out.mono ?_); rintro e w0 ⟨rfl, hb1⟩)
  have HB2 := hid (below_then HB.out hb1);have HNb := hid (HNb0.out.below hb1);have HM2 := hid (HM0.out.below hb1);have HL2 := hid (HL0.out.below hb1);have HIn2 := hid (HIn0.out.below hb1);clear hb1 HMk HB HNb0 HM0 HIn0 HL0;by_cases hlen : 1000 < nl
  · have HV := hid (show run21 N M l = ([], 0, 5) by unfold run21; rw [hk, if_pos rfl, if_pos (by rw [HLl.out]; exact hlen)]);clear hk;go_wp2_with fail;go_ret3;exact RvPo.no HV.out (by decide) rfl HB2.out
  have HV := hid (show run21 N M l = runV N M 0 l by unfold run21; rw [hk, if_pos rfl, if_neg (by rw [HLl.out]; exact hlen)]);have hl1 : nl ≤ 1000 := by omega
  have q3 : decide ((1000 : Int) < (nl : Int)) = false := by simp; omega
  have HCl := hid (clone_any Am m cm M w0 HM2.out HM.out (by omega));clear hk hlen;go_wp2_with fail;((with_reducible refine HCl.out.mono ?_); rintro e w1 ⟨v1, rfl, hS1⟩)
  have HS1 := hid hS1;clear hS1 HCl;go_wp2_with fail;go_loopg [27, 9] (nl) (fun g iv ov wr => RnI N (run21 N M l) l nl w0 g iv ov wr);case atStart => exact ⟨0, M, by omega, rfl, HS1.out, HMkt.out, by rw [HV.out, List.drop_zero]⟩
  case round =>
   clear HS1 HV;obtain ⟨k, L, hkg, rfl, hS, hmk, hR⟩ := hrel;have HK := hid hkg;have HR := hid hR;have HMkL := hid hmk;obtain ⟨Ao, co, rfl⟩ := hS.slice;have hLl : L.length = m := by have := mk_len hmk; have := mk_len HMkt.out; have := HM.out; omega
   rw [hLl] at hS ⊢;have HS := hid hS;have HLL := hid hLl;have HZo := hid (show ZIn wr Ao L by obtain ⟨A', c', e, hz, _⟩ := hS.zin; rw [hLl] at e; cases e; exact hz);have HNbr := hid (HNb.out.below hS.2);have HInr := hid (HIn2.out.below hS.2);have HLr := hid (HL2.out.below hS.2);have hkl : k ≤ nl := by omega
   clear hkg hmk hS hR hLl;obtain ⟨b0, b1, b2, b3⟩ := HNbr.out.cells;by_cases hlt : k < nl
   · have hlt' : k < l.length := by rw [HLl.out]; exact hlt
     obtain ⟨al, rfl, hpa, q0⟩ := HLr.out k hlt';have HDr := hid (List.drop_eq_getElem_cons hlt');generalize l[k] = t at *;rw [HDr.out] at HR;have HFi := hid (pfire_any N A n c Ao m co L t wr HInr.out HNl.out HZo.out HLL.out HMkL.out);clear HDr hlt';by_cases h0 : (fireV N L t).2 = 0
     · have HFy := hid (fv_yes HFi.out h0);have HMn := hid (fire_mk HMkL.out h0);rw [runV_step h0] at HR;clear HFi h0;go_wp2_with fail;((with_reducible refine HFy.out.mono ?_); rintro e w4 ⟨v4, rfl, hS4⟩)
       have HS4 := hid (NS.up HS.out.2 hS4);clear hS4 q0 b0 b1 b2 b3;go_wp2_with fail;go_roundg (gk - 1);case measure => have := HK.out; omega
       case rel => exact ⟨k + 1, _, by have := HK.out; omega, by go_num, HS4.out, HMn.out, HR.out⟩
     · have HFn := hid (fv_no HFi.out h0);rw [runV_stop h0] at HR;have q5 : ((fireV N L t).2 != 0) = true := by rw [bne_iff_ne]; exact h0
       have H0 := hid h0;clear HFi h0;generalize (fireV N L t).2 = er at *;go_wp2_with fail;((with_reducible refine HFn.out.mono ?_); rintro e w4 ⟨rfl, hb4⟩)
       have HB4 := hid (below_then HB2.out (below_then HS.out.2 hb4));go_wp2_with fail;go_ret3;exact RvPo.no HR.out H0.out rfl HB4.out
   · have HE := hid (show run21 N M l = (L, nl, 0) by rw [HR.out, List.drop_eq_nil_of_le (by rw [HLl.out]; omega), show k = nl by omega]; rfl);have HSf := hid (NS.up HB2.out HS.out);go_wp2_with fail;go_ret3;exact RvPo.yes HE.out rfl HSf.out
end
end Go.Proofs.YtkhmngljpfibcaaGreatDoor
