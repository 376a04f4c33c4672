/- petri.fire, Fire: what a call returns. petri.Run: what a call returns. cover.closed, cover.Check: what a call returns. -/
import Derived.Test.YtkhmngljpfibcaaGreatDoorPJc
namespace Go.Proofs.YtkhmngljpfibcaaGreatDoor
set_option maxRecDepth 100000
set_option maxHeartbeats 12800000
open Go.Lib (hid)
section
open Go.RowKit

theorem pfire_any (N : Nt) (A : Option Addr) (n c : Nat) (Am : Option Addr) (m cm : Nat) (M : List Int) (tt : Int) (w : World) (h : NtIn w A N) (hn : N.tr.length = n) (hM : ZIn w Am M) (hm : M.length = m) (hmk : mkB N M = true) :
 Calls Tryz.prog 82 #[.agg #[.int .i64 N.pl, .slice A n c, .int .i64 N.src, .int .i64 N.snk], .slice Am m cm, .int .i64 tt] w (FvPo (fireV N M tt) w) := by
 have HB := hid (below_alloc w (.cells #[.int .i64 N.pl, .slice A n c, .int .i64 N.src, .int .i64 N.snk] 24));have HM := hid hm;have HNl := hid hn;have HMkt := hid hmk;have hsm := nt_small (mk_nt hmk);have hml : (m : Int) = N.pl := by rw [← hm]; exact mk_len hmk
 have hm0 : 0 < m := by omega
 have hm40 : m ≤ 40 := by omega
 have hn60 : n ≤ 60 := by omega
 by_cases ht0 : tt < 0
 · have HV := hid (show fireV N M tt = ([], 2) by unfold fireV; rw [if_pos ht0]);clear h hn hM hm hmk hsm hml;go_enter Tryz.func82, Tryz.ntmps82;go_wp2_with fail;go_ret2;exact FvPo.no HV.out (by decide) rfl HB.out
 by_cases ht1 : (n : Int) ≤ tt
 · have HV := hid (show fireV N M tt = ([], 2) by unfold fireV; rw [if_neg ht0, List.getElem?_eq_none (by omega)]);clear h hn hM hm hmk hsm ht0 hml;have q3 : decide (tt < 0) = false := by simp; omega
   go_enter Tryz.func82, Tryz.ntmps82;go_wp2_with fail;go_ret2;exact FvPo.no HV.out (by decide) rfl HB.out
 obtain ⟨t, rfl⟩ := Int.eq_ofNat_of_zero_le (show 0 ≤ tt by omega);have htn : t < n := by omega
 have htl : t < N.tr.length := by omega
 have HTg := hid (List.getElem?_eq_getElem htl);obtain ⟨ad, rfl, hpa, hTr⟩ := (h.below HB.out).1 t htl;have HInT := hid ((nt_inM (mk_nt hmk) (m := m) hml) _ (List.getElem_mem htl));have hok := (netOk_of (mk_nt hmk) (m := m) hml) t _ HTg.out;have HisM := hid (mkM hmk);have HNum := hid (mk_nums hmk);have HFv := hid (show fireV N M (t : Int) = if canT N.tr[t] M then (if bigM (fireT N.tr[t] M) then ([], 5) else (fireT N.tr[t] M, 0)) else ([], 12) by
  unfold fireV;rw [if_neg (by omega), Int.toNat_natCast, HTg.out])
 have HNR := hid (show canT N.tr[t] M = true → nonneg (fireT N.tr[t] M) from fun hc p => by
  obtain ⟨e1, e2⟩ := fire_real (t := N.tr[t]) (x := M) (by rw [hm]; exact hok) (fun p => (HisM.out p).1) hc p;rw [e1]; exact e2)
 have HN1 := hid (fun (hc : canT N.tr[t] M = true) => decs_nonneg (t := N.tr[t]) (M := M) (by rw [hm]; exact hok.1) (fun p => (HisM.out p).1) hc);have HNn := hid (show nonneg M from fun p => (HisM.out p).1);have HR := hid (show fireT N.tr[t] M = incs (decs M N.tr[t].i) N.tr[t].o from rfl);have HOk := hid hok;clear ht0 ht1 HTg hsm hok;generalize N.tr[t] = T at *;obtain ⟨lb, li, lo⟩ := T;generalize fireT ⟨lb, li, lo⟩ M = R at HR HFv HNR;obtain ⟨q0, ⟨u1, q1, s1⟩, u2, q2, s2⟩ := hTr;obtain ⟨Ai, ni, ci, rfl, zi, hi1, hi2, hi3⟩ := s1;obtain ⟨Ao, no, co, rfl, zo, ho1, ho2, ho3⟩ := s2;simp only at hi1 ho1 zi zo q0 q1 q2 HOk HInT HR HN1;have HBx := hid (below_alloc (w.alloc (.cells #[.int .i64 N.pl, .slice (some ad) n c, .int .i64 N.src, .int .i64 N.snk] 24)) (.cells #[.string lb, .slice Ai ni ci, .slice Ao no co] 79));have hTn := TB.new (w.alloc (.cells #[.int .i64 N.pl, .slice (some ad) n c, .int .i64 N.src, .int .i64 N.snk] 24)) lb Ai ni ci Ao no co;rw [World.size_alloc] at hTn;have HT0 := hid hTn;have HB2 := hid (below_then HB.out HBx.out);have HZi := hid (zi.below HBx.out);have HZo := hid (zo.below HBx.out);have HMz := hid (hM.below HB2.out);have Hli := hid hi1;have Hlo := hid ho1;have HOkli := hid HOk.out.1;have HOklo := hid HOk.out.2;have HLp := hid hm;have HBd := hid (show bnd 1000 M from fun x hx => by have := HNum.out x hx; omega);have hni : ni ≤ 1000 := by have := pls_len HOk.out.1; simp only at this; rw [← hi1]; omega
 have hno : no ≤ 1000 := by have := pls_len HOk.out.2; simp only at this; rw [← ho1]; omega
 have HEn := hid (enabled_petri lb Ai Ao Am ni ci no co m cm li lo M _ HZi.out hi1 (by omega) HMz.out hm HInT.out.1);clear hml h hn hM hm hmk hTn zi zo hi1 ho1 hi2 ho2;have ht0 : (0 : Int) ≤ (t : Int) := by omega
 have ht1 : (t : Int) < (n : Int) := by omega
 have q3 : decide ((n : Int) ≤ (t : Int)) = false := by simp; omega
 go_enter Tryz.func82, Tryz.ntmps82;go_wp2_with fail;generalize (w.alloc _).alloc _ = wb at *;cases hcan : canT ⟨lb, li, lo⟩ M with
 | false =>
  rw [hcan] at HEn;have HV := hid (show fireV N M (t : Int) = ([], 12) by rw [HFv.out, hcan]; rfl);((with_reducible refine HEn.out.mono ?_); rintro e w3 ⟨rfl, hb3⟩)
  have HB3 := hid (below_then HB2.out hb3);go_wp2_with fail;go_ret2;exact FvPo.no HV.out (by decide) rfl HB3.out
 | true =>
  rw [hcan] at HEn;have HV := hid (show fireV N M (t : Int) = if bigM R then ([], 5) else (R, 0) by rw [HFv.out, hcan]; rfl);have HN2 := hid (HN1.out hcan);clear hcan HFv HNR HN1 HInT;((with_reducible refine HEn.out.mono ?_); rintro e w0 ⟨rfl, hb3⟩)
  have HB3 := hid (below_then HB2.out hb3);have HT := hid (HT0.out.below hb3);have HZli := hid (HZi.out.below hb3);have HZlo := hid (HZo.out.below hb3);have HCl := hid (clone_any Am m cm M w0 (HMz.out.below hb3) HM.out (by omega));clear hb3 HT0 HZi HZo HMz HEn HB2 HBx HB q0 q1 q2;go_wp2_with fail;((with_reducible refine HCl.out.mono ?_); rintro e w1 ⟨v, rfl, hS1⟩)
  obtain ⟨gb, cap, rfl, hgb, hgl⟩ := hS1.row (by rw [HM.out]; exact hm0);rw [HM.out] at hS1 ⊢;have HGb := hid hgb;have HS1 := hid hS1;obtain ⟨tc0, tc1, tc2⟩ := HT.out.below hS1.2;clear hS1 HCl hgb;go_wp2_with fail;clear tc0 tc1 tc2;go_loopg [37] (ni) (fun g iv wr => ∃ k : Nat, k + g = ni ∧ iv = .int .i64 k ∧ NS w0 wr (.slice (some ⟨gb, 0, none⟩) m cap) (decs M (li.take k)));case atStart => exact ⟨0, by omega, rfl, by rw [List.take_zero]; exact HS1.out⟩
  case round =>
   obtain ⟨k, hk, rfl, hS⟩ := hrel;have HK := hid hk;have HS := hid hS;have hle : k ≤ ni := by omega
   have HZr := hid (HZli.out.below hS.2);have HTr := hid (HT.out.below hS.2);have hgr : gb < wr.heap.size := (hS.1.lt gb rfl).2;clear hk hS;obtain ⟨tc0, tc1, tc2⟩ := HTr.out;by_cases hlt : k < ni
   · have hlt' : k < li.length := by rw [Hli.out]; exact hlt
     obtain ⟨ap, rfl, hpa, q0⟩ := HZr.out k hlt';obtain ⟨p, hp⟩ := Int.eq_ofNat_of_zero_le (HOkli.out.1 _ (List.getElem_mem hlt')).1;have hpm : p < m := by have := (HOkli.out.1 _ (List.getElem_mem hlt')).2; omega
     obtain ⟨hpl, hrd, hx1, hx2⟩ := decs_round M li k p hlt' hp (by rw [HLp.out]; exact hpm) 1000 (by omega) HBd.out;obtain ⟨_, hat⟩ := decs_at (by rw [HLp.out]; exact HOkli.out) hlt' hp (by rw [HLp.out]; exact hpm);have hxn : 0 ≤ (decs M (li.take k))[p] := by rw [hat]; exact HNn.out p
     have h1e : dec1 (decs M (li.take k))[p] = (decs M (li.take k))[p] - 1 := if_neg (by omega);rw [h1e] at hrd;rw [hp] at q0;have HRd := hid hrd;have HC := hid (HS.out.cells p hpl);generalize (decs M (li.take k))[p] = x at *;generalize decs M (li.take k) = D at *;clear hrd hp hlt' hpl hat h1e;obtain ⟨r0, r1⟩ := HC.out;have hp0 : (0 : Int) ≤ (p : Int) := by omega
     have hp9 : (p : Int) < (m : Int) := by omega
     go_wp2_with fail;go_roundg (gk - 1);case measure => have := HK.out; omega
     case rel => exact ⟨k + 1, by have := HK.out; omega, by go_num, by rw [HRd.out]; exact HS.out.set HGb.out p _⟩
   · have HD := hid (show decs M (li.take k) = decs M li by rw [List.take_of_length_le (by rw [Hli.out]; omega)]);rw [HD.out] at HS;clear HD;have HLp1 := hid (show (decs M li).length = m by rw [decs_len]; exact HLp.out);have HBd1 := hid (show bnd (1000 + (ni : Int)) (decs M li) by have := decs_bnd li 1000 M (by omega) HBd.out; rw [Hli.out] at this; exact this);go_wp2_with fail;clear HLp HBd HK hle hgr HTr HZr HNn tc0 tc1 tc2 hlt HS1;have HLp := hid HLp1.out;have HBd := hid HBd1.out;have HNn := hid HN2.out;clear HLp1 HBd1 HN2;generalize decs M li = M1 at *;obtain ⟨go, rfl⟩ : ∃ go, go = gk := ⟨_, rfl⟩;go_loopg [51] (no) (fun g iv wr => ∃ k : Nat, k + g = no ∧ iv = .int .i64 k ∧ NS w0 wr (.slice (some ⟨gb, 0, none⟩) m cap) (incs M1 (lo.take k)));case atStart => exact ⟨0, by omega, rfl, by rw [List.take_zero]; exact HS.out⟩
     case round =>
      obtain ⟨k, hk, rfl, hS⟩ := hrel;have HK := hid hk;have HS := hid hS;have hle : k ≤ no := by omega
      have HZr := hid (HZlo.out.below hS.2);have HTr := hid (HT.out.below hS.2);have hgr : gb < wr.heap.size := (hS.1.lt gb rfl).2;clear hk hS;obtain ⟨tc0, tc1, tc2⟩ := HTr.out;by_cases hlt : k < no
      · have hlt' : k < lo.length := by rw [Hlo.out]; exact hlt
        obtain ⟨ap, rfl, hpa, q0⟩ := HZr.out k hlt';obtain ⟨p, hp⟩ := Int.eq_ofNat_of_zero_le (HOklo.out.1 _ (List.getElem_mem hlt')).1;have hpm : p < m := by have := (HOklo.out.1 _ (List.getElem_mem hlt')).2; omega
        obtain ⟨hpl, hrd, hx1, hx2⟩ := incs_round M1 lo k p hlt' hp (by rw [HLp.out]; exact hpm) (1000 + ni) (by omega) HBd.out;obtain ⟨_, hat⟩ := incs_at (by rw [HLp.out]; exact HOklo.out) hlt' hp (by rw [HLp.out]; exact hpm);have hxn : 0 ≤ (incs M1 (lo.take k))[p] := by rw [hat]; exact HNn.out p
        have h1e : inc1 (incs M1 (lo.take k))[p] = (incs M1 (lo.take k))[p] + 1 := if_neg (by omega);rw [h1e] at hrd;rw [hp] at q0;have HRd := hid hrd;have HC := hid (HS.out.cells p hpl);generalize (incs M1 (lo.take k))[p] = x at *;generalize incs M1 (lo.take k) = D at *;clear hrd hp hlt' hpl hat h1e;obtain ⟨r0, r1⟩ := HC.out;have hp0 : (0 : Int) ≤ (p : Int) := by omega
        have hp9 : (p : Int) < (m : Int) := by omega
        go_wp2_with fail;go_roundg (gk - 1);case measure => have := HK.out; omega
        case rel => exact ⟨k + 1, by have := HK.out; omega, by go_num, by rw [HRd.out]; exact HS.out.set HGb.out p _⟩
      · have HFin := hid (show incs M1 (lo.take k) = R by rw [List.take_of_length_le (by rw [Hlo.out]; omega)]; exact HR.out.symm);rw [HFin.out] at HS;have HLr := hid (show R.length = m by rw [HR.out, incs_len]; exact HLp.out);have HMx := hid (max_any (some ⟨gb, 0, none⟩) m cap R wr (show ZIn wr (some ⟨gb, 0, none⟩) R by obtain ⟨A', c', e, hz, _⟩ := HS.out.zin; cases e; exact hz) HLr.out hm0 (by omega));have HBig := hid (max_big R (by rw [HLr.out]; exact hm0));cases hbig : bigM R with
        | true =>
         have q5 : decide (Lib.maxOf R ≤ 100) = false := by rw [HBig.out, hbig]; rfl
         have q6 : 100 < Lib.maxOf R := by have := of_decide_eq_false q5; omega
         rw [hbig] at HV;clear hbig q5;go_wp2_with fail;((with_reducible refine HMx.out.mono ?_); rintro e w3 ⟨rfl, hb3⟩)
         have HFn := hid (below_then HB3.out (below_then HS.out.2 hb3));go_wp2_with fail;go_ret2;exact FvPo.no HV.out (by decide) rfl HFn.out
        | false =>
         have q5 : decide (Lib.maxOf R ≤ 100) = true := by rw [HBig.out, hbig]; rfl
         have q6 : Lib.maxOf R ≤ 100 := of_decide_eq_true q5;rw [hbig] at HV;clear hbig q5;go_wp2_with fail;((with_reducible refine HMx.out.mono ?_); rintro e w3 ⟨rfl, hb3⟩)
         have HSf := hid (NS.up HB3.out (HS.out.below hb3));go_wp2_with fail;go_ret2;exact FvPo.yes HV.out rfl HSf.out
end
section
open Go.RowKit

theorem pFire_any (N : Nt) (A : Option Addr) (n c : Nat) (Am : Option Addr) (m cm : Nat) (M : List Int) (t : Int) (w : World) (h : NtIn w A N) (hn : N.tr.length = n) (hn2 : n ≤ 9223372036854775807) (hM : ZIn w Am M) (hm : M.length = m) (hm2 : m ≤ 9223372036854775807) :
 Calls Tryz.prog 28 #[.agg #[.int .i64 N.pl, .slice A n c, .int .i64 N.src, .int .i64 N.snk], .slice Am m cm, .int .i64 t] w (FvPo (fire21 N M t) w) := by
 have HB := hid (below_alloc w (.cells #[.int .i64 N.pl, .slice A n c, .int .i64 N.src, .int .i64 N.snk] 24));have HNb := hid (NB.new w N.pl A n c N.src N.snk);have HIn := hid (h.below HB.out);have HZ := hid (hM.below HB.out);have HM := hid hm;have HNl := hid hn;clear h hn hM hm;go_enter Tryz.func28, Tryz.ntmps28;go_wp2_with fail;generalize w.alloc _ = w0 at *;have HMk := hid (pmarking_any N A n c Am m cm M w0 HIn.out HNl.out hn2 HZ.out HM.out hm2);cases hk : mkB N M with
 | false =>
  rw [hk] at HMk;have HV := hid (show fire21 N M t = ([], 1) by unfold fire21; rw [hk]; rfl);((with_reducible refine HMk.out.mono ?_); rintro e w1 ⟨rfl, hb1⟩)
  have HFn := hid (below_then HB.out hb1);go_wp2_with fail;go_ret2;exact FvPo.no HV.out (by decide) rfl HFn.out
 | true =>
  rw [hk] at HMk;have HV := hid (show fire21 N M t = fireV N M t by unfold fire21; rw [hk]; rfl);have HMt := hid hk;((with_reducible refine HMk.out.mono ?_); rintro e w1 ⟨rfl, hb1⟩)
  have HB1 := hid (below_then HB.out hb1);have HFi := hid (pfire_any N A n c Am m cm M t w1 (HIn.out.below hb1) HNl.out (HZ.out.below hb1) HM.out HMt.out);obtain ⟨b0, b1, b2, b3⟩ := (HNb.out.below hb1).cells;clear hb1 hk;by_cases h0 : (fireV N M t).2 = 0
  · have HFy := hid (fv_yes HFi.out h0);have HE := hid (show fire21 N M t = ((fireV N M t).1, 0) by rw [HV.out, ← h0]);clear h0;go_wp2_with fail;((with_reducible refine HFy.out.mono ?_); rintro e w2 ⟨v, rfl, hS⟩)
    have HSf := hid (NS.up HB1.out hS);go_wp2_with fail;go_ret2;exact FvPo.yes HE.out rfl HSf.out
  · have HFn := hid (fv_no HFi.out h0);have HE := hid (show FvPo (fire21 N M t) w = FvPo ([], (fireV N M t).2) w by
     funext e w'
     rw [HV.out];unfold FvPo;simp only [if_neg h0])
    have H0 := hid h0;clear h0;generalize (fireV N M t).2 = er at *;go_wp2_with fail;((with_reducible refine HFn.out.mono ?_); rintro e w2 ⟨rfl, hb2⟩)
    have HFb := hid (below_then HB1.out hb2);go_wp2_with fail;go_ret2;rw [HE.out];exact FvPo.no rfl H0.out rfl HFb.out
theorem pRun_any (N : Nt) (A : Option Addr) (n c : Nat) (Am : Option Addr) (m cm : Nat) (M : List Int) (Al : Option Addr) (nl cl : Nat) (l : List Int) (w : World) (h : NtIn w A N) (hn : N.tr.length = n) (hn2 : n ≤ 9223372036854775807) (hM : ZIn w Am M) (hm : M.length = m) (hm2 : m ≤ 9223372036854775807) (hL : ZIn w Al l) (hl : l.length = nl) :
 Calls Tryz.prog 29 #[.agg #[.int .i64 N.pl, .slice A n c, .int .i64 N.src, .int .i64 N.snk], .slice Am m cm, .slice Al nl cl] w (RvPo (run21 N M l) w) := by
 have HB := hid (below_alloc w (.cells #[.int .i64 N.pl, .slice A n c, .int .i64 N.src, .int .i64 N.snk] 24));have HNb0 := hid (NB.new w N.pl A n c N.src N.snk);have HIn0 := hid (h.below HB.out);have HM0 := hid (hM.below HB.out);have HL0 := hid (hL.below HB.out);have HM := hid hm;have HLl := hid hl;have HNl := hid hn;clear h hn hM hm hL hl;go_enter Tryz.func29, Tryz.ntmps29;go_wp2_with fail;generalize w.alloc _ = wa at *;have HMk := hid (pmarking_any N A n c Am m cm M wa HIn0.out HNl.out hn2 HM0.out HM.out hm2);cases hk : mkB N M with
 | false =>
  rw [hk] at HMk;have HV := hid (show run21 N M l = ([], 0, 1) by unfold run21; rw [hk]; rfl);((with_reducible refine HMk.out.mono ?_); rintro e w1 ⟨rfl, hb1⟩)
  have HFn := hid (below_then HB.out hb1);go_wp2_with fail;go_ret3;exact RvPo.no HV.out (by decide) rfl HFn.out
 | true =>
  rw [hk] at HMk;have HMkt := hid hk;have hm40 : m ≤ 40 := by have := nt_small (mk_nt hk); have := mk_len hk; have := HM.out; omega
  ((with_reducible refine HMk.out.mono ?_); rintro e w0 ⟨rfl, hb1⟩)
  have HB2 := hid (below_then HB.out hb1);have HNb := hid (HNb0.out.below hb1);have HM2 := hid (HM0.out.below hb1);have HL2 := hid (HL0.out.below hb1);have HIn2 := hid (HIn0.out.below hb1);clear hb1 HMk HB HNb0 HM0 HIn0 HL0;by_cases hlen : 1000 < nl
  · have HV := hid (show run21 N M l = ([], 0, 5) by unfold run21; rw [hk, if_pos rfl, if_pos (by rw [HLl.out]; exact hlen)]);clear hk;go_wp2_with fail;go_ret3;exact RvPo.no HV.out (by decide) rfl HB2.out
  have HV := hid (show run21 N M l = runV N M 0 l by unfold run21; rw [hk, if_pos rfl, if_neg (by rw [HLl.out]; exact hlen)]);have hl1 : nl ≤ 1000 := by omega
  have q3 : decide ((1000 : Int) < (nl : Int)) = false := by simp; omega
  have HCl := hid (clone_any Am m cm M w0 HM2.out HM.out (by omega));clear hk hlen;go_wp2_with fail;((with_reducible refine HCl.out.mono ?_); rintro e w1 ⟨v1, rfl, hS1⟩)
  have HS1 := hid hS1;clear hS1 HCl;go_wp2_with fail;go_loopg [27, 9] (nl) (fun g iv ov wr => RnI N (run21 N M l) l nl w0 g iv ov wr);case atStart => exact ⟨0, M, by omega, rfl, HS1.out, HMkt.out, by rw [HV.out, List.drop_zero]⟩
  case round =>
   clear HS1 HV;obtain ⟨k, L, hkg, rfl, hS, hmk, hR⟩ := hrel;have HK := hid hkg;have HR := hid hR;have HMkL := hid hmk;obtain ⟨Ao, co, rfl⟩ := hS.slice;have hLl : L.length = m := by have := mk_len hmk; have := mk_len HMkt.out; have := HM.out; omega
   rw [hLl] at hS ⊢;have HS := hid hS;have HLL := hid hLl;have HZo := hid (show ZIn wr Ao L by obtain ⟨A', c', e, hz, _⟩ := hS.zin; rw [hLl] at e; cases e; exact hz);have HNbr := hid (HNb.out.below hS.2);have HInr := hid (HIn2.out.below hS.2);have HLr := hid (HL2.out.below hS.2);have hkl : k ≤ nl := by omega
   clear hkg hmk hS hR hLl;obtain ⟨b0, b1, b2, b3⟩ := HNbr.out.cells;by_cases hlt : k < nl
   · have hlt' : k < l.length := by rw [HLl.out]; exact hlt
     obtain ⟨al, rfl, hpa, q0⟩ := HLr.out k hlt';have HDr := hid (List.drop_eq_getElem_cons hlt');generalize l[k] = t at *;rw [HDr.out] at HR;have HFi := hid (pfire_any N A n c Ao m co L t wr HInr.out HNl.out HZo.out HLL.out HMkL.out);clear HDr hlt';by_cases h0 : (fireV N L t).2 = 0
     · have HFy := hid (fv_yes HFi.out h0);have HMn := hid (fire_mk HMkL.out h0);rw [runV_step h0] at HR;clear HFi h0;go_wp2_with fail;((with_reducible refine HFy.out.mono ?_); rintro e w4 ⟨v4, rfl, hS4⟩)
       have HS4 := hid (NS.up HS.out.2 hS4);clear hS4 q0 b0 b1 b2 b3;go_wp2_with fail;go_roundg (gk - 1);case measure => have := HK.out; omega
       case rel => exact ⟨k + 1, _, by have := HK.out; omega, by go_num, HS4.out, HMn.out, HR.out⟩
     · have HFn := hid (fv_no HFi.out h0);rw [runV_stop h0] at HR;have q5 : ((fireV N L t).2 != 0) = true := by rw [bne_iff_ne]; exact h0
       have H0 := hid h0;clear HFi h0;generalize (fireV N L t).2 = er at *;go_wp2_with fail;((with_reducible refine HFn.out.mono ?_); rintro e w4 ⟨rfl, hb4⟩)
       have HB4 := hid (below_then HB2.out (below_then HS.out.2 hb4));go_wp2_with fail;go_ret3;exact RvPo.no HR.out H0.out rfl HB4.out
   · have HE := hid (show run21 N M l = (L, nl, 0) by rw [HR.out, List.drop_eq_nil_of_le (by rw [HLl.out]; omega), show k = nl by omega]; rfl);have HSf := hid (NS.up HB2.out HS.out);go_wp2_with fail;go_ret3;exact RvPo.yes HE.out rfl HSf.out
end
section
open Go.RowKit

theorem plainElem_bool_inv {P : Program} {e : TypeId} (he : P.underlying e = some .bool) {v : Value} {z : DataW Unit × List MemPlace} (h : plainElem P e v = some z) : ∃ x, v = .bool x ∧ z = (.lit (.bool x), []) := by
 unfold plainElem at h;rw [he] at h;cases v <;> simp at h;subst h;exact ⟨_, rfl, rfl⟩
theorem zeroBool (w : World) : (zeroValue 4).run Tryz.prog w = .ok (.bool false) w := by kernel_rfl
theorem litb_inj {a b : Bool} (h : (DataW.lit (.bool a) : DataW Unit) = .lit (.bool b)) : a = b := by cases h; rfl
def KBm (w : World) (mb : Nat) (L : List (List Int)) : Prop :=
 ∃ (n : Nat) (D : DataW Unit), w.ownsMap Tryz.prog 9 (plainElem Tryz.prog 4) mb n D ∧ n ≤ L.length ∧ (∀ z, Maps.has D (klit z) = decide (z ∈ L)) ∧ ∀ z ∈ L, ∀ zd, D.atKey (klit z) zd = .lit (.bool true)
theorem KBm.made (w : World) : KBm (w.alloc (.map #[] 0)) w.heap.size [] :=
 ⟨0, .map [], World.ownsMap_made _ _ _ _, Nat.le_refl _, fun z => rfl, fun z h => by simp at h⟩
theorem KBm.below {w w' : World} {mb : Nat} {L : List (List Int)} (h : KBm w mb L) (hb : Below w.heap.size w w') : KBm w' mb L := by
 obtain ⟨n, D, h1, h2⟩ := h;have hlt := h1.lt;obtain ⟨es, clock, hb', r⟩ := h1;exact ⟨n, D, ⟨es, clock, by rw [hb.block mb hlt]; exact hb', r⟩, h2⟩
theorem KBm.look {w : World} {mb : Nat} {L : List (List Int)} (h : KBm w mb L) {z : List Int} (hz : okZ z) :
 (Instr.lookup 208 (.map (some mb)) (.string ⟨(keyL z).toArray⟩) false).run Tryz.prog w = .ok (.bool (decide (z ∈ L))) w := by
 obtain ⟨n, D, h1, h2, h3, h4⟩ := h;obtain ⟨v, ps, hrun, hR⟩ := h1.lookup (Maps.string_keyed Tryz.underlying9) Tryz.underlying208 (zeroBool w) (plainElem_bool Tryz.underlying4 false) (klit_key hz);rw [hrun];obtain ⟨x, rfl, hx⟩ := plainElem_bool_inv Tryz.underlying4 hR;simp only [Prod.mk.injEq] at hx;by_cases hm : z ∈ L
 · rw [h4 z hm] at hx;rw [decide_eq_true hm, litb_inj hx.1]
 · have : D.atKey (klit z) (.lit (.bool false)) = .lit (.bool false) := Maps.atKey_of_not_has (by rw [h3 z]; simpa using hm) _;rw [this] at hx;rw [decide_eq_false hm, litb_inj hx.1]
theorem KBm.store {w : World} {mb : Nat} {L : List (List Int)} (h : KBm w mb L) {z : List Int} (hz : okZ z) (hl : L.length < 9223372036854775807) :
 ∃ w', (Instr.mapUpdate 208 (.map (some mb)) (.string ⟨(keyL z).toArray⟩) (.bool true)).run Tryz.prog w = .ok () w' ∧ KBm w' mb (L ++ [z]) ∧ w.grownBy w' (some mb) := by
 obtain ⟨n, D, h1, h2, h3, h4⟩ := h;obtain ⟨w', hrun, hown, hgr⟩ := h1.update (Maps.string_keyed Tryz.underlying9) Tryz.underlying208 (by unfold maxLen; omega) (klit_key hz) (plainElem_bool Tryz.underlying4 true);have hI : Maps.IsMap D := h1.isMap;refine ⟨w', hrun, ⟨n + 1, _, hown, by rw [List.length_append]; simp; omega, fun y => ?_, fun y hy zd => ?_⟩, hgr⟩
 · by_cases e : y = z
   · subst e;rw [Maps.has_put_same hI (klit_is _)]; simp
   · rw [Maps.has_put_other (fun h => e (klit_inj h)), h3 y]; simp [e]
 · by_cases e : y = z
   · subst e;rw [Maps.atKey_put_same hI (klit_is _)]
   · rw [Maps.atKey_put_other (fun h => e (klit_inj h))];refine h4 y ?_ zd;rcases List.mem_append.1 hy with h5 | h5
     · exact h5
     · simp at h5; exact absurd h5 e
theorem mk_okZ {N : Nt} {M : List Int} (h : mkB N M = true) : okZ M := by
 refine ⟨fun x hx => by have := mk_nums h x hx; omega, ?_⟩;have := mk_len h; have := nt_small (mk_nt h); omega
def okF (N : Nt) (LL : List (List Int)) (s : List Int) (t : Int) : Bool := decide ((fireV N s t).2 = 0) && decide ((fireV N s t).1 ∈ LL)
theorem en_all {N : Nt} {LL : List (List Int)} {s : List Int} (h : mkB N s = true) : (enV N s).all (okF N LL s) = okS N LL N.tr.length s := by
 have key : ∀ k, k ≤ N.tr.length → (enTo N s k).all (okF N LL s) = okS N LL k s := by
  intro k
  induction k with
  | zero => intro _; rfl
  | succ k ih =>
   intro hk;have h1 := ih (by omega);have hx : N.tr[k]? = some N.tr[k] := List.getElem?_eq_getElem (by omega);rw [okS_succ];cases hc : canAt N s k with
   | false =>
    rw [en_no _ _ _ hc, h1];rw [canAt_get _ _ _ (by omega)] at hc;rw [okT_can hx hc]; simp
   | true =>
    rw [en_yes _ _ _ hc, List.all_append, h1];rw [canAt_get _ _ _ (by omega)] at hc;rw [okT_fire hx hc];simp [okF]
 unfold enV;rw [h, if_pos rfl];exact key _ (Nat.le_refl _)
def C1I (N : Nt) (LL : List (List Int)) (nl : Nat) (w0 : World) (mb g : Nat) (iv : Value) (wr : World) : Prop :=
 ∃ k : Nat, k + g = nl ∧ iv = .int .i64 (k : Int) ∧ (LL.take k).all (mkB N) = true ∧ KBm wr mb (LL.take k) ∧ Below w0.heap.size w0 wr
def C2I (N : Nt) (LL : List (List Int)) (nl : Nat) (w0 : World) (mb g : Nat) (iv : Value) (wr : World) : Prop :=
 ∃ k : Nat, k + g = nl ∧ iv = .int .i64 (k : Int) ∧ (LL.take k).all (okS N LL N.tr.length) = true ∧ KBm wr mb LL ∧ Below w0.heap.size w0 wr
def C3I (N : Nt) (LL : List (List Int)) (X E : List Int) (n : Nat) (w0 we : World) (mb g : Nat) (iv : Value) (wr : World) : Prop :=
 ∃ k : Nat, k + g = n ∧ iv = .int .i64 (k : Int) ∧ (E.take k).all (okF N LL X) = true ∧ KBm wr mb LL ∧ Below w0.heap.size w0 wr ∧ Below we.heap.size we wr
theorem cclosed_any (N : Nt) (A : Option Addr) (n c : Nat) (Am : Option Addr) (m cm : Nat) (M : List Int) (Al : Option Addr) (nl cl : Nat) (LL : List (List Int)) (w : World) (ht : Tb w) (h : NtIn w A N) (hn : N.tr.length = n) (hn2 : n ≤ 9223372036854775806) (hM : ZIn w Am M) (hm : M.length = m) (hmk : mkB N M = true) (hL : LIn w Al LL) (hl : LL.length = nl) (hl2 : nl ≤ 9223372036854775806) :
 Calls Tryz.prog 168 #[.agg #[.int .i64 N.pl, .slice A n c, .int .i64 N.src, .int .i64 N.snk], .slice Am m cm, .slice Al nl cl] w fun e w' => e = .returned (.bool (closedB N M LL)) ∧ Below w.heap.size w w' := by
 have HB := hid (below_alloc w (.cells #[.int .i64 N.pl, .slice A n c, .int .i64 N.src, .int .i64 N.snk] 24));have HNb := hid (NB.new w N.pl A n c N.src N.snk);have HIn := hid (h.below HB.out);have HM := hid (hM.below HB.out);have HL := hid (hL.below HB.out);have HT := hid (ht.below HB.out);have HMl := hid hm;have HLl := hid hl;have HNl := hid hn;have HMk := hid hmk;have hm40 : m ≤ 1000 := by have := nt_small (mk_nt hmk); have := mk_len hmk; omega
 clear h hn hM hm hL hl hmk ht;have hmm := @run_makeMap Tryz.prog;go_enter Tryz.func168, Tryz.ntmps168;go_wp2_with fail;have hs0 : (w.alloc (.cells #[.int .i64 N.pl, .slice A n c, .int .i64 N.src, .int .i64 N.snk] 24)).heap.size = w.heap.size + 1 := by simp
 generalize w.alloc _ = w0 at *;generalize w.heap.size + 1 = mb at *;have HS0 := hid hs0;clear hmm hs0;go_loopg [23] (nl) (fun g iv wr => C1I N LL nl w0 mb g iv wr);case atStart => exact ⟨0, by omega, rfl, by simp, by rw [← HS0.out]; exact KBm.made w0, below_alloc w0 _⟩
 case round =>
  obtain ⟨k, hk, rfl, hp, hKm, hB⟩ := hrel;have HK := hid hk;have HP := hid hp;have HKm := hid hKm;have HBr := hid hB;have HLr := hid (HL.out.below hB);have hle : k ≤ nl := by omega
  obtain ⟨b0, b1, b2, b3⟩ := (HNb.out.below hB).cells;clear hk hp hB hKm;by_cases hlt : k < nl
  · have hlt' : k < LL.length := by rw [HLl.out]; exact hlt
    obtain ⟨al, rfl, hpa, u, q0, Ax, nx, cx, rfl, zx, hx1, hx2, hx3⟩ := HLr.out k hlt';have HTk := hid (all_take (mkB N) hlt');have HTl := hid (List.take_succ_eq_append_getElem hlt');have HNo := hid (all_no (mkB N) (List.getElem_mem hlt'));have HLn := hid (show (LL.take k).length = k by rw [List.length_take]; omega);generalize LL[k] = X at *;have HZx := hid zx;have HXl := hid hx1;have HEn := hid (penabled_any N A n c Ax nx cx X wr (HIn.out.below HBr.out) HNl.out (by omega) zx hx1 (by omega));clear hlt' zx hx1;cases hk : mkB N X with
    | false =>
     have HE := hid (show enE N X = 1 by unfold enE; rw [hk]; rfl);have HV := hid (show closedB N M LL = false by unfold closedB; rw [HNo.out hk]; simp);clear hk HNo;go_wp2_with fail;((with_reducible refine HEn.out.mono ?_); rintro e w1 ⟨v, rfl, hS⟩)
     obtain ⟨Av, cv, rfl⟩ := hS.slice;have HB1 := hid (below_then HBr.out hS.2);rw [HE.out];clear hS;go_wp2_with fail;go_ret;exact ⟨ret_bool HV.out.symm, HB.out.trans (HB1.out.mono HB.out.size)⟩
    | true =>
     have HE := hid (show enE N X = 0 by unfold enE; rw [hk]; rfl);have HV := hid (show (LL.take (k + 1)).all (mkB N) = true by rw [HTk.out, HP.out, hk]; rfl);have HOk := hid (mk_okZ hk);have hnx : nx ≤ 1000 := by have := nt_small (mk_nt hk); have := mk_len hk; have := HXl.out; omega
     clear hk HNo;go_wp2_with fail;((with_reducible refine HEn.out.mono ?_); rintro e w1 ⟨v, rfl, hS⟩)
     obtain ⟨Av, cv, rfl⟩ := hS.slice;have HB1 := hid (below_then HBr.out hS.2);have HKm1 := hid (HKm.out.below hS.2);have HKy := hid (key_any Ax nx cx X w1 (HZx.out.below hS.2) HXl.out (by omega) HOk.out.1 (HT.out.below HB1.out));rw [HE.out];clear hS HEn;go_wp2_with fail;((with_reducible refine HKy.out.mono ?_); rintro e w2 ⟨rfl, hb2⟩)
     have HB2 := hid (below_then HB1.out hb2);have HKm2 := hid (HKm1.out.below hb2);obtain ⟨w3, hrun, hkm3, hgr3⟩ := HKm2.out.store HOk.out (by rw [HLn.out]; omega);have HKm3 := hid hkm3;rw [← HTl.out] at HKm3;have HB3 := hid (HB2.out.grown hgr3 HB2.out.size (fun k hk => by cases hk; rw [HS0.out]; exact Nat.le_refl _));clear hb2 HKy hkm3 hgr3;go_wp2_with fail;go_roundg (gk - 1);case measure => have := HK.out; omega
     case rel => exact ⟨k + 1, by have := HK.out; omega, by go_num, HV.out, HKm3.out, HB3.out⟩
  · have HAll := hid (show LL.all (mkB N) = true by have := HP.out; rwa [List.take_of_length_le (by rw [HLl.out]; omega)] at this);have HKa := hid (show KBm wr mb LL by have := HKm.out; rwa [List.take_of_length_le (by rw [HLl.out]; omega)] at this);clear HP HLr HKm;go_wp2_with fail;clear hle b0 b1 b2 b3 hlt HK;go_loopg [41] (nl) (fun g iv wr => C2I N LL nl w0 mb g iv wr);case atStart => exact ⟨0, by omega, rfl, by simp, HKa.out, HBr.out⟩
    case round =>
     clear HBr HKa;obtain ⟨k, hk, rfl, hp, hKm, hB⟩ := hrel;have HK := hid hk;have HP := hid hp;have HKm := hid hKm;have HBr := hid hB;have HLr := hid (HL.out.below hB);have hle : k ≤ nl := by omega
     obtain ⟨b0, b1, b2, b3⟩ := (HNb.out.below hB).cells;clear hk hp hB hKm;by_cases hlt : k < nl
     · have hlt' : k < LL.length := by rw [HLl.out]; exact hlt
       have HTk := hid (all_take (okS N LL N.tr.length) hlt');have HNo := hid (all_no (okS N LL N.tr.length) (List.getElem_mem hlt'));have HMx := hid (List.all_eq_true.1 HAll.out _ (List.getElem_mem hlt'));obtain ⟨al, rfl, hpa, u, q0, Ax, nx, cx, rfl, zx, hx1, hx2, hx3⟩ := HLr.out k hlt';generalize LL[k] = X at *;have HZx := hid zx;have HXl := hid hx1;have hnx : nx ≤ 1000 := by have := nt_small (mk_nt HMx.out); have := mk_len HMx.out; omega
       have HEn := hid (penabled_any N A n c Ax nx cx X wr (HIn.out.below HBr.out) HNl.out (by omega) zx hx1 (by omega));have HEa := hid (en_all (LL := LL) HMx.out);have HEl := hid (show (enV N X).length ≤ 60 by
        unfold enV; rw [HMx.out, if_pos rfl];have h1 := en_len N X N.tr.length;have h2 := nt_small (mk_nt HMx.out);omega)
       clear hlt' zx hx1 HLr;obtain ⟨go, rfl⟩ : ∃ go, go = gk := ⟨_, rfl⟩;go_wp2_with fail;((with_reducible refine HEn.out.mono ?_); rintro e we ⟨v, rfl, hS⟩)
       obtain ⟨Av, cv, rfl⟩ := hS.slice;have HZe := hid (show ZIn we Av (enV N X) by obtain ⟨A', c', e, hz, _⟩ := hS.zin; cases e; exact hz);have HBe := hid (below_then HBr.out hS.2);have HKe := hid (HKm.out.below hS.2);have HZxe := hid (HZx.out.below hS.2);obtain ⟨ne, hne⟩ : ∃ ne, ne = (enV N X).length := ⟨_, rfl⟩;have HNe := hid hne;rw [← hne] at HEl ⊢;clear hS HEn HBr HKm HZx b0 b1 b2 b3 hne;generalize enV N X = E at *;have hne60 := HEl.out;go_wp2_with fail;go_loopg [53] (ne) (fun g iv wr => C3I N LL X E ne w0 we mb g iv wr);case atStart => exact ⟨0, by omega, rfl, by simp, HKe.out, HBe.out, Below.refl _ _⟩
       case round =>
        clear HBe HKe;obtain ⟨j, hj, rfl, hp, hKm, hB, hBe⟩ := hrel;have HJ := hid hj;have HPj := hid hp;have HKm := hid hKm;have HBr := hid hB;have HZer := hid (HZe.out.below hBe);have HZxr := hid (HZxe.out.below hBe);have HBer := hid hBe;have hjl : j ≤ ne := by omega
        obtain ⟨b0, b1, b2, b3⟩ := (HNb.out.below hB).cells;clear hj hp hB hKm hBe;by_cases hjt : j < ne
        · have hjt' : j < E.length := by rw [← HNe.out]; exact hjt
          obtain ⟨ae, rfl, hpe, q5⟩ := HZer.out j hjt';have HTj := hid (show (E.take (j + 1)).all (okF N LL X) = ((E.take j).all (okF N LL X) && okF N LL X E[j]) by rw [List.take_succ_eq_append_getElem hjt', List.all_append]; simp);have HAn := hid (fun (hf : okF N LL X E[j] = false) => all_no (okF N LL X) (List.getElem_mem hjt') hf);generalize E[j] = t at *;have hfi := pFire_any N A n c Ax nx cx X t wr (HIn.out.below HBr.out) HNl.out (by omega) HZxr.out HXl.out (by omega);rw [show fire21 N X t = fireV N X t by unfold fire21; rw [HMx.out]; rfl] at hfi;have HFi := hid hfi;clear hfi hjt';by_cases h0 : (fireV N X t).2 = 0
          · have HFy := hid (fv_yes HFi.out h0);have HMy := hid (fire_mk HMx.out h0);have HF := hid (show okF N LL X t = decide ((fireV N X t).1 ∈ LL) by unfold okF; rw [decide_eq_true h0]; rfl);clear HFi h0;generalize (fireV N X t).1 = Y at *;have HOk := hid (mk_okZ HMy.out);go_wp2_with fail;((with_reducible refine HFy.out.mono ?_); rintro e w4 ⟨v4, rfl, hS4⟩)
            obtain ⟨A4, c4, rfl⟩ := hS4.slice;have HB4 := hid (below_then HBr.out hS4.2);have HBe4 := hid (below_then HBer.out hS4.2);have HKm4 := hid (HKm.out.below hS4.2);have HKy := hid (key_any A4 Y.length c4 Y w4 (show ZIn w4 A4 Y by obtain ⟨A', c', e, hz, _⟩ := hS4.zin; cases e; exact hz) rfl (HOk.out.2) HOk.out.1 (HT.out.below HB4.out));clear hS4 HFy;by_cases hmem : Y ∈ LL
            · have HV := hid (show (E.take (j + 1)).all (okF N LL X) = true by rw [HTj.out, HPj.out, HF.out, decide_eq_true hmem]; rfl);go_wp2_with fail;((with_reducible refine HKy.out.mono ?_); rintro e w5 ⟨rfl, hb5⟩)
              have HB5 := hid (below_then HB4.out hb5);have HBe5 := hid (below_then HBe4.out hb5);have HKm5 := hid (HKm4.out.below hb5);have hlook := HKm5.out.look HOk.out;rw [decide_eq_true hmem] at hlook;clear hb5 hmem;go_wp2_with fail;go_roundg (gk - 1);case measure => have := HJ.out; omega
              case rel => exact ⟨j + 1, by have := HJ.out; omega, by go_num, HV.out, HKm5.out, HB5.out, HBe5.out⟩
            · have HV := hid (show closedB N M LL = false by
               unfold closedB;rw [HNo.out (by rw [← HEa.out]; exact HAn.out (by rw [HF.out, decide_eq_false hmem]))]; simp)
              go_wp2_with fail;((with_reducible refine HKy.out.mono ?_); rintro e w5 ⟨rfl, hb5⟩)
              have HB5 := hid (below_then HB4.out hb5);have HKm5 := hid (HKm4.out.below hb5);have hlook := HKm5.out.look HOk.out;rw [decide_eq_false hmem] at hlook;clear hb5 hmem;go_wp2_with fail;go_ret;exact ⟨ret_bool HV.out.symm, HB.out.trans (HB5.out.mono HB.out.size)⟩
          · have HFn := hid (fv_no HFi.out h0);have HV := hid (show closedB N M LL = false by
             unfold closedB;rw [HNo.out (by rw [← HEa.out]; exact HAn.out (by unfold okF; rw [decide_eq_false h0]; rfl))]; simp)
            have q6 : ((fireV N X t).2 != 0) = true := by rw [bne_iff_ne]; exact h0
            clear HFi h0;generalize (fireV N X t).2 = er at *;go_wp2_with fail;((with_reducible refine HFn.out.mono ?_); rintro e w4 ⟨rfl, hb4⟩)
            have HB4 := hid (below_then HBr.out hb4);go_wp2_with fail;go_ret;exact ⟨ret_bool HV.out.symm, HB.out.trans (HB4.out.mono HB.out.size)⟩
        · have HV := hid (show (LL.take (k + 1)).all (okS N LL N.tr.length) = true by
           rw [HTk.out, HP.out, ← HEa.out];have h1 := HPj.out;rw [List.take_of_length_le (by rw [← HNe.out]; omega)] at h1;rw [h1]; rfl)
          go_wp2_with fail;go_roundg (go - 1);case measure => have := HK.out; omega
          case rel => exact ⟨k + 1, by have := HK.out; omega, by go_num, HV.out, HKm.out, HBr.out⟩
     · have HV := hid (show closedB N M LL = decide (M ∈ LL) by
        unfold closedB;have h1 := HP.out;rw [List.take_of_length_le (by rw [HLl.out]; omega)] at h1;rw [HAll.out, h1]; simp)
       have HOk := hid (mk_okZ HMk.out);have HKy := hid (key_any Am m cm M wr (HM.out.below HBr.out) HMl.out (by omega) HOk.out.1 (HT.out.below HBr.out));go_wp2_with fail;((with_reducible refine HKy.out.mono ?_); rintro e w5 ⟨rfl, hb5⟩)
       have HB5 := hid (below_then HBr.out hb5);have hlook := (HKm.out.below hb5).look HOk.out;go_wp2_with fail;go_ret;exact ⟨ret_bool HV.out.symm, HB.out.trans (HB5.out.mono HB.out.size)⟩
end
end Go.Proofs.YtkhmngljpfibcaaGreatDoor
