/- fire of reference 24: what a call returns. Fire of reference 21: what a call returns. Find and raise of reference 24: what a call returns. The tree of reference 24 in memory. Graph of reference 24: what a call returns. Fault, HasOmega, SameSpace of reference 24: what a call returns. SameSpace of reference 24: what a call returns. ContainsFunc on transitions; small of the statements: what a call returns. -/
import Derived.Test.YtkhmngljpfibcaaGreatDoorPUu
import Derived.Test.YtkhmngljpfibcaaGreatDoorPBg
import Derived.Test.YtkhmngljpfibcaaGreatDoorPDe
import Derived.Test.YtkhmngljpfibcaaGreatDoorPHd
import Derived.Laws.StructEq
namespace Go.Proofs.YtkhmngljpfibcaaGreatDoor
set_option maxRecDepth 100000
set_option maxHeartbeats 25600000
open Go.Lib (hid)
section
open Go.RowKit

def overP (M : List Int) (p : Int) : Bool := decide (100 < inc1 (M.getD p.toNat 0))
theorem big_over {M l : List Int} (hl : plsOk l M.length) (hM : ∀ p : Nat, M.getD p 0 ≤ 100) : bigM (incs M l) = l.any (overP M) := by
 rw [Bool.eq_iff_iff];unfold bigM;rw [List.any_eq_true, List.any_eq_true];constructor
 · rintro ⟨x, hx, h⟩;obtain ⟨p, hp, rfl⟩ := List.getElem_of_mem hx;have hg := incs_get M l hl p;have e : (incs M l).getD p 0 = (incs M l)[p] := by simp [hp]
   rw [e] at hg;by_cases hm : (p : Int) ∈ l
   · rw [if_pos hm] at hg;refine ⟨(p : Int), hm, ?_⟩;unfold overP;rw [hg] at h;simpa using h
   · rw [if_neg hm] at hg;have := hM p;have h2 := of_decide_eq_true h;omega
 · rintro ⟨p, hp, h⟩;have hr := hl.1 p hp;obtain ⟨q, rfl⟩ := Int.eq_ofNat_of_zero_le hr.1;have hq : q < (incs M l).length := by rw [incs_len]; omega
   refine ⟨(incs M l)[q], List.getElem_mem hq, ?_⟩;have hg := incs_get M l hl q;rw [if_pos hp] at hg;have e : (incs M l).getD q 0 = (incs M l)[q] := by simp [hq]
   rw [← e, hg];simpa [overP] using h
theorem pls_take {l : List Int} {n : Nat} (h : plsOk l n) (k : Nat) : plsOk (l.take k) n :=
 ⟨fun p hp => h.1 p (List.mem_of_mem_take hp), List.Sublist.nodup (List.take_sublist k l) h.2⟩
theorem incs_at {M l : List Int} {k p : Nat} (hl : plsOk l M.length) (hk : k < l.length) (hp : l[k] = (p : Int)) (hpm : p < M.length) :
 ∃ h : p < (incs M (l.take k)).length, (incs M (l.take k))[p] = M.getD p 0 := by
 refine ⟨by rw [incs_len]; exact hpm, ?_⟩;have hg := incs_get M (l.take k) (pls_take hl k) p;have hn : (p : Int) ∉ l.take k := by
  intro hm;obtain ⟨j, hj, e⟩ := List.getElem_of_mem hm;rw [List.getElem_take] at e;rw [List.length_take] at hj;have h2 := hl.2;have h3 : List.Pairwise (· ≠ ·) l := h2;rw [List.pairwise_iff_getElem] at h3;exact h3 j k (by omega) hk (by omega) (by rw [e, hp])
 rw [if_neg hn] at hg;have e : (incs M (l.take k)).getD p 0 = (incs M (l.take k))[p]'(by rw [incs_len]; exact hpm) := by simp [incs_len, hpm]
 rw [← e, hg]
def RFi (L : List Int) (w : World) (e : Ending) (w' : World) : Prop := if bigM L then e = .returned (.tuple #[.slice none 0 0, .bool false]) ∧ Below w.heap.size w w' else ∃ v, e = .returned (.tuple #[v, .bool true]) ∧ NS w w' v L
theorem RFi.no {L : List Int} {w w' : World} {e : Ending} (h : bigM L = true) (he : e = .returned (.tuple #[.slice none 0 0, .bool false])) (hb : Below w.heap.size w w') : RFi L w e w' := by unfold RFi; rw [if_pos h]; exact ⟨he, hb⟩
theorem RFi.yes {L : List Int} {w w' : World} {e : Ending} {v : Value} (h : bigM L = false) (he : e = .returned (.tuple #[v, .bool true])) (hs : NS w w' v L) : RFi L w e w' := by unfold RFi; rw [if_neg (by rw [h]; decide)]; exact ⟨v, he, hs⟩
theorem set_same {w wr : World} {g n cap p : Nat} {D : List Int} {x : Int} (_h : NS w wr (.slice (some ⟨g, 0, none⟩) n cap) D) (hc : wr.cell? ⟨g, p, none⟩ = some (.int .i64 x)) (hx : x = -1) (hp : p < D.length) : D.set p (-1) = D := by
 have h2 := (_h.cells p hp).1;rw [hc] at h2;injection h2 with h2;injection h2 with _ h2;apply List.ext_getElem (by simp);intro j h3 h4;rw [List.getElem_set];split
 · subst_vars; exact h2
 · rfl
theorem decs_le {M : List Int} (l : List Int) (h : plsOk l M.length) (hM : ∀ p : Nat, M.getD p 0 ≤ 100) : ∀ p : Nat, (decs M l).getD p 0 ≤ 100 := by
 intro p;rw [decs_get M l h];have := hM p;have := dec1_bnd (M.getD p 0);split <;> omega
end
section
open Go.RowKit

def fire21 (N : Nt) (M : List Int) (t : Int) : List Int × Int := if mkB N M then fireV N M t else ([], 1)
def FvPo (r : List Int × Int) (w : World) (e : Ending) (w' : World) : Prop := if r.2 = 0 then ∃ v, e = .returned (.tuple #[v, .int .i64 0]) ∧ NS w w' v r.1 else e = .returned (.tuple #[.slice none 0 0, .int .i64 r.2]) ∧ Below w.heap.size w w'
theorem FvPo.no {r : List Int × Int} {w w' : World} {e : Ending} {k : Int} (h : r = ([], k)) (hk : k ≠ 0) (he : e = .returned (.tuple #[.slice none 0 0, .int .i64 k])) (hb : Below w.heap.size w w') : FvPo r w e w' := by
 subst h; unfold FvPo; rw [if_neg hk]; exact ⟨he, hb⟩
theorem FvPo.yes {r : List Int × Int} {w w' : World} {e : Ending} {L : List Int} {v : Value} (h : r = (L, 0)) (he : e = .returned (.tuple #[v, .int .i64 0])) (hs : NS w w' v L) : FvPo r w e w' := by
 subst h; unfold FvPo; rw [if_pos rfl]; exact ⟨v, he, hs⟩
theorem FvPo.parts {r : List Int × Int} {w w' : World} {e : Ending} (h : FvPo r w e w') : (r.2 = 0 ∧ ∃ v, e = .returned (.tuple #[v, .int .i64 0]) ∧ NS w w' v r.1) ∨ (r.2 ≠ 0 ∧ e = .returned (.tuple #[.slice none 0 0, .int .i64 r.2]) ∧ Below w.heap.size w w') := by
 unfold FvPo at h;by_cases h0 : r.2 = 0
 · rw [if_pos h0] at h; exact .inl ⟨h0, h⟩
 · rw [if_neg h0] at h; exact .inr ⟨h0, h⟩
theorem decs_at {M l : List Int} {k p : Nat} (hl : plsOk l M.length) (hk : k < l.length) (hp : l[k] = (p : Int)) (hpm : p < M.length) :
 ∃ h : p < (decs M (l.take k)).length, (decs M (l.take k))[p] = M.getD p 0 := by
 refine ⟨by rw [decs_len]; exact hpm, ?_⟩;have hg := decs_get M (l.take k) (pls_take hl k) p;have hn : (p : Int) ∉ l.take k := by
  intro hm;obtain ⟨j, hj, e⟩ := List.getElem_of_mem hm;rw [List.getElem_take] at e;rw [List.length_take] at hj;have h3 : List.Pairwise (· ≠ ·) l := hl.2;rw [List.pairwise_iff_getElem] at h3;exact h3 j k (by omega) hk (by omega) (by rw [e, hp])
 rw [if_neg hn] at hg;have e : (decs M (l.take k)).getD p 0 = (decs M (l.take k))[p]'(by rw [decs_len]; exact hpm) := by simp [decs_len, hpm]
 rw [← e, hg]
theorem decs_nonneg {t : Tr} {M : List Int} (hl : plsOk t.i M.length) (hM : nonneg M) (hc : canT t M = true) : nonneg (decs M t.i) := by
 intro p;rw [decs_get M t.i hl];have h1 := hM p;split
 · rename_i hp;have := canT_get hc p hp;unfold dec1; split <;> omega
 · exact h1
theorem bad_big {R : List Int} (h : nonneg R) : R.any badK = bigM R := by
 unfold bigM;rw [Bool.eq_iff_iff, List.any_eq_true, List.any_eq_true];constructor
 · rintro ⟨x, hx, hb⟩;obtain ⟨p, hp, rfl⟩ := List.getElem_of_mem hx;have h1 := h p;have e : R.getD p 0 = R[p] := by simp [hp]
   rw [e] at h1;refine ⟨_, hx, ?_⟩;unfold badK at hb;simp only [Bool.or_eq_true, decide_eq_true_eq] at hb ⊢;omega
 · rintro ⟨x, hx, hb⟩;exact ⟨x, hx, by unfold badK; rw [hb]; simp⟩
theorem r21fire_any (N : Nt) (A : Option Addr) (n c : Nat) (Am : Option Addr) (m cm : Nat) (M : List Int) (tt : Int) (w : World) (h : NtIn w A N) (hn : N.tr.length = n) (hn2 : n ≤ 9223372036854775807) (hM : ZIn w Am M) (hm : M.length = m) (hm2 : m ≤ 9223372036854775807) :
 Calls Tryz.prog 221 #[.agg #[.int .i64 N.pl, .slice A n c, .int .i64 N.src, .int .i64 N.snk], .slice Am m cm, .int .i64 tt] w (FvPo (fire21 N M tt) w) := by
 have HB := hid (below_alloc w (.cells #[.int .i64 N.pl, .slice A n c, .int .i64 N.src, .int .i64 N.snk] 24));have HNb0 := hid (NB.new w N.pl A n c N.src N.snk);have HIn0 := hid (h.below HB.out);have HM0 := hid (hM.below HB.out);have HM := hid hm;have HNl := hid hn;clear h hn hM hm;go_enter Tryz.func221, Tryz.ntmps221;go_wp2_with fail;generalize w.alloc _ = wa at *;obtain ⟨b0, b1, b2, b3⟩ := HNb0.out.cells;have HVd := hid (rvalid_any N A n c wa HIn0.out HNl.out hn2);cases hv : ntB N with
 | false =>
  rw [hv] at HVd;have HV := hid (show fire21 N M tt = ([], 1) by unfold fire21 mkB; rw [hv]; rfl);((with_reducible refine HVd.out.mono ?_); rintro e w1 ⟨rfl, hb1⟩)
  have HFin := hid (below_then HB.out hb1);go_wp2_with fail;go_ret2;exact FvPo.no HV.out (by decide) rfl HFin.out
 | true =>
  rw [hv] at HVd;((with_reducible refine HVd.out.mono ?_); rintro e w1 ⟨rfl, hb1⟩)
  have HB1 := hid (below_then HB.out hb1);have HNb1 := hid (HNb0.out.below hb1);have HM1 := hid (HM0.out.below hb1);have HIn1 := hid (HIn0.out.below hb1);have HMk := hid (show mkB N M = (decide ((m : Int) = N.pl) && !(M.any badK)) by unfold mkB; rw [hv, HM.out]; rfl);clear hb1 HVd b0 b1 b2 b3 hv HB HNb0 HM0 HIn0;obtain ⟨b0, b1, b2, b3⟩ := HNb1.out.cells;have HRm := hid (rmarking_any N.pl A n c N.src N.snk Am m cm M w1 HM1.out HM.out hm2);rw [← HMk.out] at HRm;go_wp2_with fail;cases hk : mkB N M with
  | false =>
   rw [hk] at HRm;have HV := hid (show fire21 N M tt = ([], 1) by unfold fire21; rw [hk]; rfl);((with_reducible refine HRm.out.mono ?_); rintro e w2 ⟨rfl, hb2⟩)
   have HFin := hid (below_then HB1.out hb2);go_wp2_with fail;go_ret2;exact FvPo.no HV.out (by decide) rfl HFin.out
  | true =>
   rw [hk] at HRm;have HMkt := hid hk;have HFe := hid (show fire21 N M tt = fireV N M tt by unfold fire21; rw [hk]; rfl);((with_reducible refine HRm.out.mono ?_); rintro e w2 ⟨rfl, hb2⟩)
   have HB2 := hid (below_then HB1.out hb2);have HNb2 := hid (HNb1.out.below hb2);have HM2 := hid (HM1.out.below hb2);have HIn2 := hid (HIn1.out.below hb2);obtain ⟨hs1, hs2, hs3⟩ := nt_small (mk_nt hk);have hml : (m : Int) = N.pl := by rw [← HM.out]; exact mk_len hk
   have HMl := hid hml;have hm0 : 0 < m := by omega
   have hm40 : m ≤ 40 := by omega
   have hn60 : n ≤ 60 := by rw [← HNl.out]; omega
   clear hb2 HRm b0 b1 b2 b3 hk HB1 HNb1 HM1 HIn1 hs1 hs2 hs3 hml;obtain ⟨b0, b1, b2, b3⟩ := HNb2.out.cells;by_cases ht0 : tt < 0
   · have HV := hid (show fireV N M tt = ([], 2) by unfold fireV; rw [if_pos ht0]);go_wp2_with fail;go_ret2;exact FvPo.no (by rw [HFe.out, HV.out]) (by decide) rfl HB2.out
   have q3 : decide (tt < 0) = false := by simpa using ht0
   by_cases ht1 : (n : Int) ≤ tt
   · have HV := hid (show fireV N M tt = ([], 2) by unfold fireV; rw [if_neg ht0, List.getElem?_eq_none (by rw [HNl.out]; omega)]);clear ht0;go_wp2_with fail;go_ret2;exact FvPo.no (by rw [HFe.out, HV.out]) (by decide) rfl HB2.out
   obtain ⟨t, rfl⟩ := Int.eq_ofNat_of_zero_le (show 0 ≤ tt by omega);have htn : t < n := by omega
   have htl : t < N.tr.length := by rw [HNl.out]; exact htn
   have HTg := hid (List.getElem?_eq_getElem htl);obtain ⟨ad, rfl, hpa, hTr⟩ := HIn2.out.1 t htl;have HInT := hid ((nt_inM (mk_nt HMkt.out) (m := m) HMl.out) _ (List.getElem_mem htl));have hok := (netOk_of (mk_nt HMkt.out) (m := m) HMl.out) t _ HTg.out;have HisM := hid (mkM HMkt.out);have HNum := hid (mk_nums HMkt.out);have HCan := hid (can21_any N (some ad) n c Am m cm M t htl w2 HIn2.out.1 HNl.out HM2.out HM.out HInT.out.1 (fun x hx => (HNum.out x hx).1));have HFv := hid (show fireV N M (t : Int) = if canT N.tr[t] M then (if bigM (fireT N.tr[t] M) then ([], 5) else (fireT N.tr[t] M, 0)) else ([], 12) by
    unfold fireV;rw [if_neg (by omega), Int.toNat_natCast, HTg.out])
   clear ht0 ht1 HTg;have ht0 : (0 : Int) ≤ (t : Int) := by omega
   have ht1 : (t : Int) < (n : Int) := by omega
   have q4 : decide ((n : Int) ≤ (t : Int)) = false := by simp; omega
   cases hcan : canT N.tr[t] M with
   | false =>
    rw [hcan] at HCan;have HV := hid (show fireV N M (t : Int) = ([], 12) by rw [HFv.out, hcan]; rfl);clear hcan;go_wp2_with fail;((with_reducible refine HCan.out.mono ?_); rintro e w3 ⟨rfl, hb3⟩)
    have HB3 := hid (below_then HB2.out hb3);go_wp2_with fail;go_ret2;exact FvPo.no (by rw [HFe.out, HV.out]) (by decide) rfl HB3.out
   | true =>
    rw [hcan] at HCan;have HV := hid (show fireV N M (t : Int) = if bigM (fireT N.tr[t] M) then ([], 5) else (fireT N.tr[t] M, 0) by rw [HFv.out, hcan]; rfl);have HNR := hid (show nonneg (fireT N.tr[t] M) from fun p => by
     obtain ⟨e1, e2⟩ := fire_real (t := N.tr[t]) (x := M) (by rw [HM.out]; exact hok) (fun p => (HisM.out p).1) hcan p;rw [e1]; exact e2)
    have HN1 := hid (decs_nonneg (t := N.tr[t]) (M := M) (by rw [HM.out]; exact hok.1) (fun p => (HisM.out p).1) hcan);have HNn := hid (show nonneg M from fun p => (HisM.out p).1);clear hcan HFv HInT;have HR := hid (show fireT N.tr[t] M = incs (decs M N.tr[t].i) N.tr[t].o from rfl);generalize fireT N.tr[t] M = R at HR HV HNR;have HOk := hid hok;have HTr0 := hid hTr;clear hok hTr;generalize N.tr[t] = T at *;obtain ⟨lb, li, lo⟩ := T;simp only at HR HOk HN1;have HBd := hid (show bnd 1000 M from fun x hx => by have := HNum.out x hx; omega);obtain ⟨i0, hi, hz0, hz1, hz2⟩ := info_parts intInfo;have HI := hid (And.intro hi (And.intro hz0 (And.intro hz1 hz2)));clear hi hz0 hz1 hz2;go_wp2_with fail;((with_reducible refine HCan.out.mono ?_); rintro e w0 ⟨rfl, hb3⟩)
    have HB3 := hid (below_then HB2.out hb3);have HNb := hid (HNb2.out.below hb3);have HM3 := hid (HM2.out.below hb3);have hpb : (ad.add (t * 3)).block < w2.heap.size := hpa;obtain ⟨_, ⟨u1, m1, s1⟩, u2, m2, s2⟩ := HTr0.out.below hpa hb3;obtain ⟨Ai, ni, ci, rfl, zi, hi1, hi2, hi3⟩ := s1;obtain ⟨Ao, no, co, rfl, zo, ho1, ho2, ho3⟩ := s2;simp only at hi1 ho1 zi zo m1 m2;have Q := hid (And.intro m1 m2);have HZli := hid zi;have HZlo := hid zo;have Hli := hid hi1;have Hlo := hid ho1;have HOkli := hid HOk.out.1;have HOklo := hid HOk.out.2;have HLp := hid HM.out;have hni : ni ≤ 1000 := by have := pls_len HOk.out.1; simp only at this; rw [← hi1]; omega
    have hno : no ≤ 1000 := by have := pls_len HOk.out.2; simp only at this; rw [← ho1]; omega
    have HOwn := hid (own_lit0 w0);have HAl := hid (below_alloc w0 (.cells #[] 3));have HRd0 := hid (rd_of_z (HM3.out.below HAl.out));clear hb3 zi zo hi1 ho1 m1 m2 hi2 ho2 hpa hpb b0 b1 b2 b3 HCan HTr0 HIn2 HNb2 HM2 HB2;go_wp2_with (at_builtin; refine wpList_append_rd intC_len intC_one _ rfl _ _ 27 rfl w0.heap.size 3 i0 (.int .i64 0) 8 Tryz.underlying27 HI.out.1 HI.out.2.1 HI.out.2.2.1 HI.out.2.2.2 rfl (by decide) (.slice (some ⟨w0.heap.size, 0, none⟩) 0 0) 0 [] rfl HOwn.out Am m cm M rfl HRd0.out HM.out ?c3 ?c4 ?c5 ?_);case c3 => unfold maxLen; omega
    case c4 => omega
    case c5 => exact HAl.out.size
    intro v' w1' hown1 hgrow1;have hS1 := NS.of_app (w := w0) (L := []) (n := 0) HAl.out HOwn.out (by simpa using hown1) hgrow1 rfl HM.out;rw [List.nil_append] at hS1;clear hown1 hgrow1 HRd0 HOwn HAl;obtain ⟨gb, cap, rfl, hgb, hgl⟩ := hS1.row (by rw [HM.out]; exact hm0);rw [HM.out] at hS1 ⊢;have HS1 := hid hS1;have HGb := hid hgb;clear hS1 hgb;go_wp2_with fail;go_loopg [9] (ni) (fun g iv wr => ∃ k : Nat, k + g = ni ∧ iv = .int .i64 k ∧ NS w0 wr (.slice (some ⟨gb, 0, none⟩) m cap) (decs M (li.take k)));case atStart => exact ⟨0, by omega, rfl, by rw [List.take_zero]; exact HS1.out⟩
    case round =>
     clear HS1;obtain ⟨k, hk, rfl, hS⟩ := hrel;have HK := hid hk;have HS := hid hS;have hle : k ≤ ni := by omega
     have HZr := hid (HZli.out.below hS.2);have q1 := cell_stays hS.2 Q.out.1;have q2 := cell_stays hS.2 Q.out.2;have hgr : gb < wr.heap.size := (hS.1.lt gb rfl).2;obtain ⟨b0, b1, b2, b3⟩ := (HNb.out.below hS.2).cells;clear hk hS;by_cases hlt : k < ni
     · have hlt' : k < li.length := by rw [Hli.out]; exact hlt
       obtain ⟨ap, rfl, hpa, q0⟩ := HZr.out k hlt';obtain ⟨p, hp⟩ := Int.eq_ofNat_of_zero_le (HOkli.out.1 _ (List.getElem_mem hlt')).1;have hpm : p < m := by have := (HOkli.out.1 _ (List.getElem_mem hlt')).2; omega
       obtain ⟨hpl, hrd, hx1, hx2⟩ := decs_round M li k p hlt' hp (by rw [HLp.out]; exact hpm) 1000 (by omega) HBd.out;obtain ⟨_, hat⟩ := decs_at (by rw [HLp.out]; exact HOkli.out) hlt' hp (by rw [HLp.out]; exact hpm);have hxn : 0 ≤ (decs M (li.take k))[p] := by rw [hat]; exact HNn.out p
       have h1e : dec1 (decs M (li.take k))[p] = (decs M (li.take k))[p] - 1 := if_neg (by omega);rw [h1e] at hrd;rw [hp] at q0;have HRd := hid hrd;have HC := hid (HS.out.cells p hpl);have HLd := hid (show (decs M (li.take k)).length = m by rw [decs_len]; exact HLp.out);generalize (decs M (li.take k))[p] = x at *;generalize decs M (li.take k) = D at *;clear hrd hp hlt' hpl hat h1e;obtain ⟨r0, r1⟩ := HC.out;have hp0 : (0 : Int) ≤ (p : Int) := by omega
       have hp9 : (p : Int) < (m : Int) := by omega
       go_wp2_with fail;have hbd : Below wr.heap.size wr wr.drew := (Below.refl _ _).drew;have HSd := hid (HS.out.below hbd);have hS0 := cs4 hbd b1 q1 q0 r0;refine re4 24 hS0 (fun hHeld => ?_);clear hS0 hbd HS HC b0 b1 b2 b3 q1 q2 q0 r0 r1 HZr;have r1 := (HSd.out.cells p (by rw [HLd.out]; exact hpm)).2;have hgd : gb < wr.drew.heap.size := (HSd.out.1.lt gb rfl).2;generalize wr.drew = wd at *;refine tkE 0 [23, 24] ?_;(try go_simp);refine tkE 1 [2, 4, 5, 6, 8, 9, 23, 24] ?_;(try go_simp);refine tkE 2 [4, 5, 6, 8, 9, 23, 24] ?_;(try go_simp);refine tkE 3 [4, 5, 6, 8, 9, 23, 24] ?_;(try go_simp);refine tkE 4 [5, 6, 8, 9, 23, 24] ?_;(try go_simp);refine tkE 5 [6, 8, 9, 23, 24] ?_;(try go_simp);refine tkE 6 [8, 9, 23, 24] ?_;(try go_simp);refine tkE 7 [8, 9, 23, 24] ?_;(try go_simp);refine tkE 8 [9, 23, 24] ?_;(try go_simp);refine tkE 9 [23, 24] ?_;(try go_simp);refine tkE 10 [20, 21, 22, 24] ?_;(try go_simp);refine tkE 11 [12, 14, 15, 16, 18, 19, 20, 21, 22, 24] ?_;(try go_simp);refine tkE 12 [14, 15, 16, 18, 19, 20, 21, 22, 24] ?_;(try go_simp);refine tkE 13 [14, 15, 16, 18, 19, 20, 21, 22, 24] ?_;(try go_simp);refine tkE 14 [15, 16, 18, 19, 20, 21, 22, 24] ?_;(try go_simp);refine tkE 15 [16, 18, 19, 20, 21, 22, 24] ?_;(try go_simp);refine tkE 16 [18, 19, 20, 21, 22, 24] ?_;(try go_simp);refine tkE 17 [18, 19, 20, 21, 22, 24] ?_;(try go_simp);refine tkE 18 [19, 20, 21, 22, 24] ?_;(try go_simp);refine tkE 19 [20, 21, 22, 24] ?_;(try go_simp);refine tkE 20 [21, 22, 24] ?_;(try go_simp);refine tkE 21 [22, 24] ?_;(try go_simp);refine tkE 22 [24] ?_;(try go_simp);refine tkE 23 [24] ?_;(try go_simp);refine wpAnyE_one (i := 24) (by kernel_rfl) rfl (fun K hK => ?_);go_simp;skip;refine hK.out _ _ (fun h => absurd rfl h) (fun _ => ?_);clear hK K;try go_simp
       refine wpAnyE_done (by kernel_rfl) ?_ _;clear hHeld;go_wp2_with fail;go_roundg (gk - 1);case measure => have := HK.out; omega
       case rel => exact ⟨k + 1, by have := HK.out; omega, by go_num, by rw [HRd.out]; exact HSd.out.set HGb.out p _⟩
     · have HD := hid (show decs M (li.take k) = decs M li by rw [List.take_of_length_le (by rw [Hli.out]; omega)]);rw [HD.out] at HS;clear HD;have HLp1 := hid (show (decs M li).length = m by rw [decs_len]; exact HLp.out);have HBd1 := hid (show bnd (1000 + (ni : Int)) (decs M li) by have := decs_bnd li 1000 M (by omega) HBd.out; rw [Hli.out] at this; exact this);go_wp2_with fail;clear HLp HBd HK hle hgr HZr HNn b0 b1 b2 b3 q1 q2 hlt;have HLp := hid HLp1.out;have HBd := hid HBd1.out;have HNn := hid HN1.out;clear HLp1 HBd1 HN1;generalize decs M li = M1 at *;have HS1 := hid HS.out;clear HS;obtain ⟨go, rfl⟩ : ∃ go, go = gk := ⟨_, rfl⟩;go_loopg [10] (no) (fun g iv wr => ∃ k : Nat, k + g = no ∧ iv = .int .i64 k ∧ NS w0 wr (.slice (some ⟨gb, 0, none⟩) m cap) (incs M1 (lo.take k)));case atStart => exact ⟨0, by omega, rfl, by rw [List.take_zero]; exact HS1.out⟩
       case round =>
        clear HS1;obtain ⟨k, hk, rfl, hS⟩ := hrel;have HK := hid hk;have HS := hid hS;have hle : k ≤ no := by omega
        have HZr := hid (HZlo.out.below hS.2);have q1 := cell_stays hS.2 Q.out.1;have q2 := cell_stays hS.2 Q.out.2;have hgr : gb < wr.heap.size := (hS.1.lt gb rfl).2;obtain ⟨b0, b1, b2, b3⟩ := (HNb.out.below hS.2).cells;clear hk hS;by_cases hlt : k < no
        · have hlt' : k < lo.length := by rw [Hlo.out]; exact hlt
          obtain ⟨ap, rfl, hpa, q0⟩ := HZr.out k hlt';obtain ⟨p, hp⟩ := Int.eq_ofNat_of_zero_le (HOklo.out.1 _ (List.getElem_mem hlt')).1;have hpm : p < m := by have := (HOklo.out.1 _ (List.getElem_mem hlt')).2; omega
          obtain ⟨hpl, hrd, hx1, hx2⟩ := incs_round M1 lo k p hlt' hp (by rw [HLp.out]; exact hpm) (1000 + ni) (by omega) HBd.out;obtain ⟨_, hat⟩ := incs_at (by rw [HLp.out]; exact HOklo.out) hlt' hp (by rw [HLp.out]; exact hpm);have hxn : 0 ≤ (incs M1 (lo.take k))[p] := by rw [hat]; exact HNn.out p
          have h1e : inc1 (incs M1 (lo.take k))[p] = (incs M1 (lo.take k))[p] + 1 := if_neg (by omega);rw [h1e] at hrd;rw [hp] at q0;have HRd := hid hrd;have HC := hid (HS.out.cells p hpl);have HLd := hid (show (incs M1 (lo.take k)).length = m by rw [incs_len]; exact HLp.out);generalize (incs M1 (lo.take k))[p] = x at *;generalize incs M1 (lo.take k) = D at *;clear hrd hp hlt' hpl hat h1e;obtain ⟨r0, r1⟩ := HC.out;have hp0 : (0 : Int) ≤ (p : Int) := by omega
          have hp9 : (p : Int) < (m : Int) := by omega
          go_wp2_with fail;have hbd : Below wr.heap.size wr wr.drew := (Below.refl _ _).drew;have HSd := hid (HS.out.below hbd);have hS0 := cs4 hbd b1 q2 q0 r0;refine re4 24 hS0 (fun hHeld => ?_);clear hS0 hbd HS HC b0 b1 b2 b3 q1 q2 q0 r0 r1 HZr;have r1 := (HSd.out.cells p (by rw [HLd.out]; exact hpm)).2;have hgd : gb < wr.drew.heap.size := (HSd.out.1.lt gb rfl).2;generalize wr.drew = wd at *;refine tkE 0 [23, 24] ?_;(try go_simp);refine tkE 1 [2, 4, 5, 6, 8, 9, 23, 24] ?_;(try go_simp);refine tkE 2 [4, 5, 6, 8, 9, 23, 24] ?_;(try go_simp);refine tkE 3 [4, 5, 6, 8, 9, 23, 24] ?_;(try go_simp);refine tkE 4 [5, 6, 8, 9, 23, 24] ?_;(try go_simp);refine tkE 5 [6, 8, 9, 23, 24] ?_;(try go_simp);refine tkE 6 [8, 9, 23, 24] ?_;(try go_simp);refine tkE 7 [8, 9, 23, 24] ?_;(try go_simp);refine tkE 8 [9, 23, 24] ?_;(try go_simp);refine tkE 9 [23, 24] ?_;(try go_simp);refine tkE 10 [20, 21, 22, 24] ?_;(try go_simp);refine tkE 11 [12, 14, 15, 16, 18, 19, 20, 21, 22, 24] ?_;(try go_simp);refine tkE 12 [14, 15, 16, 18, 19, 20, 21, 22, 24] ?_;(try go_simp);refine tkE 13 [14, 15, 16, 18, 19, 20, 21, 22, 24] ?_;(try go_simp);refine tkE 14 [15, 16, 18, 19, 20, 21, 22, 24] ?_;(try go_simp);refine tkE 15 [16, 18, 19, 20, 21, 22, 24] ?_;(try go_simp);refine tkE 16 [18, 19, 20, 21, 22, 24] ?_;(try go_simp);refine tkE 17 [18, 19, 20, 21, 22, 24] ?_;(try go_simp);refine tkE 18 [19, 20, 21, 22, 24] ?_;(try go_simp);refine tkE 19 [20, 21, 22, 24] ?_;(try go_simp);refine tkE 20 [21, 22, 24] ?_;(try go_simp);refine tkE 21 [22, 24] ?_;(try go_simp);refine tkE 22 [24] ?_;(try go_simp);refine tkE 23 [24] ?_;(try go_simp);refine wpAnyE_one (i := 24) (by kernel_rfl) rfl (fun K hK => ?_);go_simp;skip;refine hK.out _ _ (fun h => absurd rfl h) (fun _ => ?_);clear hK K;try go_simp
          refine wpAnyE_done (by kernel_rfl) ?_ _;clear hHeld;go_wp2_with fail;go_roundg (gk - 1);case measure => have := HK.out; omega
          case rel => exact ⟨k + 1, by have := HK.out; omega, by go_num, by rw [HRd.out]; exact HSd.out.set HGb.out p _⟩
        · have HD := hid (show incs M1 (lo.take k) = R by rw [List.take_of_length_le (by rw [Hlo.out]; omega)]; exact HR.out.symm);rw [HD.out] at HS;clear HD;have HRl := hid (show R.length = m by rw [HR.out, incs_len]; exact HLp.out);have HMr := hid (rmarking_any N.pl (some ad) n c N.src N.snk (some ⟨gb, 0, none⟩) m cap R wr (show ZIn wr (some ⟨gb, 0, none⟩) R by obtain ⟨A', c', e, hz, _⟩ := HS.out.zin; cases e; exact hz) HRl.out hm2);have HE := hid (show (decide ((m : Int) = N.pl) && !(R.any badK)) = !bigM R by rw [decide_eq_true HMl.out, bad_big HNR.out]; rfl);rw [HE.out] at HMr;cases hbig : bigM R with
          | true =>
           rw [hbig] at HMr HV;go_wp2_with fail;((with_reducible refine HMr.out.mono ?_); rintro e w5 ⟨rfl, hb5⟩)
           have HFin := hid (below_then HB3.out (below_then HS.out.2 hb5));go_wp2_with fail;go_ret2;exact FvPo.no (by rw [HFe.out, HV.out]; rfl) (by decide) rfl HFin.out
          | false =>
           rw [hbig] at HMr HV;go_wp2_with fail;((with_reducible refine HMr.out.mono ?_); rintro e w5 ⟨rfl, hb5⟩)
           have HSf := hid (NS.up HB3.out (HS.out.below hb5));go_wp2_with fail;go_ret2;exact FvPo.yes (by rw [HFe.out, HV.out]; rfl) rfl HSf.out
end
section
open Go.RowKit

def findR (LL : List (List Int)) (m : List Int) : Int := if (LL.findIdx fun s => decide (s = m)) = LL.length then -1 else ((LL.findIdx fun s => decide (s = m) : Nat) : Int)
theorem find_no {LL : List (List Int)} {m : List Int} (h : ∀ s ∈ LL, s ≠ m) : findR LL m = -1 := by
 unfold findR;rw [if_pos];apply List.findIdx_eq_length_of_false;intro x hx;simp only [decide_eq_false_iff_not];exact h x hx
theorem find_at {LL : List (List Int)} {m : List Int} {k : Nat} (h : k < LL.length) (hm : LL[k] = m) (hno : ∀ s ∈ LL.take k, s ≠ m) : findR LL m = (k : Int) := by
 have e : (LL.findIdx fun s => decide (s = m)) = k := by
  rw [List.findIdx_eq h];refine ⟨by simpa using hm, fun j hj => ?_⟩;simp only [decide_eq_false_iff_not];exact hno _ (by rw [List.mem_take_iff_getElem]; exact ⟨j, by omega, rfl⟩)
 unfold findR;rw [e, if_neg (by omega)]
theorem find_neg {LL : List (List Int)} {m : List Int} : findR LL m < 0 ↔ m ∉ LL := by
 constructor
 · intro h hm;unfold findR at h;have := List.findIdx_lt_length_of_exists (xs := LL) (p := fun s => decide (s = m)) ⟨m, hm, by simp⟩;rw [if_neg (by omega)] at h; omega
 · intro h;rw [find_no (fun s hs e => h (by subst e; exact hs))]; omega
theorem find_any (A : Option Addr) (n c : Nat) (LL : List (List Int)) (Am : Option Addr) (m cm : Nat) (M : List Int) (w : World) (h : LIn w A LL) (hn : LL.length = n) (hn2 : n ≤ 9223372036854775806) (hM : ZIn w Am M) (hm : M.length = m) :
 Calls Tryz.prog 130 #[.slice A n c, .slice Am m cm] w fun e w' => e = .returned (.int .i64 (findR LL M)) ∧ Below w.heap.size w w' := by
 have HL := hid h;have HM := hid hM;have HN := hid hn;have HMl := hid hm;clear h hM hn hm;go_enter Tryz.func130, Tryz.ntmps130;go_wp2_with fail;go_loopg [5] (n) (fun g iv wr => ∃ k : Nat, k + g = n ∧ iv = .int .i64 k ∧ (∀ s ∈ LL.take k, s ≠ M) ∧ Below w.heap.size w wr);case atStart => exact ⟨0, by omega, rfl, by simp, Below.refl _ _⟩
 case round =>
  obtain ⟨k, hk, rfl, hp, hB⟩ := hrel;have HB := hid hB;have HK := hid hk;have HP := hid hp;have HLr := hid (HL.out.below hB);have HMr := hid (HM.out.below hB);have hle : k ≤ n := by omega
  clear hk hp hB;by_cases hlt : k < n
  · have hlt' : k < LL.length := by rw [HN.out]; exact hlt
    obtain ⟨ad, rfl, hpa, u, q0, Ax, nx, cx, rfl, zx, hx1, hx2, hx3⟩ := HLr.out k hlt';have HAt := hid (fun e => find_at hlt' e HP.out);have HTk := hid (List.take_succ_eq_append_getElem hlt');generalize LL[k] = X at *;have HS := hid (same_any Ax nx cx Am m cm X M wr zx hx1 HMr.out HMl.out (by omega));clear hlt' zx hx1;by_cases he : X = M
    · have HV := hid (HAt.out he);rw [decide_eq_true he] at HS;clear he HAt;go_wp2_with fail;((with_reducible refine HS.out.mono ?_); rintro e w1 ⟨rfl, hb1⟩)
      have HB1 := hid (below_then HB.out hb1);clear hb1;go_wp2_with fail;go_ret;exact ⟨ret_int HV.out.symm, HB1.out⟩
    · have HV := hid (show ∀ s ∈ LL.take (k + 1), s ≠ M by
       rw [HTk.out]; intro s hs;rcases List.mem_append.1 hs with h1 | h1
       · exact HP.out s h1
       · have : s = X := by simpa using h1
         subst this; exact he)
      rw [decide_eq_false he] at HS;clear he HAt;go_wp2_with fail;((with_reducible refine HS.out.mono ?_); rintro e w1 ⟨rfl, hb1⟩)
      have HB1 := hid (below_then HB.out hb1);clear hb1;go_wp2_with fail;go_roundg (gk - 1);case measure => have := HK.out; omega
      case rel => exact ⟨k + 1, by have := HK.out; omega, by go_num, HV.out, HB1.out⟩
  · have HV := hid (show findR LL M = -1 from find_no (by have := HP.out; rwa [List.take_of_length_le (by rw [HN.out]; omega)] at this));go_wp2_with fail;go_ret;exact ⟨ret_int HV.out.symm, HB.out⟩
end
section
open Go.RowKit

theorem OMv.app {w0 wr w' : World} {v : Value} {MV : List Mv} (h : OMv w0 wr v MV) {o : Obj} {b k n : Nat} {e : TypeId} {x : Value} {xs : List Value} (hr : wr.ownsRow b e k x n xs) (h1 : 113 ≠ e) (hg : (wr.alloc o).grownBy w' x.ownBlock) (hbase : w0.heap.size ≤ b) : OMv w0 w' v MV :=
 ⟨(h.1.alloc o).kept hg (own_apart (h.1.alloc o) (hr.alloc o) h1), (h.2.alloc h.2.size o).grown hg (by have := h.2.size; simp; omega) (fun k hk => Nat.le_trans hbase (hr.lt k hk).1)⟩
end
section
open Go.RowKit

theorem sp_grown (w : World) (b : Nat) (v0 v1 v2 : Value) : w.grownBy (((w.setCell ⟨b, 0, none⟩ v0).setCell ⟨b, 1, none⟩ v1).setCell ⟨b, 2, none⟩ v2) (some b) :=
 Lib.grownBy_setB (Lib.grownBy_setB (Lib.grownBy_setB (grown_refl w (some b)) 0 v0) 1 v1) 2 v2
end
section
open Go.RowKit

def omB (ST : List (List Int)) : Bool := ST.any hasO
theorem SpB.new (w : World) (vS vM : Value) (fl : Bool) : SpB (w.alloc (.cells #[vS, vM, .bool fl] 41)) w.heap.size vS vM fl := heap_alloc_new w _
instance : DecidableEq Mv := fun a b => by
 cases a; cases b;simp only [Mv.mk.injEq]
 infer_instance
end
section
open Go.RowKit

theorem mv_cells {w : World} {A : Option Addr} {MV : List Mv} (h : Rd mvC 3 w A MV) {k : Nat} (hk : k < MV.length) :
 ∃ ad, A = some ad ∧ (ad.add (k * 3)).block < w.heap.size ∧ w.cell? (ad.add (k * 3)) = some (.int .i64 MV[k].f) ∧ w.cell? ⟨(ad.add (k * 3)).block, (ad.add (k * 3)).off + 1, none⟩ = some (.int .i64 MV[k].t) ∧ w.cell? ⟨(ad.add (k * 3)).block, (ad.add (k * 3)).off + 1 + 1, none⟩ = some (.int .i64 MV[k].s) := by
 obtain ⟨ad, e, h1, h2⟩ := h k hk;refine ⟨ad, e, h1, h2 0 _ (by omega) rfl, ?_, ?_⟩
 · have := h2 1 _ (by omega) rfl;rwa [add_at _ _ _ (by omega)] at this
 · have := h2 2 _ (by omega) rfl;rwa [add_at _ _ _ (by omega)] at this
end
section
open Go.RowKit

def bigT (t : Tr) : Bool := decide (12 < t.i.length) || (decide (12 < t.o.length) || decide (100 < t.lb.size))
end
end Go.Proofs.YtkhmngljpfibcaaGreatDoor
