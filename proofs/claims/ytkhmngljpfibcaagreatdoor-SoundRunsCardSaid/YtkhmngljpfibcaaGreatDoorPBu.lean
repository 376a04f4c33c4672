/- proper, covered of sound: what a call returns. covered of sound: what a call returns. -/
import Derived.Test.YtkhmngljpfibcaaGreatDoorPUu
import Derived.Test.YtkhmngljpfibcaaGreatDoorPBs
import Derived.Test.YtkhmngljpfibcaaGreatDoorPQp
import Derived.Test.YtkhmngljpfibcaaGreatDoorPDn
import Derived.Test.YtkhmngljpfibcaaGreatDoorPJc
namespace Go.Proofs.YtkhmngljpfibcaaGreatDoor
set_option maxRecDepth 100000
set_option maxHeartbeats 3200000
open Go.Lib (hid)
section
open Go.RowKit

def FltK (N : Nt) (work : Bool) (most k : Int) : Prop :=
 (ntB N = false ∧ k = 1) ∨ (ntB N = true ∧ work = true ∧ ¬ wfP N ∧ k = 19) ∨ (ntB N = true ∧ (work = true → wfP N) ∧ ¬ (1 ≤ most ∧ most ≤ 500) ∧ k = 2) ∨ (ntB N = true ∧ (work = true → wfP N) ∧ (1 ≤ most ∧ most ≤ 500) ∧ k = 0)
theorem FltK.uniq {N : Nt} {work : Bool} {most k q : Int} (h : FltK N work most k) (g : FltK N work most q) : k = q := by
 unfold FltK at h g;rcases h with ⟨h1, h2⟩ | ⟨h1, h2, h3, h4⟩ | ⟨h1, h2, h3, h4⟩ | ⟨h1, h2, h3, h4⟩ <;> rcases g with ⟨g1, g2⟩ | ⟨g1, g2, g3, g4⟩ | ⟨g1, g2, g3, g4⟩ | ⟨g1, g2, g3, g4⟩ <;> first | omega | (exfalso; simp_all; done) | (rw [h1] at g1; cases g1) | exact absurd (g2 h2) h3 | exact absurd (h2 g2) g3
theorem FltK.ok {N : Nt} {work : Bool} {most : Int} (h : FltK N work most 0) : ntB N = true ∧ (work = true → wfP N) ∧ 1 ≤ most ∧ most ≤ 500 := by
 unfold FltK at h;rcases h with ⟨_, h2⟩ | ⟨_, _, _, h4⟩ | ⟨_, _, _, h4⟩ | ⟨h1, h2, h3, _⟩
 · omega
 · omega
 · omega
 · exact ⟨h1, h2, h3.1, h3.2⟩
def PrPo (N : Nt) (work : Bool) (most : Int) (w : World) (e : Ending) (w' : World) : Prop :=
 (∃ k : Int, e = .returned (.tuple #[.slice none 0 0, .int .i64 k]) ∧ FltK N work most k ∧ k ≠ 0 ∧ Below w.heap.size w w') ∨ (FltK N work most 0 ∧ ∃ v, e = .returned (.tuple #[v, .int .i64 0]) ∧ NS w w' v (iniM N))
theorem proper_any (N : Nt) (A : Option Addr) (n c : Nat) (work : Bool) (most : Int) (w : World) (h : NtIn w A N) (hn : N.tr.length = n) (hn2 : n ≤ 9223372036854775806) :
 Calls Tryz.prog 66 #[.agg #[.int .i64 N.pl, .slice A n c, .int .i64 N.src, .int .i64 N.snk], .bool work, .int .i64 most] w (PrPo N work most w) := by
 have HB0 := hid (below_alloc w (.cells #[.int .i64 N.pl, .slice A n c, .int .i64 N.src, .int .i64 N.snk] 24));have HNb0 := hid (NB.new w N.pl A n c N.src N.snk);have HIn0 := hid (h.below HB0.out);have HNl := hid hn;have hn3 : n ≤ 9223372036854775807 := by omega
 clear h hn;go_enter Tryz.func66, Tryz.ntmps66;go_wp2_with fail;generalize w.alloc _ = w0 at *;obtain ⟨b0, b1, b2, b3⟩ := HNb0.out.cells;have HV := hid (pvalid_any N A n c w0 HIn0.out HNl.out hn3);((with_reducible refine HV.out.mono ?_); rintro e w1 ⟨rfl, hb1⟩)
 have HB1 := hid (HB0.out.trans (hb1.mono HB0.out.size));have HNb1 := hid (HNb0.out.below hb1);have HIn1 := hid (HIn0.out.below hb1);clear HV hb1 b0 b1 b2 b3 HB0 HNb0 HIn0;cases hv : ntB N with
 | false =>
  have HF := hid (show FltK N work most 1 from .inl ⟨hv, rfl⟩);clear hv;go_wp2_with fail;go_ret2;exact .inl ⟨1, rfl, HF.out, by decide, HB1.out⟩
 | true =>
  have HVt := hid hv;clear hv;obtain ⟨b0, b1, b2, b3⟩ := HNb1.out.cells;by_cases hbad : ¬ (1 ≤ most ∧ most ≤ 500)
  · skip;cases work with
    | false =>
     have HF := hid (show FltK N false most 2 from .inr (.inr (.inl ⟨HVt.out, (fun h => by cases h), hbad, rfl⟩)));by_cases h1 : most < 1
     · have hq1 : decide (most < 1) = true := by simp; omega
       clear hbad;go_wp2_with fail;go_ret2;exact .inl ⟨2, rfl, HF.out, by decide, HB1.out⟩
     · have hq1 : decide (most < 1) = false := by simp; omega
       have hq2 : decide (most > 500) = true := by simp; omega
       clear hbad;go_wp2_with fail;go_ret2;exact .inl ⟨2, rfl, HF.out, by decide, HB1.out⟩
    | true =>
     have HWk := hid (pwork_any N A n c w1 HIn1.out HNl.out hn2);go_wp2_with fail;((with_reducible refine HWk.out.mono ?_); rintro e w2 ⟨⟨q, rfl, hq⟩, hb2⟩)
     have HB2 := hid (HB1.out.trans (hb2.mono HB1.out.size));have HNb2 := hid (HNb1.out.below hb2);have HIn2 := hid (HIn1.out.below hb2);clear HWk hb2 b0 b1 b2 b3 HB1 HNb1 HIn1;obtain ⟨b0, b1, b2, b3⟩ := HNb2.out.cells;cases q with
     | false =>
      have HF := hid (show FltK N true most 19 from .inr (.inl ⟨HVt.out, rfl, (fun hw => by have h9 := hq.2 ⟨HVt.out, hw⟩; cases h9), rfl⟩));clear hq;go_wp2_with fail;go_ret2;exact .inl ⟨19, rfl, HF.out, by decide, HB2.out⟩
     | true =>
      have HWf := hid (hq.1 (by trivial)).2;clear hq;have HF := hid (show FltK N true most 2 from .inr (.inr (.inl ⟨HVt.out, (fun _ => HWf.out), hbad, rfl⟩)));by_cases h1 : most < 1
      · have hq1 : decide (most < 1) = true := by simp; omega
        clear hbad;go_wp2_with fail;go_ret2;exact .inl ⟨2, rfl, HF.out, by decide, HB2.out⟩
      · have hq1 : decide (most < 1) = false := by simp; omega
        have hq2 : decide (most > 500) = true := by simp; omega
        clear hbad;go_wp2_with fail;go_ret2;exact .inl ⟨2, rfl, HF.out, by decide, HB2.out⟩
  have hq1 : decide (most < 1) = false := by simp; omega
  have hq2 : decide (most > 500) = false := by simp; omega
  have hm1 : 1 ≤ most ∧ most ≤ 500 := by omega
  cases work with
  | false =>
   have HI1 := hid (pini_any N A n c w1 HIn1.out HNl.out hn3 HVt.out);have HF := hid (show FltK N false most 0 from .inr (.inr (.inr ⟨HVt.out, (fun h => by cases h), hm1, rfl⟩)));go_wp2_with fail;((with_reducible refine HI1.out.mono ?_); rintro e w9 ⟨v, rfl, hS⟩)
   have HS := hid (NS.up HB1.out hS);clear hS;go_wp2_with fail;go_ret2;exact .inr ⟨HF.out, v, rfl, HS.out⟩
  | true =>
   have HWk := hid (pwork_any N A n c w1 HIn1.out HNl.out hn2);go_wp2_with fail;((with_reducible refine HWk.out.mono ?_); rintro e w2 ⟨⟨q, rfl, hq⟩, hb2⟩)
   have HB2 := hid (HB1.out.trans (hb2.mono HB1.out.size));have HNb2 := hid (HNb1.out.below hb2);have HIn2 := hid (HIn1.out.below hb2);clear HWk hb2 b0 b1 b2 b3 HB1 HNb1 HIn1;obtain ⟨b0, b1, b2, b3⟩ := HNb2.out.cells;cases q with
   | false =>
    have HF := hid (show FltK N true most 19 from .inr (.inl ⟨HVt.out, rfl, (fun hw => by have h9 := hq.2 ⟨HVt.out, hw⟩; cases h9), rfl⟩));clear hq;go_wp2_with fail;go_ret2;exact .inl ⟨19, rfl, HF.out, by decide, HB2.out⟩
   | true =>
    have HWf := hid (hq.1 (by trivial)).2;clear hq;have HI2 := hid (pini_any N A n c w2 HIn2.out HNl.out hn3 HVt.out);have HF := hid (show FltK N true most 0 from .inr (.inr (.inr ⟨HVt.out, (fun _ => HWf.out), hm1, rfl⟩)));go_wp2_with fail;((with_reducible refine HI2.out.mono ?_); rintro e w9 ⟨v, rfl, hS⟩)
    have HS := hid (NS.up HB2.out hS);clear hS;go_wp2_with fail;go_ret2;exact .inr ⟨HF.out, v, rfl, HS.out⟩
end
section
open Go.RowKit

def CvdPo (N : Nt) (A : Option Addr) (n c : Nat) (work : Bool) (most : Int) (w : World) (e : Ending) (w' : World) : Prop :=
 (∃ k : Int, e = .returned (.tuple #[.pointer none, .int .i64 k]) ∧ k ≠ 0 ∧ (FltK N work most k ∨ (FltK N work most 0 ∧ growT N (iniM N) most.toNat = none ∧ k = 13)) ∧ Below w.heap.size w w') ∨
 (FltK N work most 0 ∧ ∃ (T : TS) (b : Nat) (As : Option Addr) (cs : Nat) (Av : Option Addr) (cv : Nat) (Af : Option Addr) (cf : Nat) (Ag : Option Addr) (cg : Nat), growT N (iniM N) most.toNat = some T ∧ e = .returned (.tuple #[.pointer (some ⟨b, 0, none⟩), .int .i64 0]) ∧ WdI w' b N T.states (movesOf T) true A n c As cs Av cv Af cf Ag cg ∧ Below w.heap.size w w')
theorem beR_ini {N : Nt} {most : Int} (hv : ntB N = true) (h1 : 1 ≤ most) (h2 : most ≤ 500) : beR N [iniM N] 0 most = match growT N (iniM N) most.toNat with | some T => .inr T | none => .inl 13 := by
 have hm := one_mk hv N.src.toNat;have hp := nt_small hv;have hb : badR N 0 most = false := by unfold badR; simp; omega
 have ha : [iniM N].all (mkB N) = true := by simp; exact hm
 unfold beR;rw [if_pos ha, hb];rfl
theorem covered_any (N : Nt) (A : Option Addr) (n c : Nat) (work : Bool) (most : Int) (w : World) (h : NtIn w A N) (hn : N.tr.length = n) (hn2 : n ≤ 9223372036854775806) (ht : Tb w) :
 Calls Tryz.prog 47 #[.agg #[.int .i64 N.pl, .slice A n c, .int .i64 N.src, .int .i64 N.snk], .bool work, .int .i64 most] w (CvdPo N A n c work most w) := by
 have HB0 := hid (below_alloc w (.cells #[.int .i64 N.pl, .slice A n c, .int .i64 N.src, .int .i64 N.snk] 24));have HNb0 := hid (NB.new w N.pl A n c N.src N.snk);have HIn0 := hid (h.below HB0.out);have HT0 := hid (ht.below HB0.out);have HNl := hid hn;have hn3 : n ≤ 9223372036854775807 := by omega
 clear h hn ht;go_enter Tryz.func47, Tryz.ntmps47;go_wp2_with fail;generalize w.alloc _ = w0 at *;obtain ⟨b0, b1, b2, b3⟩ := HNb0.out.cells;have HP := hid (proper_any N A n c work most w0 HIn0.out HNl.out hn2);((with_reducible refine HP.out.mono ?_); rintro e w1 hpr)
 rcases hpr with ⟨k, rfl, hf, hk0, hb1⟩ | ⟨hf, v1, rfl, hS⟩
 · have HF := hid hf;have HB1 := hid (HB0.out.trans (hb1.mono HB0.out.size));have q1 : (k != 0) = true := by rw [bne_iff_ne]; exact hk0
   have HK0 := hid hk0;clear hf hb1 hk0 HP b0 b1 b2 b3;go_wp2_with fail;go_ret2;exact .inl ⟨k, rfl, HK0.out, .inl HF.out, HB1.out⟩
 · have HF := hid hf;obtain ⟨hv, hwf, hm1, hm2⟩ := hf.ok;have HV := hid hv;have hb1 := hS.2;have HB1 := hid (HB0.out.trans (hb1.mono HB0.out.size));have HNb1 := hid (HNb0.out.below hb1);have HIn1 := hid (HIn0.out.below hb1);have HT1 := hid (HT0.out.below hb1);obtain ⟨A1, c1, rfl, hz, hz1, hz2⟩ := hS.zin;have HG := hid (graph_any N A n c A1 (iniM N).length c1 (iniM N) most w1 HIn1.out HNl.out hn3 hz rfl hz1 hz2 HT1.out);have HBe := hid (beR_ini hv hm1 hm2);clear hf hv hwf hS hb1 hz hz1 hz2 HP b0 b1 b2 b3 HB0 HNb0 HIn0 HT0;obtain ⟨b0, b1, b2, b3⟩ := HNb1.out.cells;go_wp2_with fail;((with_reducible refine HG.out.mono ?_); rintro e w2 ⟨hb2, hg⟩)
   rw [HBe.out] at hg;have HB2 := hid (HB1.out.trans (hb2.mono HB1.out.size));have HNb2 := hid (HNb1.out.below hb2);have HIn2 := hid (HIn1.out.below hb2);clear HG HBe b0 b1 b2 b3 hb2 HB1 HNb1 HIn1 HT1;cases hgr : growT N (iniM N) most.toNat with
   | none =>
    rw [hgr] at hg;simp only at hg;subst hg;have HGr := hid hgr;clear hgr;go_wp2_with fail;go_ret2;exact .inl ⟨13, rfl, by decide, .inr ⟨HF.out, HGr.out, rfl⟩, HB2.out.alloc HB2.out.size _⟩
   | some T =>
    rw [hgr] at hg;simp only at hg;obtain ⟨vS, vM, rfl, hO, hM⟩ := hg;obtain ⟨As, cs, rfl, hl, _, _⟩ := hO.lin;obtain ⟨Av, cv, rfl, _, _, _, hr, _⟩ := own_rd mvC_len (by decide) hM.1;obtain ⟨hI, _⟩ := growT_inv hgr;obtain ⟨hmo, _⟩ := moves_ok hI;have hcnt := hI.cnt;have hlen := hI.len;have hml : (movesOf T).length ≤ 20000 := by rw [movesOf_len]; omega
    have HGr := hid hgr;have HL := hid hl;have HR := hid hr;have HMo := hid hmo;clear hgr hl hr hO hM hI hmo;have HA := hid (below_alloc w2 (.cells #[.slice As T.states.length cs, .slice Av (movesOf T).length cv, .bool true] 41));obtain ⟨b0, b1, b2, b3⟩ := (HNb2.out.below HA.out).cells;have d0 := heap_alloc_new w2 (.cells #[.slice As T.states.length cs, .slice Av (movesOf T).length cv, .bool true] 41);obtain ⟨e0, e1, e2⟩ := (show SpB _ w2.heap.size (.slice As T.states.length cs) (.slice Av (movesOf T).length cv) true from d0).cells;have HGa := hid (gather_any N A n c As cs T.states Av cv (movesOf T) true _ (HIn2.out.below HA.out) HNl.out hn3 HV.out (HL.out.below HA.out) (HR.out.below HA.out) HMo.out (by omega) hml);have HB3 := hid (HB2.out.trans (HA.out.mono HB2.out.size));clear d0;go_wp2_with fail;((with_reducible refine HGa.out.mono ?_); rintro e w4 ⟨b, Af, cf, Ag, cg, rfl, hW, hb4⟩)
    have HW := hid hW;have HB4 := hid (HB3.out.trans (hb4.mono HB3.out.size));clear hW hb4 HGa b0 b1 b2 b3 e0 e1 e2;go_wp2_with fail;go_ret2;exact .inr ⟨HF.out, T, b, As, cs, Av, cv, Af, cf, Ag, cg, HGr.out, rfl, HW.out, HB4.out⟩
end
end Go.Proofs.YtkhmngljpfibcaaGreatDoor
