/- small, none, initial, Fault, graph of the statements of chapter 28: what a call returns. Completes of sound: what a call returns. -/
import Derived.Test.YtkhmngljpfibcaaGreatDoorPUu
import Derived.Test.YtkhmngljpfibcaaGreatDoorPHg
import Derived.Test.YtkhmngljpfibcaaGreatDoorPAd
import Derived.Test.YtkhmngljpfibcaaGreatDoorPYj
import Derived.Test.YtkhmngljpfibcaaGreatDoorPYf
import Derived.Test.YtkhmngljpfibcaaGreatDoorPTr
import Derived.Test.YtkhmngljpfibcaaGreatDoorPAf
import Derived.Test.YtkhmngljpfibcaaGreatDoorPTq
namespace Go.Proofs.YtkhmngljpfibcaaGreatDoor
set_option maxRecDepth 100000
set_option maxHeartbeats 12800000
open Go.Lib (hid)
section
open Go.RowKit

theorem small28a_any (lb : ByteArray) (Ai Ao : Option Addr) (ni ci no co : Nat) (w : World) :
 Calls Tryz.prog 46 #[.agg #[.string lb, .slice Ai ni ci, .slice Ao no co]] w fun e w' => e = .returned (.bool (decide (12 < ni) || (decide (12 < no) || decide (100 < lb.size)))) ∧ Below w.heap.size w w' := by
 have HB := hid (below_alloc w (.cells #[.string lb, .slice Ai ni ci, .slice Ao no co] 79));by_cases h1 : 12 < ni
 · have q1 : decide ((12 : Int) < (ni : Int)) = true := by simp; omega
   have HV := hid (show (decide (12 < ni) || (decide (12 < no) || decide (100 < lb.size))) = true by rw [decide_eq_true h1]; rfl);clear h1;go_enter Tryz.func46, Tryz.ntmps46;go_wp2_with fail;go_ret;exact ⟨ret_bool HV.out.symm, HB.out⟩
 · have q1 : decide ((12 : Int) < (ni : Int)) = false := by simp; omega
   by_cases h2 : 12 < no
   · have q2 : decide ((12 : Int) < (no : Int)) = true := by simp; omega
     have HV := hid (show (decide (12 < ni) || (decide (12 < no) || decide (100 < lb.size))) = true by rw [decide_eq_true h2]; simp);clear h1 h2;go_enter Tryz.func46, Tryz.ntmps46;go_wp2_with fail;go_ret;exact ⟨ret_bool HV.out.symm, HB.out⟩
   · have q2 : decide ((12 : Int) < (no : Int)) = false := by simp; omega
     by_cases h3 : 100 < lb.size
     · have q3 : decide ((100 : Int) < (lb.size : Int)) = true := by simp; omega
       have HV := hid (show (decide (12 < ni) || (decide (12 < no) || decide (100 < lb.size))) = true by rw [decide_eq_true h3]; simp);clear h1 h2 h3;go_enter Tryz.func46, Tryz.ntmps46;go_wp2_with fail;go_ret;exact ⟨ret_bool HV.out.symm, HB.out⟩
     · have q3 : decide ((100 : Int) < (lb.size : Int)) = false := by simp; omega
       have HV := hid (show (decide (12 < ni) || (decide (12 < no) || decide (100 < lb.size))) = false by rw [decide_eq_false h1, decide_eq_false h2, decide_eq_false h3]; rfl);clear h1 h2 h3;go_enter Tryz.func46, Tryz.ntmps46;go_wp2_with fail;go_ret;exact ⟨ret_bool HV.out.symm, HB.out⟩
theorem tindex_s28 (A : Option Addr) (n cap : Nat) (L : List Tr) (w : World) (h : TIn w A L) (hn : L.length = n) (hn4 : n ≤ 9223372036854775807) :
 Calls Tryz.prog 116 #[.slice A n cap, .func (.func 46) #[] #[]] w (BIdx (!(L.any bigT)) w) := by
 have H0 := hid h; clear h;have HN := hid hn; clear hn;go_enter Tryz.func116, Tryz.ntmps116;go_wp2_with fail;go_loopg [8] (n) (fun g i wr => ∃ k : Nat, k + g = n ∧ i = .int .i64 k ∧ (L.take k).any bigT = false ∧ Below w.heap.size w wr);case atStart => exact ⟨0, by omega, rfl, by simp, Below.refl _ _⟩
 case round =>
  obtain ⟨k, hk, rfl, hno, hB⟩ := hrel;have HK := hid hk;have HNo := hid hno;have HB := hid hB;have HT := hid (H0.out.below hB);have hle : k ≤ n := by omega
  clear hk hno hB;by_cases hlt : k < n
  · have hlt' : k < L.length := by rw [HN.out]; exact hlt
    obtain ⟨ad, rfl, hp, c0, ⟨u1, c1, s1⟩, u2, c2, s2⟩ := HT.out k hlt';have HTk := hid (List.take_succ_eq_append_getElem hlt');have HM := hid (List.getElem_mem hlt');generalize L[k] = x at *;clear hlt';obtain ⟨lb, li, lo⟩ := x;obtain ⟨Ai, ni, ci, rfl, _, hi1, _⟩ := s1;obtain ⟨Ao, no, co, rfl, _, ho1, _⟩ := s2;simp only at c0 c1 c2 hi1 ho1;subst hi1 ho1;have HX := hid (small28a_any lb Ai Ao li.length ci lo.length co wr);have HXe := hid (show bigT ⟨lb, li, lo⟩ = (decide (12 < li.length) || (decide (12 < lo.length) || decide (100 < lb.size))) from rfl);rw [← HXe.out] at HX;cases hv : bigT ⟨lb, li, lo⟩ with
    | true =>
     rw [hv] at HX;have HV := hid hv; clear hv;go_wp2_with fail;((with_reducible refine HX.out.mono ?_); rintro e w1 ⟨rfl, hb1⟩)
     go_wp2_with fail;go_ret;refine BIdx.yes ?_ rfl (below_then HB.out hb1);rw [List.any_eq_true.2 ⟨_, HM.out, HV.out⟩]; rfl
    | false =>
     rw [hv] at HX;have HV := hid hv; clear hv;go_wp2_with fail;((with_reducible refine HX.out.mono ?_); rintro e w1 ⟨rfl, hb1⟩)
     have HB1 := hid (below_then HB.out hb1);clear hb1;go_wp2_with fail;go_roundg (gk - 1);case measure => have := HK.out; omega
     case rel => exact ⟨k + 1, by have := HK.out; omega, by go_num, by rw [HTk.out, List.any_append, HNo.out]; simp [HV.out], HB1.out⟩
  · have HE := hid (show L.take k = L from List.take_of_length_le (by have := HN.out; omega));go_wp2_with fail;go_ret;refine BIdx.no ?_ rfl HB.out;rw [← HE.out, HNo.out]; rfl
theorem tcont_s28 (A : Option Addr) (n cap : Nat) (L : List Tr) (w : World) (h : TIn w A L) (hn : L.length = n) (hn4 : n ≤ 9223372036854775807) :
 Calls Tryz.prog 45 #[.slice A n cap, .func (.func 46) #[] #[]] w fun e w' => e = .returned (.bool (L.any bigT)) ∧ Below w.heap.size w w' := by
 have HI := hid (tindex_s28 A n cap L w h hn hn4);clear h hn;generalize L.any bigT = r at HI ⊢;cases r with
 | false =>
  go_enter Tryz.func45, Tryz.ntmps45;go_wp2_with fail;((with_reducible refine HI.out.mono ?_); rintro e w1 hP)
  obtain ⟨he, hb⟩ := hP;have he' : e = .returned (.int .i64 (-1)) := he;clear he; subst he';go_wp2_with fail;go_ret;exact ⟨rfl, hb⟩
 | true =>
  go_enter Tryz.func45, Tryz.ntmps45;go_wp2_with fail;((with_reducible refine HI.out.mono ?_); rintro e w1 hP)
  obtain ⟨he, hb⟩ := hP;obtain ⟨i, he'⟩ : ∃ i : Nat, e = .returned (.int .i64 i) := he;subst he';go_wp2_with fail;go_ret;exact ⟨rfl, hb⟩
theorem small28_any (N : Nt) (A : Option Addr) (n c : Nat) (w : World) (h : NtIn w A N) (hn : N.tr.length = n) (hn2 : n ≤ 9223372036854775807) :
 Calls Tryz.prog 10 #[.agg #[.int .i64 N.pl, .slice A n c, .int .i64 N.src, .int .i64 N.snk]] w fun e w' => ∃ b : Bool, e = .returned (.bool b) ∧ (b = true → n ≤ 10) ∧ Below w.heap.size w w' := by
 have HB := hid (below_alloc w (.cells #[.int .i64 N.pl, .slice A n c, .int .i64 N.src, .int .i64 N.snk] 24));have HC := hid (tcont_s28 A n c N.tr _ (h.1.below HB.out) hn (by omega));clear h hn;by_cases h1 : N.pl ≤ 10
 · have q1 : decide (N.pl ≤ 10) = true := by simpa using h1
   by_cases h2 : n ≤ 10
   · have q3 : decide ((n : Int) ≤ 10) = true := by simp; omega
     have HN10 := hid h2;clear h2 h1;cases hb : N.tr.any bigT with
     | true =>
      rw [hb] at HC;go_enter Tryz.func10, Tryz.ntmps10;go_wp2_with fail;((with_reducible refine HC.out.mono ?_); rintro e w1 ⟨rfl, hb1⟩)
      go_wp2_with fail;go_ret;exact ⟨_, rfl, (fun h => by cases h), below_then HB.out hb1⟩
     | false =>
      rw [hb] at HC;go_enter Tryz.func10, Tryz.ntmps10;go_wp2_with fail;((with_reducible refine HC.out.mono ?_); rintro e w1 ⟨rfl, hb1⟩)
      go_wp2_with fail;go_ret;exact ⟨_, rfl, (fun _ => HN10.out), below_then HB.out hb1⟩
   · have q3 : decide ((n : Int) ≤ 10) = false := by simp; omega
     clear h2 h1;go_enter Tryz.func10, Tryz.ntmps10;go_wp2_with fail;go_ret;exact ⟨_, rfl, (fun h => by cases h), HB.out⟩
 · have q1 : decide (N.pl ≤ 10) = false := by simpa using h1
   by_cases h9 : 40 < N.pl
   · have q2 : decide (40 < N.pl) = true := by simpa using h9
     clear h9;by_cases h2 : n ≤ 10
     · have q3 : decide ((n : Int) ≤ 10) = true := by simp; omega
       have HN10 := hid h2;clear h2 h1;cases hb : N.tr.any bigT with
       | true =>
        rw [hb] at HC;go_enter Tryz.func10, Tryz.ntmps10;go_wp2_with fail;((with_reducible refine HC.out.mono ?_); rintro e w1 ⟨rfl, hb1⟩)
        go_wp2_with fail;go_ret;exact ⟨_, rfl, (fun h => by cases h), below_then HB.out hb1⟩
       | false =>
        rw [hb] at HC;go_enter Tryz.func10, Tryz.ntmps10;go_wp2_with fail;((with_reducible refine HC.out.mono ?_); rintro e w1 ⟨rfl, hb1⟩)
        go_wp2_with fail;go_ret;exact ⟨_, rfl, (fun _ => HN10.out), below_then HB.out hb1⟩
     · have q3 : decide ((n : Int) ≤ 10) = false := by simp; omega
       clear h2 h1;go_enter Tryz.func10, Tryz.ntmps10;go_wp2_with fail;go_ret;exact ⟨_, rfl, (fun h => by cases h), HB.out⟩
   · have q2 : decide (40 < N.pl) = false := by simpa using h9
     clear h9 h1;go_enter Tryz.func10, Tryz.ntmps10;go_wp2_with fail;go_ret;exact ⟨_, rfl, (fun h => by cases h), HB.out⟩
def FltM (N : Nt) (M : List Int) (work : Bool) (most k : Int) : Prop :=
 (mkB N M = false ∧ k = 1) ∨ (mkB N M = true ∧ work = true ∧ ¬ wfP N ∧ k = 19) ∨ (mkB N M = true ∧ (work = true → wfP N) ∧ ¬ (1 ≤ most ∧ most ≤ 500) ∧ k = 2) ∨ (mkB N M = true ∧ (work = true → wfP N) ∧ (1 ≤ most ∧ most ≤ 500) ∧ k = 0)
theorem fault28_any (N : Nt) (A : Option Addr) (n c : Nat) (Am : Option Addr) (m cm : Nat) (M : List Int) (work : Bool) (most : Int) (w : World) (h : NtIn w A N) (hn : N.tr.length = n) (hn2 : n ≤ 9223372036854775806) (hM : ZIn w Am M) (hm : M.length = m) (hm2 : m ≤ 9223372036854775807) :
 Calls Tryz.prog 13 #[.agg #[.int .i64 N.pl, .slice A n c, .int .i64 N.src, .int .i64 N.snk], .slice Am m cm, .bool work, .bool false, .int .i64 0, .int .i64 most] w fun e w' => ∃ k : Int, e = .returned (.int .i64 k) ∧ FltM N M work most k ∧ Below w.heap.size w w' := by
 have HB0 := hid (below_alloc w (.cells #[.int .i64 N.pl, .slice A n c, .int .i64 N.src, .int .i64 N.snk] 24));have HNb0 := hid (NB.new w N.pl A n c N.src N.snk);have HIn0 := hid (h.below HB0.out);have HM0 := hid (hM.below HB0.out);have HNl := hid hn;have HMl := hid hm;clear h hn hM hm;go_enter Tryz.func13, Tryz.ntmps13;go_wp2_with fail;generalize w.alloc _ = w0 at *;have HV := hid (rvalid_any N A n c w0 HIn0.out HNl.out (by omega));cases hv : ntB N with
 | false =>
  have HF := hid (show FltM N M work most 1 from .inl ⟨by unfold mkB; rw [hv]; rfl, rfl⟩);rw [hv] at HV;clear hv;((with_reducible refine HV.out.mono ?_); rintro e w1 ⟨rfl, hb1⟩)
  have HB1 := hid (HB0.out.trans (hb1.mono HB0.out.size));clear hb1 HV;go_wp2_with fail;go_ret;exact ⟨1, rfl, HF.out, HB1.out⟩
 | true =>
 rw [hv] at HV;have HVt := hid hv;clear hv;((with_reducible refine HV.out.mono ?_); rintro e w1 ⟨rfl, hb1⟩)
 have HB1 := hid (HB0.out.trans (hb1.mono HB0.out.size));have HNb1 := hid (HNb0.out.below hb1);have HIn1 := hid (HIn0.out.below hb1);have HM1 := hid (HM0.out.below hb1);clear HV hb1 HB0 HNb0 HIn0 HM0;obtain ⟨b0, b1, b2, b3⟩ := HNb1.out.cells;have HMa := hid (rmarking_any N.pl A n c N.src N.snk Am m cm M w1 HM1.out HMl.out hm2);have HMe := hid (show (decide ((m : Int) = N.pl) && !(M.any badK)) = mkB N M by unfold mkB; rw [HVt.out, HMl.out]; rfl);rw [HMe.out] at HMa;clear HMe;cases hmk : mkB N M with
 | false =>
  have HF := hid (show FltM N M work most 1 from .inl ⟨hmk, rfl⟩);rw [hmk] at HMa;clear hmk;go_wp2_with fail;((with_reducible refine HMa.out.mono ?_); rintro e w2 ⟨rfl, hb2⟩)
  have HB2 := hid (HB1.out.trans (hb2.mono HB1.out.size));clear hb2 HMa b0 b1 b2 b3;go_wp2_with fail;go_ret;exact ⟨1, rfl, HF.out, HB2.out⟩
 | true =>
 rw [hmk] at HMa;have HMk := hid hmk;clear hmk;go_wp2_with fail;((with_reducible refine HMa.out.mono ?_); rintro e w2 ⟨rfl, hb2⟩)
 have HB2 := hid (HB1.out.trans (hb2.mono HB1.out.size));have HNb2 := hid (HNb1.out.below hb2);have HIn2 := hid (HIn1.out.below hb2);clear hb2 HMa b0 b1 b2 b3 HB1 HNb1 HIn1 HM1;cases work with
 | false =>
  by_cases hbad : ¬ (1 ≤ most ∧ most ≤ 500)
  · have HF := hid (show FltM N M false most 2 from .inr (.inr (.inl ⟨HMk.out, (fun h => by cases h), hbad, rfl⟩)));by_cases h1 : most < 1
    · have hq1 : decide (most < 1) = true := by simp; omega
      clear hbad h1;go_wp2_with fail;go_ret;exact ⟨2, rfl, HF.out, HB2.out⟩
    · have hq1 : decide (most < 1) = false := by simp; omega
      have hq2 : decide (most > 500) = true := by simp; omega
      clear hbad h1;go_wp2_with fail;go_ret;exact ⟨2, rfl, HF.out, HB2.out⟩
  have hq1 : decide (most < 1) = false := by simp; omega
  have hq2 : decide (most > 500) = false := by simp; omega
  have HF := hid (show FltM N M false most 0 from .inr (.inr (.inr ⟨HMk.out, (fun h => by cases h), by omega, rfl⟩)));clear hbad;go_wp2_with fail;go_ret;exact ⟨0, rfl, HF.out, HB2.out⟩
 | true =>
  obtain ⟨b0, b1, b2, b3⟩ := HNb2.out.cells;have HWk := hid (workflow21_any N A n c w2 HIn2.out HNl.out (by omega));go_wp2_with fail;((with_reducible refine HWk.out.mono ?_); rintro e w3 ⟨⟨q, rfl, hq⟩, hb3⟩)
  have HB3 := hid (HB2.out.trans (hb3.mono HB2.out.size));clear hb3 HWk b0 b1 b2 b3 HB2 HNb2 HIn2;cases q with
  | false =>
   have HF := hid (show FltM N M true most 19 from .inr (.inl ⟨HMk.out, rfl, (fun hw => by have h9 := hq.2 ⟨HVt.out, hw⟩; cases h9), rfl⟩));clear hq;go_wp2_with fail;go_ret;exact ⟨19, rfl, HF.out, HB3.out⟩
  | true =>
   have HWf := hid (hq.1 (by trivial)).2;clear hq;by_cases hbad : ¬ (1 ≤ most ∧ most ≤ 500)
   · have HF := hid (show FltM N M true most 2 from .inr (.inr (.inl ⟨HMk.out, (fun _ => HWf.out), hbad, rfl⟩)));by_cases h1 : most < 1
     · have hq1 : decide (most < 1) = true := by simp; omega
       clear hbad h1;go_wp2_with fail;go_ret;exact ⟨2, rfl, HF.out, HB3.out⟩
     · have hq1 : decide (most < 1) = false := by simp; omega
       have hq2 : decide (most > 500) = true := by simp; omega
       clear hbad h1;go_wp2_with fail;go_ret;exact ⟨2, rfl, HF.out, HB3.out⟩
   have hq1 : decide (most < 1) = false := by simp; omega
   have hq2 : decide (most > 500) = false := by simp; omega
   have HF := hid (show FltM N M true most 0 from .inr (.inr (.inr ⟨HMk.out, (fun _ => HWf.out), by omega, rfl⟩)));clear hbad;go_wp2_with fail;go_ret;exact ⟨0, rfl, HF.out, HB3.out⟩
end
section
open Go.RowKit

def CmPo (N : Nt) (M : List Int) (most : Int) (w : World) (e : Ending) (w' : World) : Prop :=
 (∃ k : Int, FltM N M true most k ∧ k ≠ 0 ∧ e = .returned (.tuple #[.slice none 0 0, .int .i64 k]) ∧ Below w.heap.size w w') ∨ (FltM N M true most 0 ∧ FvPo (complV N M most.toNat) w e w')
theorem FltM.of_k {N : Nt} {M : List Int} {most k : Int} (hm : mkB N M = true) (h : FltK N true most k) : FltM N M true most k := by
 have hv := mk_nt hm;unfold FltK at h;unfold FltM;rcases h with ⟨h1, _⟩ | ⟨_, h2, h3, h4⟩ | ⟨_, h2, h3, h4⟩ | ⟨_, h2, h3, h4⟩
 · rw [hv] at h1; cases h1
 · exact .inr (.inl ⟨hm, h2, h3, h4⟩)
 · exact .inr (.inr (.inl ⟨hm, h2, h3, h4⟩))
 · exact .inr (.inr (.inr ⟨hm, h2, h3, h4⟩))
theorem scompl_any (N : Nt) (A : Option Addr) (n c : Nat) (Am : Option Addr) (m cm : Nat) (M : List Int) (most : Int) (w : World) (h : NtIn w A N) (hn : N.tr.length = n) (hn2 : n ≤ 9223372036854775806) (hM : ZIn w Am M) (hm : M.length = m) (hm2 : m ≤ 9223372036854775807) :
 Calls Tryz.prog 19 #[.agg #[.int .i64 N.pl, .slice A n c, .int .i64 N.src, .int .i64 N.snk], .slice Am m cm, .int .i64 most] w (CmPo N M most w) := by
 have HB0 := hid (below_alloc w (.cells #[.int .i64 N.pl, .slice A n c, .int .i64 N.src, .int .i64 N.snk] 24));have HNb0 := hid (NB.new w N.pl A n c N.src N.snk);have HIn0 := hid (h.below HB0.out);have HM0 := hid (hM.below HB0.out);have HNl := hid hn;have HMl := hid hm;clear h hn hM hm;go_enter Tryz.func19, Tryz.ntmps19;go_wp2_with fail;generalize w.alloc _ = wa at *;have HEn := hid (penabled_any N A n c Am m cm M wa HIn0.out HNl.out (by omega) HM0.out HMl.out hm2);obtain ⟨b0, b1, b2, b3⟩ := HNb0.out.cells;((with_reducible refine HEn.out.mono ?_); rintro e w1 ⟨v1, rfl, hS1⟩)
 have hb1 := hS1.2;have HB1 := hid (below_then HB0.out hb1);have HNb1 := hid (HNb0.out.below hb1);have HIn1 := hid (HIn0.out.below hb1);have HM1 := hid (HM0.out.below hb1);clear hS1 hb1 HEn HB0 HNb0 HIn0 HM0 b0 b1 b2 b3;cases hmk : mkB N M with
 | false =>
  have he : enE N M = 1 := by unfold enE; rw [hmk]; rfl
  rw [he];have HK := hid (show FltM N M true most 1 from .inl ⟨hmk, rfl⟩);clear he hmk;go_wp2_with fail;go_ret2;exact .inl ⟨1, HK.out, by decide, rfl, HB1.out⟩
 | true =>
  have he : enE N M = 0 := by unfold enE; rw [hmk]; rfl
  rw [he];have HMk := hid hmk;clear he hmk;have HP := hid (proper_any N A n c true most w1 HIn1.out HNl.out hn2);obtain ⟨b0, b1, b2, b3⟩ := HNb1.out.cells;go_wp2_with fail;((with_reducible refine HP.out.mono ?_); rintro e w2 hpr)
  rcases hpr with ⟨k, rfl, hf, hk0, hb2⟩ | ⟨hf, v2, rfl, hS⟩
  · have HF := hid (FltM.of_k HMk.out hf);have HB2 := hid (below_then HB1.out hb2);have q1 : (k != 0) = true := by rw [bne_iff_ne]; exact hk0
    have HK0 := hid hk0;clear hf hb2 hk0 HP b0 b1 b2 b3;go_wp2_with fail;go_ret2;exact .inl ⟨k, HF.out, HK0.out, rfl, HB2.out⟩
  · have HF := hid (FltM.of_k HMk.out hf);obtain ⟨hv, _, hm1, hmo2⟩ := hf.ok;have hb2 := hS.2;have HB2 := hid (below_then HB1.out hb2);have HNb2 := hid (HNb1.out.below hb2);have HIn2 := hid (HIn1.out.below hb2);have HM2 := hid (HM1.out.below hb2);clear hS hb2 HP b0 b1 b2 b3 HB1 HNb1 HIn1 HM1 hf;obtain ⟨mn, hmn⟩ := Int.eq_ofNat_of_zero_le (show 0 ≤ most by omega);subst hmn;have hmx1 : 1 ≤ mn := by omega
    have hmx2 : mn ≤ 2000 := by omega
    have HEx := hid (explore_any N A n c Am m cm M mn w2 HIn2.out HNl.out HM2.out HMl.out HMk.out hmx1 hmx2);have HVd := hid hv;clear hm1 hmo2 hv HM2;obtain ⟨b0, b1, b2, b3⟩ := HNb2.out.cells;go_wp2_with fail;cases hR : exT N M mn with
    | none =>
     rw [hR] at HEx;have HV := hid (show complV N M mn = ([], 13) by unfold complV; rw [hR]);unfold ExPo at HEx;simp only at HEx;((with_reducible refine HEx.out.mono ?_); rintro e w3 ⟨hb3, rfl⟩)
     have HB3 := hid (below_then (below_then HB2.out hb3) (below_alloc w3 (.cells #[.slice none 0 0, .slice none 0 0, .bool false] 41)));clear hb3 HEx hR b0 b1 b2 b3;go_wp2_with fail;go_ret2;exact .inr ⟨HF.out, FvPo.no (by rw [Int.toNat_natCast]; exact HV.out) (by decide) rfl HB3.out⟩
    | some E =>
     rw [hR] at HEx;have HSp := hid (exT_spc HMk.out hmx1 hR);have HMv := hid (exT_mv hR);have HV := hid (show complV N M mn = if 0 ≤ lidx (isL (finM N)) E.SL then pathV E.MV E.SL.length (lidx (isL (finM N)) E.SL).toNat else if E.fl then ([], 10) else ([], 13) by unfold complV; rw [hR]);unfold ExPo at HEx;simp only at HEx;((with_reducible refine HEx.out.mono ?_); rintro e w3 ⟨hb3, vS, vM, rfl, hOl, hOm⟩)
     obtain ⟨SL, MV, fl⟩ := E;simp only at HMv HV hOl hOm;obtain ⟨As, cs, rfl⟩ := hOl.slice;obtain ⟨Av, cv, rfl⟩ := hOm.slice;have hal := below_alloc w3 (.cells #[.slice As SL.length cs, .slice Av MV.length cv, .bool fl] 41);have hsb := heap_alloc_new w3 (.cells #[.slice As SL.length cs, .slice Av MV.length cv, .bool fl] 41);have HSb := hid (show SpB _ w3.heap.size (.slice As SL.length cs) (.slice Av MV.length cv) fl from hsb);have HLn := hid ((oll_lin hOl).below hal);have HRd := hid ((omv_rd hOm).below hal);have HNb := hid ((HNb2.out.below hb3).below hal);have HIn := hid ((HIn2.out.below hb3).below hal);have HB := hid (below_then (below_then HB2.out hb3) hal);have hsl0 : 0 < SL.length := (List.getElem?_eq_some_iff.1 HSp.out.one).1;have hsl1 : SL.length ≤ 2000 := by have := HSp.out.le; simp only at this; omega
     have hmvl : MV.length ≤ 20000 := HMv.out;have HMo := hid (show mvOk MV SL.length from HSp.out.mvf.ok);clear hal hsb hOl hOm hb3 HEx hR HNb2 HIn2 HB2 b0 b1 b2 b3;obtain ⟨b0, b1, b2, b3⟩ := HNb.out.cells;go_wp2_with fail;generalize w3.alloc _ = w4 at *;generalize w3.heap.size = sb at *;have HFn := hid (pfin_any N A n c w4 HIn.out HNl.out (by omega) HVd.out);((with_reducible refine HFn.out.mono ?_); rintro e w5 ⟨vf, rfl, hSf⟩)
     obtain ⟨Af, cf, rfl⟩ := hSf.slice;have HSb5 := hid (HSb.out.below hSf.2);have HLn5 := hid (HLn.out.below hSf.2);have HRd5 := hid (HRd.out.below hSf.2);have HB5 := hid (below_then HB.out hSf.2);have HZf := hid (ns_zin2 hSf);clear hSf HFn HSb HLn HRd HB HNb HIn b0 b1 b2 b3;obtain ⟨s0, s1, s2⟩ := HSb5.out.cells;have HFi := hid (sfind_any As SL.length cs Av MV.length cv fl SL Af (finM N).length cf (finM N) w5 HLn5.out rfl (by omega) HZf.out rfl (by have := fin_le HVd.out; omega));go_wp2_with fail;((with_reducible refine HFi.out.mono ?_); rintro e w6 ⟨rfl, hb6⟩)
     have HSb6 := hid (HSb5.out.below hb6);have HRd6 := hid (HRd5.out.below hb6);have HB6 := hid (below_then HB5.out hb6);clear hb6 HFi HSb5 HLn5 HRd5 HB5 HZf s0 s1 s2;obtain ⟨s0, s1, s2⟩ := HSb6.out.cells;by_cases hk : 0 ≤ lidx (isL (finM N)) SL
     · obtain ⟨kn, hkn, hkl⟩ := lidx_nat hk;have HV2 := hid (show complV N M mn = pathV MV SL.length kn by rw [HV.out, if_pos hk, hkn, Int.toNat_natCast]);rw [hkn];have q1 : decide ((0 : Int) ≤ (kn : Int)) = true := decide_eq_true (by omega);have HPa := hid (spath_any As SL.length cs Av MV.length cv fl MV kn w6 hsl0 hsl1 hmvl rfl HRd6.out HMo.out hkl);rw [← HV2.out] at HPa;clear hk hkn;go_wp2_with fail;((with_reducible refine HPa.out.mono ?_); rintro e w7 hfv)
       rcases hfv.parts with ⟨h0, v, rfl, hS⟩ | ⟨h0, rfl, hb7⟩
       · have HS := hid hS;have H0 := hid h0;clear hS h0 hfv;go_wp2_with fail;go_ret2;exact .inr ⟨HF.out, FvPo.yes (L := (complV N M mn).1) (by rw [Int.toNat_natCast]; exact Prod.ext rfl H0.out) rfl (NS.up HB6.out HS.out)⟩
       · have HB7 := hid hb7;have H0 := hid h0;clear hb7 h0 hfv;go_wp2_with fail;go_ret2;refine .inr ⟨HF.out, ?_⟩;rw [Int.toNat_natCast];unfold FvPo;rw [if_neg H0.out];exact ⟨rfl, below_then HB6.out HB7.out⟩
     · have hk2 : lidx (isL (finM N)) SL < 0 := by omega
       have q1 : decide (0 ≤ lidx (isL (finM N)) SL) = false := decide_eq_false hk;generalize lidx (isL (finM N)) SL = kz at *;cases fl with
       | true =>
        have HV2 := hid (show complV N M mn = ([], 10) by rw [HV.out, if_neg hk]; rfl);clear hk;go_wp2_with fail;go_ret2;exact .inr ⟨HF.out, FvPo.no (by rw [Int.toNat_natCast]; exact HV2.out) (by decide) rfl HB6.out⟩
       | false =>
        have HV2 := hid (show complV N M mn = ([], 13) by rw [HV.out, if_neg hk]; rfl);clear hk;go_wp2_with fail;go_ret2;exact .inr ⟨HF.out, FvPo.no (by rw [Int.toNat_natCast]; exact HV2.out) (by decide) rfl HB6.out⟩
end
end Go.Proofs.YtkhmngljpfibcaaGreatDoor
