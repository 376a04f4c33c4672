/- covered of sound: what a call returns. Reason of sound: what a call returns. Dead and Reason of reference 28: what a call returns. small, none, initial, Fault, graph of the statements of chapter 28: what a call returns. The examples of chapter 28, plain: what is wrong with them. -/
import Derived.Test.YtkhmngljpfibcaaGreatDoorPUu
import Derived.Test.YtkhmngljpfibcaaGreatDoorPBt
import Derived.Test.YtkhmngljpfibcaaGreatDoorPBw
import Derived.Test.YtkhmngljpfibcaaGreatDoorPBj
import Derived.Test.YtkhmngljpfibcaaGreatDoorPAa
import Derived.Test.YtkhmngljpfibcaaGreatDoorPHg
import Derived.Test.YtkhmngljpfibcaaGreatDoorPYj
import Derived.Test.YtkhmngljpfibcaaGreatDoorPYb
import Derived.Test.YtkhmngljpfibcaaGreatDoorPJc
namespace Go.Proofs.YtkhmngljpfibcaaGreatDoor
set_option maxRecDepth 100000
set_option maxHeartbeats 6400000
open Go.Lib (hid)
section
open Go.RowKit

def CvdPo (N : Nt) (A : Option Addr) (n c : Nat) (work : Bool) (most : Int) (w : World) (e : Ending) (w' : World) : Prop :=
 (∃ k : Int, e = .returned (.tuple #[.pointer none, .int .i64 k]) ∧ k ≠ 0 ∧ (FltK N work most k ∨ (FltK N work most 0 ∧ growT N (iniM N) most.toNat = none ∧ k = 13)) ∧ Below w.heap.size w w') ∨
 (FltK N work most 0 ∧ ∃ (T : TS) (b : Nat) (As : Option Addr) (cs : Nat) (Av : Option Addr) (cv : Nat) (Af : Option Addr) (cf : Nat) (Ag : Option Addr) (cg : Nat), growT N (iniM N) most.toNat = some T ∧ e = .returned (.tuple #[.pointer (some ⟨b, 0, none⟩), .int .i64 0]) ∧ WdI w' b N T.states (movesOf T) true A n c As cs Av cv Af cf Ag cg ∧ Below w.heap.size w w')
theorem beR_ini {N : Nt} {most : Int} (hv : ntB N = true) (h1 : 1 ≤ most) (h2 : most ≤ 500) : beR N [iniM N] 0 most = match growT N (iniM N) most.toNat with | some T => .inr T | none => .inl 13 := by
 have hm := one_mk hv N.src.toNat;have hp := nt_small hv;have hb : badR N 0 most = false := by unfold badR; simp; omega
 have ha : [iniM N].all (mkB N) = true := by simp; exact hm
 unfold beR;rw [if_pos ha, hb];rfl
theorem covered_any (N : Nt) (A : Option Addr) (n c : Nat) (work : Bool) (most : Int) (w : World) (h : NtIn w A N) (hn : N.tr.length = n) (hn2 : n ≤ 9223372036854775806) (ht : Tb w) :
 Calls Tryz.prog 47 #[.agg #[.int .i64 N.pl, .slice A n c, .int .i64 N.src, .int .i64 N.snk], .bool work, .int .i64 most] w (CvdPo N A n c work most w) := by
 have HB0 := hid (below_alloc w (.cells #[.int .i64 N.pl, .slice A n c, .int .i64 N.src, .int .i64 N.snk] 24));have HNb0 := hid (NB.new w N.pl A n c N.src N.snk);have HIn0 := hid (h.below HB0.out);have HT0 := hid (ht.below HB0.out);have HNl := hid hn;have hn3 : n ≤ 9223372036854775807 := by omega
 clear h hn ht;go_enter Tryz.func47, Tryz.ntmps47;go_wp2_with fail;generalize w.alloc _ = w0 at *;obtain ⟨b0, b1, b2, b3⟩ := HNb0.out.cells;have HP := hid (proper_any N A n c work most w0 HIn0.out HNl.out hn2);((with_reducible refine HP.out.mono ?_); rintro e w1 hpr)
 rcases hpr with ⟨k, rfl, hf, hk0, hb1⟩ | ⟨hf, v1, rfl, hS⟩
 · have HF := hid hf;have HB1 := hid (HB0.out.trans (hb1.mono HB0.out.size));have q1 : (k != 0) = true := by rw [bne_iff_ne]; exact hk0
   have HK0 := hid hk0;clear hf hb1 hk0 HP b0 b1 b2 b3;go_wp2_with fail;go_ret2;exact .inl ⟨k, rfl, HK0.out, .inl HF.out, HB1.out⟩
 · have HF := hid hf;obtain ⟨hv, hwf, hm1, hm2⟩ := hf.ok;have HV := hid hv;have hb1 := hS.2;have HB1 := hid (HB0.out.trans (hb1.mono HB0.out.size));have HNb1 := hid (HNb0.out.below hb1);have HIn1 := hid (HIn0.out.below hb1);have HT1 := hid (HT0.out.below hb1);obtain ⟨A1, c1, rfl, hz, hz1, hz2⟩ := hS.zin;have HG := hid (graph_any N A n c A1 (iniM N).length c1 (iniM N) most w1 HIn1.out HNl.out hn3 hz rfl hz1 hz2 HT1.out);have HBe := hid (beR_ini hv hm1 hm2);clear hf hv hwf hS hb1 hz hz1 hz2 HP b0 b1 b2 b3 HB0 HNb0 HIn0 HT0;obtain ⟨b0, b1, b2, b3⟩ := HNb1.out.cells;go_wp2_with fail;((with_reducible refine HG.out.mono ?_); rintro e w2 ⟨hb2, hg⟩)
   rw [HBe.out] at hg;have HB2 := hid (HB1.out.trans (hb2.mono HB1.out.size));have HNb2 := hid (HNb1.out.below hb2);have HIn2 := hid (HIn1.out.below hb2);clear HG HBe b0 b1 b2 b3 hb2 HB1 HNb1 HIn1 HT1;cases hgr : growT N (iniM N) most.toNat with
   | none =>
    rw [hgr] at hg;simp only at hg;subst hg;have HGr := hid hgr;clear hgr;go_wp2_with fail;go_ret2;exact .inl ⟨13, rfl, by decide, .inr ⟨HF.out, HGr.out, rfl⟩, HB2.out.alloc HB2.out.size _⟩
   | some T =>
    rw [hgr] at hg;simp only at hg;obtain ⟨vS, vM, rfl, hO, hM⟩ := hg;obtain ⟨As, cs, rfl, hl, _, _⟩ := hO.lin;obtain ⟨Av, cv, rfl, _, _, _, hr, _⟩ := own_rd mvC_len (by decide) hM.1;obtain ⟨hI, _⟩ := growT_inv hgr;obtain ⟨hmo, _⟩ := moves_ok hI;have hcnt := hI.cnt;have hlen := hI.len;have hml : (movesOf T).length ≤ 20000 := by rw [movesOf_len]; omega
    have HGr := hid hgr;have HL := hid hl;have HR := hid hr;have HMo := hid hmo;clear hgr hl hr hO hM hI hmo;have HA := hid (below_alloc w2 (.cells #[.slice As T.states.length cs, .slice Av (movesOf T).length cv, .bool true] 41));obtain ⟨b0, b1, b2, b3⟩ := (HNb2.out.below HA.out).cells;have d0 := heap_alloc_new w2 (.cells #[.slice As T.states.length cs, .slice Av (movesOf T).length cv, .bool true] 41);obtain ⟨e0, e1, e2⟩ := (show SpB _ w2.heap.size (.slice As T.states.length cs) (.slice Av (movesOf T).length cv) true from d0).cells;have HGa := hid (gather_any N A n c As cs T.states Av cv (movesOf T) true _ (HIn2.out.below HA.out) HNl.out hn3 HV.out (HL.out.below HA.out) (HR.out.below HA.out) HMo.out (by omega) hml);have HB3 := hid (HB2.out.trans (HA.out.mono HB2.out.size));clear d0;go_wp2_with fail;((with_reducible refine HGa.out.mono ?_); rintro e w4 ⟨b, Af, cf, Ag, cg, rfl, hW, hb4⟩)
    have HW := hid hW;have HB4 := hid (HB3.out.trans (hb4.mono HB3.out.size));clear hW hb4 HGa b0 b1 b2 b3 e0 e1 e2;go_wp2_with fail;go_ret2;exact .inr ⟨HF.out, T, b, As, cs, Av, cv, Af, cf, Ag, cg, HGr.out, rfl, HW.out, HB4.out⟩
end
section
open Go.RowKit

def CovE (N : Nt) (work : Bool) (most k : Int) : Prop := k ≠ 0 ∧ (FltK N work most k ∨ (FltK N work most 0 ∧ growT N (iniM N) most.toNat = none ∧ k = 13))
def CovT (N : Nt) (work : Bool) (most : Int) (T : TS) : Prop := FltK N work most 0 ∧ growT N (iniM N) most.toNat = some T
structure GrF (N : Nt) (T : TS) : Prop where
 gr : Gr N T
 all : ∀ s ∈ T.states, (s.length : Int) = N.pl
 nod : ∀ (i j : Nat) (s : List Int), T.states[i]? = some s → T.states[j]? = some s → i = j
 mo : mvOk (movesOf T) T.states.length
 l0 : 0 < T.states.length
 l2 : T.states.length ≤ 20001
 v2 : (movesOf T).length ≤ 20000
 ld : ∀ k, k < T.states.length → Lead (movesOf T) k 0
theorem CovT.grf {N : Nt} {work : Bool} {most : Int} {T : TS} (h : CovT N work most T) : GrF N T := by
 obtain ⟨hf, hg⟩ := h;have hv := hf.ok.1;have hG := Gr.of hv hg;have hmo := (moves_ok hG.i).1;have h1 := (List.getElem?_eq_some_iff.1 hG.i.one).1;have hc := hG.i.cnt;have hl := hG.i.len;exact ⟨hG, fun s hs => hG.slen hs, hG.i.nod, hmo, h1, by omega, by rw [movesOf_len]; omega, root_lead hmo (fun j h0 hj => mv_tree hG.i hj h0)⟩
def RsnPo (N : Nt) (most : Int) (w : World) (e : Ending) (w' : World) : Prop := Below w.heap.size w w' ∧
 ((∃ k : Int, e = .returned (.tuple #[.int .i64 0, .int .i64 k]) ∧ CovE N true most k) ∨ ∃ (T : TS) (r : Int), e = .returned (.tuple #[.int .i64 r, .int .i64 0]) ∧ CovT N true most T ∧ RsN N T.states (movesOf T) r)
theorem reason_any (N : Nt) (A : Option Addr) (n c : Nat) (most : Int) (w : World) (h : NtIn w A N) (hn : N.tr.length = n) (hn2 : n ≤ 9223372036854775806) (ht : Tb w) :
 Calls Tryz.prog 12 #[.agg #[.int .i64 N.pl, .slice A n c, .int .i64 N.src, .int .i64 N.snk], .int .i64 most] w (RsnPo N most w) := by
 have HB0 := hid (below_alloc w (.cells #[.int .i64 N.pl, .slice A n c, .int .i64 N.src, .int .i64 N.snk] 24));have HNb0 := hid (NB.new w N.pl A n c N.src N.snk);have HC := hid (covered_any N A n c true most _ (h.below HB0.out) hn hn2 (ht.below HB0.out));clear h hn ht;go_enter Tryz.func12, Tryz.ntmps12;go_wp2_with fail;generalize w.alloc _ = w0 at *;obtain ⟨b0, b1, b2, b3⟩ := HNb0.out.cells;((with_reducible refine HC.out.mono ?_); rintro e w1 hcv)
 rcases hcv with ⟨k, rfl, hk0, hk, hb1⟩ | ⟨hf, T, b, As, cs, Av, cv, Af, cf, Ag, cg, hg, rfl, hW, hb1⟩
 · have HE := hid (show CovE N true most k from ⟨hk0, hk⟩);have HB1 := hid (HB0.out.trans (hb1.mono HB0.out.size));have q1 : (k != 0) = true := by rw [bne_iff_ne]; exact hk0
   clear hk0 hk hb1 HC b0 b1 b2 b3;go_wp2_with fail;go_ret2;exact ⟨HB1.out, .inl ⟨k, rfl, HE.out⟩⟩
 · have HT := hid (show CovT N true most T from ⟨hf, hg⟩);have HG := hid HT.out.grf;have HB1 := hid (HB0.out.trans (hb1.mono HB0.out.size));have HFa := hid (wfault_any w1 b N T.states (movesOf T) true A n c As cs Av cv Af cf Ag cg hW HG.out.gr.v HG.out.all HG.out.nod HG.out.mo HG.out.l0 (by have := HG.out.l2; omega) HG.out.v2);clear hf hg hW hb1 HC b0 b1 b2 b3;go_wp2_with fail;((with_reducible refine HFa.out.mono ?_); rintro e w2 ⟨r, a, rfl, hr, hb2⟩)
   have HB2 := hid (HB1.out.trans (hb2.mono HB1.out.size));have HR := hid hr.1;clear hr hb2 HFa;go_wp2_with fail;go_ret2;exact ⟨HB2.out, .inr ⟨T, r, rfl, HT.out, HR.out⟩⟩
end
section
open Go.RowKit

theorem comp_leads {N : Nt} {LL : List (List Int)} {MV : List Mv} {goal : Option Nat} (h : GoalOf LL (finM N) goal) (hnod : ∀ (i j : Nat) (s : List Int), LL[i]? = some s → LL[j]? = some s → i = j) (k : Nat) : (∃ g, goal = some g ∧ Lead MV g k) ↔ Leads N LL MV k := by
 constructor
 · rintro ⟨g, rfl, hl⟩;rcases h with ⟨h1, _⟩ | ⟨g', h1, h2⟩
   · cases h1
   · cases h1; exact ⟨g, h2, hl⟩
 · rintro ⟨g, hg, hl⟩;rcases h with ⟨_, h2⟩ | ⟨g', h1, h2⟩
   · exact absurd rfl (h2 _ (List.mem_of_getElem? hg))
   · have := hnod g g' _ hg h2;subst this;exact ⟨g, h1, hl⟩
end
section
open Go.RowKit

theorem small28a_any (lb : ByteArray) (Ai Ao : Option Addr) (ni ci no co : Nat) (w : World) :
 Calls Tryz.prog 46 #[.agg #[.string lb, .slice Ai ni ci, .slice Ao no co]] w fun e w' => e = .returned (.bool (decide (12 < ni) || (decide (12 < no) || decide (100 < lb.size)))) ∧ Below w.heap.size w w' := by
 have HB := hid (below_alloc w (.cells #[.string lb, .slice Ai ni ci, .slice Ao no co] 79));by_cases h1 : 12 < ni
 · have q1 : decide ((12 : Int) < (ni : Int)) = true := by simp; omega
   have HV := hid (show (decide (12 < ni) || (decide (12 < no) || decide (100 < lb.size))) = true by rw [decide_eq_true h1]; rfl);clear h1;go_enter Tryz.func46, Tryz.ntmps46;go_wp2_with fail;go_ret;exact ⟨ret_bool HV.out.symm, HB.out⟩
 · have q1 : decide ((12 : Int) < (ni : Int)) = false := by simp; omega
   by_cases h2 : 12 < no
   · have q2 : decide ((12 : Int) < (no : Int)) = true := by simp; omega
     have HV := hid (show (decide (12 < ni) || (decide (12 < no) || decide (100 < lb.size))) = true by rw [decide_eq_true h2]; simp);clear h1 h2;go_enter Tryz.func46, Tryz.ntmps46;go_wp2_with fail;go_ret;exact ⟨ret_bool HV.out.symm, HB.out⟩
   · have q2 : decide ((12 : Int) < (no : Int)) = false := by simp; omega
     by_cases h3 : 100 < lb.size
     · have q3 : decide ((100 : Int) < (lb.size : Int)) = true := by simp; omega
       have HV := hid (show (decide (12 < ni) || (decide (12 < no) || decide (100 < lb.size))) = true by rw [decide_eq_true h3]; simp);clear h1 h2 h3;go_enter Tryz.func46, Tryz.ntmps46;go_wp2_with fail;go_ret;exact ⟨ret_bool HV.out.symm, HB.out⟩
     · have q3 : decide ((100 : Int) < (lb.size : Int)) = false := by simp; omega
       have HV := hid (show (decide (12 < ni) || (decide (12 < no) || decide (100 < lb.size))) = false by rw [decide_eq_false h1, decide_eq_false h2, decide_eq_false h3]; rfl);clear h1 h2 h3;go_enter Tryz.func46, Tryz.ntmps46;go_wp2_with fail;go_ret;exact ⟨ret_bool HV.out.symm, HB.out⟩
theorem tindex_s28 (A : Option Addr) (n cap : Nat) (L : List Tr) (w : World) (h : TIn w A L) (hn : L.length = n) (hn4 : n ≤ 9223372036854775807) :
 Calls Tryz.prog 116 #[.slice A n cap, .func (.func 46) #[] #[]] w (BIdx (!(L.any bigT)) w) := by
 have H0 := hid h; clear h;have HN := hid hn; clear hn;go_enter Tryz.func116, Tryz.ntmps116;go_wp2_with fail;go_loopg [8] (n) (fun g i wr => ∃ k : Nat, k + g = n ∧ i = .int .i64 k ∧ (L.take k).any bigT = false ∧ Below w.heap.size w wr);case atStart => exact ⟨0, by omega, rfl, by simp, Below.refl _ _⟩
 case round =>
  obtain ⟨k, hk, rfl, hno, hB⟩ := hrel;have HK := hid hk;have HNo := hid hno;have HB := hid hB;have HT := hid (H0.out.below hB);have hle : k ≤ n := by omega
  clear hk hno hB;by_cases hlt : k < n
  · have hlt' : k < L.length := by rw [HN.out]; exact hlt
    obtain ⟨ad, rfl, hp, c0, ⟨u1, c1, s1⟩, u2, c2, s2⟩ := HT.out k hlt';have HTk := hid (List.take_succ_eq_append_getElem hlt');have HM := hid (List.getElem_mem hlt');generalize L[k] = x at *;clear hlt';obtain ⟨lb, li, lo⟩ := x;obtain ⟨Ai, ni, ci, rfl, _, hi1, _⟩ := s1;obtain ⟨Ao, no, co, rfl, _, ho1, _⟩ := s2;simp only at c0 c1 c2 hi1 ho1;subst hi1 ho1;have HX := hid (small28a_any lb Ai Ao li.length ci lo.length co wr);have HXe := hid (show bigT ⟨lb, li, lo⟩ = (decide (12 < li.length) || (decide (12 < lo.length) || decide (100 < lb.size))) from rfl);rw [← HXe.out] at HX;cases hv : bigT ⟨lb, li, lo⟩ with
    | true =>
     rw [hv] at HX;have HV := hid hv; clear hv;go_wp2_with fail;((with_reducible refine HX.out.mono ?_); rintro e w1 ⟨rfl, hb1⟩)
     go_wp2_with fail;go_ret;refine BIdx.yes ?_ rfl (below_then HB.out hb1);rw [List.any_eq_true.2 ⟨_, HM.out, HV.out⟩]; rfl
    | false =>
     rw [hv] at HX;have HV := hid hv; clear hv;go_wp2_with fail;((with_reducible refine HX.out.mono ?_); rintro e w1 ⟨rfl, hb1⟩)
     have HB1 := hid (below_then HB.out hb1);clear hb1;go_wp2_with fail;go_roundg (gk - 1);case measure => have := HK.out; omega
     case rel => exact ⟨k + 1, by have := HK.out; omega, by go_num, by rw [HTk.out, List.any_append, HNo.out]; simp [HV.out], HB1.out⟩
  · have HE := hid (show L.take k = L from List.take_of_length_le (by have := HN.out; omega));go_wp2_with fail;go_ret;refine BIdx.no ?_ rfl HB.out;rw [← HE.out, HNo.out]; rfl
theorem tcont_s28 (A : Option Addr) (n cap : Nat) (L : List Tr) (w : World) (h : TIn w A L) (hn : L.length = n) (hn4 : n ≤ 9223372036854775807) :
 Calls Tryz.prog 45 #[.slice A n cap, .func (.func 46) #[] #[]] w fun e w' => e = .returned (.bool (L.any bigT)) ∧ Below w.heap.size w w' := by
 have HI := hid (tindex_s28 A n cap L w h hn hn4);clear h hn;generalize L.any bigT = r at HI ⊢;cases r with
 | false =>
  go_enter Tryz.func45, Tryz.ntmps45;go_wp2_with fail;((with_reducible refine HI.out.mono ?_); rintro e w1 hP)
  obtain ⟨he, hb⟩ := hP;have he' : e = .returned (.int .i64 (-1)) := he;clear he; subst he';go_wp2_with fail;go_ret;exact ⟨rfl, hb⟩
 | true =>
  go_enter Tryz.func45, Tryz.ntmps45;go_wp2_with fail;((with_reducible refine HI.out.mono ?_); rintro e w1 hP)
  obtain ⟨he, hb⟩ := hP;obtain ⟨i, he'⟩ : ∃ i : Nat, e = .returned (.int .i64 i) := he;subst he';go_wp2_with fail;go_ret;exact ⟨rfl, hb⟩
theorem small28_any (N : Nt) (A : Option Addr) (n c : Nat) (w : World) (h : NtIn w A N) (hn : N.tr.length = n) (hn2 : n ≤ 9223372036854775807) :
 Calls Tryz.prog 10 #[.agg #[.int .i64 N.pl, .slice A n c, .int .i64 N.src, .int .i64 N.snk]] w fun e w' => ∃ b : Bool, e = .returned (.bool b) ∧ (b = true → n ≤ 10) ∧ Below w.heap.size w w' := by
 have HB := hid (below_alloc w (.cells #[.int .i64 N.pl, .slice A n c, .int .i64 N.src, .int .i64 N.snk] 24));have HC := hid (tcont_s28 A n c N.tr _ (h.1.below HB.out) hn (by omega));clear h hn;by_cases h1 : N.pl ≤ 10
 · have q1 : decide (N.pl ≤ 10) = true := by simpa using h1
   by_cases h2 : n ≤ 10
   · have q3 : decide ((n : Int) ≤ 10) = true := by simp; omega
     have HN10 := hid h2;clear h2 h1;cases hb : N.tr.any bigT with
     | true =>
      rw [hb] at HC;go_enter Tryz.func10, Tryz.ntmps10;go_wp2_with fail;((with_reducible refine HC.out.mono ?_); rintro e w1 ⟨rfl, hb1⟩)
      go_wp2_with fail;go_ret;exact ⟨_, rfl, (fun h => by cases h), below_then HB.out hb1⟩
     | false =>
      rw [hb] at HC;go_enter Tryz.func10, Tryz.ntmps10;go_wp2_with fail;((with_reducible refine HC.out.mono ?_); rintro e w1 ⟨rfl, hb1⟩)
      go_wp2_with fail;go_ret;exact ⟨_, rfl, (fun _ => HN10.out), below_then HB.out hb1⟩
   · have q3 : decide ((n : Int) ≤ 10) = false := by simp; omega
     clear h2 h1;go_enter Tryz.func10, Tryz.ntmps10;go_wp2_with fail;go_ret;exact ⟨_, rfl, (fun h => by cases h), HB.out⟩
 · have q1 : decide (N.pl ≤ 10) = false := by simpa using h1
   by_cases h9 : 40 < N.pl
   · have q2 : decide (40 < N.pl) = true := by simpa using h9
     clear h9;by_cases h2 : n ≤ 10
     · have q3 : decide ((n : Int) ≤ 10) = true := by simp; omega
       have HN10 := hid h2;clear h2 h1;cases hb : N.tr.any bigT with
       | true =>
        rw [hb] at HC;go_enter Tryz.func10, Tryz.ntmps10;go_wp2_with fail;((with_reducible refine HC.out.mono ?_); rintro e w1 ⟨rfl, hb1⟩)
        go_wp2_with fail;go_ret;exact ⟨_, rfl, (fun h => by cases h), below_then HB.out hb1⟩
       | false =>
        rw [hb] at HC;go_enter Tryz.func10, Tryz.ntmps10;go_wp2_with fail;((with_reducible refine HC.out.mono ?_); rintro e w1 ⟨rfl, hb1⟩)
        go_wp2_with fail;go_ret;exact ⟨_, rfl, (fun _ => HN10.out), below_then HB.out hb1⟩
     · have q3 : decide ((n : Int) ≤ 10) = false := by simp; omega
       clear h2 h1;go_enter Tryz.func10, Tryz.ntmps10;go_wp2_with fail;go_ret;exact ⟨_, rfl, (fun h => by cases h), HB.out⟩
   · have q2 : decide (40 < N.pl) = false := by simpa using h9
     clear h9 h1;go_enter Tryz.func10, Tryz.ntmps10;go_wp2_with fail;go_ret;exact ⟨_, rfl, (fun h => by cases h), HB.out⟩
theorem none28_z (w : World) : Calls Tryz.prog 15 #[zCt] w fun e w' => e = .returned (.bool true) ∧ Below w.heap.size w w' := by
 have HB := hid (below_alloc w (.cells #[.int .i64 0, .int .i64 0, .slice none 0 0, .slice none 0 0, .slice none 0 0, .slice none 0 0, .slice none 0 0, .slice none 0 0] 31));unfold zCt;go_enter Tryz.func15, Tryz.ntmps15;go_wp2_with fail;go_ret;exact ⟨rfl, HB.out⟩
def FltM (N : Nt) (M : List Int) (work : Bool) (most k : Int) : Prop :=
 (mkB N M = false ∧ k = 1) ∨ (mkB N M = true ∧ work = true ∧ ¬ wfP N ∧ k = 19) ∨ (mkB N M = true ∧ (work = true → wfP N) ∧ ¬ (1 ≤ most ∧ most ≤ 500) ∧ k = 2) ∨ (mkB N M = true ∧ (work = true → wfP N) ∧ (1 ≤ most ∧ most ≤ 500) ∧ k = 0)
def iniZ (N : Nt) : List Int := if ntB N = true then iniM N else []
theorem iniZ_len (N : Nt) : (iniZ N).length ≤ 1000 := by
 unfold iniZ;split
 · rename_i hv;have h1 := mk_len (one_mk hv N.src.toNat);have h2 := nt_small hv;have h3 : ((iniM N).length : Int) = N.pl := h1;omega
 · simp
theorem FltM.ini {N : Nt} {work : Bool} {most k : Int} (h : FltM N (iniZ N) work most k) : FltK N work most k := by
 cases hv : ntB N with
 | false =>
  have h1 : mkB N (iniZ N) = false := by unfold mkB; rw [hv]; rfl
  rcases h with ⟨_, h2⟩ | ⟨h2, _⟩ | ⟨h2, _⟩ | ⟨h2, _⟩
  · exact .inl ⟨hv, h2⟩
  all_goals rw [h1] at h2; cases h2
 | true =>
  have h1 : mkB N (iniZ N) = true := by unfold iniZ; rw [if_pos hv]; exact one_mk hv N.src.toNat
  rcases h with ⟨h2, _⟩ | ⟨_, h2⟩ | ⟨_, h2⟩ | ⟨_, h2⟩
  · rw [h1] at h2; cases h2
  · exact .inr (.inl ⟨hv, h2⟩)
  · exact .inr (.inr (.inl ⟨hv, h2⟩))
  · exact .inr (.inr (.inr ⟨hv, h2⟩))
theorem initial28_any (N : Nt) (A : Option Addr) (n c : Nat) (w : World) (h : NtIn w A N) (hn : N.tr.length = n) (hn2 : n ≤ 9223372036854775806) :
 Calls Tryz.prog 14 #[.agg #[.int .i64 N.pl, .slice A n c, .int .i64 N.src, .int .i64 N.snk]] w fun e w' => ∃ v, e = .returned v ∧ NS w w' v (iniZ N) := by
 have HB0 := hid (below_alloc w (.cells #[.int .i64 N.pl, .slice A n c, .int .i64 N.src, .int .i64 N.snk] 24));have HNb0 := hid (NB.new w N.pl A n c N.src N.snk);have HV := hid (rvalid_any N A n c _ (h.below HB0.out) hn (by omega));clear h hn;cases hv : ntB N with
 | false =>
  have HZ := hid (show iniZ N = [] by unfold iniZ; rw [hv]; rfl);rw [hv] at HV;clear hv;go_enter Tryz.func14, Tryz.ntmps14;go_wp2_with fail;generalize w.alloc _ = w0 at *;((with_reducible refine HV.out.mono ?_); rintro e w1 ⟨rfl, hb1⟩)
  have HB1 := hid (HB0.out.trans (hb1.mono HB0.out.size));go_wp2_with fail;go_ret;exact ⟨_, rfl, by rw [HZ.out]; exact NS.start HB1.out⟩
 | true =>
  have HZ := hid (show iniZ N = iniM N by unfold iniZ; rw [if_pos hv]);have HVt := hid hv;rw [hv] at HV;clear hv;go_enter Tryz.func14, Tryz.ntmps14;go_wp2_with fail;generalize w.alloc _ = w0 at *;((with_reducible refine HV.out.mono ?_); rintro e w1 ⟨rfl, hb1⟩)
  have HB1 := hid (HB0.out.trans (hb1.mono HB0.out.size));obtain ⟨b0, b1, b2, b3⟩ := (HNb0.out.below hb1).cells;have HI := hid (ini28_any N A n c HVt.out w1);clear hb1 HV;go_wp2_with fail;((with_reducible refine HI.out.mono ?_); rintro e w2 ⟨v, rfl, hS⟩)
  go_wp2_with fail;go_ret;exact ⟨_, rfl, by rw [HZ.out]; exact NS.up HB1.out hS⟩
theorem fault28_any (N : Nt) (A : Option Addr) (n c : Nat) (Am : Option Addr) (m cm : Nat) (M : List Int) (work : Bool) (most : Int) (w : World) (h : NtIn w A N) (hn : N.tr.length = n) (hn2 : n ≤ 9223372036854775806) (hM : ZIn w Am M) (hm : M.length = m) (hm2 : m ≤ 9223372036854775807) :
 Calls Tryz.prog 13 #[.agg #[.int .i64 N.pl, .slice A n c, .int .i64 N.src, .int .i64 N.snk], .slice Am m cm, .bool work, .bool false, .int .i64 0, .int .i64 most] w fun e w' => ∃ k : Int, e = .returned (.int .i64 k) ∧ FltM N M work most k ∧ Below w.heap.size w w' := by
 have HB0 := hid (below_alloc w (.cells #[.int .i64 N.pl, .slice A n c, .int .i64 N.src, .int .i64 N.snk] 24));have HNb0 := hid (NB.new w N.pl A n c N.src N.snk);have HIn0 := hid (h.below HB0.out);have HM0 := hid (hM.below HB0.out);have HNl := hid hn;have HMl := hid hm;clear h hn hM hm;go_enter Tryz.func13, Tryz.ntmps13;go_wp2_with fail;generalize w.alloc _ = w0 at *;have HV := hid (rvalid_any N A n c w0 HIn0.out HNl.out (by omega));cases hv : ntB N with
 | false =>
  have HF := hid (show FltM N M work most 1 from .inl ⟨by unfold mkB; rw [hv]; rfl, rfl⟩);rw [hv] at HV;clear hv;((with_reducible refine HV.out.mono ?_); rintro e w1 ⟨rfl, hb1⟩)
  have HB1 := hid (HB0.out.trans (hb1.mono HB0.out.size));clear hb1 HV;go_wp2_with fail;go_ret;exact ⟨1, rfl, HF.out, HB1.out⟩
 | true =>
 rw [hv] at HV;have HVt := hid hv;clear hv;((with_reducible refine HV.out.mono ?_); rintro e w1 ⟨rfl, hb1⟩)
 have HB1 := hid (HB0.out.trans (hb1.mono HB0.out.size));have HNb1 := hid (HNb0.out.below hb1);have HIn1 := hid (HIn0.out.below hb1);have HM1 := hid (HM0.out.below hb1);clear HV hb1 HB0 HNb0 HIn0 HM0;obtain ⟨b0, b1, b2, b3⟩ := HNb1.out.cells;have HMa := hid (rmarking_any N.pl A n c N.src N.snk Am m cm M w1 HM1.out HMl.out hm2);have HMe := hid (show (decide ((m : Int) = N.pl) && !(M.any badK)) = mkB N M by unfold mkB; rw [HVt.out, HMl.out]; rfl);rw [HMe.out] at HMa;clear HMe;cases hmk : mkB N M with
 | false =>
  have HF := hid (show FltM N M work most 1 from .inl ⟨hmk, rfl⟩);rw [hmk] at HMa;clear hmk;go_wp2_with fail;((with_reducible refine HMa.out.mono ?_); rintro e w2 ⟨rfl, hb2⟩)
  have HB2 := hid (HB1.out.trans (hb2.mono HB1.out.size));clear hb2 HMa b0 b1 b2 b3;go_wp2_with fail;go_ret;exact ⟨1, rfl, HF.out, HB2.out⟩
 | true =>
 rw [hmk] at HMa;have HMk := hid hmk;clear hmk;go_wp2_with fail;((with_reducible refine HMa.out.mono ?_); rintro e w2 ⟨rfl, hb2⟩)
 have HB2 := hid (HB1.out.trans (hb2.mono HB1.out.size));have HNb2 := hid (HNb1.out.below hb2);have HIn2 := hid (HIn1.out.below hb2);clear hb2 HMa b0 b1 b2 b3 HB1 HNb1 HIn1 HM1;cases work with
 | false =>
  by_cases hbad : ¬ (1 ≤ most ∧ most ≤ 500)
  · have HF := hid (show FltM N M false most 2 from .inr (.inr (.inl ⟨HMk.out, (fun h => by cases h), hbad, rfl⟩)));by_cases h1 : most < 1
    · have hq1 : decide (most < 1) = true := by simp; omega
      clear hbad h1;go_wp2_with fail;go_ret;exact ⟨2, rfl, HF.out, HB2.out⟩
    · have hq1 : decide (most < 1) = false := by simp; omega
      have hq2 : decide (most > 500) = true := by simp; omega
      clear hbad h1;go_wp2_with fail;go_ret;exact ⟨2, rfl, HF.out, HB2.out⟩
  have hq1 : decide (most < 1) = false := by simp; omega
  have hq2 : decide (most > 500) = false := by simp; omega
  have HF := hid (show FltM N M false most 0 from .inr (.inr (.inr ⟨HMk.out, (fun h => by cases h), by omega, rfl⟩)));clear hbad;go_wp2_with fail;go_ret;exact ⟨0, rfl, HF.out, HB2.out⟩
 | true =>
  obtain ⟨b0, b1, b2, b3⟩ := HNb2.out.cells;have HWk := hid (workflow21_any N A n c w2 HIn2.out HNl.out (by omega));go_wp2_with fail;((with_reducible refine HWk.out.mono ?_); rintro e w3 ⟨⟨q, rfl, hq⟩, hb3⟩)
  have HB3 := hid (HB2.out.trans (hb3.mono HB2.out.size));clear hb3 HWk b0 b1 b2 b3 HB2 HNb2 HIn2;cases q with
  | false =>
   have HF := hid (show FltM N M true most 19 from .inr (.inl ⟨HMk.out, rfl, (fun hw => by have h9 := hq.2 ⟨HVt.out, hw⟩; cases h9), rfl⟩));clear hq;go_wp2_with fail;go_ret;exact ⟨19, rfl, HF.out, HB3.out⟩
  | true =>
   have HWf := hid (hq.1 (by trivial)).2;clear hq;by_cases hbad : ¬ (1 ≤ most ∧ most ≤ 500)
   · have HF := hid (show FltM N M true most 2 from .inr (.inr (.inl ⟨HMk.out, (fun _ => HWf.out), hbad, rfl⟩)));by_cases h1 : most < 1
     · have hq1 : decide (most < 1) = true := by simp; omega
       clear hbad h1;go_wp2_with fail;go_ret;exact ⟨2, rfl, HF.out, HB3.out⟩
     · have hq1 : decide (most < 1) = false := by simp; omega
       have hq2 : decide (most > 500) = true := by simp; omega
       clear hbad h1;go_wp2_with fail;go_ret;exact ⟨2, rfl, HF.out, HB3.out⟩
   have hq1 : decide (most < 1) = false := by simp; omega
   have hq2 : decide (most > 500) = false := by simp; omega
   have HF := hid (show FltM N M true most 0 from .inr (.inr (.inr ⟨HMk.out, (fun _ => HWf.out), by omega, rfl⟩)));clear hbad;go_wp2_with fail;go_ret;exact ⟨0, rfl, HF.out, HB3.out⟩
end
section
def e28a : Nt := ⟨3, [⟨⟨#[97]⟩, [0], [1]⟩, ⟨⟨#[98]⟩, [1], [2]⟩], 0, 2⟩
def e28b : Nt := ⟨3, [⟨⟨#[97]⟩, [0], [1]⟩, ⟨⟨#[98]⟩, [1], [2]⟩, ⟨⟨#[99]⟩, [0], [1, 2]⟩], 0, 2⟩
theorem e28a_tree : ∃ T, growT e28a (iniM e28a) 10 = some T ∧ T.states = [[1, 0, 0], [0, 1, 0], [0, 0, 1]] ∧ movesOf T = [⟨0, 1, 0⟩, ⟨1, 2, 1⟩] :=
 ⟨(growT e28a (iniM e28a) 10).get (by kernel_rfl), (Option.some_get _).symm, by kernel_rfl, by kernel_rfl⟩
theorem e28b_tree : ∃ T, growT e28b (iniM e28b) 10 = some T ∧ T.states = [[1, 0, 0], [0, 1, 0], [0, 1, 1], [0, 0, 1], [0, 0, 2]] :=
 ⟨(growT e28b (iniM e28b) 10).get (by kernel_rfl), (Option.some_get _).symm, by kernel_rfl⟩
theorem e28a_wf : wfP e28a := by
 have h0 : Rch e28a false 0 0 := .start;have h1 : Rch e28a false 0 1 := .step ⟨⟨#[97]⟩, [0], [1]⟩ 0 1 (by simp [e28a]) (by simp [insT]) h0 (by simp [outT]);have h2 : Rch e28a false 0 2 := .step ⟨⟨#[98]⟩, [1], [2]⟩ 1 2 (by simp [e28a]) (by simp [insT]) h1 (by simp [outT]);have g2 : Rch e28a true 2 2 := .start;have g1 : Rch e28a true 2 1 := .step ⟨⟨#[98]⟩, [1], [2]⟩ 2 1 (by simp [e28a]) (by simp [insT]) g2 (by simp [outT]);have g0 : Rch e28a true 2 0 := .step ⟨⟨#[97]⟩, [0], [1]⟩ 1 0 (by simp [e28a]) (by simp [insT]) g1 (by simp [outT]);refine ⟨by decide, rfl, ⟨fun x hx => ?_, fun t ht => ?_⟩, ⟨fun x hx => ?_, fun t ht => ?_⟩⟩
 · have hx' : x < 3 := hx
   match x, hx' with
   | 0, _ => exact h0
   | 1, _ => exact h1
   | 2, _ => exact h2
 · have : t = ⟨⟨#[97]⟩, [0], [1]⟩ ∨ t = ⟨⟨#[98]⟩, [1], [2]⟩ := by simpa [e28a] using ht
   rcases this with rfl | rfl
   · exact ⟨0, by simp [insT], h0⟩
   · exact ⟨1, by simp [insT], h1⟩
 · have hx' : x < 3 := hx
   match x, hx' with
   | 0, _ => exact g0
   | 1, _ => exact g1
   | 2, _ => exact g2
 · have : t = ⟨⟨#[97]⟩, [0], [1]⟩ ∨ t = ⟨⟨#[98]⟩, [1], [2]⟩ := by simpa [e28a] using ht
   rcases this with rfl | rfl
   · exact ⟨1, by simp [insT], g1⟩
   · exact ⟨2, by simp [insT], g2⟩
theorem e28b_wf : wfP e28b := by
 have h0 : Rch e28b false 0 0 := .start;have h1 : Rch e28b false 0 1 := .step ⟨⟨#[97]⟩, [0], [1]⟩ 0 1 (by simp [e28b]) (by simp [insT]) h0 (by simp [outT]);have h2 : Rch e28b false 0 2 := .step ⟨⟨#[98]⟩, [1], [2]⟩ 1 2 (by simp [e28b]) (by simp [insT]) h1 (by simp [outT]);have g2 : Rch e28b true 2 2 := .start;have g1 : Rch e28b true 2 1 := .step ⟨⟨#[98]⟩, [1], [2]⟩ 2 1 (by simp [e28b]) (by simp [insT]) g2 (by simp [outT]);have g0 : Rch e28b true 2 0 := .step ⟨⟨#[97]⟩, [0], [1]⟩ 1 0 (by simp [e28b]) (by simp [insT]) g1 (by simp [outT]);refine ⟨by decide, rfl, ⟨fun x hx => ?_, fun t ht => ?_⟩, ⟨fun x hx => ?_, fun t ht => ?_⟩⟩
 · have hx' : x < 3 := hx
   match x, hx' with
   | 0, _ => exact h0
   | 1, _ => exact h1
   | 2, _ => exact h2
 · have : t = ⟨⟨#[97]⟩, [0], [1]⟩ ∨ t = ⟨⟨#[98]⟩, [1], [2]⟩ ∨ t = ⟨⟨#[99]⟩, [0], [1, 2]⟩ := by simpa [e28b] using ht
   rcases this with rfl | rfl | rfl
   · exact ⟨0, by simp [insT], h0⟩
   · exact ⟨1, by simp [insT], h1⟩
   · exact ⟨0, by simp [insT], h0⟩
 · have hx' : x < 3 := hx
   match x, hx' with
   | 0, _ => exact g0
   | 1, _ => exact g1
   | 2, _ => exact g2
 · have : t = ⟨⟨#[97]⟩, [0], [1]⟩ ∨ t = ⟨⟨#[98]⟩, [1], [2]⟩ ∨ t = ⟨⟨#[99]⟩, [0], [1, 2]⟩ := by simpa [e28b] using ht
   rcases this with rfl | rfl | rfl
   · exact ⟨1, by simp [insT], g1⟩
   · exact ⟨2, by simp [insT], g2⟩
   · exact ⟨1, by simp [insT], g1⟩
theorem e28a_flt : FltK e28a true 10 0 := .inr (.inr (.inr ⟨by kernel_rfl, fun _ => e28a_wf, by decide, rfl⟩))
theorem e28b_flt : FltK e28b true 10 0 := .inr (.inr (.inr ⟨by kernel_rfl, fun _ => e28b_wf, by decide, rfl⟩))
theorem e28a_cov {k : Int} (h : CovE e28a true 10 k) : False := by
 obtain ⟨h0, h1 | ⟨_, h2, _⟩⟩ := h
 · exact h0 (h1.uniq e28a_flt)
 · obtain ⟨T, hT, _⟩ := e28a_tree;rw [show ((10 : Int).toNat) = 10 from rfl, hT] at h2; cases h2
theorem e28b_cov {k : Int} (h : CovE e28b true 10 k) : False := by
 obtain ⟨h0, h1 | ⟨_, h2, _⟩⟩ := h
 · exact h0 (h1.uniq e28b_flt)
 · obtain ⟨T, hT, _⟩ := e28b_tree;rw [show ((10 : Int).toNat) = 10 from rfl, hT] at h2; cases h2
theorem e28a_r {T : TS} {r : Int} (h : CovT e28a true 10 T) (hr : RsN e28a T.states (movesOf T) r) : r = 0 := by
 obtain ⟨T', hT, hs, hm⟩ := e28a_tree;have e : T = T' := by
  have := h.2;rw [show ((10 : Int).toNat) = 10 from rfl, hT] at this;exact (Option.some.inj this).symm
 subst e;rw [hs, hm] at hr;refine hr.uniq (.inr (.inr (.inr (.inr ⟨?_, ?_, ?_, ?_, rfl⟩))))
 · rintro ⟨s, hs, ho⟩;have : s = [1, 0, 0] ∨ s = [0, 1, 0] ∨ s = [0, 0, 1] := by simpa using hs
   rcases this with rfl | rfl | rfl <;> exact absurd ho (by decide)
 · rintro ⟨s, hs, h0, hf⟩;have : s = [1, 0, 0] ∨ s = [0, 1, 0] ∨ s = [0, 0, 1] := by simpa using hs
   rcases this with rfl | rfl | rfl
   · exact absurd h0 (by decide)
   · exact absurd h0 (by decide)
   · exact hf (by kernel_rfl)
 · rintro ⟨k, hk, hn⟩;have h2 : Lead [⟨0, 1, 0⟩, ⟨1, 2, 1⟩] 2 2 := .stop;have h1 : Lead [⟨0, 1, 0⟩, ⟨1, 2, 1⟩] 2 1 := .step (t := 2) (k := 1) (by simp) h2;have h0 : Lead [⟨0, 1, 0⟩, ⟨1, 2, 1⟩] 2 0 := .step (t := 1) (k := 0) (by simp) h1;have hk' : k < 3 := hk;refine hn ⟨2, by kernel_rfl, ?_⟩
   match k, hk' with
   | 0, _ => exact h0
   | 1, _ => exact h1
   | 2, _ => exact h2
 · rintro ⟨t, ht, hd⟩;have : t = ⟨⟨#[97]⟩, [0], [1]⟩ ∨ t = ⟨⟨#[98]⟩, [1], [2]⟩ := by simpa [e28a] using ht
   rcases this with rfl | rfl
   · exact absurd (hd [1, 0, 0] (by simp)) (by decide)
   · exact absurd (hd [0, 1, 0] (by simp)) (by decide)
theorem e28b_r {T : TS} {r : Int} (h : CovT e28b true 10 T) (hr : RsN e28b T.states (movesOf T) r) : r = 2 := by
 obtain ⟨T', hT, hs⟩ := e28b_tree;have e : T = T' := by
  have := h.2;rw [show ((10 : Int).toNat) = 10 from rfl, hT] at this;exact (Option.some.inj this).symm
 subst e;rw [hs] at hr;refine hr.uniq (.inr (.inl ⟨?_, rfl, [0, 1, 1], by simp, by decide, by decide⟩));rintro ⟨s, hs, ho⟩;have : s = [1, 0, 0] ∨ s = [0, 1, 0] ∨ s = [0, 1, 1] ∨ s = [0, 0, 1] ∨ s = [0, 0, 2] := by simpa using hs
 rcases this with rfl | rfl | rfl | rfl | rfl <;> exact absurd ho (by decide)
end
end Go.Proofs.YtkhmngljpfibcaaGreatDoor
