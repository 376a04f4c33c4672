/- small, none, initial, Fault, graph of the statements of chapter 28: what a call returns. -/
import Derived.Test.YtkhmngljpfibcaaGreatDoorPUu
import Derived.Test.YtkhmngljpfibcaaGreatDoorPHg
import Derived.Test.YtkhmngljpfibcaaGreatDoorPAd
import Derived.Test.YtkhmngljpfibcaaGreatDoorPYi
import Derived.Test.YtkhmngljpfibcaaGreatDoorPIj
namespace Go.Proofs.YtkhmngljpfibcaaGreatDoor
set_option maxRecDepth 100000
set_option maxHeartbeats 6400000
open Go.Lib (hid)
open Go.RowKit

theorem small28a_any (lb : ByteArray) (Ai Ao : Option Addr) (ni ci no co : Nat) (w : World) :
 Calls Tryz.prog 46 #[.agg #[.string lb, .slice Ai ni ci, .slice Ao no co]] w fun e w' => e = .returned (.bool (decide (12 < ni) || (decide (12 < no) || decide (100 < lb.size)))) ∧ Below w.heap.size w w' := by
 have HB := hid (below_alloc w (.cells #[.string lb, .slice Ai ni ci, .slice Ao no co] 79));by_cases h1 : 12 < ni
 · have q1 : decide ((12 : Int) < (ni : Int)) = true := by simp; omega
   have HV := hid (show (decide (12 < ni) || (decide (12 < no) || decide (100 < lb.size))) = true by rw [decide_eq_true h1]; rfl);clear h1;go_enter Tryz.func46, Tryz.ntmps46;go_wp2_with fail;go_ret;exact ⟨ret_bool HV.out.symm, HB.out⟩
 · have q1 : decide ((12 : Int) < (ni : Int)) = false := by simp; omega
   by_cases h2 : 12 < no
   · have q2 : decide ((12 : Int) < (no : Int)) = true := by simp; omega
     have HV := hid (show (decide (12 < ni) || (decide (12 < no) || decide (100 < lb.size))) = true by rw [decide_eq_true h2]; simp);clear h1 h2;go_enter Tryz.func46, Tryz.ntmps46;go_wp2_with fail;go_ret;exact ⟨ret_bool HV.out.symm, HB.out⟩
   · have q2 : decide ((12 : Int) < (no : Int)) = false := by simp; omega
     by_cases h3 : 100 < lb.size
     · have q3 : decide ((100 : Int) < (lb.size : Int)) = true := by simp; omega
       have HV := hid (show (decide (12 < ni) || (decide (12 < no) || decide (100 < lb.size))) = true by rw [decide_eq_true h3]; simp);clear h1 h2 h3;go_enter Tryz.func46, Tryz.ntmps46;go_wp2_with fail;go_ret;exact ⟨ret_bool HV.out.symm, HB.out⟩
     · have q3 : decide ((100 : Int) < (lb.size : Int)) = false := by simp; omega
       have HV := hid (show (decide (12 < ni) || (decide (12 < no) || decide (100 < lb.size))) = false by rw [decide_eq_false h1, decide_eq_false h2, decide_eq_false h3]; rfl);clear h1 h2 h3;go_enter Tryz.func46, Tryz.ntmps46;go_wp2_with fail;go_ret;exact ⟨ret_bool HV.out.symm, HB.out⟩
theorem tindex_s28 (A : Option Addr) (n cap : Nat) (L : List Tr) (w : World) (h : TIn w A L) (hn : L.length = n) (hn4 : n ≤ 9223372036854775807) :
 Calls Tryz.prog 116 #[.slice A n cap, .func (.func 46) #[] #[]] w (BIdx (!(L.any bigT)) w) := by
 have H0 := hid h; clear h;have HN := hid hn; clear hn;go_enter Tryz.func116, Tryz.ntmps116;go_wp2_with fail;go_loopg [8] (n) (fun g i wr => ∃ k : Nat, k + g = n ∧ i = .int .i64 k ∧ (L.take k).any bigT = false ∧ Below w.heap.size w wr);case atStart => exact ⟨0, by omega, rfl, by simp, Below.refl _ _⟩
 case round =>
  obtain ⟨k, hk, rfl, hno, hB⟩ := hrel;have HK := hid hk;have HNo := hid hno;have HB := hid hB;have HT := hid (H0.out.below hB);have hle : k ≤ n := by omega
  clear hk hno hB;by_cases hlt : k < n
  · have hlt' : k < L.length := by rw [HN.out]; exact hlt
    obtain ⟨ad, rfl, hp, c0, ⟨u1, c1, s1⟩, u2, c2, s2⟩ := HT.out k hlt';have HTk := hid (List.take_succ_eq_append_getElem hlt');have HM := hid (List.getElem_mem hlt');generalize L[k] = x at *;clear hlt';obtain ⟨lb, li, lo⟩ := x;obtain ⟨Ai, ni, ci, rfl, _, hi1, _⟩ := s1;obtain ⟨Ao, no, co, rfl, _, ho1, _⟩ := s2;simp only at c0 c1 c2 hi1 ho1;subst hi1 ho1;have HX := hid (small28a_any lb Ai Ao li.length ci lo.length co wr);have HXe := hid (show bigT ⟨lb, li, lo⟩ = (decide (12 < li.length) || (decide (12 < lo.length) || decide (100 < lb.size))) from rfl);rw [← HXe.out] at HX;cases hv : bigT ⟨lb, li, lo⟩ with
    | true =>
     rw [hv] at HX;have HV := hid hv; clear hv;go_wp2_with fail;((with_reducible refine HX.out.mono ?_); rintro e w1 ⟨rfl, hb1⟩)
     go_wp2_with fail;go_ret;refine BIdx.yes ?_ rfl (below_then HB.out hb1);rw [List.any_eq_true.2 ⟨_, HM.out, HV.out⟩]; rfl
    | false =>
     rw [hv] at HX;have HV := hid hv; clear hv;go_wp2_with fail;((with_reducible refine HX.out.mono ?_); rintro e w1 ⟨rfl, hb1⟩)
     have HB1 := hid (below_then HB.out hb1);clear hb1;go_wp2_with fail;go_roundg (gk - 1);case measure => have := HK.out; omega
     case rel => exact ⟨k + 1, by have := HK.out; omega, by go_num, by rw [HTk.out, List.any_append, HNo.out]; simp [HV.out], HB1.out⟩
  · have HE := hid (show L.take k = L from List.take_of_length_le (by have := HN.out; omega));go_wp2_with fail;go_ret;refine BIdx.no ?_ rfl HB.out;rw [← HE.out, HNo.out]; rfl
theorem tcont_s28 (A : Option Addr) (n cap : Nat) (L : List Tr) (w : World) (h : TIn w A L) (hn : L.length = n) (hn4 : n ≤ 9223372036854775807) :
 Calls Tryz.prog 45 #[.slice A n cap, .func (.func 46) #[] #[]] w fun e w' => e = .returned (.bool (L.any bigT)) ∧ Below w.heap.size w w' := by
 have HI := hid (tindex_s28 A n cap L w h hn hn4);clear h hn;generalize L.any bigT = r at HI ⊢;cases r with
 | false =>
  go_enter Tryz.func45, Tryz.ntmps45;go_wp2_with fail;((with_reducible refine HI.out.mono ?_); rintro e w1 hP)
  obtain ⟨he, hb⟩ := hP;have he' : e = .returned (.int .i64 (-1)) := he;clear he; subst he';go_wp2_with fail;go_ret;exact ⟨rfl, hb⟩
 | true =>
  go_enter Tryz.func45, Tryz.ntmps45;go_wp2_with fail;((with_reducible refine HI.out.mono ?_); rintro e w1 hP)
  obtain ⟨he, hb⟩ := hP;obtain ⟨i, he'⟩ : ∃ i : Nat, e = .returned (.int .i64 i) := he;subst he';go_wp2_with fail;go_ret;exact ⟨rfl, hb⟩
theorem small28_any (N : Nt) (A : Option Addr) (n c : Nat) (w : World) (h : NtIn w A N) (hn : N.tr.length = n) (hn2 : n ≤ 9223372036854775807) :
 Calls Tryz.prog 10 #[.agg #[.int .i64 N.pl, .slice A n c, .int .i64 N.src, .int .i64 N.snk]] w fun e w' => ∃ b : Bool, e = .returned (.bool b) ∧ (b = true → n ≤ 10) ∧ Below w.heap.size w w' := by
 have HB := hid (below_alloc w (.cells #[.int .i64 N.pl, .slice A n c, .int .i64 N.src, .int .i64 N.snk] 24));have HC := hid (tcont_s28 A n c N.tr _ (h.1.below HB.out) hn (by omega));clear h hn;by_cases h1 : N.pl ≤ 10
 · have q1 : decide (N.pl ≤ 10) = true := by simpa using h1
   by_cases h2 : n ≤ 10
   · have q3 : decide ((n : Int) ≤ 10) = true := by simp; omega
     have HN10 := hid h2;clear h2 h1;cases hb : N.tr.any bigT with
     | true =>
      rw [hb] at HC;go_enter Tryz.func10, Tryz.ntmps10;go_wp2_with fail;((with_reducible refine HC.out.mono ?_); rintro e w1 ⟨rfl, hb1⟩)
      go_wp2_with fail;go_ret;exact ⟨_, rfl, (fun h => by cases h), below_then HB.out hb1⟩
     | false =>
      rw [hb] at HC;go_enter Tryz.func10, Tryz.ntmps10;go_wp2_with fail;((with_reducible refine HC.out.mono ?_); rintro e w1 ⟨rfl, hb1⟩)
      go_wp2_with fail;go_ret;exact ⟨_, rfl, (fun _ => HN10.out), below_then HB.out hb1⟩
   · have q3 : decide ((n : Int) ≤ 10) = false := by simp; omega
     clear h2 h1;go_enter Tryz.func10, Tryz.ntmps10;go_wp2_with fail;go_ret;exact ⟨_, rfl, (fun h => by cases h), HB.out⟩
 · have q1 : decide (N.pl ≤ 10) = false := by simpa using h1
   by_cases h9 : 40 < N.pl
   · have q2 : decide (40 < N.pl) = true := by simpa using h9
     clear h9;by_cases h2 : n ≤ 10
     · have q3 : decide ((n : Int) ≤ 10) = true := by simp; omega
       have HN10 := hid h2;clear h2 h1;cases hb : N.tr.any bigT with
       | true =>
        rw [hb] at HC;go_enter Tryz.func10, Tryz.ntmps10;go_wp2_with fail;((with_reducible refine HC.out.mono ?_); rintro e w1 ⟨rfl, hb1⟩)
        go_wp2_with fail;go_ret;exact ⟨_, rfl, (fun h => by cases h), below_then HB.out hb1⟩
       | false =>
        rw [hb] at HC;go_enter Tryz.func10, Tryz.ntmps10;go_wp2_with fail;((with_reducible refine HC.out.mono ?_); rintro e w1 ⟨rfl, hb1⟩)
        go_wp2_with fail;go_ret;exact ⟨_, rfl, (fun _ => HN10.out), below_then HB.out hb1⟩
     · have q3 : decide ((n : Int) ≤ 10) = false := by simp; omega
       clear h2 h1;go_enter Tryz.func10, Tryz.ntmps10;go_wp2_with fail;go_ret;exact ⟨_, rfl, (fun h => by cases h), HB.out⟩
   · have q2 : decide (40 < N.pl) = false := by simpa using h9
     clear h9 h1;go_enter Tryz.func10, Tryz.ntmps10;go_wp2_with fail;go_ret;exact ⟨_, rfl, (fun h => by cases h), HB.out⟩
theorem none28_z (w : World) : Calls Tryz.prog 15 #[zCt] w fun e w' => e = .returned (.bool true) ∧ Below w.heap.size w w' := by
 have HB := hid (below_alloc w (.cells #[.int .i64 0, .int .i64 0, .slice none 0 0, .slice none 0 0, .slice none 0 0, .slice none 0 0, .slice none 0 0, .slice none 0 0] 31));unfold zCt;go_enter Tryz.func15, Tryz.ntmps15;go_wp2_with fail;go_ret;exact ⟨rfl, HB.out⟩
def FltM (N : Nt) (M : List Int) (work : Bool) (most k : Int) : Prop :=
 (mkB N M = false ∧ k = 1) ∨ (mkB N M = true ∧ work = true ∧ ¬ wfP N ∧ k = 19) ∨ (mkB N M = true ∧ (work = true → wfP N) ∧ ¬ (1 ≤ most ∧ most ≤ 500) ∧ k = 2) ∨ (mkB N M = true ∧ (work = true → wfP N) ∧ (1 ≤ most ∧ most ≤ 500) ∧ k = 0)
def iniZ (N : Nt) : List Int := if ntB N = true then iniM N else []
theorem initial28_any (N : Nt) (A : Option Addr) (n c : Nat) (w : World) (h : NtIn w A N) (hn : N.tr.length = n) (hn2 : n ≤ 9223372036854775806) :
 Calls Tryz.prog 14 #[.agg #[.int .i64 N.pl, .slice A n c, .int .i64 N.src, .int .i64 N.snk]] w fun e w' => ∃ v, e = .returned v ∧ NS w w' v (iniZ N) := by
 have HB0 := hid (below_alloc w (.cells #[.int .i64 N.pl, .slice A n c, .int .i64 N.src, .int .i64 N.snk] 24));have HNb0 := hid (NB.new w N.pl A n c N.src N.snk);have HV := hid (rvalid_any N A n c _ (h.below HB0.out) hn (by omega));clear h hn;cases hv : ntB N with
 | false =>
  have HZ := hid (show iniZ N = [] by unfold iniZ; rw [hv]; rfl);rw [hv] at HV;clear hv;go_enter Tryz.func14, Tryz.ntmps14;go_wp2_with fail;generalize w.alloc _ = w0 at *;((with_reducible refine HV.out.mono ?_); rintro e w1 ⟨rfl, hb1⟩)
  have HB1 := hid (HB0.out.trans (hb1.mono HB0.out.size));go_wp2_with fail;go_ret;exact ⟨_, rfl, by rw [HZ.out]; exact NS.start HB1.out⟩
 | true =>
  have HZ := hid (show iniZ N = iniM N by unfold iniZ; rw [if_pos hv]);have HVt := hid hv;rw [hv] at HV;clear hv;go_enter Tryz.func14, Tryz.ntmps14;go_wp2_with fail;generalize w.alloc _ = w0 at *;((with_reducible refine HV.out.mono ?_); rintro e w1 ⟨rfl, hb1⟩)
  have HB1 := hid (HB0.out.trans (hb1.mono HB0.out.size));obtain ⟨b0, b1, b2, b3⟩ := (HNb0.out.below hb1).cells;have HI := hid (ini28_any N A n c HVt.out w1);clear hb1 HV;go_wp2_with fail;((with_reducible refine HI.out.mono ?_); rintro e w2 ⟨v, rfl, hS⟩)
  go_wp2_with fail;go_ret;exact ⟨_, rfl, by rw [HZ.out]; exact NS.up HB1.out hS⟩
end Go.Proofs.YtkhmngljpfibcaaGreatDoor
