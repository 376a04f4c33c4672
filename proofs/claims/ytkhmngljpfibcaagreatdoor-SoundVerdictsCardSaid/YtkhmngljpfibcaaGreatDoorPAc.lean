/- small, none, initial, Fault, graph of the statements of chapter 28: what a call returns. -/
import Derived.Test.YtkhmngljpfibcaaGreatDoorPUu
import Derived.Test.YtkhmngljpfibcaaGreatDoorPHg
import Derived.Test.YtkhmngljpfibcaaGreatDoorPAd
import Derived.Test.YtkhmngljpfibcaaGreatDoorPYj
import Derived.Test.YtkhmngljpfibcaaGreatDoorPYb
import Derived.Test.YtkhmngljpfibcaaGreatDoorPDr
import Derived.Test.YtkhmngljpfibcaaGreatDoorPQj
namespace Go.Proofs.YtkhmngljpfibcaaGreatDoor
set_option maxRecDepth 100000
set_option maxHeartbeats 6400000
open Go.Lib (hid)
open Go.RowKit

theorem small28a_any (lb : ByteArray) (Ai Ao : Option Addr) (ni ci no co : Nat) (w : World) :
 Calls Tryz.prog 46 #[.agg #[.string lb, .slice Ai ni ci, .slice Ao no co]] w fun e w' => e = .returned (.bool (decide (12 < ni) || (decide (12 < no) || decide (100 < lb.size)))) ∧ Below w.heap.size w w' := by
 have HB := hid (below_alloc w (.cells #[.string lb, .slice Ai ni ci, .slice Ao no co] 79));by_cases h1 : 12 < ni
 · have q1 : decide ((12 : Int) < (ni : Int)) = true := by simp; omega
   have HV := hid (show (decide (12 < ni) || (decide (12 < no) || decide (100 < lb.size))) = true by rw [decide_eq_true h1]; rfl);clear h1;go_enter Tryz.func46, Tryz.ntmps46;go_wp2_with fail;go_ret;exact ⟨ret_bool HV.out.symm, HB.out⟩
 · have q1 : decide ((12 : Int) < (ni : Int)) = false := by simp; omega
   by_cases h2 : 12 < no
   · have q2 : decide ((12 : Int) < (no : Int)) = true := by simp; omega
     have HV := hid (show (decide (12 < ni) || (decide (12 < no) || decide (100 < lb.size))) = true by rw [decide_eq_true h2]; simp);clear h1 h2;go_enter Tryz.func46, Tryz.ntmps46;go_wp2_with fail;go_ret;exact ⟨ret_bool HV.out.symm, HB.out⟩
   · have q2 : decide ((12 : Int) < (no : Int)) = false := by simp; omega
     by_cases h3 : 100 < lb.size
     · have q3 : decide ((100 : Int) < (lb.size : Int)) = true := by simp; omega
       have HV := hid (show (decide (12 < ni) || (decide (12 < no) || decide (100 < lb.size))) = true by rw [decide_eq_true h3]; simp);clear h1 h2 h3;go_enter Tryz.func46, Tryz.ntmps46;go_wp2_with fail;go_ret;exact ⟨ret_bool HV.out.symm, HB.out⟩
     · have q3 : decide ((100 : Int) < (lb.size : Int)) = false := by simp; omega
       have HV := hid (show (decide (12 < ni) || (decide (12 < no) || decide (100 < lb.size))) = false by rw [decide_eq_false h1, decide_eq_false h2, decide_eq_false h3]; rfl);clear h1 h2 h3;go_enter Tryz.func46, Tryz.ntmps46;go_wp2_with fail;go_ret;exact ⟨ret_bool HV.out.symm, HB.out⟩
theorem tindex_s28 (A : Option Addr) (n cap : Nat) (L : List Tr) (w : World) (h : TIn w A L) (hn : L.length = n) (hn4 : n ≤ 9223372036854775807) :
 Calls Tryz.prog 116 #[.slice A n cap, .func (.func 46) #[] #[]] w (BIdx (!(L.any bigT)) w) := by
 have H0 := hid h; clear h;have HN := hid hn; clear hn;go_enter Tryz.func116, Tryz.ntmps116;go_wp2_with fail;go_loopg [8] (n) (fun g i wr => ∃ k : Nat, k + g = n ∧ i = .int .i64 k ∧ (L.take k).any bigT = false ∧ Below w.heap.size w wr);case atStart => exact ⟨0, by omega, rfl, by simp, Below.refl _ _⟩
 case round =>
  obtain ⟨k, hk, rfl, hno, hB⟩ := hrel;have HK := hid hk;have HNo := hid hno;have HB := hid hB;have HT := hid (H0.out.below hB);have hle : k ≤ n := by omega
  clear hk hno hB;by_cases hlt : k < n
  · have hlt' : k < L.length := by rw [HN.out]; exact hlt
    obtain ⟨ad, rfl, hp, c0, ⟨u1, c1, s1⟩, u2, c2, s2⟩ := HT.out k hlt';have HTk := hid (List.take_succ_eq_append_getElem hlt');have HM := hid (List.getElem_mem hlt');generalize L[k] = x at *;clear hlt';obtain ⟨lb, li, lo⟩ := x;obtain ⟨Ai, ni, ci, rfl, _, hi1, _⟩ := s1;obtain ⟨Ao, no, co, rfl, _, ho1, _⟩ := s2;simp only at c0 c1 c2 hi1 ho1;subst hi1 ho1;have HX := hid (small28a_any lb Ai Ao li.length ci lo.length co wr);have HXe := hid (show bigT ⟨lb, li, lo⟩ = (decide (12 < li.length) || (decide (12 < lo.length) || decide (100 < lb.size))) from rfl);rw [← HXe.out] at HX;cases hv : bigT ⟨lb, li, lo⟩ with
    | true =>
     rw [hv] at HX;have HV := hid hv; clear hv;go_wp2_with fail;((with_reducible refine HX.out.mono ?_); rintro e w1 ⟨rfl, hb1⟩)
     go_wp2_with fail;go_ret;refine BIdx.yes ?_ rfl (below_then HB.out hb1);rw [List.any_eq_true.2 ⟨_, HM.out, HV.out⟩]; rfl
    | false =>
     rw [hv] at HX;have HV := hid hv; clear hv;go_wp2_with fail;((with_reducible refine HX.out.mono ?_); rintro e w1 ⟨rfl, hb1⟩)
     have HB1 := hid (below_then HB.out hb1);clear hb1;go_wp2_with fail;go_roundg (gk - 1);case measure => have := HK.out; omega
     case rel => exact ⟨k + 1, by have := HK.out; omega, by go_num, by rw [HTk.out, List.any_append, HNo.out]; simp [HV.out], HB1.out⟩
  · have HE := hid (show L.take k = L from List.take_of_length_le (by have := HN.out; omega));go_wp2_with fail;go_ret;refine BIdx.no ?_ rfl HB.out;rw [← HE.out, HNo.out]; rfl
theorem tcont_s28 (A : Option Addr) (n cap : Nat) (L : List Tr) (w : World) (h : TIn w A L) (hn : L.length = n) (hn4 : n ≤ 9223372036854775807) :
 Calls Tryz.prog 45 #[.slice A n cap, .func (.func 46) #[] #[]] w fun e w' => e = .returned (.bool (L.any bigT)) ∧ Below w.heap.size w w' := by
 have HI := hid (tindex_s28 A n cap L w h hn hn4);clear h hn;generalize L.any bigT = r at HI ⊢;cases r with
 | false =>
  go_enter Tryz.func45, Tryz.ntmps45;go_wp2_with fail;((with_reducible refine HI.out.mono ?_); rintro e w1 hP)
  obtain ⟨he, hb⟩ := hP;have he' : e = .returned (.int .i64 (-1)) := he;clear he; subst he';go_wp2_with fail;go_ret;exact ⟨rfl, hb⟩
 | true =>
  go_enter Tryz.func45, Tryz.ntmps45;go_wp2_with fail;((with_reducible refine HI.out.mono ?_); rintro e w1 hP)
  obtain ⟨he, hb⟩ := hP;obtain ⟨i, he'⟩ : ∃ i : Nat, e = .returned (.int .i64 i) := he;subst he';go_wp2_with fail;go_ret;exact ⟨rfl, hb⟩
theorem small28_any (N : Nt) (A : Option Addr) (n c : Nat) (w : World) (h : NtIn w A N) (hn : N.tr.length = n) (hn2 : n ≤ 9223372036854775807) :
 Calls Tryz.prog 10 #[.agg #[.int .i64 N.pl, .slice A n c, .int .i64 N.src, .int .i64 N.snk]] w fun e w' => ∃ b : Bool, e = .returned (.bool b) ∧ (b = true → n ≤ 10) ∧ Below w.heap.size w w' := by
 have HB := hid (below_alloc w (.cells #[.int .i64 N.pl, .slice A n c, .int .i64 N.src, .int .i64 N.snk] 24));have HC := hid (tcont_s28 A n c N.tr _ (h.1.below HB.out) hn (by omega));clear h hn;by_cases h1 : N.pl ≤ 10
 · have q1 : decide (N.pl ≤ 10) = true := by simpa using h1
   by_cases h2 : n ≤ 10
   · have q3 : decide ((n : Int) ≤ 10) = true := by simp; omega
     have HN10 := hid h2;clear h2 h1;cases hb : N.tr.any bigT with
     | true =>
      rw [hb] at HC;go_enter Tryz.func10, Tryz.ntmps10;go_wp2_with fail;((with_reducible refine HC.out.mono ?_); rintro e w1 ⟨rfl, hb1⟩)
      go_wp2_with fail;go_ret;exact ⟨_, rfl, (fun h => by cases h), below_then HB.out hb1⟩
     | false =>
      rw [hb] at HC;go_enter Tryz.func10, Tryz.ntmps10;go_wp2_with fail;((with_reducible refine HC.out.mono ?_); rintro e w1 ⟨rfl, hb1⟩)
      go_wp2_with fail;go_ret;exact ⟨_, rfl, (fun _ => HN10.out), below_then HB.out hb1⟩
   · have q3 : decide ((n : Int) ≤ 10) = false := by simp; omega
     clear h2 h1;go_enter Tryz.func10, Tryz.ntmps10;go_wp2_with fail;go_ret;exact ⟨_, rfl, (fun h => by cases h), HB.out⟩
 · have q1 : decide (N.pl ≤ 10) = false := by simpa using h1
   by_cases h9 : 40 < N.pl
   · have q2 : decide (40 < N.pl) = true := by simpa using h9
     clear h9;by_cases h2 : n ≤ 10
     · have q3 : decide ((n : Int) ≤ 10) = true := by simp; omega
       have HN10 := hid h2;clear h2 h1;cases hb : N.tr.any bigT with
       | true =>
        rw [hb] at HC;go_enter Tryz.func10, Tryz.ntmps10;go_wp2_with fail;((with_reducible refine HC.out.mono ?_); rintro e w1 ⟨rfl, hb1⟩)
        go_wp2_with fail;go_ret;exact ⟨_, rfl, (fun h => by cases h), below_then HB.out hb1⟩
       | false =>
        rw [hb] at HC;go_enter Tryz.func10, Tryz.ntmps10;go_wp2_with fail;((with_reducible refine HC.out.mono ?_); rintro e w1 ⟨rfl, hb1⟩)
        go_wp2_with fail;go_ret;exact ⟨_, rfl, (fun _ => HN10.out), below_then HB.out hb1⟩
     · have q3 : decide ((n : Int) ≤ 10) = false := by simp; omega
       clear h2 h1;go_enter Tryz.func10, Tryz.ntmps10;go_wp2_with fail;go_ret;exact ⟨_, rfl, (fun h => by cases h), HB.out⟩
   · have q2 : decide (40 < N.pl) = false := by simpa using h9
     clear h9 h1;go_enter Tryz.func10, Tryz.ntmps10;go_wp2_with fail;go_ret;exact ⟨_, rfl, (fun h => by cases h), HB.out⟩
theorem none28_z (w : World) : Calls Tryz.prog 15 #[zCt] w fun e w' => e = .returned (.bool true) ∧ Below w.heap.size w w' := by
 have HB := hid (below_alloc w (.cells #[.int .i64 0, .int .i64 0, .slice none 0 0, .slice none 0 0, .slice none 0 0, .slice none 0 0, .slice none 0 0, .slice none 0 0] 31));unfold zCt;go_enter Tryz.func15, Tryz.ntmps15;go_wp2_with fail;go_ret;exact ⟨rfl, HB.out⟩
def FltM (N : Nt) (M : List Int) (work : Bool) (most k : Int) : Prop :=
 (mkB N M = false ∧ k = 1) ∨ (mkB N M = true ∧ work = true ∧ ¬ wfP N ∧ k = 19) ∨ (mkB N M = true ∧ (work = true → wfP N) ∧ ¬ (1 ≤ most ∧ most ≤ 500) ∧ k = 2) ∨ (mkB N M = true ∧ (work = true → wfP N) ∧ (1 ≤ most ∧ most ≤ 500) ∧ k = 0)
def iniZ (N : Nt) : List Int := if ntB N = true then iniM N else []
theorem iniZ_len (N : Nt) : (iniZ N).length ≤ 1000 := by
 unfold iniZ;split
 · rename_i hv;have h1 := mk_len (one_mk hv N.src.toNat);have h2 := nt_small hv;have h3 : ((iniM N).length : Int) = N.pl := h1;omega
 · simp
theorem FltM.ini {N : Nt} {work : Bool} {most k : Int} (h : FltM N (iniZ N) work most k) : FltK N work most k := by
 cases hv : ntB N with
 | false =>
  have h1 : mkB N (iniZ N) = false := by unfold mkB; rw [hv]; rfl
  rcases h with ⟨_, h2⟩ | ⟨h2, _⟩ | ⟨h2, _⟩ | ⟨h2, _⟩
  · exact .inl ⟨hv, h2⟩
  all_goals rw [h1] at h2; cases h2
 | true =>
  have h1 : mkB N (iniZ N) = true := by unfold iniZ; rw [if_pos hv]; exact one_mk hv N.src.toNat
  rcases h with ⟨h2, _⟩ | ⟨_, h2⟩ | ⟨_, h2⟩ | ⟨_, h2⟩
  · rw [h1] at h2; cases h2
  · exact .inr (.inl ⟨hv, h2⟩)
  · exact .inr (.inr (.inl ⟨hv, h2⟩))
  · exact .inr (.inr (.inr ⟨hv, h2⟩))
theorem initial28_any (N : Nt) (A : Option Addr) (n c : Nat) (w : World) (h : NtIn w A N) (hn : N.tr.length = n) (hn2 : n ≤ 9223372036854775806) :
 Calls Tryz.prog 14 #[.agg #[.int .i64 N.pl, .slice A n c, .int .i64 N.src, .int .i64 N.snk]] w fun e w' => ∃ v, e = .returned v ∧ NS w w' v (iniZ N) := by
 have HB0 := hid (below_alloc w (.cells #[.int .i64 N.pl, .slice A n c, .int .i64 N.src, .int .i64 N.snk] 24));have HNb0 := hid (NB.new w N.pl A n c N.src N.snk);have HV := hid (rvalid_any N A n c _ (h.below HB0.out) hn (by omega));clear h hn;cases hv : ntB N with
 | false =>
  have HZ := hid (show iniZ N = [] by unfold iniZ; rw [hv]; rfl);rw [hv] at HV;clear hv;go_enter Tryz.func14, Tryz.ntmps14;go_wp2_with fail;generalize w.alloc _ = w0 at *;((with_reducible refine HV.out.mono ?_); rintro e w1 ⟨rfl, hb1⟩)
  have HB1 := hid (HB0.out.trans (hb1.mono HB0.out.size));go_wp2_with fail;go_ret;exact ⟨_, rfl, by rw [HZ.out]; exact NS.start HB1.out⟩
 | true =>
  have HZ := hid (show iniZ N = iniM N by unfold iniZ; rw [if_pos hv]);have HVt := hid hv;rw [hv] at HV;clear hv;go_enter Tryz.func14, Tryz.ntmps14;go_wp2_with fail;generalize w.alloc _ = w0 at *;((with_reducible refine HV.out.mono ?_); rintro e w1 ⟨rfl, hb1⟩)
  have HB1 := hid (HB0.out.trans (hb1.mono HB0.out.size));obtain ⟨b0, b1, b2, b3⟩ := (HNb0.out.below hb1).cells;have HI := hid (ini28_any N A n c HVt.out w1);clear hb1 HV;go_wp2_with fail;((with_reducible refine HI.out.mono ?_); rintro e w2 ⟨v, rfl, hS⟩)
  go_wp2_with fail;go_ret;exact ⟨_, rfl, by rw [HZ.out]; exact NS.up HB1.out hS⟩
theorem sp_cell {w : World} {rb : Nat} {ad : Addr} {u : Value} (hb : SpB w rb (.slice none 0 0) (.slice none 0 0) false) (hc : w.cell? ad = some u) (he : ad.block = rb) : u = .slice none 0 0 ∨ u = .bool false := by
 subst he;unfold SpB at hb;obtain ⟨b, off, sp⟩ := ad;simp only at hb;cases sp with
 | some p => simp [World.cell?, hb] at hc
 | none =>
  simp only [World.cell?, hb] at hc
  match off, hc with
  | 0, hc => simp at hc; exact .inl hc.symm
  | 1, hc => simp at hc; exact .inl hc.symm
  | 2, hc => simp at hc; exact .inr hc.symm
  | o + 3, hc => simp at hc
theorem SpIn.other {w we : World} {v : Value} {LL : List (List Int)} {MV : List Mv} {fl : Bool} {rb : Nat} (h : SpIn w v LL MV fl) (hall : ∀ s ∈ LL, 0 < s.length) (hb : SpB w rb (.slice none 0 0) (.slice none 0 0) false) (hg : w.grownBy we (some rb)) : SpIn we v LL MV fl := by
 obtain ⟨A, c, A', c', rfl, hl, h1, hm, h2⟩ := h;refine ⟨A, c, A', c', rfl, fun i hi => ?_, h1, fun i hi => ?_, h2⟩
 · obtain ⟨ad, e, hlt, u, hc, hs⟩ := hl i hi;have hne : (ad.add i).block ≠ rb := fun e9 => by
    obtain ⟨B, n, cc, rfl, hz, h3, _⟩ := hs;have h0 := hall _ (List.getElem_mem hi);rcases sp_cell hb hc e9 with h9 | h9
    · injection h9 with q1 q2 _; omega
    · cases h9
   exact ⟨ad, e, by have := hg.size; omega, u, hg.cell hc (fun e9 => hne (Option.some.inj e9)), sl_other hs hb hg⟩
 · obtain ⟨ad, e, hlt, hc⟩ := hm i hi;have h0 := hc 0 (.int .i64 MV[i].f) (by omega) rfl;have hne : (ad.add (i * 3 + 0)).block ≠ rb := fun e9 => by
    rcases sp_cell hb h0 e9 with h9 | h9 <;> cases h9
   have hne2 : ∀ j, (ad.add (i * 3 + j)).block ≠ rb := fun j => by rw [add_block] at hne ⊢; exact hne
   exact ⟨ad, e, by have := hg.size; omega, fun j u hj hu => hg.cell (hc j u hj hu) (fun e9 => hne2 j (Option.some.inj e9))⟩
theorem graph28_any (N : Nt) (A : Option Addr) (n c : Nat) (most : Nat) (w : World) (h : NtIn w A N) (hn : N.tr.length = n) (hv : ntB N = true) (hmo : 1 ≤ most) (hst : ∀ T, growT N (iniM N) most = some T → ∀ s ∈ T.states, 0 < s.length) :
 Calls Tryz.prog 16 #[.agg #[.int .i64 N.pl, .slice A n c, .int .i64 N.src, .int .i64 N.snk], .int .i64 (most : Int)] w (RGPo (growT N (iniM N) most) w) := by
 have hnb := (NB.new w N.pl A n c N.src N.snk).below (below_alloc _ (.cells #[.slice none 0 0, .slice none 0 0, .bool false] 41));have hrb1 := heap_alloc_new (w.alloc (.cells #[.int .i64 N.pl, .slice A n c, .int .i64 N.src, .int .i64 N.snk] 24)) (.cells #[.slice none 0 0, .slice none 0 0, .bool false] 41);rw [World.size_alloc] at hrb1;have HB := hid (two_boxes w (.cells #[.int .i64 N.pl, .slice A n c, .int .i64 N.src, .int .i64 N.snk] 24) (.cells #[.slice none 0 0, .slice none 0 0, .bool false] 41));have HNb := hid hnb;have HRb := hid (show SpB _ (w.heap.size + 1) (.slice none 0 0) (.slice none 0 0) false from hrb1);have HIn := hid (h.below HB.out);have HNl := hid hn;have HV := hid hv;have HSt := hid hst;clear h hn hv hnb hrb1 hst;go_enter Tryz.func16, Tryz.ntmps16;go_wp2_with fail;generalize hw0 : (w.alloc (.cells #[.int .i64 N.pl, .slice A n c, .int .i64 N.src, .int .i64 N.snk] 24)).alloc (.cells #[.slice none 0 0, .slice none 0 0, .bool false] 41) = w0 at *;obtain ⟨rb, hrbe⟩ : ∃ rb, rb = w.heap.size + 1 := ⟨_, rfl⟩;have hrb : w.heap.size ≤ rb := by omega
 have hne : some w.heap.size ≠ some rb := fun e => by have := Option.some.inj e; omega
 rw [← hrbe] at HRb ⊢;clear hw0 hrbe;have hbd : Below w0.heap.size w0 w0.drew := (Below.refl _ _).drew;have hS0 : w0.drew.cell? ⟨w.heap.size, 0, none⟩ = some (.int .i64 N.pl) ∧ w0.drew.cell? ⟨w.heap.size, 1, none⟩ = some (.slice A n c) ∧ w0.drew.cell? ⟨w.heap.size, 2, none⟩ = some (.int .i64 N.src) ∧ w0.drew.cell? ⟨w.heap.size, 3, none⟩ = some (.int .i64 N.snk) := (HNb.out.below hbd).cells;have HB9 := hid (below_then HB.out hbd);have HNb9 := hid (HNb.out.below hbd);have HIn9 := hid (HIn.out.below hbd);have HRb9 := hid (HRb.out.below hbd);clear HB HNb HIn HRb;have HB := hid HB9.out;have HNb := hid HNb9.out;have HIn := hid HIn9.out;have HRb := hid HRb9.out;clear HB9 HNb9 HIn9 HRb9;clear hbd;refine rh4 hS0 (fun hHeld => ?_);clear hS0;generalize w0.drew = wd at *;refine tkH 0 ?_;(try go_simp);refine tkH 1 ?_;(try go_simp);refine tkH 3 ?_;(try go_simp);have HI := hid (ini28_any N A n c HV.out wd);refine tkR 2 (fun K9 hK => ?_);go_simp;((refine (HI.out).mono ?_); rintro e w1 ⟨v, rfl, hS⟩)
 obtain ⟨A1, c1, rfl, hz, hz1, hz2⟩ := hS.zin;have hb1 := hS.2;have hS9 := hHeld;refine hK.out _ _ (ks4 hb1 hS9) (fun hHeld => ?_);clear hK K9 hS9;try go_simp
 have HB9 := hid (below_then HB.out hb1);have HNb9 := hid (HNb.out.below hb1);have HIn9 := hid (HIn.out.below hb1);have HRb9 := hid (HRb.out.below hb1);clear HB HNb HIn HRb;have HB := hid HB9.out;have HNb := hid HNb9.out;have HIn := hid HIn9.out;have HRb := hid HRb9.out;clear HB9 HNb9 HIn9 HRb9;clear hb1;have HG := hid (rgraph_any N A n c A1 (iniM N).length c1 (iniM N) most w1 HIn.out.1 HNl.out hz rfl hz1 hz2 (one_mk HV.out _) hmo);clear hS hz hz1 hz2 HI;refine tkR 4 (fun K9 hK => ?_);go_simp;((refine (HG.out).mono ?_); rintro e w2 ⟨hb2, hP⟩)
 clear HG;cases hg : growT N (iniM N) most with
 | none =>
  rw [hg] at hP;simp only at hP;subst hP;have HGq := hid hg;clear hg;have hS9 := hHeld;refine hK.out _ _ (ks4 hb2 hS9) (fun hHeld => ?_);clear hK K9 hS9;try go_simp
  have HB9 := hid (below_then HB.out hb2);have HNb9 := hid (HNb.out.below hb2);have HIn9 := hid (HIn.out.below hb2);have HRb9 := hid (HRb.out.below hb2);clear HB HNb HIn HRb;have HB := hid HB9.out;have HNb := hid HNb9.out;have HIn := hid HIn9.out;have HRb := hid HRb9.out;clear HB9 HNb9 HIn9 HRb9;clear hb2;refine tkH 5 ?_;(try go_simp);refine tkH 6 ?_;(try go_simp);obtain ⟨r0, r1, r2⟩ := HRb.out.cells;have rf0 := HRb.out.soft 0;have rf1 := HRb.out.soft 1;have rf2 := HRb.out.soft 2;have HRe := hid (((HRb.out.set0 (.slice none 0 0)).set1 (.slice none 0 0)).set2 false);have HGe := hid (sp_grown w2 rb (.slice none 0 0) (.slice none 0 0) (.bool false));have HBe := hid (HB.out.grown HGe.out HB.out.size (fun k hk => by cases hk; exact hrb));refine tkR 7 (fun K9 hK => ?_);go_simp;refine hK.out _ _ ⟨HGe.out.cell hHeld.1 hne, HGe.out.cell hHeld.2.1 hne, HGe.out.cell hHeld.2.2.1 hne, HGe.out.cell hHeld.2.2.2 hne⟩ (fun hHeld => ?_);clear hK K9 r0 r1 r2 rf0 rf1 rf2;try go_simp
  refine tkH 8 ?_;(try go_simp);refine wpAnyH_done (by kernel_rfl) ?_ _;clear hHeld;go_wp2_with fail;generalize ((w2.setCell ⟨rb, 0, none⟩ _).setCell ⟨rb, 1, none⟩ _).setCell ⟨rb, 2, none⟩ _ = we at *;obtain ⟨d0, d1, d2⟩ := HRe.out.cells;exact bodyPost_ret (v := .tuple #[.agg #[.slice none 0 0, .slice none 0 0, .bool false], .bool false]) (by simp [results, Tryz.results16, go_sem, d0, d1, d2]) rfl (RGPo.no HGq.out rfl HBe.out)
 | some T =>
  have HSl := hid (HSt.out T hg);rw [hg] at hP;simp only at hP;obtain ⟨v2, rfl, hSp⟩ := hP;have HSp := hid hSp;obtain ⟨A2, c2, A3, c3, rfl, _, _, _, _⟩ := hSp;have HGq := hid hg;clear hg;have hS9 := hHeld;refine hK.out _ _ (ks4 hb2 hS9) (fun hHeld => ?_);clear hK K9 hS9;try go_simp
  have HB9 := hid (below_then HB.out hb2);have HNb9 := hid (HNb.out.below hb2);have HIn9 := hid (HIn.out.below hb2);have HRb9 := hid (HRb.out.below hb2);clear HB HNb HIn HRb;have HB := hid HB9.out;have HNb := hid HNb9.out;have HIn := hid HIn9.out;have HRb := hid HRb9.out;clear HB9 HNb9 HIn9 HRb9;clear hb2;refine tkH 5 ?_;(try go_simp);refine tkH 6 ?_;(try go_simp);obtain ⟨r0, r1, r2⟩ := HRb.out.cells;have rf0 := HRb.out.soft 0;have rf1 := HRb.out.soft 1;have rf2 := HRb.out.soft 2;have HRe := hid (((HRb.out.set0 (.slice A2 T.states.length c2)).set1 (.slice A3 (movesOf T).length c3)).set2 true);have HGe := hid (sp_grown w2 rb (.slice A2 T.states.length c2) (.slice A3 (movesOf T).length c3) (.bool true));have HBe := hid (HB.out.grown HGe.out HB.out.size (fun k hk => by cases hk; exact hrb));refine tkR 7 (fun K9 hK => ?_);go_simp;refine hK.out _ _ ⟨HGe.out.cell hHeld.1 hne, HGe.out.cell hHeld.2.1 hne, HGe.out.cell hHeld.2.2.1 hne, HGe.out.cell hHeld.2.2.2 hne⟩ (fun hHeld => ?_);clear hK K9 r0 r1 r2 rf0 rf1 rf2;try go_simp
  refine tkH 8 ?_;(try go_simp);refine wpAnyH_done (by kernel_rfl) ?_ _;clear hHeld;have HSe := hid (HSp.out.other HSl.out HRb.out HGe.out);go_wp2_with fail;generalize ((w2.setCell ⟨rb, 0, none⟩ _).setCell ⟨rb, 1, none⟩ _).setCell ⟨rb, 2, none⟩ _ = we at *;obtain ⟨d0, d1, d2⟩ := HRe.out.cells;exact bodyPost_ret (v := .tuple #[.agg #[.slice A2 T.states.length c2, .slice A3 (movesOf T).length c3, .bool true], .bool true]) (by simp [results, Tryz.results16, go_sem, d0, d1, d2]) rfl (RGPo.yes HGq.out rfl HSe.out HBe.out)
theorem fault28_any (N : Nt) (A : Option Addr) (n c : Nat) (Am : Option Addr) (m cm : Nat) (M : List Int) (work : Bool) (most : Int) (w : World) (h : NtIn w A N) (hn : N.tr.length = n) (hn2 : n ≤ 9223372036854775806) (hM : ZIn w Am M) (hm : M.length = m) (hm2 : m ≤ 9223372036854775807) :
 Calls Tryz.prog 13 #[.agg #[.int .i64 N.pl, .slice A n c, .int .i64 N.src, .int .i64 N.snk], .slice Am m cm, .bool work, .bool false, .int .i64 0, .int .i64 most] w fun e w' => ∃ k : Int, e = .returned (.int .i64 k) ∧ FltM N M work most k ∧ Below w.heap.size w w' := by
 have HB0 := hid (below_alloc w (.cells #[.int .i64 N.pl, .slice A n c, .int .i64 N.src, .int .i64 N.snk] 24));have HNb0 := hid (NB.new w N.pl A n c N.src N.snk);have HIn0 := hid (h.below HB0.out);have HM0 := hid (hM.below HB0.out);have HNl := hid hn;have HMl := hid hm;clear h hn hM hm;go_enter Tryz.func13, Tryz.ntmps13;go_wp2_with fail;generalize w.alloc _ = w0 at *;have HV := hid (rvalid_any N A n c w0 HIn0.out HNl.out (by omega));cases hv : ntB N with
 | false =>
  have HF := hid (show FltM N M work most 1 from .inl ⟨by unfold mkB; rw [hv]; rfl, rfl⟩);rw [hv] at HV;clear hv;((with_reducible refine HV.out.mono ?_); rintro e w1 ⟨rfl, hb1⟩)
  have HB1 := hid (HB0.out.trans (hb1.mono HB0.out.size));clear hb1 HV;go_wp2_with fail;go_ret;exact ⟨1, rfl, HF.out, HB1.out⟩
 | true =>
 rw [hv] at HV;have HVt := hid hv;clear hv;((with_reducible refine HV.out.mono ?_); rintro e w1 ⟨rfl, hb1⟩)
 have HB1 := hid (HB0.out.trans (hb1.mono HB0.out.size));have HNb1 := hid (HNb0.out.below hb1);have HIn1 := hid (HIn0.out.below hb1);have HM1 := hid (HM0.out.below hb1);clear HV hb1 HB0 HNb0 HIn0 HM0;obtain ⟨b0, b1, b2, b3⟩ := HNb1.out.cells;have HMa := hid (rmarking_any N.pl A n c N.src N.snk Am m cm M w1 HM1.out HMl.out hm2);have HMe := hid (show (decide ((m : Int) = N.pl) && !(M.any badK)) = mkB N M by unfold mkB; rw [HVt.out, HMl.out]; rfl);rw [HMe.out] at HMa;clear HMe;cases hmk : mkB N M with
 | false =>
  have HF := hid (show FltM N M work most 1 from .inl ⟨hmk, rfl⟩);rw [hmk] at HMa;clear hmk;go_wp2_with fail;((with_reducible refine HMa.out.mono ?_); rintro e w2 ⟨rfl, hb2⟩)
  have HB2 := hid (HB1.out.trans (hb2.mono HB1.out.size));clear hb2 HMa b0 b1 b2 b3;go_wp2_with fail;go_ret;exact ⟨1, rfl, HF.out, HB2.out⟩
 | true =>
 rw [hmk] at HMa;have HMk := hid hmk;clear hmk;go_wp2_with fail;((with_reducible refine HMa.out.mono ?_); rintro e w2 ⟨rfl, hb2⟩)
 have HB2 := hid (HB1.out.trans (hb2.mono HB1.out.size));have HNb2 := hid (HNb1.out.below hb2);have HIn2 := hid (HIn1.out.below hb2);clear hb2 HMa b0 b1 b2 b3 HB1 HNb1 HIn1 HM1;cases work with
 | false =>
  by_cases hbad : ¬ (1 ≤ most ∧ most ≤ 500)
  · have HF := hid (show FltM N M false most 2 from .inr (.inr (.inl ⟨HMk.out, (fun h => by cases h), hbad, rfl⟩)));by_cases h1 : most < 1
    · have hq1 : decide (most < 1) = true := by simp; omega
      clear hbad h1;go_wp2_with fail;go_ret;exact ⟨2, rfl, HF.out, HB2.out⟩
    · have hq1 : decide (most < 1) = false := by simp; omega
      have hq2 : decide (most > 500) = true := by simp; omega
      clear hbad h1;go_wp2_with fail;go_ret;exact ⟨2, rfl, HF.out, HB2.out⟩
  have hq1 : decide (most < 1) = false := by simp; omega
  have hq2 : decide (most > 500) = false := by simp; omega
  have HF := hid (show FltM N M false most 0 from .inr (.inr (.inr ⟨HMk.out, (fun h => by cases h), by omega, rfl⟩)));clear hbad;go_wp2_with fail;go_ret;exact ⟨0, rfl, HF.out, HB2.out⟩
 | true =>
  obtain ⟨b0, b1, b2, b3⟩ := HNb2.out.cells;have HWk := hid (workflow21_any N A n c w2 HIn2.out HNl.out (by omega));go_wp2_with fail;((with_reducible refine HWk.out.mono ?_); rintro e w3 ⟨⟨q, rfl, hq⟩, hb3⟩)
  have HB3 := hid (HB2.out.trans (hb3.mono HB2.out.size));clear hb3 HWk b0 b1 b2 b3 HB2 HNb2 HIn2;cases q with
  | false =>
   have HF := hid (show FltM N M true most 19 from .inr (.inl ⟨HMk.out, rfl, (fun hw => by have h9 := hq.2 ⟨HVt.out, hw⟩; cases h9), rfl⟩));clear hq;go_wp2_with fail;go_ret;exact ⟨19, rfl, HF.out, HB3.out⟩
  | true =>
   have HWf := hid (hq.1 (by trivial)).2;clear hq;by_cases hbad : ¬ (1 ≤ most ∧ most ≤ 500)
   · have HF := hid (show FltM N M true most 2 from .inr (.inr (.inl ⟨HMk.out, (fun _ => HWf.out), hbad, rfl⟩)));by_cases h1 : most < 1
     · have hq1 : decide (most < 1) = true := by simp; omega
       clear hbad h1;go_wp2_with fail;go_ret;exact ⟨2, rfl, HF.out, HB3.out⟩
     · have hq1 : decide (most < 1) = false := by simp; omega
       have hq2 : decide (most > 500) = true := by simp; omega
       clear hbad h1;go_wp2_with fail;go_ret;exact ⟨2, rfl, HF.out, HB3.out⟩
   have hq1 : decide (most < 1) = false := by simp; omega
   have hq2 : decide (most > 500) = false := by simp; omega
   have HF := hid (show FltM N M true most 0 from .inr (.inr (.inr ⟨HMk.out, (fun _ => HWf.out), by omega, rfl⟩)));clear hbad;go_wp2_with fail;go_ret;exact ⟨0, rfl, HF.out, HB3.out⟩
end Go.Proofs.YtkhmngljpfibcaaGreatDoor
