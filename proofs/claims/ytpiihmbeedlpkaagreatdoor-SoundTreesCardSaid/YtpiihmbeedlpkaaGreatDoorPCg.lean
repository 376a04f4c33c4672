/- Valid of both packages: what a call returns. -/
import Derived.Test.YtpiihmbeedlpkaaGreatDoorPUu
import Derived.Test.YtpiihmbeedlpkaaGreatDoorPCd
namespace Go.Proofs.YtpiihmbeedlpkaaGreatDoor
set_option maxRecDepth 100000
set_option maxHeartbeats 3200000
open Go.Lib (hid)
open Go.RowKit

theorem lnil (s : ByteArray) (h : s.size = 0) : s.data.toList = [] := List.eq_nil_of_length_eq_zero (by rw [len_byte]; exact h)
theorem lne (s : ByteArray) (h : 0 < s.size) : s.data.toList ≠ [] := fun e => by have := len_byte s; rw [e] at this; simp at this; omega
theorem nonempty (s : ByteArray) (h : 0 < s.size) : s.toList.isEmpty = false := by
 rw [ByteArray.toList_eq];cases h5 : s.data.toList with
 | nil => have h6 := len_byte s; rw [h5] at h6; simp at h6; omega
 | cons a r => rfl
theorem empty_facts (s : ByteArray) : (s.data.toList = [] ∧ s.toList = [] ∧ s.toList.isEmpty = true ∧ (!s.toList.isEmpty) = false) ∨ (s.data.toList ≠ [] ∧ s.toList.isEmpty = false ∧ (!s.toList.isEmpty) = true) := by
 by_cases hz : s.size = 0
 · have e1 : s.toList = [] := by rw [ByteArray.toList_eq]; exact lnil s hz
   have e2 : s.toList.isEmpty = true := by rw [e1]; rfl
   exact .inl ⟨lnil s hz, e1, e2, by rw [e2]; rfl⟩
 · have e2 := nonempty s (by omega);exact .inr ⟨lne s (by omega), e2, by rw [e2]; rfl⟩
def NtIn (w : World) (A : Option Addr) (N : Nt) : Prop := TIn w A N.tr ∧ ∀ t ∈ N.tr, t.lb.size ≤ 9223372036854775807
theorem NtIn.below {w w' : World} {A : Option Addr} {N : Nt} (h : NtIn w A N) (hb : Below w.heap.size w w') : NtIn w' A N := ⟨h.1.below hb, h.2⟩
theorem NtIn.tr {w : World} {A : Option Addr} {N : Nt} (h : NtIn w A N) : TIn w A N.tr := h.1
def trTo (n : Int) (L : List Tr) (k : Nat) : Bool := (L.take k).all (trB n)
theorem trTo_succ (n : Int) (L : List Tr) (k : Nat) (h : k < L.length) : trTo n L (k + 1) = (trTo n L k && trB n L[k]) := by
 unfold trTo; rw [List.take_succ_eq_append_getElem h, List.all_append]; simp
theorem tr_bad (n : Int) (L : List Tr) (k : Nat) (h : k < L.length) (hk : trB n L[k] = false) : L.all (trB n) = false := by
 rw [List.all_eq_false]; exact ⟨L[k], List.getElem_mem h, by simp [hk]⟩
theorem nt_no (N : Nt) (h : N.tr.all (trB N.pl) = false) : ntB N = false := by unfold ntB; rw [h]; simp
theorem nt_head (N : Nt) (h : ¬ (1 ≤ N.pl ∧ N.pl ≤ 40 ∧ N.tr.length ≤ 60)) : ntB N = false := by unfold ntB; rw [decide_eq_false h]; rfl
theorem nt_tail (N : Nt) (h : 1 ≤ N.pl ∧ N.pl ≤ 40 ∧ N.tr.length ≤ 60) (h2 : N.tr.all (trB N.pl) = true) : ntB N = decide (0 ≤ N.src ∧ N.src < N.pl ∧ 0 ≤ N.snk ∧ N.snk < N.pl) := by unfold ntB; rw [decide_eq_true h, h2]; rfl
theorem plB_one (n x : Int) : plB n [x] = (decide (0 ≤ x) && decide (x < n)) := by
 unfold plB; rw [show [x].length = 0 + 1 from rfl, plTo_succ, plTo_zero, plAt_zero n [x] (by simp)]; rfl
theorem pl_one (pl : Int) (A : Option Addr) (n c : Nat) (src snk x : Int) (w : World) :
 Calls Tryz.prog 56 #[.agg #[.int .i64 pl, .slice A n c, .int .i64 src, .int .i64 snk], .slice (some ⟨w.heap.size, 0, none⟩) 1 1] (w.alloc (.cells #[.int .i64 x] 3)) fun e w' => e = .returned (.bool (decide (0 ≤ x) && decide (x < pl))) ∧ Below (w.alloc (.cells #[.int .i64 x] 3)).heap.size (w.alloc (.cells #[.int .i64 x] 3)) w' := by
 have h : ZIn (w.alloc (.cells #[.int .i64 x] 3)) (some ⟨w.heap.size, 0, none⟩) [x] := lit_ints w [x] (by simp);have h2 := pplaces_any pl A n c src snk (some ⟨w.heap.size, 0, none⟩) 1 1 [x] (w.alloc (.cells #[.int .i64 x] 3)) h rfl (by omega);rw [plB_one] at h2; exact h2
theorem tr_lab {n : Int} {t : Tr} (h1 : t.lb.data.toList.isEmpty = false) (h2 : isNameB t.lb.data.toList = false) : trB n t = false := by unfold trB; rw [h1, h2]; rfl
theorem tr_in {n : Int} {t : Tr} (h : plB n t.i = false) : trB n t = false := by unfold trB; rw [h]; simp
theorem tr_out {n : Int} {t : Tr} (h : plB n t.o = false) : trB n t = false := by unfold trB; rw [h]; simp
theorem tr_yes {n : Int} {t : Tr} (h1 : t.lb.data.toList.isEmpty = true ∨ isNameB t.lb.data.toList = true) (h2 : plB n t.i = true) (h3 : plB n t.o = true) : trB n t = true := by
 unfold trB; rw [h2, h3]; rcases h1 with h | h <;> simp [h]
theorem pvalid_any (N : Nt) (A : Option Addr) (n c : Nat) (w : World) (h : NtIn w A N) (hn : N.tr.length = n) (hn2 : n ≤ 9223372036854775807) :
 Calls Tryz.prog 34 #[.agg #[.int .i64 N.pl, .slice A n c, .int .i64 N.src, .int .i64 N.snk]] w fun e w' => e = .returned (.bool (ntB N)) ∧ Below w.heap.size w w' := by
 obtain ⟨pl, L, src, snk⟩ := N;simp only at hn ⊢;have HB := hid (below_alloc w (.cells #[.int .i64 pl, .slice A n c, .int .i64 src, .int .i64 snk] 30));have HN := hid (NB.new w pl A n c src snk);have H0 := hid (h.below HB.out);have HM := hid hn;have HD := hid (nt_head ⟨pl, L, src, snk⟩);have HT := hid (nt_tail ⟨pl, L, src, snk⟩);have HNo := hid (nt_no ⟨pl, L, src, snk⟩);simp only at HD HT HNo;generalize ntB ⟨pl, L, src, snk⟩ = R at *;clear h hn;by_cases hh : 1 ≤ pl ∧ pl ≤ 40 ∧ n ≤ 60
 · obtain ⟨h1, h2, h3⟩ := hh;have h3i : (n : Int) ≤ 60 := by omega
   have hd1 : decide (pl < 1) = false := by simp; omega
   have hd2 : decide (40 < pl) = false := by simp; omega
   go_enter Tryz.func34, Tryz.ntmps34;go_wp2_with fail;generalize w.alloc _ = w0 at HB HN H0 ⊢;go_loopg [22] (n) (fun g iv wr => ∃ k : Nat, k + g = n ∧ iv = .int .i64 k ∧ trTo pl L k = true ∧ NB wr w.heap.size pl A n c src snk ∧ NtIn wr A ⟨pl, L, src, snk⟩ ∧ Below w.heap.size w wr);case atStart => exact ⟨0, by omega, rfl, rfl, HN.out, H0.out, HB.out⟩
   case round =>
    obtain ⟨k, hk, rfl, hT, hNB, hI, hB⟩ := hrel;have HK := hid hk;have HTo := hid hT;have HNb := hid hNB;have HIn := hid hI;have HBl := hid hB;have hle : k ≤ n := by omega
    have hnl := hNB.lt;clear hk hT hNB hI hB HN H0 HB;obtain ⟨c0, c1, c2, c3⟩ := HNb.out.cells;by_cases hlt : k < n
    · have hlt' : k < L.length := by rw [HM.out]; exact hlt
      obtain ⟨ad, rfl, hpa, m0, ⟨u1, m1, s1⟩, u2, m2, s2⟩ := HIn.out.tr k hlt';have HSu := hid (trTo_succ pl L k hlt');have HBad := hid (fun h => HNo.out (tr_bad pl L k hlt' h));have hlb := HIn.out.2 _ (List.getElem_mem hlt');simp only at m0 m1 s1 m2 s2 HSu HBad hlb;generalize L[k] = t at *;clear hlt';obtain ⟨lb, ti, tu⟩ := t;simp only at m0 m1 s1 m2 s2 hlb;obtain ⟨Ai, ni, ci, rfl, zi, hi1, hi2, hi3⟩ := s1;obtain ⟨Ao, no, co, rfl, zo, ho1, ho2, ho3⟩ := s2;have HA := hid (below_alloc wr (.cells #[.string lb, .slice Ai ni ci, .slice Ao no co] 42));have HI1 := hid (fun w h => pplaces_any pl (some ad) n c src snk Ai ni ci ti w h hi1 (by omega));have HI2 := hid (fun w h => pplaces_any pl (some ad) n c src snk Ao no co tu w h ho1 (by omega));have HZi := hid (zi.below HA.out);have HZo := hid (zo.below HA.out);have HNa := hid (fun w => nisName_any lb w hlb);have HIa := hid (HIn.out.below HA.out);have HNBa := hid (HNb.out.below HA.out);have HBla := hid (below_then HBl.out HA.out);have HK2 := hid (show (wr.alloc (.cells #[.string lb, .slice Ai ni ci, .slice Ao no co] 42)).cell? ⟨wr.heap.size, 2, none⟩ = some (.slice Ao no co) by simp);clear zi zo hi1 ho1 hlb;rcases empty_facts lb with ⟨e0, e1, e2, e3⟩ | ⟨e0, e2, e3⟩
      · have HLb := hid (show lb.data.toList.isEmpty = true ∨ isNameB lb.data.toList = true from .inl (by rw [e0]; rfl));clear e0;cases hpi : plB pl ti with
        | false =>
         rw [hpi] at HI1;have HV := hid (HBad.out (tr_in (t := ⟨lb, ti, tu⟩) hpi));clear hpi;go_wp2_with fail;((with_reducible refine (HI1.out _ HZi.out).mono ?_); rintro e w1 ⟨rfl, hb1⟩)
         go_wp2_with fail;go_ret;exact ⟨ret_bool HV.out.symm, below_then HBla.out hb1⟩
        | true =>
         rw [hpi] at HI1;have HPi := hid hpi;clear hpi;go_wp2_with fail;((with_reducible refine (HI1.out _ HZi.out).mono ?_); rintro e w1 ⟨rfl, hb1⟩)
         have k2 := cell_stays hb1 HK2.out;replace HZo := hid (HZo.out.below hb1);replace HIa := hid (HIa.out.below hb1);replace HNBa := hid (HNBa.out.below hb1);replace HBla := hid (below_then HBla.out hb1);clear hb1 c0 c1 c2 c3 m0 m1 m2;obtain ⟨c0, c1, c2, c3⟩ := HNBa.out.cells;cases hpo : plB pl tu with
         | false =>
          rw [hpo] at HI2;have HV := hid (HBad.out (tr_out (t := ⟨lb, ti, tu⟩) hpo));clear hpo;go_wp2_with fail;((with_reducible refine (HI2.out _ HZo.out).mono ?_); rintro e w2 ⟨rfl, hb2⟩)
          go_wp2_with fail;go_ret;exact ⟨ret_bool HV.out.symm, below_then HBla.out hb2⟩
         | true =>
          rw [hpo] at HI2;have HV := hid (show trTo pl L (k + 1) = true by rw [HSu.out, HTo.out, tr_yes (t := ⟨lb, ti, tu⟩) HLb.out HPi.out hpo]; rfl);clear hpo;go_wp2_with fail;((with_reducible refine (HI2.out _ HZo.out).mono ?_); rintro e w2 ⟨rfl, hb2⟩)
          replace HIa := hid (HIa.out.below hb2);replace HNBa := hid (HNBa.out.below hb2);replace HBla := hid (below_then HBla.out hb2);clear hb2;go_wp2_with fail;go_roundg (gk - 1);case measure => have := HK.out; omega
          case rel => exact ⟨k + 1, by have := HK.out; omega, by go_num, HV.out, HNBa.out, HIa.out, HBla.out⟩
      · cases hnm : isNameB lb.data.toList with
        | false =>
         rw [hnm] at HNa;have HV := hid (HBad.out (tr_lab (t := ⟨lb, ti, tu⟩) (by simpa using e0) hnm));clear hnm e0;go_wp2_with fail;((with_reducible refine (HNa.out _).mono ?_); rintro e w1 ⟨rfl, rfl⟩)
         go_wp2_with fail;go_ret;exact ⟨ret_bool HV.out.symm, HBla.out⟩
        | true =>
         rw [hnm] at HNa;have HLb := hid (show lb.data.toList.isEmpty = true ∨ isNameB lb.data.toList = true from .inr hnm);clear hnm e0;cases hpi : plB pl ti with
         | false =>
          rw [hpi] at HI1;have HV := hid (HBad.out (tr_in (t := ⟨lb, ti, tu⟩) hpi));clear hpi;go_wp2_with fail;((with_reducible refine (HNa.out _).mono ?_); rintro e w1 ⟨rfl, rfl⟩)
          go_wp2_with fail;((with_reducible refine (HI1.out _ HZi.out).mono ?_); rintro e w1 ⟨rfl, hb1⟩)
          go_wp2_with fail;go_ret;exact ⟨ret_bool HV.out.symm, below_then HBla.out hb1⟩
         | true =>
          rw [hpi] at HI1;have HPi := hid hpi;clear hpi;go_wp2_with fail;((with_reducible refine (HNa.out _).mono ?_); rintro e w1 ⟨rfl, rfl⟩)
          go_wp2_with fail;((with_reducible refine (HI1.out _ HZi.out).mono ?_); rintro e w1 ⟨rfl, hb1⟩)
          have k2 := cell_stays hb1 HK2.out;replace HZo := hid (HZo.out.below hb1);replace HIa := hid (HIa.out.below hb1);replace HNBa := hid (HNBa.out.below hb1);replace HBla := hid (below_then HBla.out hb1);clear hb1 c0 c1 c2 c3 m0 m1 m2;obtain ⟨c0, c1, c2, c3⟩ := HNBa.out.cells;cases hpo : plB pl tu with
          | false =>
           rw [hpo] at HI2;have HV := hid (HBad.out (tr_out (t := ⟨lb, ti, tu⟩) hpo));clear hpo;go_wp2_with fail;((with_reducible refine (HI2.out _ HZo.out).mono ?_); rintro e w2 ⟨rfl, hb2⟩)
           go_wp2_with fail;go_ret;exact ⟨ret_bool HV.out.symm, below_then HBla.out hb2⟩
          | true =>
           rw [hpo] at HI2;have HV := hid (show trTo pl L (k + 1) = true by rw [HSu.out, HTo.out, tr_yes (t := ⟨lb, ti, tu⟩) HLb.out HPi.out hpo]; rfl);clear hpo;go_wp2_with fail;((with_reducible refine (HI2.out _ HZo.out).mono ?_); rintro e w2 ⟨rfl, hb2⟩)
           replace HIa := hid (HIa.out.below hb2);replace HNBa := hid (HNBa.out.below hb2);replace HBla := hid (below_then HBla.out hb2);clear hb2;go_wp2_with fail;go_roundg (gk - 1);case measure => have := HK.out; omega
           case rel => exact ⟨k + 1, by have := HK.out; omega, by go_num, HV.out, HNBa.out, HIa.out, HBla.out⟩
    · have HAll := hid (HT.out ⟨h1, h2, by rw [HM.out]; exact h3⟩ (by
       have := HTo.out;unfold trTo at this;rwa [List.take_of_length_le (by rw [HM.out]; omega)] at this))
      have HP1 := hid (fun w => pl_one pl A n c src snk src w);have HP2 := hid (fun w => pl_one pl A n c src snk snk w);by_cases hs1 : 0 ≤ src ∧ src < pl
      · rw [decide_eq_true hs1.1, decide_eq_true hs1.2] at HP1;go_wp2_with fail;((with_reducible refine (HP1.out _).mono ?_); rintro e w1 ⟨rfl, hb1⟩)
        have HNx := hid ((HNb.out.below (below_alloc wr (.cells #[.int .i64 src] 3))).below hb1);have HBx := hid (below_then (below_then HBl.out (below_alloc wr (.cells #[.int .i64 src] 3))) hb1);clear hb1 c0 c1 c2 c3;obtain ⟨c0, c1, c2, c3⟩ := HNx.out.cells;go_wp2_with fail;((with_reducible refine (HP2.out _).mono ?_); rintro e w2 ⟨rfl, hb2⟩)
        go_wp2_with fail;go_ret;exact ⟨ret_bool (by rw [HAll.out, Bool.eq_iff_iff]; simp; omega), below_then (below_then HBx.out (below_alloc w1 (.cells #[.int .i64 snk] 3))) hb2⟩
      · have HV := hid (show R = false by rw [HAll.out, decide_eq_false (by omega)]);have hv1 : (decide (0 ≤ src) && decide (src < pl)) = false := by simp; omega
        rw [hv1] at HP1;clear hv1;go_wp2_with fail;((with_reducible refine (HP1.out _).mono ?_); rintro e w1 ⟨rfl, hb1⟩)
        go_wp2_with fail;go_ret;exact ⟨ret_bool HV.out.symm, below_then (below_then HBl.out (below_alloc wr (.cells #[.int .i64 src] 3))) hb1⟩
 · have HV := hid (HD.out (by rw [HM.out]; exact hh));by_cases h1 : pl < 1
   · clear hh;go_enter Tryz.func34, Tryz.ntmps34;go_wp2_with fail;go_ret;exact ⟨ret_bool HV.out.symm, HB.out⟩
   · have hd1 : decide (pl < 1) = false := by simpa using h1
     by_cases h2 : 40 < pl
     · clear hh;go_enter Tryz.func34, Tryz.ntmps34;go_wp2_with fail;go_ret;exact ⟨ret_bool HV.out.symm, HB.out⟩
     · have hd2 : decide (40 < pl) = false := by simpa using h2
       have h3 : 60 < (n : Int) := by omega
       clear hh;go_enter Tryz.func34, Tryz.ntmps34;go_wp2_with fail;go_ret;exact ⟨ret_bool HV.out.symm, HB.out⟩
end Go.Proofs.YtpiihmbeedlpkaaGreatDoor
