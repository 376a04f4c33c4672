/- petri.Workflow: what a call returns. at, enabled, fire of reference 28; One of reference 21: what a call returns. -/
import Derived.Test.YtkhmngljpfibcaaGreatDoorPUu
import Derived.Test.YtkhmngljpfibcaaGreatDoorPQo
import Derived.Test.YtkhmngljpfibcaaGreatDoorPQj
namespace Go.Proofs.YtkhmngljpfibcaaGreatDoor
set_option maxRecDepth 100000
set_option maxHeartbeats 12800000
open Go.Lib (hid)
section
open Go.RowKit

def edgB (N : Nt) (t : Tr) : Bool := !(hasB t.o N.src) && !(hasB t.i N.snk)
def half (N : Nt) (b : Bool) (p : Nat) : Prop := (∀ x, x < N.pl.toNat → Rch N b p x) ∧ ∀ t ∈ N.tr, ∃ x : Nat, (x : Int) ∈ insT b t ∧ Rch N b p x
def wfP (N : Nt) : Prop := N.src ≠ N.snk ∧ N.tr.all (edgB N) = true ∧ half N false N.src.toNat ∧ half N true N.snk.toNat
theorem noF_get {F : List Bool} (h : noF F = true) {x : Nat} (hx : x < F.length) : F.getD x false = true := by
 have := List.all_eq_true.1 h F[x] (List.getElem_mem hx);simpa [hx] using this
theorem noF_all {F : List Bool} (h : ∀ x, x < F.length → F.getD x false = true) : noF F = true := by
 unfold noF;rw [List.all_eq_true];intro b hb;obtain ⟨k, hk, rfl⟩ := List.getElem_of_mem hb;have := h k hk;simpa [hk] using this
theorem half_iff {N : Nt} {b : Bool} {p : Nat} {P T : List Bool} (hl : P.length = N.pl.toNat) (ht : T.length = N.tr.length) (h : RInv N b p P T) (hc : ClsTo N b P T N.tr.length) : (noF P = true ∧ noF T = true) ↔ half N b p := by
 constructor
 · intro ⟨h1, h2⟩;refine ⟨fun x hx => (rdone_pl h hc x).1 (noF_get h1 (by omega)), fun t hm => ?_⟩;obtain ⟨k, hk, rfl⟩ := List.getElem_of_mem hm;exact (rdone_tr h hc (List.getElem?_eq_getElem hk)).1 (noF_get h2 (by omega))
 · intro ⟨h1, h2⟩;refine ⟨noF_all fun x hx => (rdone_pl h hc x).2 (h1 x (by omega)), noF_all fun x hx => ?_⟩;exact (rdone_tr h hc (List.getElem?_eq_getElem (by omega))).2 (h2 _ (List.getElem_mem (by omega)))
theorem BL.lit2 (w : World) (a b : Bool) : BL (w.alloc (.cells #[.bool a, .bool b] 4)) w.heap.size [a, b] := heap_alloc_new w _
def WfPo (N : Nt) (w : World) (e : Ending) (w' : World) : Prop := (∃ q : Bool, e = .returned (.bool q) ∧ (q = true ↔ ntB N = true ∧ wfP N)) ∧ Below w.heap.size w w'
theorem pwork_any (N : Nt) (A : Option Addr) (n c : Nat) (w : World) (h : NtIn w A N) (hn : N.tr.length = n) (hn2 : n ≤ 9223372036854775806) :
 Calls Tryz.prog 92 #[.agg #[.int .i64 N.pl, .slice A n c, .int .i64 N.src, .int .i64 N.snk]] w (WfPo N w) := by
 have HB0 := hid (below_alloc w (.cells #[.int .i64 N.pl, .slice A n c, .int .i64 N.src, .int .i64 N.snk] 24));have HNb0 := hid (NB.new w N.pl A n c N.src N.snk);have HIn0 := hid (h.below HB0.out);have HNl := hid hn;have HVa := hid (pvalid_any N A n c _ (h.below HB0.out) hn (by omega));clear h hn;go_enter Tryz.func92, Tryz.ntmps92;go_wp2_with fail;generalize w.alloc _ = w0 at *;obtain ⟨b0, b1, b2, b3⟩ := HNb0.out.cells;((with_reducible refine HVa.out.mono ?_); rintro e w1 ⟨rfl, hb1⟩)
 have HB1 := hid (HB0.out.trans (hb1.mono HB0.out.size));have HNb1 := hid (HNb0.out.below hb1);have HIn1 := hid (HIn0.out.below hb1);clear HB0 HNb0 HIn0;clear hb1 HVa b0 b1 b2 b3;cases hv : ntB N with
 | false =>
  have HN := hid hv;clear hv;go_wp2_with fail;go_ret;exact ⟨⟨false, rfl, by simp; rw [HN.out]; intro h; cases h⟩, HB1.out⟩
 | true =>
  have HV := hid hv;have hpls := nt_src hv;have hn60 : n ≤ 60 := by have := nt_small hv; have := HNl.out; omega
  clear hv;obtain ⟨b0, b1, b2, b3⟩ := HNb1.out.cells;by_cases hss : N.src = N.snk
  · have q1 : (N.src == N.snk) = true := by simp [hss]
    have HN := hid hss;rw [hss] at b2;clear hss q1;go_wp2_with fail;go_ret;exact ⟨⟨false, rfl, by simp; intro _ h; exact absurd HN.out h.1⟩, HB1.out⟩
  have q1 : (N.src == N.snk) = false := by rw [beq_eq_false_iff_ne]; exact hss
  have HSs := hid hss;clear hss;go_wp2_with fail;clear b0 b1 b2 b3;go_loopg [23] (n) (fun g iv wr => ∃ k : Nat, k + g = n ∧ iv = .int .i64 (k : Int) ∧ (N.tr.take k).all (edgB N) = true ∧ Below w1.heap.size w1 wr);case atStart => exact ⟨0, by omega, rfl, rfl, Below.refl _ _⟩
  case round =>
   obtain ⟨k, hk, rfl, hp, hB⟩ := hrel;obtain ⟨w2, rfl⟩ : ∃ w2, w2 = wr := ⟨_, rfl⟩;have HK := hid hk;have HP := hid hp;have HBr := hid hB;have hkn : k ≤ n := by omega
   clear hk hp hB;have HB2 := hid (HB1.out.trans (HBr.out.mono HB1.out.size));have HNb2 := hid (HNb1.out.below HBr.out);have HIn2 := hid (HIn1.out.below HBr.out);by_cases hlt : k < n
   · have hkt : k < N.tr.length := by rw [HNl.out]; exact hlt
     obtain ⟨ad, rfl, hpt, t0, ⟨u1, t1, s1⟩, u2, t2, s2⟩ := HIn2.out.1 k hkt;have HSt := hid (all_step (edgB N) hkt);have HNo := hid (fun hh => all_false (f := edgB N) (List.getElem_mem hkt) hh);have HTm := hid (trOk_mem (netOk_of HV.out (m := N.pl.toNat) (by omega)) (List.getElem_mem hkt));have HEd := hid (show edgB N N.tr[k] = (!(hasB N.tr[k].o N.src) && !(hasB N.tr[k].i N.snk)) from rfl);generalize N.tr[k] = T at *;obtain ⟨Ai, nti, ci, rfl, zi, hti1, hti2, hti3⟩ := s1;obtain ⟨Ao, nto, co, rfl, zo, hto1, hto2, hto3⟩ := s2;have HA3 := hid (below_alloc w2 (.cells #[.string T.lb, .slice Ai nti ci, .slice Ao nto co] 79));have HTB3 := hid (TB.new w2 T.lb Ai nti ci Ao nto co);have HB3 := hid (HB2.out.trans (HA3.out.mono HB2.out.size));have HNb3 := hid (HNb2.out.below HA3.out);have HIn3 := hid (HIn2.out.below HA3.out);have HBr3 := hid (HBr.out.trans (HA3.out.mono HBr.out.size));have HTi := hid (And.intro (zi.below HA3.out) hti1);have HTo := hid (And.intro (zo.below HA3.out) hto1);have hnti : nti ≤ 9223372036854775807 := by omega
     have hnto : nto ≤ 9223372036854775807 := by omega
     clear zi zo hti1 hto1 hkt
     go_upto_region 6 with (fail)
     clear t0 t1 t2;obtain ⟨xb, hxb⟩ : ∃ xb, w2.heap.size = xb := ⟨_, rfl⟩;rw [hxb] at HTB3;simp only [hxb];clear hxb HA3;generalize w2.alloc _ = w3 at *;obtain ⟨b0, b1, b2, b3⟩ := HNb3.out.cells;obtain ⟨t0, t1, t2⟩ := HTB3.out;have HC1 := hid (contains_any Ao nto co T.o N.src w3 HTo.out.1 HTo.out.2 hnto);have HC2 := hid (fun w' (hb : Below w3.heap.size w3 w') => contains_any Ai nti ci T.i N.snk w' (HTi.out.1.below hb) HTi.out.2 hnti);cases ho : hasB T.o N.src with
     | true =>
      rw [ho] at HC1;have HN := hid (HNo.out (by rw [HEd.out, ho]; rfl));clear ho HNo HEd HSt;go_wp2_with fail;((with_reducible refine HC1.out.mono ?_); rintro e w4 ⟨rfl, hb4⟩)
      have HB4 := hid (HB3.out.trans (hb4.mono HB3.out.size));clear b0 b1 b2 b3 t0 t1 t2;go_wp2_with fail;go_ret;exact ⟨⟨false, rfl, by simp; intro _ h; have := h.2.1; rw [HN.out] at this; cases this⟩, HB4.out⟩
     | false =>
      rw [ho] at HC1;go_wp2_with fail;((with_reducible refine HC1.out.mono ?_); rintro e w4 ⟨rfl, hb4⟩)
      have HC3 := hid (HC2.out w4 hb4);have HB4 := hid (HB3.out.trans (hb4.mono HB3.out.size));have HBr4 := hid (HBr3.out.trans (hb4.mono HBr3.out.size));clear b0 b1 b2 b3 t0 t1 t2;obtain ⟨b0, b1, b2, b3⟩ := (HNb3.out.below hb4).cells;obtain ⟨t0, t1, t2⟩ := HTB3.out.below hb4;clear hb4 HC1 HC2;cases hi : hasB T.i N.snk with
      | true =>
       rw [hi] at HC3;have HN := hid (HNo.out (by rw [HEd.out, ho, hi]; rfl));clear ho hi HNo HEd HSt;go_wp2_with fail;((with_reducible refine HC3.out.mono ?_); rintro e w5 ⟨rfl, hb5⟩)
       have HB5 := hid (HB4.out.trans (hb5.mono HB4.out.size));clear b0 b1 b2 b3 t0 t1 t2;go_wp2_with fail;go_ret;exact ⟨⟨false, rfl, by simp; intro _ h; have := h.2.1; rw [HN.out] at this; cases this⟩, HB5.out⟩
      | false =>
       rw [hi] at HC3;have HPn := hid (show (N.tr.take (k + 1)).all (edgB N) = true by rw [HSt.out, HP.out, HEd.out, ho, hi]; rfl);clear ho hi HNo HEd HSt;go_wp2_with fail;((with_reducible refine HC3.out.mono ?_); rintro e w5 ⟨rfl, hb5⟩)
       have HBr5 := hid (HBr4.out.trans (hb5.mono HBr4.out.size));clear b0 b1 b2 b3 t0 t1 t2;go_wp2_with fail;go_roundg (gk - 1);case measure => have := HK.out; omega
       case rel => exact ⟨k + 1, by have := HK.out; omega, by go_num, HPn.out, HBr5.out⟩
   · have HEg := hid (show N.tr.all (edgB N) = true by have := HP.out; rwa [List.take_of_length_le (by rw [HNl.out]; omega)] at this);clear HP HK;have HA4 := hid (below_alloc w2 (.cells #[.bool false, .bool true] 4));have HV4 := hid (BL.lit2 w2 false true);go_wp2_with fail;have HB4 := hid (HB2.out.trans (HA4.out.mono HB2.out.size));have HNb4 := hid (HNb2.out.below HA4.out);have HIn4 := hid (HIn2.out.below HA4.out);obtain ⟨vb, hvb⟩ : ∃ vb, w2.heap.size = vb := ⟨_, rfl⟩;rw [hvb] at HV4;simp only [hvb];clear hvb HA4;generalize w2.alloc _ = w4 at *;go_loopg [42] (2) (fun g iv wr => ∃ k : Nat, k + g = 2 ∧ iv = .int .i64 (k : Int) ∧ (1 ≤ k → half N false N.src.toNat) ∧ (2 ≤ k → half N true N.snk.toNat) ∧ Below w4.heap.size w4 wr);case atStart => exact ⟨0, by omega, rfl, fun h => by omega, fun h => by omega, Below.refl _ _⟩
     case round =>
      obtain ⟨k, hk, rfl, hf1, hf2, hB⟩ := hrel;obtain ⟨w5, rfl⟩ : ∃ w5, w5 = wr := ⟨_, rfl⟩;have HK := hid hk;have HF1 := hid hf1;have HF2 := hid hf2;have HBl5 := hid hB;clear hk hf1 hf2 hB;have HB5 := hid (HB4.out.trans (HBl5.out.mono HB4.out.size));have HNb5 := hid (HNb4.out.below HBl5.out);have HIn5 := hid (HIn4.out.below HBl5.out);have HV2 := hid (HV4.out.below HBl5.out)
      match k, HK, HF1, HF2 with
      | 0, HK, HF1, HF2 =>
       have hspl : N.src.toNat < N.pl.toNat := by have := nt_small HV.out; omega
       have HRe := preachF_any N A n c N.src.toNat w5 HIn5.out HNl.out HV.out hspl;rw [show ((N.src.toNat : Nat) : Int) = N.src by omega] at HRe;replace HRe := hid HRe;clear hspl;obtain ⟨b0, b1, b2, b3⟩ := HNb5.out.cells;have e0 := HV2.out.cell (i := 0) (by simp);replace e0 : w5.cell? ⟨vb, 0, none⟩ = some (.bool false) := e0;go_wp2_with fail;((with_reducible refine HRe.out.mono ?_); rintro e w6 ⟨gp, gt, P, T, rfl, hP, hT, hl1, hl2, hi, hc, hb6⟩)
       have HP6 := hid hP;have HT6 := hid hT;have HLp := hid hl1;have HLt := hid hl2;have HHf := hid (half_iff hl1 (by rw [hl2, HNl.out]) hi hc);have HB6 := hid (HB5.out.trans (hb6.mono HB5.out.size));have HBl6 := hid (HBl5.out.trans (hb6.mono HBl5.out.size));clear hP hT hl1 hl2 hi hc hb6 HRe b0 b1 b2 b3 e0;have HH1 := hid (bhas_any gp N.pl.toNat N.pl.toNat P w6 HP6.out HLp.out (by have := nt_small HV.out; omega));have HH2 := hid (fun w' (hb : Below w6.heap.size w6 w') => bhas_any gt n n T w' (HT6.out.below hb) HLt.out (by omega));generalize N.pl.toNat = pln at *;cases hn1 : noF P with
       | false =>
        rw [hn1] at HH1;have HN := hid (show ¬ half N false N.src.toNat by rw [← HHf.out, hn1]; simp);clear hn1 HHf;go_wp2_with fail;((with_reducible refine HH1.out.mono ?_); rintro e w7 ⟨rfl, hb7⟩)
        have HB7 := hid (HB6.out.trans (hb7.mono HB6.out.size));go_wp2_with fail;go_ret;exact ⟨⟨false, rfl, by simp; intro _ h; exact absurd h.2.2.1 HN.out⟩, HB7.out⟩
       | true =>
        rw [hn1] at HH1;go_wp2_with fail;((with_reducible refine HH1.out.mono ?_); rintro e w7 ⟨rfl, hb7⟩)
        have HB7 := hid (HB6.out.trans (hb7.mono HB6.out.size));have HBl7 := hid (HBl6.out.trans (hb7.mono HBl6.out.size));have HH3 := hid (HH2.out w7 hb7);clear HH2 HH1 hb7;cases hn2 : noF T with
        | false =>
         rw [hn2] at HH3;have HN := hid (show ¬ half N false N.src.toNat by rw [← HHf.out, hn2]; simp);clear hn1 hn2 HHf;go_wp2_with fail;((with_reducible refine HH3.out.mono ?_); rintro e w8 ⟨rfl, hb8⟩)
         have HB8 := hid (HB7.out.trans (hb8.mono HB7.out.size));go_wp2_with fail;go_ret;exact ⟨⟨false, rfl, by simp; intro _ h; exact absurd h.2.2.1 HN.out⟩, HB8.out⟩
        | true =>
         rw [hn2] at HH3;have HN := hid (show half N false N.src.toNat by rw [← HHf.out]; exact ⟨hn1, hn2⟩);clear hn1 hn2 HHf;go_wp2_with fail;((with_reducible refine HH3.out.mono ?_); rintro e w8 ⟨rfl, hb8⟩)
         have HBl8 := hid (HBl7.out.trans (hb8.mono HBl7.out.size));clear hb8 HH3;go_wp2_with fail;go_roundg (gk - 1);case measure => have := HK.out; omega
         case rel => exact ⟨1, by have := HK.out; omega, by first | go_num | rfl | simp, fun _ => HN.out, fun h => by omega, HBl8.out⟩
      | 1, HK, HF1, HF2 =>
       have hspl : N.snk.toNat < N.pl.toNat := by have := nt_small HV.out; omega
       have HRe := preachT_any N A n c N.snk.toNat w5 HIn5.out HNl.out HV.out hspl;rw [show ((N.snk.toNat : Nat) : Int) = N.snk by omega] at HRe;replace HRe := hid HRe;clear hspl;obtain ⟨b0, b1, b2, b3⟩ := HNb5.out.cells;have e0 := HV2.out.cell (i := 1) (by simp);replace e0 : w5.cell? ⟨vb, 1, none⟩ = some (.bool true) := e0;go_wp2_with fail;((with_reducible refine HRe.out.mono ?_); rintro e w6 ⟨gp, gt, P, T, rfl, hP, hT, hl1, hl2, hi, hc, hb6⟩)
       have HP6 := hid hP;have HT6 := hid hT;have HLp := hid hl1;have HLt := hid hl2;have HHf := hid (half_iff hl1 (by rw [hl2, HNl.out]) hi hc);have HB6 := hid (HB5.out.trans (hb6.mono HB5.out.size));have HBl6 := hid (HBl5.out.trans (hb6.mono HBl5.out.size));clear hP hT hl1 hl2 hi hc hb6 HRe b0 b1 b2 b3 e0;have HH1 := hid (bhas_any gp N.pl.toNat N.pl.toNat P w6 HP6.out HLp.out (by have := nt_small HV.out; omega));have HH2 := hid (fun w' (hb : Below w6.heap.size w6 w') => bhas_any gt n n T w' (HT6.out.below hb) HLt.out (by omega));generalize N.pl.toNat = pln at *;cases hn1 : noF P with
       | false =>
        rw [hn1] at HH1;have HN := hid (show ¬ half N true N.snk.toNat by rw [← HHf.out, hn1]; simp);clear hn1 HHf;go_wp2_with fail;((with_reducible refine HH1.out.mono ?_); rintro e w7 ⟨rfl, hb7⟩)
        have HB7 := hid (HB6.out.trans (hb7.mono HB6.out.size));go_wp2_with fail;go_ret;exact ⟨⟨false, rfl, by simp; intro _ h; exact absurd h.2.2.2 HN.out⟩, HB7.out⟩
       | true =>
        rw [hn1] at HH1;go_wp2_with fail;((with_reducible refine HH1.out.mono ?_); rintro e w7 ⟨rfl, hb7⟩)
        have HB7 := hid (HB6.out.trans (hb7.mono HB6.out.size));have HBl7 := hid (HBl6.out.trans (hb7.mono HBl6.out.size));have HH3 := hid (HH2.out w7 hb7);clear HH2 HH1 hb7;cases hn2 : noF T with
        | false =>
         rw [hn2] at HH3;have HN := hid (show ¬ half N true N.snk.toNat by rw [← HHf.out, hn2]; simp);clear hn1 hn2 HHf;go_wp2_with fail;((with_reducible refine HH3.out.mono ?_); rintro e w8 ⟨rfl, hb8⟩)
         have HB8 := hid (HB7.out.trans (hb8.mono HB7.out.size));go_wp2_with fail;go_ret;exact ⟨⟨false, rfl, by simp; intro _ h; exact absurd h.2.2.2 HN.out⟩, HB8.out⟩
        | true =>
         rw [hn2] at HH3;have HN := hid (show half N true N.snk.toNat by rw [← HHf.out]; exact ⟨hn1, hn2⟩);clear hn1 hn2 HHf;go_wp2_with fail;((with_reducible refine HH3.out.mono ?_); rintro e w8 ⟨rfl, hb8⟩)
         have HBl8 := hid (HBl7.out.trans (hb8.mono HBl7.out.size));clear hb8 HH3;go_wp2_with fail;go_roundg (gk - 1);case measure => have := HK.out; omega
         case rel => exact ⟨2, by have := HK.out; omega, by first | go_num | rfl | simp, fun _ => HF1.out (by omega), fun h => HN.out, HBl8.out⟩
      | k + 2, HK, HF1, HF2 =>
       have hk0 : k = 0 := by have := HK.out; omega
       subst hk0;go_wp2_with fail;go_ret;exact ⟨⟨true, rfl, by simp; exact ⟨HV.out, HSs.out, HEg.out, HF1.out (by omega), HF2.out (by omega)⟩⟩, HB5.out⟩
end
section
open Go.RowKit

theorem can28_any (N : Nt) (A : Option Addr) (n c : Nat) (Am : Option Addr) (m cm : Nat) (M : List Int) (t : Nat) (ht : t < N.tr.length) (w : World) (h : TIn w A N.tr) (hn : N.tr.length = n) (hM : ZIn w Am M) (hm : M.length = m) (hin : inM N.tr[t].i m) :
 Calls Tryz.prog 184 #[.agg #[.int .i64 N.pl, .slice A n c, .int .i64 N.src, .int .i64 N.snk], .slice Am m cm, .int .i64 t] w fun e w' => e = .returned (.bool (canT N.tr[t] M)) ∧ Below w.heap.size w w' := by
 have HB := hid (below_alloc w (.cells #[.int .i64 N.pl, .slice A n c, .int .i64 N.src, .int .i64 N.snk] 24));have HN := hid (NB.new w N.pl A n c N.src N.snk);have H0 := hid (h.below HB.out);have HM0 := hid (hM.below HB.out);have HM := hid hm;have htn : t < n := by omega
 clear h hn hM hm;obtain ⟨ad, rfl, hpa, m0, ⟨u1, m1, s1⟩, _⟩ := H0.out t ht;have HR := hid (can_any N.tr[t] M);generalize canT N.tr[t] M = R at HR ⊢;generalize N.tr[t] = T at *;obtain ⟨lb, li, lo⟩ := T;simp only at m0 m1 s1 HR hin;obtain ⟨Ai, ni, ci, rfl, zi, hi1, hi2, hi3⟩ := s1;have HZ := hid zi;have HL := hid hi1;have HIn := hid hin;clear zi hi1 hin;go_enter Tryz.func184, Tryz.ntmps184;go_wp2_with fail;generalize w.alloc _ = w0 at *;obtain ⟨c0, c1, c2, c3⟩ := HN.out.cells;go_loopg [7] (ni) (fun g iv wr => ∃ k : Nat, k + g = ni ∧ iv = .int .i64 k ∧ (li.take k).any (zeroP M) = false ∧ w0 = wr);case atStart => exact ⟨0, by omega, rfl, by simp, rfl⟩
 case round =>
  obtain ⟨k, hk, rfl, hno, rfl⟩ := hrel;have HK := hid hk;have HNo := hid hno;have hle : k ≤ ni := by omega
  clear hk hno;by_cases hlt : k < ni
  · have hlt' : k < li.length := by rw [HL.out]; exact hlt
    obtain ⟨ai, rfl, hpi, q0⟩ := HZ.out k hlt';have HTk := hid (List.take_succ_eq_append_getElem hlt');have HMm := hid (List.getElem_mem hlt');obtain ⟨hp0, hp1⟩ := HIn.out _ (List.getElem_mem hlt');generalize li[k] = p at *;clear hlt';obtain ⟨p', rfl⟩ := Int.eq_ofNat_of_zero_le hp0;have hp2 : p' < m := by omega
    have hp2' : p' < M.length := by rw [HM.out]; exact hp2
    obtain ⟨am, rfl, hpm, q5⟩ := HM0.out p' hp2';have HV := hid (show zeroP M (p' : Int) = decide (M[p'] = 0) by unfold zeroP; simp [hp2']);generalize M[p'] = x at *;clear hp2';by_cases h0 : x = 0
    · have q1 : (x == 0) = true := by rw [h0]; rfl
      have HW := hid (show R = false by rw [HR.out, List.any_eq_true.2 ⟨_, HMm.out, by rw [HV.out]; exact decide_eq_true h0⟩]; rfl);clear h0;go_wp2_with fail;go_ret;exact ⟨ret_bool HW.out.symm, HB.out⟩
    · have q1 : (x == 0) = false := by rw [beq_eq_false_iff_ne]; exact h0
      rw [decide_eq_false h0] at HV;clear h0;go_wp2_with fail;go_roundg (gk - 1);case measure => have := HK.out; omega
      case rel => exact ⟨k + 1, by have := HK.out; omega, by go_num, by rw [HTk.out, List.any_append, HNo.out]; simp [HV.out], rfl⟩
  · have HE := hid (show R = true by
     have h3 := HNo.out;rw [List.take_of_length_le (by rw [HL.out]; omega)] at h3;rw [HR.out, h3]; rfl)
    go_wp2_with fail;go_ret;exact ⟨ret_bool HE.out.symm, HB.out⟩
theorem fire28_any (N : Nt) (A : Option Addr) (n c : Nat) (Am : Option Addr) (m cm : Nat) (M : List Int) (t : Nat) (ht : t < N.tr.length) (w : World) (h : TIn w A N.tr) (hn : N.tr.length = n) (hM : ZIn w Am M) (hm : M.length = m) (hm0 : 0 < m) (hm2 : m ≤ 1000) (hok : trOk N.tr[t] m) (hbd : bnd 1000 M) (hsp : ∀ p : Nat, M.getD p 0 ≤ 100) :
 Calls Tryz.prog 188 #[.agg #[.int .i64 N.pl, .slice A n c, .int .i64 N.src, .int .i64 N.snk], .slice Am m cm, .int .i64 t] w (RFi (fireT N.tr[t] M) w) := by
 have HB := hid (below_alloc w (.cells #[.int .i64 N.pl, .slice A n c, .int .i64 N.src, .int .i64 N.snk] 24));have HNb0 := hid (NB.new w N.pl A n c N.src N.snk);have HM0 := hid (hM.below HB.out);have HM := hid hm;have htn : t < n := by omega
 obtain ⟨ad, rfl, hpa, hTr⟩ := (h.below HB.out) t ht;have HTr0 := hid hTr;have HPa := hid hpa;have HOk := hid hok;have HR := hid (show fireT N.tr[t] M = incs (decs M N.tr[t].i) N.tr[t].o from rfl);generalize fireT N.tr[t] M = R at HR ⊢;generalize N.tr[t] = T at *;obtain ⟨lb, li, lo⟩ := T;simp only at HR HOk;have HBd := hid hbd;have HSp := hid hsp;clear h hn hM hm hok hbd hsp hTr hpa;obtain ⟨i0, hi, hz0, hz1, hz2⟩ := info_parts intInfo;have HI := hid (And.intro hi (And.intro hz0 (And.intro hz1 hz2)));clear hi hz0 hz1 hz2;go_enter Tryz.func188, Tryz.ntmps188;have hs0 : (w.alloc (.cells #[.int .i64 N.pl, .slice (some ad) n c, .int .i64 N.src, .int .i64 N.snk] 24)).heap.size = w.heap.size + 1 := by simp
 have hown := own_lit0 (w.alloc (.cells #[.int .i64 N.pl, .slice (some ad) n c, .int .i64 N.src, .int .i64 N.snk] 24));rw [hs0] at hown;have HOwn := hid hown;clear hown;have HAl := hid (below_alloc (w.alloc (.cells #[.int .i64 N.pl, .slice (some ad) n c, .int .i64 N.src, .int .i64 N.snk] 24)) (.cells #[] 3));have HRd0 := hid (rd_of_z (HM0.out.below HAl.out));have HS0 := hid hs0;clear hs0;go_wp2_with (at_builtin; refine wpList_append_rd intC_len intC_one _ rfl _ _ 27 rfl (w.heap.size + 1) 3 i0 (.int .i64 0) 8 Tryz.underlying27 HI.out.1 HI.out.2.1 HI.out.2.2.1 HI.out.2.2.2 rfl (by decide) (.slice (some ⟨w.heap.size + 1, 0, none⟩) 0 0) 0 [] rfl HOwn.out Am m cm M rfl HRd0.out HM.out ?c3 ?c4 ?c5 ?_);case c3 => unfold maxLen; omega
 case c4 => omega
 case c5 => have := HAl.out.size; have := HS0.out; omega
 intro v' w1 hown1 hgrow1;have hS1 := NS.of_app (w := (w.alloc (.cells #[.int .i64 N.pl, .slice (some ad) n c, .int .i64 N.src, .int .i64 N.snk] 24))) (L := []) (n := 0) HAl.out (by rw [HS0.out]; exact HOwn.out) (by rw [HS0.out]; simpa using hown1) hgrow1 rfl HM.out;rw [List.nil_append] at hS1;clear hown1 hgrow1 HRd0 HOwn HAl;generalize w.alloc _ = w0 at *;obtain ⟨gb, cap, rfl, hgb, hgl⟩ := hS1.row (by rw [HM.out]; exact hm0);rw [HM.out] at hS1 ⊢;have HS1 := hid hS1;have HGb := hid hgb;have HNb := hid HNb0.out;obtain ⟨_, ⟨u1, m1, s1⟩, u2, m2, s2⟩ := HTr0.out;obtain ⟨Ai, ni, ci, rfl, zi, hi1, hi2, hi3⟩ := s1;obtain ⟨Ao, no, co, rfl, zo, ho1, ho2, ho3⟩ := s2;have Q := hid (And.intro m1 m2);have HZi := hid zi;have HZo := hid zo;have Hli := hid hi1;have Hlo := hid ho1;have HOkli := hid HOk.out.1;have HOklo := hid HOk.out.2;have HLp := hid HM.out;have hni : ni ≤ 1000 := by have := pls_len HOk.out.1; rw [← hi1]; omega
 have hno : no ≤ 1000 := by have := pls_len HOk.out.2; rw [← ho1]; omega
 have htn0 : (0 : Int) ≤ (t : Int) := by omega
 have htn1 : (t : Int) < (n : Int) := by omega
 obtain ⟨b0, b1, b2, b3⟩ := (HNb.out.below HS1.out.2).cells;have q1 := cell_stays HS1.out.2 Q.out.1;have q2 := cell_stays HS1.out.2 Q.out.2;clear hS1 hgb hgl zi zo hi1 ho1 m1 m2 hi2 ho2;go_wp2_with fail;clear b0 b1 b2 b3 q1 q2;go_loopg [9] (ni) (fun g iv wr => ∃ k : Nat, k + g = ni ∧ iv = .int .i64 k ∧ NS w0 wr (.slice (some ⟨gb, 0, none⟩) m cap) (decs M (li.take k)));case atStart => exact ⟨0, by omega, rfl, by rw [List.take_zero]; exact HS1.out⟩
 case round =>
  obtain ⟨k, hk, rfl, hS⟩ := hrel;have HK := hid hk;have HS := hid hS;skip;have hle : k ≤ ni := by omega
  have HZr := hid (HZi.out.below hS.2);have q1 := cell_stays hS.2 Q.out.1;have q2 := cell_stays hS.2 Q.out.2;have hgr : gb < wr.heap.size := (hS.1.lt gb rfl).2;obtain ⟨b0, b1, b2, b3⟩ := (HNb.out.below hS.2).cells;clear hk hS;by_cases hlt : k < ni
  · have hlt' : k < li.length := by rw [Hli.out]; exact hlt
    obtain ⟨ap, rfl, hpa, q0⟩ := HZr.out k hlt';obtain ⟨p, hp⟩ := Int.eq_ofNat_of_zero_le (HOkli.out.1 _ (List.getElem_mem hlt')).1;have hpm : p < m := by have := (HOkli.out.1 _ (List.getElem_mem hlt')).2; omega
    obtain ⟨hpl, hrd, hx1, hx2⟩ := decs_round M li k p hlt' hp (by rw [HLp.out]; exact hpm) 1000 (by omega) HBd.out;have HTk := hid (List.take_succ_eq_append_getElem hlt');rw [hp] at q0 HTk;have HRd := hid hrd;have HC := hid (HS.out.cells p hpl);have HLd := hid (show (decs M (li.take k)).length = m by rw [decs_len]; exact HLp.out);generalize (decs M (li.take k))[p] = x at *;generalize decs M (li.take k) = D at *;clear hrd hp hlt' hpl;obtain ⟨r0, r1⟩ := HC.out;have hp0 : (0 : Int) ≤ (p : Int) := by omega
    have hp9 : (p : Int) < (m : Int) := by omega
    by_cases hx : x = -1
    · have q3 : (x != -1) = false := by rw [hx]; rfl
      have HSn := hid (show NS w0 wr (.slice (some ⟨gb, 0, none⟩) m cap) (D.set p (dec1 x)) by
       have e : D.set p (dec1 x) = D := by unfold dec1; rw [if_pos hx]; exact set_same HS.out HC.out.1 hx (by rw [HLd.out]; exact hpm)
       rw [e]; exact HS.out)
      clear hx;go_wp2_with fail;go_roundg (gk - 1);case measure => have := HK.out; omega
      case rel => exact ⟨k + 1, by have := HK.out; omega, by go_num, by rw [HRd.out]; exact HSn.out⟩
    · have q3 : (x != -1) = true := by simpa using hx
      have HD1 := hid (show dec1 x = x - 1 from if_neg hx);rw [HD1.out] at HRd;clear hx;go_wp2_with fail;go_roundg (gk - 1);case measure => have := HK.out; omega
      case rel => exact ⟨k + 1, by have := HK.out; omega, by go_num, by rw [HRd.out]; exact HS.out.set HGb.out p _⟩
  · have HD := hid (show decs M (li.take k) = decs M li by rw [List.take_of_length_le (by rw [Hli.out]; omega)]);rw [HD.out] at HS;clear HD;have HLp1 := hid (show (decs M li).length = m by rw [decs_len]; exact HLp.out);have HBd1 := hid (show bnd (1000 + (ni : Int)) (decs M li) by have := decs_bnd li 1000 M (by omega) HBd.out; rw [Hli.out] at this; exact this);have HSp1 := hid (decs_le li (by rw [HLp.out]; exact HOkli.out) HSp.out);clear HLp HBd HSp HK hle hgr HZr;have HLp := hid HLp1.out;have HBd := hid HBd1.out;have HBig := hid (show bigM R = lo.any (overP (decs M li)) by rw [HR.out]; exact big_over (by rw [HLp1.out]; exact HOklo.out) HSp1.out);clear HLp1 HBd1;generalize decs M li = M1 at *;obtain ⟨go, rfl⟩ : ∃ go, go = gk := ⟨_, rfl⟩;go_wp2_with fail;go_loopg [11] (no) (fun g iv wr => ∃ k : Nat, k + g = no ∧ iv = .int .i64 k ∧ NS w0 wr (.slice (some ⟨gb, 0, none⟩) m cap) (incs M1 (lo.take k)) ∧ (lo.take k).any (overP M1) = false);case atStart => exact ⟨0, by omega, rfl, by rw [List.take_zero]; exact HS.out, by simp⟩
    case round =>
     obtain ⟨k, hk, rfl, hS, hov⟩ := hrel;have HK := hid hk;have HS := hid hS;have HOv := hid hov;have hle : k ≤ no := by omega
     have HZr := hid (HZo.out.below hS.2);have q1 := cell_stays hS.2 Q.out.1;have q2 := cell_stays hS.2 Q.out.2;have hgr : gb < wr.heap.size := (hS.1.lt gb rfl).2;obtain ⟨b0, b1, b2, b3⟩ := (HNb.out.below hS.2).cells;clear hk hS hov;by_cases hlt : k < no
     · have hlt' : k < lo.length := by rw [Hlo.out]; exact hlt
       obtain ⟨ap, rfl, hpa, q0⟩ := HZr.out k hlt';obtain ⟨p, hp⟩ := Int.eq_ofNat_of_zero_le (HOklo.out.1 _ (List.getElem_mem hlt')).1;have hpm : p < m := by have := (HOklo.out.1 _ (List.getElem_mem hlt')).2; omega
       obtain ⟨hpl, hrd, hx1, hx2⟩ := incs_round M1 lo k p hlt' hp (by rw [HLp.out]; exact hpm) (1000 + ni) (by omega) HBd.out;have HTk := hid (List.take_succ_eq_append_getElem hlt');rw [hp] at q0 HTk;obtain ⟨_, hat⟩ := incs_at (by rw [HLp.out]; exact HOklo.out) hlt' hp (by rw [HLp.out]; exact hpm);have HOp := hid (show overP M1 (p : Int) = decide (100 < inc1 (incs M1 (lo.take k))[p]) by unfold overP; rw [hat, Int.toNat_natCast]);have HLi := hid (show (p : Int) ∈ lo by rw [← hp]; exact List.getElem_mem hlt');clear hat;have HRd := hid hrd;have HC := hid (HS.out.cells p hpl);have HLd := hid (show (incs M1 (lo.take k)).length = m by rw [incs_len]; exact HLp.out);generalize (incs M1 (lo.take k))[p] = x at *;generalize incs M1 (lo.take k) = D at *;clear hrd hp hlt' hpl;obtain ⟨r0, r1⟩ := HC.out;have hp0 : (0 : Int) ≤ (p : Int) := by omega
       have hp9 : (p : Int) < (m : Int) := by omega
       by_cases hx : x = -1
       · have q3 : (x != -1) = false := by rw [hx]; rfl
         have HSn := hid (show NS w0 wr (.slice (some ⟨gb, 0, none⟩) m cap) (D.set p (inc1 x)) by
          have e : D.set p (inc1 x) = D := by unfold inc1; rw [if_pos hx]; exact set_same HS.out HC.out.1 hx (by rw [HLd.out]; exact hpm)
          rw [e]; exact HS.out)
         have hv : ¬ 100 < inc1 x := by unfold inc1; rw [if_pos hx]; omega
         have q4 : x ≤ 100 := by omega
         clear hx;go_wp2_with fail;go_roundg (gk - 1);case measure => have := HK.out; omega
         case rel => exact ⟨k + 1, by have := HK.out; omega, by go_num, by rw [HRd.out]; exact HSn.out, by rw [HTk.out, List.any_append, HOv.out]; simp [HOp.out, hv]⟩
       · have q3 : (x != -1) = true := by simpa using hx
         have hi1 : inc1 x = x + 1 := if_neg hx;rw [hi1] at HRd HOp;clear hx hi1;by_cases hv : 100 < x + 1
         · have HSn := hid (HS.out.set HGb.out p (x + 1)).2;have HX := hid (show bigM R = true by rw [HBig.out, List.any_eq_true]; exact ⟨_, HLi.out, by rw [HOp.out]; exact decide_eq_true hv⟩);go_wp2_with fail;go_ret2;exact RFi.no HX.out rfl (below_then HB.out HSn.out)
         · have q4 : x + 1 ≤ 100 := by omega
           go_wp2_with fail;go_roundg (gk - 1);case measure => have := HK.out; omega
           case rel => exact ⟨k + 1, by have := HK.out; omega, by go_num, by rw [HRd.out]; exact HS.out.set HGb.out p _, by rw [HTk.out, List.any_append, HOv.out]; simp [HOp.out, hv]⟩
     · have HD := hid (show incs M1 (lo.take k) = R by rw [List.take_of_length_le (by rw [Hlo.out]; omega)]; exact HR.out.symm);have HX := hid (show bigM R = false by rw [HBig.out]; have := HOv.out; rwa [List.take_of_length_le (by rw [Hlo.out]; omega)] at this);rw [HD.out] at HS;go_wp2_with fail;go_ret2;exact RFi.yes HX.out rfl (NS.up HB.out HS.out)
end
end Go.Proofs.YtkhmngljpfibcaaGreatDoor
