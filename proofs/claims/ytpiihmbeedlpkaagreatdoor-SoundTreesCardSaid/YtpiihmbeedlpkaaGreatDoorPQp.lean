/- petri.Workflow: what a call returns. -/
import Derived.Test.YtpiihmbeedlpkaaGreatDoorPUu
import Derived.Test.YtpiihmbeedlpkaaGreatDoorPQo
namespace Go.Proofs.YtpiihmbeedlpkaaGreatDoor
set_option maxRecDepth 100000
set_option maxHeartbeats 12800000
open Go.Lib (hid)
open Go.RowKit

def edgB (N : Nt) (t : Tr) : Bool := !(hasB t.o N.src) && !(hasB t.i N.snk)
def half (N : Nt) (b : Bool) (p : Nat) : Prop := (∀ x, x < N.pl.toNat → Rch N b p x) ∧ ∀ t ∈ N.tr, ∃ x : Nat, (x : Int) ∈ insT b t ∧ Rch N b p x
def wfP (N : Nt) : Prop := N.src ≠ N.snk ∧ N.tr.all (edgB N) = true ∧ half N false N.src.toNat ∧ half N true N.snk.toNat
theorem noF_get {F : List Bool} (h : noF F = true) {x : Nat} (hx : x < F.length) : F.getD x false = true := by
 have := List.all_eq_true.1 h F[x] (List.getElem_mem hx);simpa [hx] using this
theorem noF_all {F : List Bool} (h : ∀ x, x < F.length → F.getD x false = true) : noF F = true := by
 unfold noF;rw [List.all_eq_true];intro b hb;obtain ⟨k, hk, rfl⟩ := List.getElem_of_mem hb;have := h k hk;simpa [hk] using this
theorem half_iff {N : Nt} {b : Bool} {p : Nat} {P T : List Bool} (hl : P.length = N.pl.toNat) (ht : T.length = N.tr.length) (h : RInv N b p P T) (hc : ClsTo N b P T N.tr.length) : (noF P = true ∧ noF T = true) ↔ half N b p := by
 constructor
 · intro ⟨h1, h2⟩;refine ⟨fun x hx => (rdone_pl h hc x).1 (noF_get h1 (by omega)), fun t hm => ?_⟩;obtain ⟨k, hk, rfl⟩ := List.getElem_of_mem hm;exact (rdone_tr h hc (List.getElem?_eq_getElem hk)).1 (noF_get h2 (by omega))
 · intro ⟨h1, h2⟩;refine ⟨noF_all fun x hx => (rdone_pl h hc x).2 (h1 x (by omega)), noF_all fun x hx => ?_⟩;exact (rdone_tr h hc (List.getElem?_eq_getElem (by omega))).2 (h2 _ (List.getElem_mem (by omega)))
theorem BL.lit2 (w : World) (a b : Bool) : BL (w.alloc (.cells #[.bool a, .bool b] 4)) w.heap.size [a, b] := heap_alloc_new w _
def WfPo (N : Nt) (w : World) (e : Ending) (w' : World) : Prop := (∃ q : Bool, e = .returned (.bool q) ∧ (q = true ↔ ntB N = true ∧ wfP N)) ∧ Below w.heap.size w w'
theorem pwork_any (N : Nt) (A : Option Addr) (n c : Nat) (w : World) (h : NtIn w A N) (hn : N.tr.length = n) (hn2 : n ≤ 9223372036854775806) :
 Calls Tryz.prog 48 #[.agg #[.int .i64 N.pl, .slice A n c, .int .i64 N.src, .int .i64 N.snk]] w (WfPo N w) := by
 have HB0 := hid (below_alloc w (.cells #[.int .i64 N.pl, .slice A n c, .int .i64 N.src, .int .i64 N.snk] 30));have HNb0 := hid (NB.new w N.pl A n c N.src N.snk);have HIn0 := hid (h.below HB0.out);have HNl := hid hn;have HVa := hid (pvalid_any N A n c _ (h.below HB0.out) hn (by omega));clear h hn;go_enter Tryz.func48, Tryz.ntmps48;go_wp2_with fail;generalize w.alloc _ = w0 at *;obtain ⟨b0, b1, b2, b3⟩ := HNb0.out.cells;((with_reducible refine HVa.out.mono ?_); rintro e w1 ⟨rfl, hb1⟩)
 have HB1 := hid (below_then HB0.out hb1);have HNb1 := hid (HNb0.out.below hb1);have HIn1 := hid (HIn0.out.below hb1);clear HB0 HNb0 HIn0;clear hb1 HVa b0 b1 b2 b3;cases hv : ntB N with
 | false =>
  have HN := hid hv;clear hv;go_wp2_with fail;go_ret;exact ⟨⟨false, rfl, by simp; rw [HN.out]; intro h; cases h⟩, HB1.out⟩
 | true =>
  have HV := hid hv;have hpls := nt_src hv;have hn60 : n ≤ 60 := by have := nt_small hv; have := HNl.out; omega
  clear hv;obtain ⟨b0, b1, b2, b3⟩ := HNb1.out.cells;by_cases hss : N.src = N.snk
  · have q1 : (N.src == N.snk) = true := by simp [hss]
    have HN := hid hss;rw [hss] at b2;clear hss q1;go_wp2_with fail;go_ret;exact ⟨⟨false, rfl, by simp; intro _ h; exact absurd HN.out h.1⟩, HB1.out⟩
  have q1 : (N.src == N.snk) = false := by rw [beq_eq_false_iff_ne]; exact hss
  have HSs := hid hss;clear hss;go_wp2_with fail;clear b0 b1 b2 b3;go_loopg [23] (n) (fun g iv wr => ∃ k : Nat, k + g = n ∧ iv = .int .i64 (k : Int) ∧ (N.tr.take k).all (edgB N) = true ∧ Below w1.heap.size w1 wr);case atStart => exact ⟨0, by omega, rfl, rfl, Below.refl _ _⟩
  case round =>
   obtain ⟨k, hk, rfl, hp, hB⟩ := hrel;obtain ⟨w2, rfl⟩ : ∃ w2, w2 = wr := ⟨_, rfl⟩;have HK := hid hk;have HP := hid hp;have HBr := hid hB;have hkn : k ≤ n := by omega
   clear hk hp hB;have HB2 := hid (HB1.out.trans (HBr.out.mono HB1.out.size));have HNb2 := hid (HNb1.out.below HBr.out);have HIn2 := hid (HIn1.out.below HBr.out);by_cases hlt : k < n
   · have hkt : k < N.tr.length := by rw [HNl.out]; exact hlt
     obtain ⟨ad, rfl, hpt, t0, ⟨u1, t1, s1⟩, u2, t2, s2⟩ := HIn2.out.1 k hkt;have HSt := hid (all_step (edgB N) hkt);have HNo := hid (fun hh => all_false (f := edgB N) (List.getElem_mem hkt) hh);have HTm := hid (trOk_mem (netOk_of HV.out (m := N.pl.toNat) (by omega)) (List.getElem_mem hkt));have HEd := hid (show edgB N N.tr[k] = (!(hasB N.tr[k].o N.src) && !(hasB N.tr[k].i N.snk)) from rfl);generalize N.tr[k] = T at *;obtain ⟨Ai, nti, ci, rfl, zi, hti1, hti2, hti3⟩ := s1;obtain ⟨Ao, nto, co, rfl, zo, hto1, hto2, hto3⟩ := s2;have HA3 := hid (below_alloc w2 (.cells #[.string T.lb, .slice Ai nti ci, .slice Ao nto co] 42));have HTB3 := hid (TB.new w2 T.lb Ai nti ci Ao nto co);have HB3 := hid (HB2.out.trans (HA3.out.mono HB2.out.size));have HNb3 := hid (HNb2.out.below HA3.out);have HIn3 := hid (HIn2.out.below HA3.out);have HBr3 := hid (HBr.out.trans (HA3.out.mono HBr.out.size));have HTi := hid (And.intro (zi.below HA3.out) hti1);have HTo := hid (And.intro (zo.below HA3.out) hto1);have hnti : nti ≤ 9223372036854775807 := by omega
     have hnto : nto ≤ 9223372036854775807 := by omega
     clear zi zo hti1 hto1 hkt
     go_upto_region 6 with (fail)
     clear t0 t1 t2;obtain ⟨xb, hxb⟩ : ∃ xb, w2.heap.size = xb := ⟨_, rfl⟩;rw [hxb] at HTB3;simp only [hxb];clear hxb HA3;generalize w2.alloc _ = w3 at *;obtain ⟨b0, b1, b2, b3⟩ := HNb3.out.cells;obtain ⟨t0, t1, t2⟩ := HTB3.out;have HC1 := hid (contains_any Ao nto co T.o N.src w3 HTo.out.1 HTo.out.2 hnto);have HC2 := hid (fun w' (hb : Below w3.heap.size w3 w') => contains_any Ai nti ci T.i N.snk w' (HTi.out.1.below hb) HTi.out.2 hnti);cases ho : hasB T.o N.src with
     | true =>
      rw [ho] at HC1;have HN := hid (HNo.out (by rw [HEd.out, ho]; rfl));clear ho HNo HEd HSt;go_wp2_with fail;((with_reducible refine HC1.out.mono ?_); rintro e w4 ⟨rfl, hb4⟩)
      have HB4 := hid (below_then HB3.out hb4);clear b0 b1 b2 b3 t0 t1 t2;go_wp2_with fail;go_ret;exact ⟨⟨false, rfl, by simp; intro _ h; have := h.2.1; rw [HN.out] at this; cases this⟩, HB4.out⟩
     | false =>
      rw [ho] at HC1;go_wp2_with fail;((with_reducible refine HC1.out.mono ?_); rintro e w4 ⟨rfl, hb4⟩)
      have HC3 := hid (HC2.out w4 hb4);have HB4 := hid (below_then HB3.out hb4);have HBr4 := hid (below_then HBr3.out hb4);clear b0 b1 b2 b3 t0 t1 t2;obtain ⟨b0, b1, b2, b3⟩ := (HNb3.out.below hb4).cells;obtain ⟨t0, t1, t2⟩ := HTB3.out.below hb4;clear hb4 HC1 HC2;cases hi : hasB T.i N.snk with
      | true =>
       rw [hi] at HC3;have HN := hid (HNo.out (by rw [HEd.out, ho, hi]; rfl));clear ho hi HNo HEd HSt;go_wp2_with fail;((with_reducible refine HC3.out.mono ?_); rintro e w5 ⟨rfl, hb5⟩)
       have HB5 := hid (below_then HB4.out hb5);clear b0 b1 b2 b3 t0 t1 t2;go_wp2_with fail;go_ret;exact ⟨⟨false, rfl, by simp; intro _ h; have := h.2.1; rw [HN.out] at this; cases this⟩, HB5.out⟩
      | false =>
       rw [hi] at HC3;have HPn := hid (show (N.tr.take (k + 1)).all (edgB N) = true by rw [HSt.out, HP.out, HEd.out, ho, hi]; rfl);clear ho hi HNo HEd HSt;go_wp2_with fail;((with_reducible refine HC3.out.mono ?_); rintro e w5 ⟨rfl, hb5⟩)
       have HBr5 := hid (below_then HBr4.out hb5);clear b0 b1 b2 b3 t0 t1 t2;go_wp2_with fail;go_roundg (gk - 1);case measure => have := HK.out; omega
       case rel => exact ⟨k + 1, by have := HK.out; omega, by go_num, HPn.out, HBr5.out⟩
   · have HEg := hid (show N.tr.all (edgB N) = true by have := HP.out; rwa [List.take_of_length_le (by rw [HNl.out]; omega)] at this);clear HP HK;have HA4 := hid (below_alloc w2 (.cells #[.bool false, .bool true] 4));have HV4 := hid (BL.lit2 w2 false true);go_wp2_with fail;have HB4 := hid (HB2.out.trans (HA4.out.mono HB2.out.size));have HNb4 := hid (HNb2.out.below HA4.out);have HIn4 := hid (HIn2.out.below HA4.out);obtain ⟨vb, hvb⟩ : ∃ vb, w2.heap.size = vb := ⟨_, rfl⟩;rw [hvb] at HV4;simp only [hvb];clear hvb HA4;generalize w2.alloc _ = w4 at *;go_loopg [42] (2) (fun g iv wr => ∃ k : Nat, k + g = 2 ∧ iv = .int .i64 (k : Int) ∧ (1 ≤ k → half N false N.src.toNat) ∧ (2 ≤ k → half N true N.snk.toNat) ∧ Below w4.heap.size w4 wr);case atStart => exact ⟨0, by omega, rfl, fun h => by omega, fun h => by omega, Below.refl _ _⟩
     case round =>
      obtain ⟨k, hk, rfl, hf1, hf2, hB⟩ := hrel;obtain ⟨w5, rfl⟩ : ∃ w5, w5 = wr := ⟨_, rfl⟩;have HK := hid hk;have HF1 := hid hf1;have HF2 := hid hf2;have HBl5 := hid hB;clear hk hf1 hf2 hB;have HB5 := hid (HB4.out.trans (HBl5.out.mono HB4.out.size));have HNb5 := hid (HNb4.out.below HBl5.out);have HIn5 := hid (HIn4.out.below HBl5.out);have HV2 := hid (HV4.out.below HBl5.out)
      match k, HK, HF1, HF2 with
      | 0, HK, HF1, HF2 =>
       have hspl : N.src.toNat < N.pl.toNat := by have := nt_small HV.out; omega
       have HRe := preachF_any N A n c N.src.toNat w5 HIn5.out HNl.out HV.out hspl;rw [show ((N.src.toNat : Nat) : Int) = N.src by omega] at HRe;replace HRe := hid HRe;clear hspl;obtain ⟨b0, b1, b2, b3⟩ := HNb5.out.cells;have e0 := HV2.out.cell (i := 0) (by simp);replace e0 : w5.cell? ⟨vb, 0, none⟩ = some (.bool false) := e0;go_wp2_with fail;((with_reducible refine HRe.out.mono ?_); rintro e w6 ⟨gp, gt, P, T, rfl, hP, hT, hl1, hl2, hi, hc, hb6⟩)
       have HP6 := hid hP;have HT6 := hid hT;have HLp := hid hl1;have HLt := hid hl2;have HHf := hid (half_iff hl1 (by rw [hl2, HNl.out]) hi hc);have HB6 := hid (below_then HB5.out hb6);have HBl6 := hid (below_then HBl5.out hb6);clear hP hT hl1 hl2 hi hc hb6 HRe b0 b1 b2 b3 e0;have HH1 := hid (bhas_any gp N.pl.toNat N.pl.toNat P w6 HP6.out HLp.out (by have := nt_small HV.out; omega));have HH2 := hid (fun w' (hb : Below w6.heap.size w6 w') => bhas_any gt n n T w' (HT6.out.below hb) HLt.out (by omega));generalize N.pl.toNat = pln at *;cases hn1 : noF P with
       | false =>
        rw [hn1] at HH1;have HN := hid (show ¬ half N false N.src.toNat by rw [← HHf.out, hn1]; simp);clear hn1 HHf;go_wp2_with fail;((with_reducible refine HH1.out.mono ?_); rintro e w7 ⟨rfl, hb7⟩)
        have HB7 := hid (below_then HB6.out hb7);go_wp2_with fail;go_ret;exact ⟨⟨false, rfl, by simp; intro _ h; exact absurd h.2.2.1 HN.out⟩, HB7.out⟩
       | true =>
        rw [hn1] at HH1;go_wp2_with fail;((with_reducible refine HH1.out.mono ?_); rintro e w7 ⟨rfl, hb7⟩)
        have HB7 := hid (below_then HB6.out hb7);have HBl7 := hid (below_then HBl6.out hb7);have HH3 := hid (HH2.out w7 hb7);clear HH2 HH1 hb7;cases hn2 : noF T with
        | false =>
         rw [hn2] at HH3;have HN := hid (show ¬ half N false N.src.toNat by rw [← HHf.out, hn2]; simp);clear hn1 hn2 HHf;go_wp2_with fail;((with_reducible refine HH3.out.mono ?_); rintro e w8 ⟨rfl, hb8⟩)
         have HB8 := hid (below_then HB7.out hb8);go_wp2_with fail;go_ret;exact ⟨⟨false, rfl, by simp; intro _ h; exact absurd h.2.2.1 HN.out⟩, HB8.out⟩
        | true =>
         rw [hn2] at HH3;have HN := hid (show half N false N.src.toNat by rw [← HHf.out]; exact ⟨hn1, hn2⟩);clear hn1 hn2 HHf;go_wp2_with fail;((with_reducible refine HH3.out.mono ?_); rintro e w8 ⟨rfl, hb8⟩)
         have HBl8 := hid (below_then HBl7.out hb8);clear hb8 HH3;go_wp2_with fail;go_roundg (gk - 1);case measure => have := HK.out; omega
         case rel => exact ⟨1, by have := HK.out; omega, by first | go_num | rfl | simp, fun _ => HN.out, fun h => by omega, HBl8.out⟩
      | 1, HK, HF1, HF2 =>
       have hspl : N.snk.toNat < N.pl.toNat := by have := nt_small HV.out; omega
       have HRe := preachT_any N A n c N.snk.toNat w5 HIn5.out HNl.out HV.out hspl;rw [show ((N.snk.toNat : Nat) : Int) = N.snk by omega] at HRe;replace HRe := hid HRe;clear hspl;obtain ⟨b0, b1, b2, b3⟩ := HNb5.out.cells;have e0 := HV2.out.cell (i := 1) (by simp);replace e0 : w5.cell? ⟨vb, 1, none⟩ = some (.bool true) := e0;go_wp2_with fail;((with_reducible refine HRe.out.mono ?_); rintro e w6 ⟨gp, gt, P, T, rfl, hP, hT, hl1, hl2, hi, hc, hb6⟩)
       have HP6 := hid hP;have HT6 := hid hT;have HLp := hid hl1;have HLt := hid hl2;have HHf := hid (half_iff hl1 (by rw [hl2, HNl.out]) hi hc);have HB6 := hid (below_then HB5.out hb6);have HBl6 := hid (below_then HBl5.out hb6);clear hP hT hl1 hl2 hi hc hb6 HRe b0 b1 b2 b3 e0;have HH1 := hid (bhas_any gp N.pl.toNat N.pl.toNat P w6 HP6.out HLp.out (by have := nt_small HV.out; omega));have HH2 := hid (fun w' (hb : Below w6.heap.size w6 w') => bhas_any gt n n T w' (HT6.out.below hb) HLt.out (by omega));generalize N.pl.toNat = pln at *;cases hn1 : noF P with
       | false =>
        rw [hn1] at HH1;have HN := hid (show ¬ half N true N.snk.toNat by rw [← HHf.out, hn1]; simp);clear hn1 HHf;go_wp2_with fail;((with_reducible refine HH1.out.mono ?_); rintro e w7 ⟨rfl, hb7⟩)
        have HB7 := hid (below_then HB6.out hb7);go_wp2_with fail;go_ret;exact ⟨⟨false, rfl, by simp; intro _ h; exact absurd h.2.2.2 HN.out⟩, HB7.out⟩
       | true =>
        rw [hn1] at HH1;go_wp2_with fail;((with_reducible refine HH1.out.mono ?_); rintro e w7 ⟨rfl, hb7⟩)
        have HB7 := hid (below_then HB6.out hb7);have HBl7 := hid (below_then HBl6.out hb7);have HH3 := hid (HH2.out w7 hb7);clear HH2 HH1 hb7;cases hn2 : noF T with
        | false =>
         rw [hn2] at HH3;have HN := hid (show ¬ half N true N.snk.toNat by rw [← HHf.out, hn2]; simp);clear hn1 hn2 HHf;go_wp2_with fail;((with_reducible refine HH3.out.mono ?_); rintro e w8 ⟨rfl, hb8⟩)
         have HB8 := hid (below_then HB7.out hb8);go_wp2_with fail;go_ret;exact ⟨⟨false, rfl, by simp; intro _ h; exact absurd h.2.2.2 HN.out⟩, HB8.out⟩
        | true =>
         rw [hn2] at HH3;have HN := hid (show half N true N.snk.toNat by rw [← HHf.out]; exact ⟨hn1, hn2⟩);clear hn1 hn2 HHf;go_wp2_with fail;((with_reducible refine HH3.out.mono ?_); rintro e w8 ⟨rfl, hb8⟩)
         have HBl8 := hid (below_then HBl7.out hb8);clear hb8 HH3;go_wp2_with fail;go_roundg (gk - 1);case measure => have := HK.out; omega
         case rel => exact ⟨2, by have := HK.out; omega, by first | go_num | rfl | simp, fun _ => HF1.out (by omega), fun h => HN.out, HBl8.out⟩
      | k + 2, HK, HF1, HF2 =>
       have hk0 : k = 0 := by have := HK.out; omega
       subst hk0;go_wp2_with fail;go_ret;exact ⟨⟨true, rfl, by simp; exact ⟨HV.out, HSs.out, HEg.out, HF1.out (by omega), HF2.out (by omega)⟩⟩, HB5.out⟩
end Go.Proofs.YtpiihmbeedlpkaaGreatDoor
