/- completing of reference 28: what a call returns. -/
import Derived.Test.YtkhmngljpfibcaaGreatDoorPUu
import Derived.Test.YtkhmngljpfibcaaGreatDoorPBj
import Derived.Test.YtkhmngljpfibcaaGreatDoorPYb
namespace Go.Proofs.YtkhmngljpfibcaaGreatDoor
set_option maxRecDepth 100000
set_option maxHeartbeats 12800000
open Go.Lib (hid)
open Go.RowKit

theorem falses_set : ∀ (B : List Bool) (k : Nat), k < B.length → B.getD k false = false → falses (B.set k true) < falses B
 | [], k, h, _ => by simp at h
 | b :: B, 0, _, h => by
  simp at h;subst h;unfold falses;simp
 | b :: B, k + 1, h, h2 => by
  have ih := falses_set B k (by simpa using h) (by simpa using h2);unfold falses at ih ⊢;rw [List.set_cons_succ, List.count_cons, List.count_cons];omega
def GoalOf (LL : List (List Int)) (M : List Int) (goal : Option Nat) : Prop := (goal = none ∧ ∀ s ∈ LL, s ≠ M) ∨ ∃ g, goal = some g ∧ LL[g]? = some M
theorem find_two (LL : List (List Int)) (M : List Int) : (findR LL M = -1 ∧ ∀ s ∈ LL, s ≠ M) ∨ ∃ g : Nat, findR LL M = (g : Int) ∧ LL[g]? = some M := by
 unfold findR;by_cases h : (LL.findIdx fun s => decide (s = M)) = LL.length
 · rw [if_pos h];refine .inl ⟨rfl, fun s hs e => ?_⟩;have := List.findIdx_lt_length_of_exists (xs := LL) (p := fun s => decide (s = M)) ⟨s, hs, by simp [e]⟩;omega
 · rw [if_neg h];exact .inr ⟨_, rfl, findIdx_lt_spec LL M h⟩
theorem comp28_any (As : Option Addr) (cs : Nat) (LL : List (List Int)) (Av : Option Addr) (cv : Nat) (MV : List Mv) (fl : Bool) (Am : Option Addr) (m cm : Nat) (M : List Int) (w : World) (hS : LIn w As LL) (hM : Rd mvC 3 w Av MV) (hmo : mvOk MV LL.length) (hZ : ZIn w Am M) (hm : M.length = m) (hl2 : LL.length ≤ 1000000) (hv2 : MV.length ≤ 20000) :
 Calls Tryz.prog 60 #[.agg #[.slice As LL.length cs, .slice Av MV.length cv, .bool fl], .slice Am m cm] w fun e w' => ∃ (gb : Nat) (B : List Bool) (goal : Option Nat), e = .returned (.slice (some ⟨gb, 0, none⟩) LL.length LL.length) ∧ BL w' gb B ∧ B.length = LL.length ∧ Below w.heap.size w w' ∧ GoalOf LL M goal ∧ ∀ k, B.getD k false = true ↔ ∃ g, goal = some g ∧ Lead MV g k := by
 obtain ⟨n, hnl⟩ : ∃ n, n = LL.length := ⟨_, rfl⟩;obtain ⟨nm, hnm⟩ : ∃ nm, nm = MV.length := ⟨_, rfl⟩;rw [← hnl] at hl2 hmo ⊢;rw [← hnm] at hv2 ⊢;have HB0 := hid (below_alloc w (.cells #[.slice As n cs, .slice Av nm cv, .bool fl] 41));have HSb0 := hid (show SpB _ w.heap.size (.slice As n cs) (.slice Av nm cv) fl from heap_alloc_new w _);have HSt0 := hid (hS.below HB0.out);have HMv0 := hid (hM.below HB0.out);have HZ0 := hid (hZ.below HB0.out);have HLl := hid hnl.symm;have HMl := hid hnm.symm;have HMo := hid hmo;have HMw := hid hM;have hmk := mk_bools n hl2;clear hS hM hmo hZ hnl hnm;go_enter Tryz.func60, Tryz.ntmps60;have hz : w.heap.size + 1 = (w.alloc (.cells #[.slice As n cs, .slice Av nm cv, .bool fl] 41)).heap.size := by simp
 go_wp2_with fail;generalize w.alloc _ = w0 at *;obtain ⟨d0, d1, d2⟩ := HSb0.out.cells;have HG := hid (BL.made w0 n);have hal := below_alloc w0 (.cells (madeCells #[.bool false] n) 4);have e0 := cell_stays hal d0;have e1 := cell_stays hal d1;have HAt := hid (at28_any As n cs LL Am m cm M _ (HSt0.out.below hal) HLl.out (by omega) (HZ0.out.below hal) hm);have HB1 := hid (HB0.out.trans (hal.mono HB0.out.size));have HSb1 := hid (HSb0.out.below hal);have HMv1 := hid (HMv0.out.below hal);have hgw : w0.heap.size = w0.heap.size := rfl;go_wp2_with fail;((with_reducible refine HAt.out.mono ?_); rintro e w2 ⟨rfl, hb2⟩)
 have HB2 := hid (HB1.out.trans (hb2.mono HB1.out.size));have HSb2 := hid (HSb1.out.below hb2);have HMv2 := hid (HMv1.out.below hb2);have HG2 := hid (HG.out.below hb2);have hgb0 : w.heap.size ≤ w0.heap.size := HB0.out.size;have hsl0 := HSb0.out.lt;clear hz HAt hb2 hal d0 d1 d2 e0 e1 HG HB1 HSb1 HMv1 hmk HB0 HSb0 HSt0 HMv0 HZ0 hgw;generalize w0.heap.size = gb at *;rcases find_two LL M with ⟨hn1, hno⟩ | ⟨g0, hg, hgs⟩
 · rw [hn1];have HGo := hid (show GoalOf LL M none from .inl ⟨rfl, hno⟩);have HCp := hid (show CpI MV n none (List.replicate n false) from CpI.start MV n none (fun g h => by cases h));have HG3 := HG2;have HB3 := HB2;have HSb3 := HSb2;have HMv3 := HMv2;clear HG2 HB2 HSb2 HMv2 hn1 hno;go_wp2_with fail;go_loopg [7] (2 * falses (List.replicate n false) + 1) (fun g av wr => ∃ (B : List Bool) (ag : Bool), av = .bool ag ∧ 2 * falses B + ag.toNat = g ∧ CpI MV n none B ∧ BL wr gb B ∧ Below w.heap.size w wr ∧ SpB wr w.heap.size (.slice As n cs) (.slice Av nm cv) fl ∧ Rd mvC 3 wr Av MV ∧ (ag = false → ∀ x ∈ MV, B.getD x.t.toNat false = true → B.getD x.f.toNat false = true));case atStart => exact ⟨(List.replicate n false), true, rfl, rfl, HCp.out, HG3.out, HB3.out, HSb3.out, HMv3.out, fun h => by cases h⟩
   case round =>
    clear HCp HG3 HB3 HSb3 HMv3;obtain ⟨B, ag, rfl, hms, hcp, hbl, hB, hsb, hrd, hcl⟩ := hrel;have HMs := hid hms;have HCp := hid hcp;have HG := hid hbl;have HB := hid hB;have HSb := hid hsb;have HRd := hid hrd;cases ag with
    | false =>
     have HCl := hid (hcl (by trivial));clear hms hcp hbl hB hsb hrd hcl;go_wp2_with fail;go_ret;exact ⟨gb, B, none, rfl, HG.out, HCp.out.len, HB.out, HGo.out, fun k => HCp.out.iff HCl.out k⟩
    | true =>
     clear hms hcp hbl hB hsb hrd hcl;go_wp2_with fail;obtain ⟨go, rfl⟩ : ∃ go, go = gk := ⟨_, rfl⟩;obtain ⟨wo, rfl⟩ : ∃ wo : World, wo = wr := ⟨_, rfl⟩;go_loopg [8, 7] (nm) (fun g iv av wr => ∃ (i : Nat) (C : List Bool) (ag : Bool), i + g = nm ∧ iv = .int .i64 (i : Int) ∧ av = .bool ag ∧ CpI MV n none C ∧ BL wr gb C ∧ Below w.heap.size w wr ∧ SpB wr w.heap.size (.slice As n cs) (.slice Av nm cv) fl ∧ Rd mvC 3 wr Av MV ∧ (ag = false → C = B ∧ ∀ x ∈ MV.take i, B.getD x.t.toNat false = true → B.getD x.f.toNat false = true) ∧ (ag = true → falses C < falses B));case atStart => exact ⟨0, B, false, by omega, rfl, rfl, HCp.out, HG.out, HB.out, HSb.out, HRd.out, fun _ => ⟨rfl, by simp⟩, fun h => by cases h⟩
     case round =>
      clear HG HB HSb HRd;obtain ⟨i, C, ag, hig, rfl, rfl, hcp, hbl, hB, hsb, hrd, hcf, hct⟩ := hrel;have HK := hid hig;have HCc := hid hcp;have HG := hid hbl;have HB := hid hB;have HSb := hid hsb;have HRd := hid hrd;have HF := hid hcf;have HTt := hid hct;have hile : i ≤ nm := by omega
      obtain ⟨d0, d1, d2⟩ := hsb.cells;clear hig hcp hB hsb hrd hcf hct;by_cases hlt : i < nm
      · have hlt' : i < MV.length := by rw [HMl.out]; exact hlt
        obtain ⟨am, rfl, hpa, m0, m1, m2⟩ := mv_cells HRd.out hlt';have hxm := List.getElem_mem hlt';obtain ⟨r1, r2, r3, r4⟩ := HMo.out _ hxm;obtain ⟨f, hf⟩ := Int.eq_ofNat_of_zero_le r1;obtain ⟨t, ht⟩ := Int.eq_ofNat_of_zero_le r3;have HTk := hid (List.take_succ_eq_append_getElem hlt');have hfC : f < C.length := by rw [HCc.out.len]; omega
        have htC : t < C.length := by rw [HCc.out.len]; omega
        have hfi : (f : Int) < (n : Int) := by omega
        have hti : (t : Int) < (n : Int) := by omega
        have HXm := hid hxm;have hx : MV[i] = ⟨(f : Int), (t : Int), MV[i].s⟩ := by rw [← hf, ← ht]
        rw [hf] at m0;rw [ht] at m1;generalize MV[i] = x at *;obtain ⟨xf, xt, xs⟩ := x;simp only at m0 m1 m2 hf ht hx;subst hf ht;have ha := below_alloc wr (.cells #[.int .i64 (f : Int), .int .i64 (t : Int), .int .i64 xs] 113);have y0 := cell_stays ha (hbl.cell htC);have y1 := cell_stays ha (hbl.cell hfC);have y2 := (hbl.below ha).soft f;have hne : gb ≠ wr.heap.size := by have := hbl.lt; omega
        have hgt : C.getD t false = C[t] := by simp [htC]
        have hgf : C.getD f false = C[f] := by simp [hfC]
        have HN := hid (show ∀ y ∈ MV.take (i + 1), y ∈ MV.take i ∨ y = ⟨(f : Int), (t : Int), xs⟩ from fun y hy => by
         rw [HTk.out] at hy;rcases List.mem_append.1 hy with h1 | h1
         · exact .inl h1
         · simp at h1; exact .inr h1)
        have HG5 := hid (hbl.below ha);have HB5 := hid (below_then HB.out ha);have HSb5 := hid (HSb.out.below ha);have HRd5 := hid (HRd.out.below ha);clear hx hlt' r1 r2 r3 r4 hxm;cases hct : C[t] with
        | false =>
         have HCt := hid (hgt.trans hct);rw [hct] at y0;clear hgt hgf hct ha hbl;go_wp2_with fail;go_roundg (gk - 1);case measure => have := HK.out; omega
         case rel => exact ⟨i + 1, C, ag, by have := HK.out; omega, by go_num, rfl, HCc.out, HG5.out, HB5.out, HSb5.out, HRd5.out, fun h => ⟨(HF.out h).1, fun y hy hyt => by
          rcases HN.out y hy with h1 | h1
          · exact (HF.out h).2 y h1 hyt
          · subst h1; simp only [Int.toNat_natCast] at hyt; rw [← (HF.out h).1, HCt.out] at hyt; cases hyt⟩, HTt.out⟩
        | true =>
         cases hcf : C[f] with
         | true =>
          have HCf := hid (hgf.trans hcf);rw [hct] at y0;rw [hcf] at y1;clear hgt hgf hct hcf ha hbl;go_wp2_with fail;go_roundg (gk - 1);case measure => have := HK.out; omega
          case rel => exact ⟨i + 1, C, ag, by have := HK.out; omega, by go_num, rfl, HCc.out, HG5.out, HB5.out, HSb5.out, HRd5.out, fun h => ⟨(HF.out h).1, fun y hy hyt => by
           rcases HN.out y hy with h1 | h1
           · exact (HF.out h).2 y h1 hyt
           · subst h1; simp only [Int.toNat_natCast]; rw [← (HF.out h).1]; exact HCf.out⟩, HTt.out⟩
         | false =>
          have HCf := hid (hgf.trans hcf);have HOne := hid (HCc.out.one HXm.out HMo.out (by simp only [Int.toNat_natCast]; rw [hgt, hct]));have HLt := hid (falses_set C f hfC HCf.out);rw [hct] at y0;rw [hcf] at y1;have HG6 := hid (HG5.out.set f true);have HB6 := hid (HB5.out.setCell (p := ⟨gb, f, none⟩) hgb0 (.bool true));have hset : (wr.alloc (.cells #[.int .i64 (f : Int), .int .i64 (t : Int), .int .i64 xs] 113)).grownBy ((wr.alloc (.cells #[.int .i64 (f : Int), .int .i64 (t : Int), .int .i64 xs] 113)).setCell ⟨gb, f, none⟩ (.bool true)) (some gb) := Lib.grownBy_setB (grown_refl _ (some gb)) f _;have HSb6 := hid (HSb5.out.grown hset (fun e => by have := Option.some.inj e; omega));have HRd6 := hid (HMw.out.below HB6.out);clear hgt hgf hct hcf ha hset;go_wp2_with fail;go_roundg (gk - 1);case measure => have := HK.out; omega
          case rel => exact ⟨i + 1, C.set f true, true, by have := HK.out; omega, by go_num, rfl, HOne.out, HG6.out, HB6.out, HSb6.out, HRd6.out, fun h => (by cases h), fun _ => by
           cases hag : ag with
           | true => have := HTt.out hag; have := HLt.out; omega
           | false => have := HLt.out; rw [(HF.out hag).1] at this ⊢; exact this⟩
      · have hge : nm = i := by omega
        clear hlt;subst hge;go_wp2_with fail;go_roundg (2 * falses C + ag.toNat);case measure =>
         have h1 := HMs.out;cases hag : ag with
         | true => have := HTt.out hag; simp at h1 ⊢; omega
         | false => rw [(HF.out hag).1]; simp at h1 ⊢; omega
        case rel => exact ⟨C, ag, rfl, rfl, HCc.out, HG.out, HB.out, HSb.out, HRd.out, fun h => by
         rw [(HF.out h).1];have h2 := (HF.out h).2;rw [← HMl.out, List.take_length] at h2;exact h2⟩
 · rw [hg];have hgn : g0 < n := by have := List.getElem?_eq_some_iff.1 hgs; obtain ⟨h1, _⟩ := this; have := HLl.out; omega
   have hgn2 : (g0 : Int) < (n : Int) := by omega
   have HGo := hid (show GoalOf LL M (some g0) from .inr ⟨g0, rfl, hgs⟩);have HCp := hid (show CpI MV n (some g0) ((List.replicate n false).set g0 true) from CpI.start MV n (some g0) (fun g' h => by cases h; exact hgn));have HG3 := hid (HG2.out.set g0 true);have HB3 := hid (HB2.out.setCell (p := ⟨gb, g0, none⟩) hgb0 (.bool true));have hset : w2.grownBy (w2.setCell ⟨gb, g0, none⟩ (.bool true)) (some gb) := Lib.grownBy_setB (grown_refl _ (some gb)) g0 _;have HSb3 := hid (HSb2.out.grown hset (fun e => by have := Option.some.inj e; omega));have HMv3 := hid (HMw.out.below HB3.out);have y1 := HG2.out.cell (i := g0) (by simpa using hgn);have y2 := HG2.out.soft g0;clear HG2 HB2 HSb2 HMv2 hset hg hgs;go_wp2_with fail;go_loopg [7] (2 * falses ((List.replicate n false).set g0 true) + 1) (fun g av wr => ∃ (B : List Bool) (ag : Bool), av = .bool ag ∧ 2 * falses B + ag.toNat = g ∧ CpI MV n (some g0) B ∧ BL wr gb B ∧ Below w.heap.size w wr ∧ SpB wr w.heap.size (.slice As n cs) (.slice Av nm cv) fl ∧ Rd mvC 3 wr Av MV ∧ (ag = false → ∀ x ∈ MV, B.getD x.t.toNat false = true → B.getD x.f.toNat false = true));case atStart => exact ⟨((List.replicate n false).set g0 true), true, rfl, rfl, HCp.out, HG3.out, HB3.out, HSb3.out, HMv3.out, fun h => by cases h⟩
   case round =>
    clear HCp HG3 HB3 HSb3 HMv3;obtain ⟨B, ag, rfl, hms, hcp, hbl, hB, hsb, hrd, hcl⟩ := hrel;have HMs := hid hms;have HCp := hid hcp;have HG := hid hbl;have HB := hid hB;have HSb := hid hsb;have HRd := hid hrd;cases ag with
    | false =>
     have HCl := hid (hcl (by trivial));clear hms hcp hbl hB hsb hrd hcl;go_wp2_with fail;go_ret;exact ⟨gb, B, (some g0), rfl, HG.out, HCp.out.len, HB.out, HGo.out, fun k => HCp.out.iff HCl.out k⟩
    | true =>
     clear hms hcp hbl hB hsb hrd hcl;go_wp2_with fail;obtain ⟨go, rfl⟩ : ∃ go, go = gk := ⟨_, rfl⟩;obtain ⟨wo, rfl⟩ : ∃ wo : World, wo = wr := ⟨_, rfl⟩;go_loopg [8, 7] (nm) (fun g iv av wr => ∃ (i : Nat) (C : List Bool) (ag : Bool), i + g = nm ∧ iv = .int .i64 (i : Int) ∧ av = .bool ag ∧ CpI MV n (some g0) C ∧ BL wr gb C ∧ Below w.heap.size w wr ∧ SpB wr w.heap.size (.slice As n cs) (.slice Av nm cv) fl ∧ Rd mvC 3 wr Av MV ∧ (ag = false → C = B ∧ ∀ x ∈ MV.take i, B.getD x.t.toNat false = true → B.getD x.f.toNat false = true) ∧ (ag = true → falses C < falses B));case atStart => exact ⟨0, B, false, by omega, rfl, rfl, HCp.out, HG.out, HB.out, HSb.out, HRd.out, fun _ => ⟨rfl, by simp⟩, fun h => by cases h⟩
     case round =>
      clear HG HB HSb HRd;obtain ⟨i, C, ag, hig, rfl, rfl, hcp, hbl, hB, hsb, hrd, hcf, hct⟩ := hrel;have HK := hid hig;have HCc := hid hcp;have HG := hid hbl;have HB := hid hB;have HSb := hid hsb;have HRd := hid hrd;have HF := hid hcf;have HTt := hid hct;have hile : i ≤ nm := by omega
      obtain ⟨d0, d1, d2⟩ := hsb.cells;clear hig hcp hB hsb hrd hcf hct;by_cases hlt : i < nm
      · have hlt' : i < MV.length := by rw [HMl.out]; exact hlt
        obtain ⟨am, rfl, hpa, m0, m1, m2⟩ := mv_cells HRd.out hlt';have hxm := List.getElem_mem hlt';obtain ⟨r1, r2, r3, r4⟩ := HMo.out _ hxm;obtain ⟨f, hf⟩ := Int.eq_ofNat_of_zero_le r1;obtain ⟨t, ht⟩ := Int.eq_ofNat_of_zero_le r3;have HTk := hid (List.take_succ_eq_append_getElem hlt');have hfC : f < C.length := by rw [HCc.out.len]; omega
        have htC : t < C.length := by rw [HCc.out.len]; omega
        have hfi : (f : Int) < (n : Int) := by omega
        have hti : (t : Int) < (n : Int) := by omega
        have HXm := hid hxm;have hx : MV[i] = ⟨(f : Int), (t : Int), MV[i].s⟩ := by rw [← hf, ← ht]
        rw [hf] at m0;rw [ht] at m1;generalize MV[i] = x at *;obtain ⟨xf, xt, xs⟩ := x;simp only at m0 m1 m2 hf ht hx;subst hf ht;have ha := below_alloc wr (.cells #[.int .i64 (f : Int), .int .i64 (t : Int), .int .i64 xs] 113);have y0 := cell_stays ha (hbl.cell htC);have y1 := cell_stays ha (hbl.cell hfC);have y2 := (hbl.below ha).soft f;have hne : gb ≠ wr.heap.size := by have := hbl.lt; omega
        have hgt : C.getD t false = C[t] := by simp [htC]
        have hgf : C.getD f false = C[f] := by simp [hfC]
        have HN := hid (show ∀ y ∈ MV.take (i + 1), y ∈ MV.take i ∨ y = ⟨(f : Int), (t : Int), xs⟩ from fun y hy => by
         rw [HTk.out] at hy;rcases List.mem_append.1 hy with h1 | h1
         · exact .inl h1
         · simp at h1; exact .inr h1)
        have HG5 := hid (hbl.below ha);have HB5 := hid (below_then HB.out ha);have HSb5 := hid (HSb.out.below ha);have HRd5 := hid (HRd.out.below ha);clear hx hlt' r1 r2 r3 r4 hxm;cases hct : C[t] with
        | false =>
         have HCt := hid (hgt.trans hct);rw [hct] at y0;clear hgt hgf hct ha hbl;go_wp2_with fail;go_roundg (gk - 1);case measure => have := HK.out; omega
         case rel => exact ⟨i + 1, C, ag, by have := HK.out; omega, by go_num, rfl, HCc.out, HG5.out, HB5.out, HSb5.out, HRd5.out, fun h => ⟨(HF.out h).1, fun y hy hyt => by
          rcases HN.out y hy with h1 | h1
          · exact (HF.out h).2 y h1 hyt
          · subst h1; simp only [Int.toNat_natCast] at hyt; rw [← (HF.out h).1, HCt.out] at hyt; cases hyt⟩, HTt.out⟩
        | true =>
         cases hcf : C[f] with
         | true =>
          have HCf := hid (hgf.trans hcf);rw [hct] at y0;rw [hcf] at y1;clear hgt hgf hct hcf ha hbl;go_wp2_with fail;go_roundg (gk - 1);case measure => have := HK.out; omega
          case rel => exact ⟨i + 1, C, ag, by have := HK.out; omega, by go_num, rfl, HCc.out, HG5.out, HB5.out, HSb5.out, HRd5.out, fun h => ⟨(HF.out h).1, fun y hy hyt => by
           rcases HN.out y hy with h1 | h1
           · exact (HF.out h).2 y h1 hyt
           · subst h1; simp only [Int.toNat_natCast]; rw [← (HF.out h).1]; exact HCf.out⟩, HTt.out⟩
         | false =>
          have HCf := hid (hgf.trans hcf);have HOne := hid (HCc.out.one HXm.out HMo.out (by simp only [Int.toNat_natCast]; rw [hgt, hct]));have HLt := hid (falses_set C f hfC HCf.out);rw [hct] at y0;rw [hcf] at y1;have HG6 := hid (HG5.out.set f true);have HB6 := hid (HB5.out.setCell (p := ⟨gb, f, none⟩) hgb0 (.bool true));have hset : (wr.alloc (.cells #[.int .i64 (f : Int), .int .i64 (t : Int), .int .i64 xs] 113)).grownBy ((wr.alloc (.cells #[.int .i64 (f : Int), .int .i64 (t : Int), .int .i64 xs] 113)).setCell ⟨gb, f, none⟩ (.bool true)) (some gb) := Lib.grownBy_setB (grown_refl _ (some gb)) f _;have HSb6 := hid (HSb5.out.grown hset (fun e => by have := Option.some.inj e; omega));have HRd6 := hid (HMw.out.below HB6.out);clear hgt hgf hct hcf ha hset;go_wp2_with fail;go_roundg (gk - 1);case measure => have := HK.out; omega
          case rel => exact ⟨i + 1, C.set f true, true, by have := HK.out; omega, by go_num, rfl, HOne.out, HG6.out, HB6.out, HSb6.out, HRd6.out, fun h => (by cases h), fun _ => by
           cases hag : ag with
           | true => have := HTt.out hag; have := HLt.out; omega
           | false => have := HLt.out; rw [(HF.out hag).1] at this ⊢; exact this⟩
      · have hge : nm = i := by omega
        clear hlt;subst hge;go_wp2_with fail;go_roundg (2 * falses C + ag.toNat);case measure =>
         have h1 := HMs.out;cases hag : ag with
         | true => have := HTt.out hag; simp at h1 ⊢; omega
         | false => rw [(HF.out hag).1]; simp at h1 ⊢; omega
        case rel => exact ⟨C, ag, rfl, rfl, HCc.out, HG.out, HB.out, HSb.out, HRd.out, fun h => by
         rw [(HF.out h).1];have h2 := (HF.out h).2;rw [← HMl.out, List.take_length] at h2;exact h2⟩
end Go.Proofs.YtkhmngljpfibcaaGreatDoor
