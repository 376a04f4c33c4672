/- Completes of reference 28: what a call returns. reached of sound: what a call returns. slices.Grow and slices.Concat (of three lists) at numbers: what a call returns. Relaxed of sound, plain; how far the states are from the end: what distances returns. -/
import Derived.Test.YtpiihmbeedlpkaaGreatDoorPUu
import Derived.Test.YtpiihmbeedlpkaaGreatDoorPAk
import Derived.Test.YtpiihmbeedlpkaaGreatDoorPHf
import Derived.Test.YtpiihmbeedlpkaaGreatDoorPBl
import Derived.Test.YtpiihmbeedlpkaaGreatDoorPYm
import Derived.Test.YtpiihmbeedlpkaaGreatDoorPBe
import Derived.Test.YtpiihmbeedlpkaaGreatDoorPBz
import Derived.Test.YtpiihmbeedlpkaaGreatDoorPQj
import Derived.Test.YtpiihmbeedlpkaaGreatDoorPQp
import Derived.Test.YtpiihmbeedlpkaaGreatDoorPAf
import Derived.Test.YtpiihmbeedlpkaaGreatDoorPAd
import Derived.Test.YtpiihmbeedlpkaaGreatDoorPCn
import Derived.Test.YtpiihmbeedlpkaaGreatDoorPDh
import Derived.Test.YtpiihmbeedlpkaaGreatDoorPCa
import Derived.Test.YtpiihmbeedlpkaaGreatDoorPBw
import Derived.Lib.AppendZeros
namespace Go.Proofs.YtpiihmbeedlpkaaGreatDoor
set_option maxRecDepth 100000
set_option maxHeartbeats 6400000
open Go.Lib (hid)
section
open Go.RowKit

theorem exOne_mv {N : Nt} {most i k : Nat} {m : List Int} {E E' : ExS} (h : exOne N most i m k E = some E') (hl : E.MV.length ≤ 20000) : E'.MV.length ≤ 20000 := by
 unfold exOne at h;split at h
 · cases h; exact hl
 · split at h
   · split at h
     · cases h; exact hl
     · split at h
       · split at h
         · cases h
         · cases h; simp; omega
       · split at h
         · split at h
           · cases h
           · cases h; simp; omega
         · cases h; exact hl
   · cases h; exact hl
theorem exTo_mv {N : Nt} {most i : Nat} {m : List Int} : ∀ (k : Nat) {E E' : ExS}, exTo N most i m k E = some E' → E.MV.length ≤ 20000 → E'.MV.length ≤ 20000
 | 0, E, E', h, hl => by cases h; exact hl
 | k + 1, E, E', h, hl => by
  rw [exTo] at h;obtain ⟨E1, h1, h2⟩ := Option.bind_eq_some_iff.1 h;exact exOne_mv h2 (exTo_mv k h1 hl)
theorem exFrom_mv {N : Nt} {most : Nat} : ∀ (f i : Nat) {E E' : ExS}, exFrom N most f i E = some E' → E.MV.length ≤ 20000 → E'.MV.length ≤ 20000
 | 0, i, E, E', h, hl => by cases h
 | f + 1, i, E, E', h, hl => by
  rw [exFrom] at h;split at h
  · cases h; exact hl
  · obtain ⟨E1, h1, h2⟩ := Option.bind_eq_some_iff.1 h;exact exFrom_mv f (i + 1) h2 (exTo_mv _ h1 hl)
theorem exT_mv {N : Nt} {M : List Int} {most : Nat} {E : ExS} (h : exT N M most = some E) : E.MV.length ≤ 20000 := exFrom_mv _ _ h (by simp)
end
section
open Go.RowKit

def ReaPo (N : Nt) (M : List Int) (mn : Nat) (A : Option Addr) (n c : Nat) (w : World) (e : Ending) (w' : World) : Prop := Below w.heap.size w w' ∧
  ((exT N M mn = none ∧ e = .returned (.tuple #[.pointer none, .int .i64 13])) ∨
   ∃ (E : ExS) (b : Nat) (As : Option Addr) (cs : Nat) (Av : Option Addr) (cv : Nat) (Af : Option Addr) (cf : Nat) (Ag : Option Addr) (cg : Nat), exT N M mn = some E ∧ e = .returned (.tuple #[.pointer (some ⟨b, 0, none⟩), .int .i64 0]) ∧ WdI w' b N E.SL E.MV E.fl A n c As cs Av cv Af cf Ag cg)
theorem sreached_any (N : Nt) (A : Option Addr) (n c : Nat) (Am : Option Addr) (m cm : Nat) (M : List Int) (mn : Nat) (w : World) (h : NtIn w A N) (hn : N.tr.length = n) (hn2 : n ≤ 9223372036854775807) (hM : ZIn w Am M) (hm : M.length = m) (hmk : mkB N M = true) (h1 : 1 ≤ mn) (h2 : mn ≤ 2000) :
 Calls Tryz.prog 25 #[.agg #[.int .i64 N.pl, .slice A n c, .int .i64 N.src, .int .i64 N.snk], .slice Am m cm, .int .i64 (mn : Int)] w (ReaPo N M mn A n c w) := by
 have HB0 := hid (below_alloc w (.cells #[.int .i64 N.pl, .slice A n c, .int .i64 N.src, .int .i64 N.snk] 30));have HNb0 := hid (NB.new w N.pl A n c N.src N.snk);have HIn0 := hid (h.below HB0.out);have HEx := hid (explore_any N A n c Am m cm M mn _ (h.below HB0.out) hn (hM.below HB0.out) hm hmk h1 h2);have HNl := hid hn;have HMk := hid hmk;clear h hn hM hm hmk;go_enter Tryz.func25, Tryz.ntmps25;go_wp2_with fail;generalize w.alloc _ = w0 at *;obtain ⟨b0, b1, b2, b3⟩ := HNb0.out.cells;cases hR : exT N M mn with
 | none =>
  rw [hR] at HEx;have HR := hid hR;unfold ExPo at HEx;simp only at HEx;((with_reducible refine HEx.out.mono ?_); rintro e w1 ⟨hb1, rfl⟩)
  have HB1 := hid (below_then (below_then HB0.out hb1) (below_alloc w1 (.cells #[.slice none 0 0, .slice none 0 0, .bool false] 65)));clear hb1 HEx hR b0 b1 b2 b3;go_wp2_with fail;go_ret2;exact ⟨HB1.out, .inl ⟨HR.out, rfl⟩⟩
 | some E =>
  rw [hR] at HEx;have HR := hid hR;have HSp := hid (exT_spc HMk.out h1 hR);have HMv := hid (exT_mv hR);unfold ExPo at HEx;simp only at HEx;((with_reducible refine HEx.out.mono ?_); rintro e w1 ⟨hb1, vS, vM, rfl, hOl, hOm⟩)
  obtain ⟨SL, MV, fl⟩ := E;simp only at HMv hOl hOm;obtain ⟨As, cs, rfl⟩ := hOl.slice;obtain ⟨Av, cv, rfl⟩ := hOm.slice;have hal := below_alloc w1 (.cells #[.slice As SL.length cs, .slice Av MV.length cv, .bool fl] 65);have hsb := heap_alloc_new w1 (.cells #[.slice As SL.length cs, .slice Av MV.length cv, .bool fl] 65);have HSb := hid (show SpB _ w1.heap.size (.slice As SL.length cs) (.slice Av MV.length cv) fl from hsb);have HLn := hid ((oll_lin hOl).below hal);have HRd := hid ((omv_rd hOm).below hal);have HNb := hid ((HNb0.out.below hb1).below hal);have HIn := hid ((HIn0.out.below hb1).below hal);have HB := hid (below_then (below_then HB0.out hb1) hal);have hsl1 : SL.length ≤ 2000 := by have := HSp.out.le; simp only at this; omega
  have hmvl : MV.length ≤ 20000 := HMv.out;have HMo := hid (show mvOk MV SL.length from HSp.out.mvf.ok);clear hal hsb hOl hOm hb1 HEx hR HNb0 HIn0 HB0 b0 b1 b2 b3;obtain ⟨b0, b1, b2, b3⟩ := HNb.out.cells;obtain ⟨e0, e1, e2⟩ := HSb.out.cells;have HGa := hid (gather_any N A n c As cs SL Av cv MV fl _ HIn.out HNl.out hn2 (mk_nt HMk.out) HLn.out HRd.out HMo.out (by omega) hmvl);go_wp2_with fail;((with_reducible refine HGa.out.mono ?_); rintro e w4 ⟨b, Af, cf, Ag, cg, rfl, hW, hb4⟩)
  have HW := hid hW;have HB4 := hid (below_then HB.out hb4);clear hW hb4 HGa b0 b1 b2 b3 e0 e1 e2;go_wp2_with fail;go_ret2;exact ⟨HB4.out, .inr ⟨⟨SL, MV, fl⟩, b, As, cs, Av, cv, Af, cf, Ag, cg, HR.out, rfl, HW.out⟩⟩
end
section
open Go.RowKit

theorem igrow_any (n : Nat) (w : World) (hn : n ≤ 1000000) :
 Calls Tryz.prog 52 #[.slice none 0 0, .int .i64 n] w fun e w' => ∃ v, e = .returned v ∧ w'.ownsRow w.heap.size 3 1 v 0 [] ∧ Below w.heap.size w w' := by
 obtain ⟨i0, hi0, hz0, hz1, hz2⟩ := info_parts intInfo;by_cases h0 : n = 0
 · subst h0;clear hi0 hz0 hz1 hz2;go_enter Tryz.func52, Tryz.ntmps52;go_wp2_with fail;go_ret;exact ⟨_, rfl, World.ownsRow_nil _ _ _ _, Below.refl _ _⟩
 · have hp : 0 < n := by omega
   have hrz : ∀ ty, (Builtin.append_ #[34, 3] ty #[.slice none 0 0, .int .i64 (n : Int)]).run Tryz.prog w = _ := fun ty =>
    Lib.run_append_nil_zeros w 34 3 ty 3 i0 _ .i64 .i64 Tryz.underlying34 Tryz.underlying3 hi0 hz0 n hp (by omega) (by omega) (by rw [hz2]; omega)
   obtain ⟨G, hG⟩ : ∃ G, G = grownCap w n 0 3 := ⟨_, rfl⟩;have hGn : n ≤ G := by rw [hG]; exact grownCap_ge w _ _ _
   have hG63 : G ≤ maxLen := by rw [hG]; exact grownCap_le_maxLen w n 0 3 (by unfold maxLen; omega)
   rw [← hG] at hrz;have hzc : ∀ k, (Builtin.zeroCells (Value.int .i64 0).cells k).size = k * 1 := fun k => by simp [Builtin.zeroCells, Value.cells]
   obtain ⟨ROW, hROW⟩ : ∃ ROW : Array Value, ROW = Builtin.zeroCells (Value.int .i64 0).cells n ++ Builtin.zeroCells (Value.int .i64 0).cells (G - n) := ⟨_, rfl⟩;rw [← hROW] at hrz;have hRl : ROW.size = G * 1 := by rw [hROW, Array.size_append, hzc, hzc]; omega
   have HFin := hid (show (w.alloc (.cells ROW 3)).drew.ownsRow w.heap.size 3 1 (.slice (some ⟨w.heap.size, 0, none⟩) 0 G) 0 [] ∧ Below w.heap.size w (w.alloc (.cells ROW 3)).drew from
    ⟨World.ownsRow_made (base := w.heap.size) (e := 3) (size := 1) w ROW G (Nat.le_refl _) hG63 hRl, (below_alloc w _).drew⟩)
   have hG63i : (G : Int) ≤ 9223372036854775807 := by unfold maxLen at hG63; omega
   have hGz : ¬ G = 0 := by omega
   clear hi0 hz0 hz1 hz2 hG hROW hzc hRl hG63;go_enter Tryz.func52, Tryz.ntmps52;go_wp2_with (at_builtin; refine Lib.wpList_append_run _ rfl _ _ _ _ rfl _ _ rfl rfl _ _ (hrz _) ?_);go_ret;exact ⟨_, rfl, HFin.out⟩
def Cc3S (n1 n2 n3 k s : Nat) : Prop := (k = 0 ∧ s = 0) ∨ (k = 1 ∧ s = n1) ∨ (k = 2 ∧ s = n1 + n2) ∨ (k = 3 ∧ s = n1 + n2 + n3)
def Cc3N (w wr : World) (n1 n2 n3 g : Nat) (sv iv : Value) : Prop := ∃ k s : Nat, k + g = 3 ∧ sv = .int .i64 s ∧ iv = .int .i64 k ∧ Cc3S n1 n2 n3 k s ∧ w = wr
def Cc3L (L1 L2 L3 : List Int) (k : Nat) (M : List Int) : Prop := (k = 0 ∧ M = []) ∨ (k = 1 ∧ M = L1) ∨ (k = 2 ∧ M = L1 ++ L2) ∨ (k = 3 ∧ M = L1 ++ L2 ++ L3)
def Cc3M (w wr : World) (L1 L2 L3 : List Int) (g : Nat) (u iv : Value) : Prop := ∃ (k : Nat) (M : List Int), k + g = 3 ∧ iv = .int .i64 k ∧ Cc3L L1 L2 L3 k M ∧ wr.ownsRow w.heap.size 3 1 u M.length (M.flatMap intC) ∧ Below w.heap.size w wr
theorem iconcat3_any (sb : Nat) (A1 A2 A3 : Option Addr) (n1 c1 n2 c2 n3 c3 : Nat) (L1 L2 L3 : List Int) (w : World) (hs : w.heap[sb]? = some (.cells #[.slice A1 n1 c1, .slice A2 n2 c2, .slice A3 n3 c3] 34 (0, 0)))
 (h1 : ZIn w A1 L1) (h2 : ZIn w A2 L2) (h3 : ZIn w A3 L3) (hn1 : L1.length = n1) (hn2 : L2.length = n2) (hn3 : L3.length = n3) (hb1 : n1 ≤ 100000) (hb2 : n2 ≤ 100000) (hb3 : n3 ≤ 100000) :
 Calls Tryz.prog 28 #[.slice (some ⟨sb, 0, none⟩) 3 3] w fun e w' => ∃ v, e = .returned v ∧ NS w w' v (L1 ++ L2 ++ L3) := by
 have hc0 : w.cell? ⟨sb, 0, none⟩ = some (.slice A1 n1 c1) := by simp [World.cell?, hs]
 have hc1 : w.cell? ⟨sb, 1, none⟩ = some (.slice A2 n2 c2) := by simp [World.cell?, hs]
 have hc2 : w.cell? ⟨sb, 2, none⟩ = some (.slice A3 n3 c3) := by simp [World.cell?, hs]
 have HC := hid (And.intro hc0 (And.intro hc1 hc2));have hgr := igrow_any (n1 + n2 + n3) w (by omega);rw [Int.natCast_add, Int.natCast_add] at hgr;have HG := hid hgr;have H1 := hid h1;have H2 := hid h2;have H3 := hid h3;have HN1 := hid hn1;have HN2 := hid hn2;have HN3 := hid hn3;obtain ⟨i0, hi0, hz0, hz1, hz2⟩ := info_parts intInfo;have HI := hid (And.intro hi0 (And.intro hz0 (And.intro hz1 hz2)));clear hgr hs h1 h2 h3 hn1 hn2 hn3 hi0 hz0 hz1 hz2;go_enter Tryz.func28, Tryz.ntmps28;go_wp2_with fail;go_loopg [3, 11] (3) (fun g sv iv wr => Cc3N w wr n1 n2 n3 g sv iv);case atStart => exact ⟨0, 0, by omega, rfl, rfl, .inl ⟨rfl, rfl⟩, rfl⟩
 case round =>
  obtain ⟨k, s, hk, rfl, rfl, hks, rfl⟩ := hrel;rcases hks with ⟨rfl, rfl⟩ | ⟨rfl, rfl⟩ | ⟨rfl, rfl⟩ | ⟨rfl, rfl⟩
  · go_wp2_with fail;go_roundg (gk - 1);case measure => omega
    case rel => exact ⟨1, n1, by omega, by go_num, by go_num, .inr (.inl ⟨rfl, rfl⟩), rfl⟩
  · go_wp2_with fail;go_roundg (gk - 1);case measure => omega
    case rel => exact ⟨2, s + n2, by omega, by go_num, by go_num, .inr (.inr (.inl ⟨rfl, rfl⟩)), rfl⟩
  · go_wp2_with fail;go_roundg (gk - 1);case measure => omega
    case rel => exact ⟨3, n1 + n2 + n3, by omega, by go_num, by go_num, .inr (.inr (.inr ⟨rfl, rfl⟩)), rfl⟩
  · clear hc0 hc1 hc2;go_wp2_with fail;((with_reducible refine HG.out.mono ?_); rintro e w1 ⟨v, rfl, hown, hb1⟩)
    have HS1 := hid (And.intro hown hb1);clear hown hb1 HG;go_wp2_with fail;go_loopg [6, 27] (3) (fun g u iv wr => Cc3M w wr L1 L2 L3 g u iv);case atStart => exact ⟨0, [], by omega, rfl, .inl ⟨rfl, rfl⟩, HS1.out.1, HS1.out.2⟩
    case round =>
     obtain ⟨k, M, hk, rfl, hkM, hO, hB⟩ := hrel;have HO := hid hO;have HB := hid hB;obtain ⟨B, c, hv, _⟩ := row_slice hO;clear HS1 hO hB;have q0 := cell_stays HB.out HC.out.1;have q1 := cell_stays HB.out HC.out.2.1;have q2 := cell_stays HB.out HC.out.2.2;rcases hkM with ⟨rfl, rfl⟩ | ⟨rfl, rfl⟩ | ⟨rfl, rfl⟩ | ⟨rfl, rfl⟩
     · subst hv;go_wp2_with (at_builtin; refine wpList_append_rd intC_len intC_one _ rfl _ _ 34 rfl w.heap.size 3 i0 (.int .i64 0) 8 Tryz.underlying34 HI.out.1 HI.out.2.1 HI.out.2.2.1 HI.out.2.2.2 rfl (by decide) (.slice B 0 c) 0 _ rfl HO.out A1 n1 c1 L1 rfl (rd_of_z (H1.out.below HB.out)) HN1.out (by unfold maxLen; omega) (by omega) HB.out.size ?_);intro v' w5 hown5 hgrow5;have HB5 := hid (HB.out.grown hgrow5 HB.out.size (fun j hj => (HO.out.lt j hj).1));have HO5 := hid hown5;clear hown5 hgrow5;go_wp2_with fail;go_roundg (gk - 1);case measure => omega
       case rel => exact ⟨1, L1, by omega, by go_num, .inr (.inl ⟨rfl, rfl⟩), by rw [HN1.out]; simpa using HO5.out, HB5.out⟩
     · subst hv;rw [HN1.out] at HO ⊢;go_wp2_with (at_builtin; refine wpList_append_rd intC_len intC_one _ rfl _ _ 34 rfl w.heap.size 3 i0 (.int .i64 0) 8 Tryz.underlying34 HI.out.1 HI.out.2.1 HI.out.2.2.1 HI.out.2.2.2 rfl (by decide) (.slice B n1 c) n1 _ rfl HO.out A2 n2 c2 L2 rfl (rd_of_z (H2.out.below HB.out)) HN2.out (by unfold maxLen; omega) (by omega) HB.out.size ?_);intro v' w5 hown5 hgrow5;have HB5 := hid (HB.out.grown hgrow5 HB.out.size (fun j hj => (HO.out.lt j hj).1));have HO5 := hid hown5;clear hown5 hgrow5;go_wp2_with fail;go_roundg (gk - 1);case measure => omega
       case rel => exact ⟨2, M ++ L2, by omega, by go_num, .inr (.inr (.inl ⟨rfl, rfl⟩)), by rw [List.length_append, HN1.out, HN2.out, List.flatMap_append]; exact HO5.out, HB5.out⟩
     · subst hv;rw [show (L1 ++ L2).length = n1 + n2 by rw [List.length_append, HN1.out, HN2.out]] at HO ⊢;go_wp2_with (at_builtin; refine wpList_append_rd intC_len intC_one _ rfl _ _ 34 rfl w.heap.size 3 i0 (.int .i64 0) 8 Tryz.underlying34 HI.out.1 HI.out.2.1 HI.out.2.2.1 HI.out.2.2.2 rfl (by decide) (.slice B (n1 + n2) c) (n1 + n2) _ rfl HO.out A3 n3 c3 L3 rfl (rd_of_z (H3.out.below HB.out)) HN3.out (by unfold maxLen; omega) (by omega) HB.out.size ?_);intro v' w5 hown5 hgrow5;have HB5 := hid (HB.out.grown hgrow5 HB.out.size (fun j hj => (HO.out.lt j hj).1));have HO5 := hid hown5;clear hown5 hgrow5;go_wp2_with fail;go_roundg (gk - 1);case measure => omega
       case rel => exact ⟨3, L1 ++ L2 ++ L3, by omega, by go_num, .inr (.inr (.inr ⟨rfl, rfl⟩)), by rw [List.length_append, List.length_append, HN1.out, HN2.out, HN3.out, List.flatMap_append (xs := L1 ++ L2), List.flatMap_append, List.append_assoc]; exact HO5.out, HB5.out⟩
     · subst hv;rw [show (L1 ++ L2 ++ L3).length = n1 + n2 + n3 by rw [List.length_append, List.length_append, HN1.out, HN2.out, HN3.out]] at HO ⊢;clear q0 q1 q2;go_wp2_with fail;go_ret;exact ⟨_, rfl, by have := HO.out; rw [intC_map] at this; rw [show (L1 ++ L2 ++ L3).length = n1 + n2 + n3 by rw [List.length_append, List.length_append, HN1.out, HN2.out, HN3.out]]; exact this, HB.out⟩
end
section
open Go.RowKit

def RlxP (N : Nt) (LL : List (List Int)) (MV : List Mv) : Prop := ∀ t : Nat, t < N.tr.length → ∃ x ∈ MV, x.s = (t : Int) ∧ Leads N LL MV x.t.toNat
structure FarP (N : Nt) (LL : List (List Int)) (MV : List Mv) (F : List Int) : Prop where
 len : F.length = LL.length
 lead : ∀ s : Nat, s < LL.length → (0 ≤ fd F s ↔ Leads N LL MV s)
 goal : ∀ s : Nat, s < LL.length → 0 ≤ fd F s → ∃ g : Nat, LL[g]? = some (finM N) ∧ IsD MV g LL.length F
 top : ∀ s : Nat, s < LL.length → fd F s < (LL.length : Int)
theorem far_no {N : Nt} {LL : List (List Int)} {MV : List Mv} (h : ∀ s ∈ LL, s ≠ finM N) : FarP N LL MV (List.replicate LL.length (-1)) := by
 have hf : ∀ s : Nat, s < LL.length → fd (List.replicate LL.length (-1)) (s : Int) = -1 := fun s hs => by unfold fd; simp [hs]
 refine ⟨by simp, fun s hs => ?_, fun s hs h0 => ?_, fun s hs => by rw [hf s hs]; omega⟩
 · rw [hf s hs];constructor
   · intro h0; omega
   · rintro ⟨g, hg, _⟩;exact absurd rfl (h _ (List.mem_of_getElem? hg))
 · rw [hf s hs] at h0; omega
theorem far_is {N : Nt} {LL : List (List Int)} {MV : List Mv} {F : List Int} {g : Nat} (hnod : ∀ (i j : Nat) (s : List Int), LL[i]? = some s → LL[j]? = some s → i = j) (hmo : mvOk MV LL.length) (hg : LL[g]? = some (finM N)) (h : IsD MV g LL.length F) : FarP N LL MV F := by
 refine ⟨h.len, fun s hs => ?_, fun s hs _ => ⟨g, hg, h⟩, fun s hs => h.top s hs⟩;rw [← lead_far hmo h hs];constructor
 · intro hl; exact ⟨g, hg, hl⟩
 · rintro ⟨g2, hg2, hl⟩;rw [hnod g g2 _ hg hg2]; exact hl
theorem far_any (w : World) (b : Nat) (N : Nt) (LL : List (List Int)) (MV : List Mv) (fl : Bool) (A : Option Addr) (n c : Nat) (As : Option Addr) (cs : Nat) (Av : Option Addr) (cv : Nat) (Af : Option Addr) (cf : Nat) (Ag : Option Addr) (cg : Nat) (h : WdI w b N LL MV fl A n c As cs Av cv Af cf Ag cg) (hmo : mvOk MV LL.length) (hl2 : LL.length ≤ 1000000) (hv2 : MV.length ≤ 20000) (hnod : ∀ (i j : Nat) (s : List Int), LL[i]? = some s → LL[j]? = some s → i = j) :
 Calls Tryz.prog 26 #[.pointer (some ⟨b, 0, none⟩), .int .i64 (lidx (isL (finM N)) LL)] w fun e w' => ∃ v F, e = .returned v ∧ NS w w' v F ∧ FarP N LL MV F := by
 rcases lidx_two (isL (finM N)) LL with ⟨h1, h2⟩ | ⟨g, s, h1, h2, h3⟩
 · rw [h1];refine (wdistno_any w b N LL MV fl A n c As cs Av cv Af cf Ag cg h hl2 hv2).mono fun e w' ⟨v, he, hn⟩ => ⟨v, _, he, hn, far_no fun s hs e9 => ?_⟩
   have := h2 s hs;subst e9;unfold isL at this;simp at this
 · rw [h1];have e9 : s = finM N := by unfold isL at h3; simpa using h3
   subst e9;exact (wdist_any w b N LL MV fl A n c As cs Av cv Af cf Ag cg g h hmo (List.getElem?_eq_some_iff.1 h2).1 hl2 hv2).mono fun e w' ⟨v, F, he, hn, hd⟩ => ⟨v, F, he, hn, far_is hnod hmo h2 hd⟩
def GoodR (N : Nt) (LL : List (List Int)) (MV : List Mv) (t : Nat) (l : List Int) : Prop :=
 l.length ≤ 2 * LL.length ∧ (t : Int) ∈ l ∧ (∃ g : Nat, LL[g]? = some (finM N) ∧ WayL MV g 0 l) ∧ ∃ x ∈ MV, x.s = (t : Int) ∧ Leads N LL MV x.t.toNat
theorem good_of {N : Nt} {LL : List (List Int)} {MV : List Mv} {F : List Int} {f u t : Nat} {l1 l2 : List Int} (hF : FarP N LL MV F) (hx : (⟨(f : Int), (u : Int), (t : Int)⟩ : Mv) ∈ MV) (hu : u < LL.length) (h0 : 0 ≤ fd F u) (h1 : WayL MV f 0 l1) (h2 : l1.length < LL.length) {g : Nat} (hg : LL[g]? = some (finM N)) (h3 : WayL MV g u l2) (h4 : l2.length = (fd F u).toNat) : GoodR N LL MV t (l1 ++ [(t : Int)] ++ l2) := by
 have h5 := hF.top u hu;refine ⟨by simp; omega, by simp, ⟨g, hg, ?_⟩, ⟨_, hx, rfl, (hF.lead u hu).1 h0⟩⟩;rw [List.append_assoc];exact h1.app (.step hx h3)
theorem rel_cert2 {N : Nt} {LL : List (List Int)} {MV : List Mv} (hv : ntB N = true) (h1 : LL[0]? = some (iniM N)) (hmv : MvF N LL MV) (hl : LL.length ≤ 500) {S : List (List Int)} (hS : S.length = N.tr.length) (hall : ∀ (t : Nat) (l : List Int), S[t]? = some l → GoodR N LL MV t l) : relB N S = true := by
 unfold relB;rw [decide_eq_true hS, Bool.true_and];refine List.all_eq_true.2 fun t ht => ?_
 have ht' : t < S.length := List.mem_range.1 ht;obtain ⟨h2, h3, ⟨g, hg, h4⟩, _⟩ := hall t S[t] (List.getElem?_eq_getElem ht');rw [relAt_get ht', runI_way hv h1 hmv h4 (by omega) hg];have h5 : hasB S[t] (t : Int) = true := by unfold hasB; simpa using h3
 rw [h5]; simp
def BestR (N : Nt) (LL : List (List Int)) (MV : List Mv) (F : List Int) (w wr : World) (t : Nat) (L : List Mv) (v : Value) : Prop :=
 (v = .slice none 0 0 ∧ ∀ x ∈ L, x.s = (t : Int) → ¬ 0 ≤ fd F x.t) ∨ ∃ (g nl cl : Nat) (l : List Int), v = .slice (some ⟨g, 0, none⟩) nl cl ∧ NS w wr v l ∧ l.length = nl ∧ GoodR N LL MV t l
theorem BestR.below {N : Nt} {LL : List (List Int)} {MV : List Mv} {F : List Int} {w wr w' : World} {t : Nat} {L : List Mv} {v : Value} (h : BestR N LL MV F w wr t L v) (hb : Below wr.heap.size wr w') : BestR N LL MV F w w' t L v := by
 rcases h with h | ⟨g, nl, cl, l, h1, h2, h3, h4⟩
 · exact .inl h
 · exact .inr ⟨g, nl, cl, l, h1, h2.below hb, h3, h4⟩
theorem BestR.skip {N : Nt} {LL : List (List Int)} {MV : List Mv} {F : List Int} {w wr : World} {t : Nat} {L : List Mv} {v : Value} (h : BestR N LL MV F w wr t L v) {x : Mv} (hx : x.s = (t : Int) → ¬ 0 ≤ fd F x.t) : BestR N LL MV F w wr t (L ++ [x]) v := by
 rcases h with ⟨h1, h2⟩ | h
 · refine .inl ⟨h1, fun y hy => ?_⟩;rcases List.mem_append.1 hy with e | e
   · exact h2 y e
   · simp at e; subst e; exact hx
 · exact .inr h
def lostI (F : List Int) (k : Nat) : List Int := ((List.range k).filter fun i : Nat => decide (fd F (i : Int) < 0)).map fun i : Nat => (i : Int)
theorem lostI_succ (F : List Int) (k : Nat) : lostI F (k + 1) = lostI F k ++ (if fd F (k : Int) < 0 then [(k : Int)] else []) := by
 unfold lostI;rw [List.range_succ, List.filter_append, List.map_append];by_cases h : fd F (k : Int) < 0
 · rw [if_pos h]; simp [h]
 · rw [if_neg h]; simp [h]
theorem lostI_mem {F : List Int} {k : Nat} {i : Int} : i ∈ lostI F k ↔ ∃ j : Nat, i = (j : Int) ∧ j < k ∧ fd F (j : Int) < 0 := by
 unfold lostI;constructor
 · intro h;obtain ⟨j, hj, rfl⟩ := List.mem_map.1 h;obtain ⟨h1, h2⟩ := List.mem_filter.1 hj;exact ⟨j, rfl, List.mem_range.1 h1, by simpa using h2⟩
 · rintro ⟨j, rfl, h1, h2⟩;exact List.mem_map.2 ⟨j, List.mem_filter.2 ⟨List.mem_range.2 h1, by simpa using h2⟩, rfl⟩
theorem lostI_len (F : List Int) (k : Nat) : (lostI F k).length ≤ k := by
 unfold lostI;rw [List.length_map];have := List.length_filter_le (fun i : Nat => decide (fd F (i : Int) < 0)) (List.range k);rwa [List.length_range] at this
theorem nrl_cert2 {N : Nt} {LL : List (List Int)} {MV : List Mv} {F : List Int} (hv : ntB N = true) (h1 : LL[0]? = some (iniM N)) (hmk : ∀ s ∈ LL, mkB N s = true) (hc : MvC N LL MV) (hnod : ∀ (i j : Nat) (s : List Int), LL[i]? = some s → LL[j]? = some s → i = j) (hmo : mvOk MV LL.length) (hF : FarP N LL MV F) {t : Nat} (ht : t < N.tr.length) (hno : ∀ x ∈ MV, x.s = (t : Int) → ¬ 0 ≤ fd F x.t) : nrlB N (t : Int) LL [lostI F LL.length] = true ∧ ¬ RlxP N LL MV := by
 have hno2 : ∀ x ∈ MV, x.s = (t : Int) → ¬ Leads N LL MV x.t.toNat := fun x hx hs hl => by
  obtain ⟨u, hu⟩ := Int.eq_ofNat_of_zero_le (hmo x hx).2.2.1;have hul : u < LL.length := by have := (hmo x hx).2.2.2; omega
  refine hno x hx hs ?_;rw [hu, hF.lead u hul];rwa [hu, Int.toNat_natCast] at hl
 refine ⟨nrl_cert hv (List.mem_of_getElem? h1) hmk hc hnod ht (fun i hi => ?_) (fun k hk hl => lostI_mem.2 ⟨k, rfl, hk, ?_⟩) hno2, fun h => ?_⟩
 · obtain ⟨j, rfl, hj, hlt⟩ := lostI_mem.1 hi;exact ⟨j, rfl, hj, fun hl => by have := (hF.lead j hj).2 hl; omega⟩
 · have := (not_congr (hF.lead k hk)).2 hl;omega
 · obtain ⟨x, hx, hs, hl⟩ := h t ht;exact hno2 x hx hs hl
def CtSr (N : Nt) (m : Nat) (R P : List Int) (K : List (List Int)) (V : List Mv) (S X : List (List Int)) : Prop :=
 R = [] ∧ P = [] ∧ K.length ≤ m ∧ V = [] ∧ (S.length = N.tr.length ∨ S.length = 1) ∧ X = [] ∧ (∀ l ∈ K, (l.length : Int) = N.pl) ∧ ∀ l ∈ S, l.length ≤ 2 * m
def RlxPo (N : Nt) (most : Int) (w : World) (e : Ending) (w' : World) : Prop := Below w.heap.size w w' ∧
  ((∃ k : Int, e = .returned (.tuple #[.bool false, zCt, .int .i64 k]) ∧ FltK N true most k ∧ k ≠ 0) ∨
   (FltK N true most 0 ∧ e = .returned (.tuple #[.bool false, zCt, .int .i64 13]) ∧ ∀ E, exT N (iniM N) most.toNat = some E → E.fl = false) ∨
   (FltK N true most 0 ∧ ∃ (E : ExS) (q : Bool) (v : Value), exT N (iniM N) most.toNat = some E ∧ E.fl = true ∧ e = .returned (.tuple #[.bool q, v, .int .i64 0]) ∧ (q = true ↔ RlxP N E.SL E.MV) ∧
    CtOf w' v (fun cl cn R P K V S X => cl = (if q then 3 else 4) ∧ ClmP N cl cn R P K V S X ∧ CtSr N E.SL.length R P K V S X)))
theorem CtB.set6 {w : World} {b : Nat} {a0 a1 a2 a3 a4 a5 a6 a7 : Value} (h : CtB w b #[a0, a1, a2, a3, a4, a5, a6, a7]) (u : Value) : CtB (w.setCell ⟨b, 6, none⟩ u) b #[a0, a1, a2, a3, a4, a5, u, a7] := by
 unfold CtB at h ⊢;rw [heap_set2 h]; rfl
end
end Go.Proofs.YtpiihmbeedlpkaaGreatDoor
