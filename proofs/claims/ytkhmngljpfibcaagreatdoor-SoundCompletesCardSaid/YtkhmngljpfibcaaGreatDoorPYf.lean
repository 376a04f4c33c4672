/- at, Initial, Final, below, markings, never, closed, covers of reference 28: what a call returns. Completes of reference 28: what a call returns. Has, some of reference 21; unsound, relaxed of reference 28: what a call returns. -/
import Derived.Test.YtkhmngljpfibcaaGreatDoorPUu
import Derived.Test.YtkhmngljpfibcaaGreatDoorPQj
import Derived.Test.YtkhmngljpfibcaaGreatDoorPQp
import Derived.Test.YtkhmngljpfibcaaGreatDoorPYm
import Derived.Test.YtkhmngljpfibcaaGreatDoorPTk
import Derived.Test.YtkhmngljpfibcaaGreatDoorPAf
namespace Go.Proofs.YtkhmngljpfibcaaGreatDoor
set_option maxRecDepth 100000
set_option maxHeartbeats 12800000
open Go.Lib (hid)
section
open Go.RowKit

theorem one21_any (pl : Nat) (A : Option Addr) (n c : Nat) (src snk : Int) (p : Nat) (w : World) (hp : p < pl) (hpl : pl ≤ 1000) :
 Calls Tryz.prog 35 #[.agg #[.int .i64 (pl : Int), .slice A n c, .int .i64 src, .int .i64 snk], .int .i64 (p : Int)] w fun e w' => ∃ v, e = .returned v ∧ NS w w' v (oneM pl p) := by
 have HB := hid (below_alloc w (.cells #[.int .i64 (pl : Int), .slice A n c, .int .i64 src, .int .i64 snk] 24));have HN := hid (NB.new w (pl : Int) A n c src snk);have hmk := mk_ints pl (by omega);have hp0 : (0 : Int) ≤ (p : Int) := by omega
 have hp1 : (p : Int) < (pl : Int) := by omega
 have hpl0 : (0 : Int) ≤ (pl : Int) := by omega
 have hc0 : (madeCells #[Value.int .i64 0] pl)[p]? = some (.int .i64 0) := by rw [← Array.getElem?_toList, toList_madeCells_one]; simp [hp]
 have hs0 : (w.alloc (.cells #[.int .i64 (pl : Int), .slice A n c, .int .i64 src, .int .i64 snk] 24)).heap.size = w.heap.size + 1 := by simp
 go_enter Tryz.func35, Tryz.ntmps35;go_wp2_with fail;have h1 := NS.one1 (w.alloc (.cells #[.int .i64 (pl : Int), .slice A n c, .int .i64 src, .int .i64 snk] 24)) pl p (by omega);rw [hs0] at h1;go_ret;exact ⟨_, rfl, NS.up HB.out h1⟩
theorem rsnk_any (N : Nt) (A : Option Addr) (n c : Nat) (hv : ntB N = true) (w : World) : Calls Tryz.prog 35 #[.agg #[.int .i64 N.pl, .slice A n c, .int .i64 N.src, .int .i64 N.snk], .int .i64 N.snk] w fun e w' => ∃ v, e = .returned v ∧ NS w w' v (finM N) := by
 have h1 := nt_small hv;have h2 := nt_src hv;have h := one21_any N.pl.toNat A n c N.src N.snk N.snk.toNat w (by omega) (by omega);rw [show ((N.pl.toNat : Nat) : Int) = N.pl by omega, show ((N.snk.toNat : Nat) : Int) = N.snk by omega] at h;exact h
theorem fin28_any (N : Nt) (A : Option Addr) (n c : Nat) (hv : ntB N = true) (w : World) : Calls Tryz.prog 58 #[.agg #[.int .i64 N.pl, .slice A n c, .int .i64 N.src, .int .i64 N.snk]] w fun e w' => ∃ v, e = .returned v ∧ NS w w' v (finM N) := by
 have HB := hid (below_alloc w (.cells #[.int .i64 N.pl, .slice A n c, .int .i64 N.src, .int .i64 N.snk] 24));have HO := hid (rsnk_any N A n c hv (w.alloc (.cells #[.int .i64 N.pl, .slice A n c, .int .i64 N.src, .int .i64 N.snk] 24)));clear hv;go_enter Tryz.func58, Tryz.ntmps58;go_wp2_with fail;((with_reducible refine HO.out.mono ?_); rintro e w1 ⟨v, rfl, hS⟩)
 go_wp2_with fail;go_ret;exact ⟨_, rfl, NS.up HB.out hS⟩
theorem at28_any (A : Option Addr) (n c : Nat) (LL : List (List Int)) (Am : Option Addr) (m cm : Nat) (M : List Int) (w : World) (h : LIn w A LL) (hn : LL.length = n) (hn2 : n ≤ 9223372036854775806) (hM : ZIn w Am M) (hm : M.length = m) :
 Calls Tryz.prog 70 #[.slice A n c, .slice Am m cm] w fun e w' => e = .returned (.int .i64 (findR LL M)) ∧ Below w.heap.size w w' := by
 have HF := hid (find_any A n c LL Am m cm M w h hn hn2 hM hm);clear h hn hM hm;go_enter Tryz.func70, Tryz.ntmps70;go_wp2_with fail;((with_reducible refine HF.out.mono ?_); rintro e w1 ⟨rfl, hb1⟩)
 go_wp2_with fail;go_ret;exact ⟨rfl, hb1⟩
end
section
open Go.RowKit

theorem exOne_mv {N : Nt} {most i k : Nat} {m : List Int} {E E' : ExS} (h : exOne N most i m k E = some E') (hl : E.MV.length ≤ 20000) : E'.MV.length ≤ 20000 := by
 unfold exOne at h;split at h
 · cases h; exact hl
 · split at h
   · split at h
     · cases h; exact hl
     · split at h
       · split at h
         · cases h
         · cases h; simp; omega
       · split at h
         · split at h
           · cases h
           · cases h; simp; omega
         · cases h; exact hl
   · cases h; exact hl
theorem exTo_mv {N : Nt} {most i : Nat} {m : List Int} : ∀ (k : Nat) {E E' : ExS}, exTo N most i m k E = some E' → E.MV.length ≤ 20000 → E'.MV.length ≤ 20000
 | 0, E, E', h, hl => by cases h; exact hl
 | k + 1, E, E', h, hl => by
  rw [exTo] at h;obtain ⟨E1, h1, h2⟩ := Option.bind_eq_some_iff.1 h;exact exOne_mv h2 (exTo_mv k h1 hl)
theorem exFrom_mv {N : Nt} {most : Nat} : ∀ (f i : Nat) {E E' : ExS}, exFrom N most f i E = some E' → E.MV.length ≤ 20000 → E'.MV.length ≤ 20000
 | 0, i, E, E', h, hl => by cases h
 | f + 1, i, E, E', h, hl => by
  rw [exFrom] at h;split at h
  · cases h; exact hl
  · obtain ⟨E1, h1, h2⟩ := Option.bind_eq_some_iff.1 h;exact exFrom_mv f (i + 1) h2 (exTo_mv _ h1 hl)
theorem exT_mv {N : Nt} {M : List Int} {most : Nat} {E : ExS} (h : exT N M most = some E) : E.MV.length ≤ 20000 := exFrom_mv _ _ h (by simp)
def complV (N : Nt) (M : List Int) (most : Nat) : List Int × Int := match exT N M most with
 | none => ([], 13)
 | some E => if 0 ≤ lidx (isL (finM N)) E.SL then pathV E.MV E.SL.length (lidx (isL (finM N)) E.SL).toNat else if E.fl then ([], 10) else ([], 13)
theorem lidx_nat {p : List Int → Bool} {L : List (List Int)} (h : 0 ≤ lidx p L) : ∃ k : Nat, lidx p L = (k : Int) ∧ k < L.length := by
 unfold lidx at h ⊢;split
 · rename_i e; rw [if_pos e] at h; omega
 · rename_i e; exact ⟨_, rfl, by have := List.findIdx_le_length (p := p) (xs := L); omega⟩
theorem compl28_any (N : Nt) (A : Option Addr) (n c : Nat) (Am : Option Addr) (m cm : Nat) (M : List Int) (most : Nat) (w : World) (h : NtIn w A N) (hn : N.tr.length = n) (hM : ZIn w Am M) (hm : M.length = m) (hmk : mkB N M = true) (h1 : 1 ≤ most) (h2 : most ≤ 2000) :
 Calls Tryz.prog 20 #[.agg #[.int .i64 N.pl, .slice A n c, .int .i64 N.src, .int .i64 N.snk], .slice Am m cm, .int .i64 (most : Int)] w (FvPo (complV N M most) w) := by
 have HB0 := hid (below_alloc w (.cells #[.int .i64 N.pl, .slice A n c, .int .i64 N.src, .int .i64 N.snk] 24));have HNb0 := hid (NB.new w N.pl A n c N.src N.snk);have HEx := hid (r22explore_any N A n c Am m cm M most _ (h.below HB0.out) hn (hM.below HB0.out) hm hmk h1 h2);have HMk := hid hmk;clear h hn hM hm hmk;go_enter Tryz.func20, Tryz.ntmps20;go_wp2_with fail;generalize w.alloc _ = wa at *;cases hR : exT N M most with
 | none =>
  rw [hR] at HEx;have HV := hid (show complV N M most = ([], 13) by unfold complV; rw [hR]);unfold ExPo at HEx;simp only at HEx;((with_reducible refine HEx.out.mono ?_); rintro e w1 ⟨hb1, rfl⟩)
  have HB1 := hid (below_then (below_then HB0.out hb1) (below_alloc w1 (.cells #[.slice none 0 0, .slice none 0 0, .bool false] 41)));clear hb1 HEx hR;go_wp2_with fail;go_ret2;exact FvPo.no HV.out (by decide) rfl HB1.out
 | some E =>
  rw [hR] at HEx;have HSp := hid (exT_spc HMk.out h1 hR);have HMv := hid (exT_mv hR);have HV := hid (show complV N M most = if 0 ≤ lidx (isL (finM N)) E.SL then pathV E.MV E.SL.length (lidx (isL (finM N)) E.SL).toNat else if E.fl then ([], 10) else ([], 13) by unfold complV; rw [hR]);unfold ExPo at HEx;simp only at HEx;((with_reducible refine HEx.out.mono ?_); rintro e w1 ⟨hb1, vS, vM, rfl, hOl, hOm⟩)
  obtain ⟨SL, MV, fl⟩ := E;simp only at HMv HV hOl hOm;obtain ⟨As, cs, rfl⟩ := hOl.slice;obtain ⟨Av, cv, rfl⟩ := hOm.slice;have hal := below_alloc w1 (.cells #[.slice As SL.length cs, .slice Av MV.length cv, .bool fl] 41);have hsb := heap_alloc_new w1 (.cells #[.slice As SL.length cs, .slice Av MV.length cv, .bool fl] 41);have HSb := hid (show SpB _ w1.heap.size (.slice As SL.length cs) (.slice Av MV.length cv) fl from hsb);have HLn := hid ((oll_lin hOl).below hal);have HRd := hid ((omv_rd hOm).below hal);have HNb := hid ((HNb0.out.below hb1).below hal);have HB := hid (below_then (below_then HB0.out hb1) hal);have hsl0 : 0 < SL.length := (List.getElem?_eq_some_iff.1 HSp.out.one).1;have hsl1 : SL.length ≤ 2000 := by have := HSp.out.le; simp only at this; omega
  have hmvl : MV.length ≤ 20000 := HMv.out;have HMo := hid (show mvOk MV SL.length from HSp.out.mvf.ok);clear hal hsb hOl hOm hb1 HEx hR HNb0 HB0
  go_upto_region 4 with (fail)
  generalize w1.alloc _ = w2 at *;generalize w1.heap.size = sb at *;have hbd : Below w2.heap.size w2 w2.drew := (Below.refl _ _).drew;have HSbd := hid (HSb.out.below hbd);have HNd := hid (HNb.out.below hbd);have HLnd := hid (HLn.out.below hbd);have HRdd := hid (HRd.out.below hbd);have HBd := hid (below_then HB.out hbd);have hS0 : w2.drew.cell? ⟨w.heap.size, 0, none⟩ = some (.int .i64 N.pl) ∧ w2.drew.cell? ⟨w.heap.size, 1, none⟩ = some (.slice A n c) ∧ w2.drew.cell? ⟨w.heap.size, 2, none⟩ = some (.int .i64 N.src) ∧ w2.drew.cell? ⟨w.heap.size, 3, none⟩ = some (.int .i64 N.snk) ∧ w2.drew.cell? ⟨sb, 0, none⟩ = some (.slice As SL.length cs) := ⟨HNd.out.cells.1, HNd.out.cells.2.1, HNd.out.cells.2.2.1, HNd.out.cells.2.2.2, HSbd.out.cells.1⟩;refine rh5 hS0 (fun hHeld => ?_);clear hS0 hbd HSb HNb HLn HRd HB;generalize w2.drew = wd at *;refine tkH 0 ?_;(try go_simp);refine tkH 1 ?_;(try go_simp);refine tkH 2 ?_;(try go_simp);have hS9 := hHeld;have HFn := hid (fin28_any N A n c (mk_nt HMk.out) wd);refine tkR 3 (fun K hK => ?_);go_simp;((refine (HFn.out).mono ?_); rintro e w3 ⟨vf, rfl, hSf⟩; obtain ⟨Af, cf, rfl⟩ := hSf.slice)
  refine hK.out _ _ (⟨cell_stays hSf.2 hS9.1, cell_stays hSf.2 hS9.2.1, cell_stays hSf.2 hS9.2.2.1, cell_stays hSf.2 hS9.2.2.2.1, cell_stays hSf.2 hS9.2.2.2.2⟩) (fun hHeld => ?_);clear hK K;try go_simp
  have hS8 := hHeld;have HAt := hid (at28_any As SL.length cs SL Af (finM N).length cf (finM N) w3 (HLnd.out.below hSf.2) rfl (by omega) (ns_zin2 hSf) rfl);refine tkR 4 (fun K hK => ?_);go_simp;((refine (HAt.out).mono ?_); rintro e w4 ⟨rfl, hb4⟩)
  refine hK.out _ _ (⟨cell_stays hb4 hS8.1, cell_stays hb4 hS8.2.1, cell_stays hb4 hS8.2.2.1, cell_stays hb4 hS8.2.2.2.1, cell_stays hb4 hS8.2.2.2.2⟩) (fun hHeld => ?_);clear hK K;try go_simp
  refine tkH 5 ?_;(try go_simp);refine wpAnyH_done (by kernel_rfl) ?_ _;clear hHeld hS8 hS9;have HSb4 := hid ((HSbd.out.below hSf.2).below hb4);have HRd4 := hid ((HRdd.out.below hSf.2).below hb4);have HB4 := hid (below_then HBd.out (below_then hSf.2 hb4));rw [show findR SL (finM N) = lidx (isL (finM N)) SL from rfl];clear HFn HAt hSf hb4 HSbd HNd HLnd HRdd HBd;obtain ⟨s0, s1, s2⟩ := HSb4.out.cells;by_cases hk : 0 ≤ lidx (isL (finM N)) SL
  · obtain ⟨kn, hkn, hkl⟩ := lidx_nat hk;have HV2 := hid (show complV N M most = pathV MV SL.length kn by rw [HV.out, if_pos hk, hkn, Int.toNat_natCast]);rw [hkn];have q1 : decide ((kn : Int) < 0) = false := decide_eq_false (by omega);have HPa := hid (path22_any As SL.length cs Av MV.length cv fl MV kn w4 hsl0 hsl1 hmvl rfl HRd4.out HMo.out hkl);rw [← HV2.out] at HPa;clear hk hkn;go_wp2_with fail;((with_reducible refine HPa.out.mono ?_); rintro e w5 hfv)
    rcases hfv.parts with ⟨h0, v, rfl, hS⟩ | ⟨h0, rfl, hb5⟩
    · have HS := hid hS;have H0 := hid h0;clear hS h0 hfv;go_wp2_with fail;go_ret2;exact FvPo.yes (L := (complV N M most).1) (Prod.ext rfl H0.out) rfl (NS.up HB4.out HS.out)
    · have HB5 := hid hb5;have H0 := hid h0;clear hb5 h0 hfv;go_wp2_with fail;go_ret2;unfold FvPo;rw [if_neg H0.out];exact ⟨rfl, below_then HB4.out HB5.out⟩
  · have hk2 : lidx (isL (finM N)) SL < 0 := by omega
    have q1 : decide (lidx (isL (finM N)) SL < 0) = true := decide_eq_true hk2;generalize lidx (isL (finM N)) SL = kz at *;cases fl with
    | true =>
     have HV2 := hid (show complV N M most = ([], 10) by rw [HV.out, if_neg hk]; rfl);clear hk;go_wp2_with fail;go_ret2;exact FvPo.no HV2.out (by decide) rfl HB4.out
    | false =>
     have HV2 := hid (show complV N M most = ([], 13) by rw [HV.out, if_neg hk]; rfl);clear hk;go_wp2_with fail;go_ret2;exact FvPo.no HV2.out (by decide) rfl HB4.out
end
section
open Go.RowKit

theorem has21_any (Al : Option Addr) (nl cl : Nat) (l : List Int) (x : Int) (w : World) (hL : ZIn w Al l) (hl : l.length = nl) (hl2 : nl ≤ 9223372036854775807) :
 Calls Tryz.prog 125 #[.slice Al nl cl, .int .i64 x] w fun e w' => e = .returned (.bool (hasB l x)) ∧ Below w.heap.size w w' := by
 have HL := hid hL;have HLl := hid hl;clear hL hl;go_enter Tryz.func125, Tryz.ntmps125;go_wp2_with fail;go_loopg [5] (nl) (fun g iv wr => ∃ k : Nat, k + g = nl ∧ iv = .int .i64 k ∧ (l.take k).any (fun y => decide (y = x)) = false ∧ Below w.heap.size w wr);case atStart => exact ⟨0, by omega, rfl, by simp, Below.refl _ _⟩
 case round =>
  obtain ⟨k, hk, rfl, hp, hB⟩ := hrel;have HB := hid hB;have HK := hid hk;have HP := hid hp;have HLr := hid (HL.out.below hB);have hle : k ≤ nl := by omega
  clear hk hp hB;by_cases hlt : k < nl
  · have hlt' : k < l.length := by rw [HLl.out]; exact hlt
    obtain ⟨ad, rfl, hpa, q0⟩ := HLr.out k hlt';have HTk := hid (any_step (fun y => decide (y = x)) hlt');have HYes := hid (fun (hh : decide (l[k] = x) = true) => show hasB l x = true from List.any_eq_true.2 ⟨_, List.getElem_mem hlt', hh⟩);generalize l[k] = y at *;clear hlt';by_cases he : y = x
    · have q1 : (y == x) = true := by rw [he]; simp
      have HV := hid (HYes.out (decide_eq_true he));clear he HYes;go_wp2_with fail;go_ret;exact ⟨ret_bool HV.out.symm, HB.out⟩
    · have q1 : (y == x) = false := by rw [beq_eq_false_iff_ne]; exact he
      have HV := hid (show (l.take (k + 1)).any (fun y => decide (y = x)) = false by rw [HTk.out, HP.out, decide_eq_false he]; rfl);clear he HYes;go_wp2_with fail;go_roundg (gk - 1);case measure => have := HK.out; omega
      case rel => exact ⟨k + 1, by have := HK.out; omega, by go_num, HV.out, HB.out⟩
  · have HV := hid (show hasB l x = false by unfold hasB; have := HP.out; rwa [List.take_of_length_le (by rw [HLl.out]; omega)] at this);go_wp2_with fail;go_ret;exact ⟨ret_bool HV.out.symm, HB.out⟩
def someB (a b : List Int) : Bool := a.any (hasB b)
theorem some21_any (Aa : Option Addr) (na ca : Nat) (a : List Int) (Ab : Option Addr) (nb cb : Nat) (b : List Int) (w : World) (ha : ZIn w Aa a) (hal : a.length = na) (ha2 : na ≤ 9223372036854775807) (hb : ZIn w Ab b) (hbl : b.length = nb) (hb2 : nb ≤ 9223372036854775807) :
 Calls Tryz.prog 126 #[.slice Aa na ca, .slice Ab nb cb] w fun e w' => e = .returned (.bool (someB a b)) ∧ Below w.heap.size w w' := by
 have HL := hid ha;have HLl := hid hal;have HM := hid hb;have HMl := hid hbl;clear ha hal hb hbl;go_enter Tryz.func126, Tryz.ntmps126;go_wp2_with fail;go_loopg [5] (na) (fun g iv wr => ∃ k : Nat, k + g = na ∧ iv = .int .i64 k ∧ (a.take k).any (hasB b) = false ∧ Below w.heap.size w wr);case atStart => exact ⟨0, by omega, rfl, by simp, Below.refl _ _⟩
 case round =>
  obtain ⟨k, hk, rfl, hp, hB⟩ := hrel;have HB := hid hB;have HK := hid hk;have HP := hid hp;have HLr := hid (HL.out.below hB);have hle : k ≤ na := by omega
  clear hk hp hB;by_cases hlt : k < na
  · have hlt' : k < a.length := by rw [HLl.out]; exact hlt
    obtain ⟨ad, rfl, hpa, q0⟩ := HLr.out k hlt';have HTk := hid (any_step (hasB b) hlt');have HYes := hid (fun (hh : hasB b a[k] = true) => show someB a b = true from List.any_eq_true.2 ⟨_, List.getElem_mem hlt', hh⟩);generalize a[k] = y at *;have HHa := hid (has21_any Ab nb cb b y wr (HM.out.below HB.out) HMl.out hb2);clear hlt';cases he : hasB b y with
    | true =>
     rw [he] at HHa;have HV := hid (HYes.out he);clear he HYes;go_wp2_with fail;((with_reducible refine HHa.out.mono ?_); rintro e w1 ⟨rfl, hb1⟩)
     have HB1 := hid (below_then HB.out hb1);go_wp2_with fail;go_ret;exact ⟨ret_bool HV.out.symm, HB1.out⟩
    | false =>
     rw [he] at HHa;have HV := hid (show (a.take (k + 1)).any (hasB b) = false by rw [HTk.out, HP.out, he]; rfl);clear he HYes;go_wp2_with fail;((with_reducible refine HHa.out.mono ?_); rintro e w1 ⟨rfl, hb1⟩)
     have HB1 := hid (below_then HB.out hb1);clear hb1;go_wp2_with fail;go_roundg (gk - 1);case measure => have := HK.out; omega
     case rel => exact ⟨k + 1, by have := HK.out; omega, by go_num, HV.out, HB1.out⟩
  · have HV := hid (show someB a b = false by unfold someB; have := HP.out; rwa [List.take_of_length_le (by rw [HLl.out]; omega)] at this);go_wp2_with fail;go_ret;exact ⟨ret_bool HV.out.symm, HB.out⟩
end
end Go.Proofs.YtkhmngljpfibcaaGreatDoor
