/- cover.begin and cover.Graph: what a call returns. cover.Graph: what a call returns. fire of reference 24: what a call returns. -/
import Derived.Test.YtkhmngljpfibcaaGreatDoorPUu
import Derived.Test.YtkhmngljpfibcaaGreatDoorPDl
namespace Go.Proofs.YtkhmngljpfibcaaGreatDoor
set_option maxRecDepth 100000
set_option maxHeartbeats 12800000
open Go.Lib (hid)
section
open Go.RowKit

def badR (N : Nt) (place most : Int) : Bool := decide (place < 0) || (decide (N.pl ≤ place) || (decide (most < 1) || decide (1000 < most)))
def BePo (N : Nt) (LL : List (List Int)) (place most : Int) (w : World) (e : Ending) (w' : World) : Prop :=
 if LL.all (mkB N) then (if badR N place most then e = .returned (.tuple #[.pointer none, .int .i64 2]) ∧ Below w.heap.size w w' else GrPo (growT N (LL.headD []) most.toNat) w e w')
 else e = .returned (.tuple #[.pointer none, .int .i64 1]) ∧ Below w.heap.size w w'
theorem BePo.arg {N : Nt} {LL : List (List Int)} {place most : Int} {w w' : World} {e : Ending} (h : LL.all (mkB N) = false) (he : e = .returned (.tuple #[.pointer none, .int .i64 1])) (hb : Below w.heap.size w w') : BePo N LL place most w e w' := by
 unfold BePo; rw [if_neg (by rw [h]; decide)]; exact ⟨he, hb⟩
theorem BePo.range {N : Nt} {LL : List (List Int)} {place most : Int} {w w' : World} {e : Ending} (h : LL.all (mkB N) = true) (h2 : badR N place most = true) (he : e = .returned (.tuple #[.pointer none, .int .i64 2])) (hb : Below w.heap.size w w') : BePo N LL place most w e w' := by
 unfold BePo; rw [if_pos h, if_pos h2]; exact ⟨he, hb⟩
theorem BePo.grow {N : Nt} {LL : List (List Int)} {place most : Int} {w w' : World} {e : Ending} (h : LL.all (mkB N) = true) (h2 : badR N place most = false) (hg : GrPo (growT N (LL.headD []) most.toNat) w e w') : BePo N LL place most w e w' := by
 unfold BePo; rw [if_pos h, if_neg (by rw [h2]; decide)]; exact hg
theorem add0 (ad : Addr) : ad.add 0 = ad := by simp [Addr.add]
theorem begin_any (N : Nt) (A : Option Addr) (n c : Nat) (Ak : Option Addr) (nk ck : Nat) (LL : List (List Int)) (place most : Int) (w : World) (h : NtIn w A N) (hn : N.tr.length = n) (hn2 : n ≤ 9223372036854775807) (hL : LIn w Ak LL) (hk : LL.length = nk) (hk0 : 0 < nk) (hk2 : nk ≤ 9223372036854775807) (ht : Tb w) :
 Calls Tryz.prog 85 #[.agg #[.int .i64 N.pl, .slice A n c, .int .i64 N.src, .int .i64 N.snk], .slice Ak nk ck, .int .i64 place, .int .i64 most] w (BePo N LL place most w) := by
 have HB := hid (below_alloc w (.cells #[.int .i64 N.pl, .slice A n c, .int .i64 N.src, .int .i64 N.snk] 24));have HNb := hid (NB.new w N.pl A n c N.src N.snk);have HIn := hid (h.below HB.out);have HL := hid (hL.below HB.out);have HT := hid (ht.below HB.out);have HLn := hid hn;have HLk := hid hk;clear h hn hL hk ht;go_enter Tryz.func85, Tryz.ntmps85;go_wp2_with fail;generalize w.alloc _ = w0 at *;go_loopg [16] (nk) (fun g iv wr => ∃ k : Nat, k + g = nk ∧ iv = .int .i64 k ∧ (LL.take k).all (mkB N) = true ∧ Below w0.heap.size w0 wr);case atStart => exact ⟨0, by omega, rfl, by simp, Below.refl _ _⟩
 case round =>
  obtain ⟨k, hkg, rfl, hall, hB⟩ := hrel;have HK := hid hkg;have HAll := hid hall;have HBr := hid hB;have hle : k ≤ nk := by omega
  clear hkg hall hB;obtain ⟨b0, b1, b2, b3⟩ := (HNb.out.below HBr.out).cells;by_cases hlt : k < nk
  · have hlt' : k < LL.length := by rw [HLk.out]; exact hlt
    obtain ⟨ak, rfl, hpa, u, q0, Am, m, cm, rfl, zm, hm1, hm2, hm3⟩ := (HL.out.below HBr.out) k hlt';have HTk := hid (List.take_succ_eq_append_getElem hlt');have HMm := hid (List.getElem_mem hlt');generalize LL[k] = M at *;have HEn := hid (penabled_any N A n c Am m cm M wr (HIn.out.below HBr.out) HLn.out hn2 zm hm1 (by omega));clear hlt' zm hm1;cases hv : mkB N M with
    | false =>
     have HX := hid (show LL.all (mkB N) = false by rw [List.all_eq_false]; exact ⟨M, HMm.out, by rw [hv]; decide⟩);have HE := hid (show enE N M = 1 by unfold enE; rw [hv]; rfl);clear hv;go_wp2_with fail;((with_reducible refine HEn.out.mono ?_); rintro e w1 ⟨v, rfl, hS⟩)
     obtain ⟨Av, cv, rfl⟩ := hS.slice;have HB1 := hid (below_then HB.out (below_then HBr.out hS.2));rw [HE.out];clear hS;go_wp2_with fail;go_ret2;exact BePo.arg HX.out rfl HB1.out
    | true =>
     have HX := hid (show (LL.take (k + 1)).all (mkB N) = true by rw [HTk.out, List.all_append, HAll.out]; simp [hv]);have HE := hid (show enE N M = 0 by unfold enE; rw [hv]; rfl);clear hv;go_wp2_with fail;((with_reducible refine HEn.out.mono ?_); rintro e w1 ⟨v, rfl, hS⟩)
     obtain ⟨Av, cv, rfl⟩ := hS.slice;have HB1 := hid (below_then HBr.out hS.2);rw [HE.out];clear hS;go_wp2_with fail;go_roundg (gk - 1);case measure => have := HK.out; omega
     case rel => exact ⟨k + 1, by have := HK.out; omega, by go_num, HX.out, HB1.out⟩
  · have HA := hid (show LL.all (mkB N) = true by have := HAll.out; rwa [List.take_of_length_le (by rw [HLk.out]; omega)] at this);clear HK HAll;have HBw := hid (below_then HB.out HBr.out);have HBad := hid (show badR N place most = (decide (place < 0) || (decide (N.pl ≤ place) || (decide (most < 1) || decide (1000 < most)))) from rfl);by_cases h1 : place < 0
    · have HX := hid (show badR N place most = true by rw [HBad.out, decide_eq_true h1]; rfl);go_wp2_with fail;go_ret2;exact BePo.range HA.out HX.out rfl HBw.out
    have d1 : decide (place < 0) = false := by simpa using h1
    have g1 : 0 ≤ place := by omega
    by_cases h2 : N.pl ≤ place
    · have HX := hid (show badR N place most = true by rw [HBad.out, d1, decide_eq_true h2]; rfl);clear h1;go_wp2_with fail;go_ret2;exact BePo.range HA.out HX.out rfl HBw.out
    have d2 : decide (N.pl ≤ place) = false := by simpa using h2
    by_cases h3 : most < 1
    · have HX := hid (show badR N place most = true by rw [HBad.out, d1, d2, decide_eq_true h3]; rfl);clear h1 h2;go_wp2_with fail;go_ret2;exact BePo.range HA.out HX.out rfl HBw.out
    have d3 : decide (most < 1) = false := by simpa using h3
    by_cases h4 : 1000 < most
    · have HX := hid (show badR N place most = true by rw [HBad.out, d1, d2, d3, decide_eq_true h4]; rfl);clear h1 h2 h3;go_wp2_with fail;go_ret2;exact BePo.range HA.out HX.out rfl HBw.out
    have d4 : decide (1000 < most) = false := by simpa using h4
    have HX := hid (show badR N place most = false by rw [HBad.out, d1, d2, d3, d4]; rfl);have hlt0 : 0 < LL.length := by rw [HLk.out]; exact hk0
    obtain ⟨ak, rfl, hpa, u, q0, Am, m, cm, rfl, zm, hm1, hm2, hm3⟩ := (HL.out.below HBr.out) 0 hlt0;rw [add0] at q0;have hM0 : mkB N LL[0] = true := by have := HA.out; rw [List.all_eq_true] at this; exact this _ (List.getElem_mem hlt0)
    have HHd := hid (show LL.headD [] = LL[0] by cases LL with | nil => simp at hlt0 | cons a l => rfl);have HM0 := hid hM0;clear h1 h2 h3 h4;obtain ⟨mo, rfl⟩ := Int.eq_ofNat_of_zero_le (show 0 ≤ most by have := of_decide_eq_false d3; omega);generalize LL[0] = M at *;have hkk : (0 : Int) < (nk : Int) := by omega
    go_wp2_with fail;have hbd : Below wr.heap.size wr wr.drew := (Below.refl _ _).drew;have HBd := hid (below_then HBr.out hbd);have HInd := hid (HIn.out.below HBd.out);have HZd := hid (zm.below hbd);have HTd := hid (HT.out.below HBd.out);have HNd := hid (HNb.out.below HBd.out);have hS0 := And.intro HNd.out.cells.1 (And.intro HNd.out.cells.2.1 (And.intro HNd.out.cells.2.2.1 (And.intro HNd.out.cells.2.2.2 (cell_stays hbd q0))));refine rh5 hS0 (fun hHeld => ?_);clear hS0 hbd HBr HBw zm q0 b0 b1 b2 b3 hM0;generalize wr.drew = wd at *;refine tkH 0 ?_;(try go_simp);refine tkH 1 ?_;(try go_simp);refine tkH 2 ?_;(try go_simp);refine tkH 3 ?_;(try go_simp);refine tkH 4 ?_;(try go_simp);have hS1 := hHeld;cases hg : growT N M mo with
    | none =>
     have HG := hid (grow_any N A n c Am m cm M mo wd HInd.out.1 HLn.out HZd.out hm1 HM0.out HTd.out);rw [hg] at HG;refine tkR 5 (fun K hK => ?_);go_simp;((refine (HG.out).mono ?_); rintro e w4 ⟨rfl, hb4⟩)
     refine hK.out _ _ (⟨cell_stays hb4 hS1.1, cell_stays hb4 hS1.2.1, cell_stays hb4 hS1.2.2.1, cell_stays hb4 hS1.2.2.2.1, cell_stays hb4 hS1.2.2.2.2⟩) (fun hHeld => ?_);clear hK K;try go_simp
     refine tkH 6 ?_;(try go_simp);refine tkH 7 ?_;(try go_simp);refine tkH 8 ?_;(try go_simp);refine tkH 9 ?_;(try go_simp);refine wpAnyH_done (by kernel_rfl) ?_ _;go_wp2_with fail;go_ret2;exact BePo.grow HA.out HX.out (GrPo.no (by rw [HHd.out]; exact hg) rfl (below_then HB.out (below_then HBd.out hb4)))
    | some T =>
     have HG := hid (grow_any N A n c Am m cm M mo wd HInd.out.1 HLn.out HZd.out hm1 HM0.out HTd.out);rw [hg] at HG;refine tkR 5 (fun K hK => ?_);go_simp;((refine (HG.out).mono ?_); rintro e w4 ⟨tb, vN, vS, NL, SL, rfl, hgp⟩)
     refine hK.out _ _ (⟨cell_stays hgp.bel hS1.1, cell_stays hgp.bel hS1.2.1, cell_stays hgp.bel hS1.2.2.1, cell_stays hgp.bel hS1.2.2.2.1, cell_stays hgp.bel hS1.2.2.2.2⟩) (fun hHeld => ?_);clear hK K;try go_simp
     refine tkH 6 ?_;(try go_simp);refine tkH 7 ?_;(try go_simp);refine tkH 8 ?_;(try go_simp);refine tkH 9 ?_;(try go_simp);refine wpAnyH_done (by kernel_rfl) ?_ _;go_wp2_with fail;go_ret2;refine BePo.grow HA.out HX.out ?_;rw [HHd.out, Int.toNat_natCast, hg];exact ⟨tb, vN, vS, NL, SL, rfl, hgp.up (below_then HB.out HBd.out)⟩
end
section
open Go.RowKit

def beR (N : Nt) (LL : List (List Int)) (place most : Int) : Sum Int TS :=
 if LL.all (mkB N) then (if badR N place most then .inl 2 else match growT N (LL.headD []) most.toNat with | some T => .inr T | none => .inl 13) else .inl 1
theorem BePo.parts {N : Nt} {LL : List (List Int)} {place most : Int} {w w' : World} {e : Ending} (h : BePo N LL place most w e w') :
 (∃ k : Int, beR N LL place most = .inl k ∧ (k != 0) = true ∧ e = .returned (.tuple #[.pointer none, .int .i64 k]) ∧ Below w.heap.size w w') ∨
 ∃ T tb vN vS NL SL, beR N LL place most = .inr T ∧ e = .returned (.tuple #[.pointer (some ⟨tb, 0, none⟩), .int .i64 0]) ∧ GP w w' tb vN vS NL SL T ∧ growT N (LL.headD []) most.toNat = some T ∧ LL.all (mkB N) = true := by
 unfold BePo at h;unfold beR;cases h1 : LL.all (mkB N) with
 | false =>
  rw [h1] at h;exact .inl ⟨1, rfl, rfl, h.1, h.2⟩
 | true =>
  rw [h1] at h;simp only [if_true] at h ⊢;cases h2 : badR N place most with
  | true =>
   rw [h2] at h;exact .inl ⟨2, rfl, rfl, h.1, h.2⟩
  | false =>
   rw [h2] at h;simp only [Bool.false_eq_true, if_false] at h ⊢;cases h3 : growT N (LL.headD []) most.toNat with
   | none =>
    rw [h3] at h;exact .inl ⟨13, rfl, rfl, h.1, h.2⟩
   | some T =>
    rw [h3] at h;obtain ⟨tb, vN, vS, NL, SL, h4, h5⟩ : ∃ tb vN vS NL SL, e = .returned (.tuple #[.pointer (some ⟨tb, 0, none⟩), .int .i64 0]) ∧ GP w w' tb vN vS NL SL T := h;exact .inr ⟨T, tb, vN, vS, NL, SL, rfl, h4, h5, rfl, trivial⟩
theorem grow_good {N : Nt} {M : List Int} {most : Nat} {T : TS} (hv : mkB N M = true) (h : growT N M most = some T) : TInv N M T ∧ Done N T ∧ netOk N M.length ∧ isM M :=
 ⟨(growT_inv h).1, (growT_inv h).2, netOk_of (mk_nt hv) (mk_len hv), mkM hv⟩
theorem TInv.slen {N : Nt} {M : List Int} {T : TS} (h : TInv N M T) (hN : netOk N M.length) (hM : isM M) : ∀ s ∈ T.states, s.length = M.length := by
 intro s hs;obtain ⟨q, hq, rfl⟩ := List.getElem_of_mem hs;obtain ⟨j, d, hd, _, hst⟩ := h.own q hq;have hst2 := h.st j d hd;rw [hst, List.getElem?_eq_getElem hq] at hst2;have e := Option.some.inj hst2;rw [e]; exact (h.fine hN hM j d hd).lm
theorem lin_one {w : World} {Am : Option Addr} {m cm : Nat} {M : List Int} (hz : ZIn w Am M) (hm : M.length = m) (h1 : m ≤ cm) (h2 : cm ≤ 9223372036854775807) : LIn (w.alloc (.cells #[.slice Am m cm] 27)) (some ⟨w.heap.size, 0, none⟩) [M] := by
 intro i hi;have hi0 : i = 0 := by simp at hi; omega
 subst hi0;have hn := heap_alloc_new w (.cells #[.slice Am m cm] 27);refine ⟨_, rfl, by rw [add_block]; simp, .slice Am m cm, ?_, Am, m, cm, rfl, hz.below (below_alloc w _), hm, h1, h2⟩;rw [add0];simp only [World.cell?, hn];rfl
theorem bset3 {w w1 : World} {b : Nat} (h : Below w.heap.size w w1) (hb : w.heap.size ≤ b) (u v x : Value) : Below w.heap.size w (((w1.setCell ⟨b, 0, none⟩ u).setCell ⟨b, 1, none⟩ v).setCell ⟨b, 2, none⟩ x) :=
 ((h.setCell (p := ⟨b, 0, none⟩) hb u).setCell (p := ⟨b, 1, none⟩) hb v).setCell (p := ⟨b, 2, none⟩) hb x
def GphPo (N : Nt) (M : List Int) (most : Int) (w : World) (e : Ending) (w' : World) : Prop :=
 Below w.heap.size w w' ∧ match beR N [M] 0 most with
 | .inl k => e = .returned (.tuple #[.agg #[.slice none 0 0, .slice none 0 0, .bool false], .int .i64 k])
 | .inr T => ∃ vS vM, e = .returned (.tuple #[.agg #[vS, vM, .bool true], .int .i64 0]) ∧ OLL w w' vS T.states ∧ OMv w w' vM (movesOf T)
theorem GphPo.no {N : Nt} {M : List Int} {most : Int} {w w' : World} {e : Ending} {k : Int} (h : beR N [M] 0 most = .inl k) (hb : Below w.heap.size w w') (he : e = .returned (.tuple #[.agg #[.slice none 0 0, .slice none 0 0, .bool false], .int .i64 k])) : GphPo N M most w e w' := by
 refine ⟨hb, ?_⟩; rw [h]; exact he
theorem GphPo.yes {N : Nt} {M : List Int} {most : Int} {w w' : World} {e : Ending} {T : TS} {vS vM : Value} (h : beR N [M] 0 most = .inr T) (he : e = .returned (.tuple #[.agg #[vS, vM, .bool true], .int .i64 0])) (hs : OLL w w' vS T.states) (hm : OMv w w' vM (movesOf T)) : GphPo N M most w e w' := by
 refine ⟨hs.bel, ?_⟩; rw [h]; exact ⟨vS, vM, he, hs, hm⟩
theorem graph_any (N : Nt) (A : Option Addr) (n c : Nat) (Am : Option Addr) (m cm : Nat) (M : List Int) (most : Int) (w : World) (h : NtIn w A N) (hn : N.tr.length = n) (hn2 : n ≤ 9223372036854775807) (hM : ZIn w Am M) (hm : M.length = m) (hm1 : m ≤ cm) (hm2 : cm ≤ 9223372036854775807) (ht : Tb w) :
 Calls Tryz.prog 117 #[.agg #[.int .i64 N.pl, .slice A n c, .int .i64 N.src, .int .i64 N.snk], .slice Am m cm, .int .i64 most] w (GphPo N M most w) := by
 have HB := hid (two_boxes w (.cells #[.int .i64 N.pl, .slice A n c, .int .i64 N.src, .int .i64 N.snk] 24) (.cells #[.slice none 0 0, .slice none 0 0, .bool false] 41));have hnew := heap_alloc_new (w.alloc (.cells #[.int .i64 N.pl, .slice A n c, .int .i64 N.src, .int .i64 N.snk] 24)) (.cells #[.slice none 0 0, .slice none 0 0, .bool false] 41);rw [World.size_alloc] at hnew;have HRb := hid (show SpB _ (w.heap.size + 1) (.slice none 0 0) (.slice none 0 0) false from hnew);have HNb := hid ((NB.new w N.pl A n c N.src N.snk).below (below_alloc _ (.cells #[.slice none 0 0, .slice none 0 0, .bool false] 41)));have hs0 : ((w.alloc (.cells #[.int .i64 N.pl, .slice A n c, .int .i64 N.src, .int .i64 N.snk] 24)).alloc (.cells #[.slice none 0 0, .slice none 0 0, .bool false] 41)).heap.size = w.heap.size + 1 + 1 := by simp
 have HIn := hid (h.below HB.out);have HZ := hid (hM.below HB.out);have HT := hid (ht.below HB.out);clear h hM ht hnew;go_enter Tryz.func117, Tryz.ntmps117;go_wp2_with fail;generalize hrb : w.heap.size + 1 = rb at *;generalize (w.alloc _).alloc _ = w0 at *;obtain ⟨b0, b1, b2, b3⟩ := HNb.out.cells;have hrbw : w.heap.size ≤ rb := by omega
 clear hrb;have HL := hid (lin_one HZ.out hm hm1 hm2);have HBe := hid (begin_any N A n c (some ⟨w0.heap.size, 0, none⟩) 1 1 [M] 0 most _ (HIn.out.below (below_alloc w0 (.cells #[.slice Am m cm] 27))) hn hn2 HL.out rfl (by decide) (by decide) (HT.out.below (below_alloc w0 _)));rw [hs0] at HBe;have HAl := hid (below_alloc w0 (.cells #[.slice Am m cm] 27));((with_reducible refine HBe.out.mono ?_); rintro e w1 hP)
 rcases hP.parts with ⟨k, hR, hk, rfl, hb1⟩ | ⟨T, tb, vN, vS, NL, SL, hR, rfl, hgp, hgr, hall⟩
 · have HR := hid hR;have HRb1 := hid ((HRb.out.below HAl.out).below hb1);have HB1 := hid (below_then HB.out (below_then HAl.out hb1));clear hR hb1 hP HBe HL HIn HZ HT b0 b1 b2 b3 HNb;obtain ⟨r0, r1, r2⟩ := HRb1.out.cells;have rf0 := HRb1.out.soft 0;have rf1 := HRb1.out.soft 1;have rf2 := HRb1.out.soft 2;have HRe := hid (((HRb1.out.set0 (.slice none 0 0)).set1 (.slice none 0 0)).set2 false);have HBe := hid (bset3 HB1.out hrbw (.slice none 0 0) (.slice none 0 0) (.bool false));go_wp2_with fail;generalize ((w1.setCell ⟨rb, 0, none⟩ _).setCell ⟨rb, 1, none⟩ _).setCell ⟨rb, 2, none⟩ _ = we at *;obtain ⟨d0, d1, d2⟩ := HRe.out.cells;exact bodyPost_ret (v := .tuple #[.agg #[.slice none 0 0, .slice none 0 0, .bool false], .int .i64 k]) (by simp [results, Tryz.results117, go_sem, d0, d1, d2]) rfl (GphPo.no HR.out HBe.out rfl)
 · have hgood := grow_good (N := N) (M := M) (by simpa using hall) hgr;have HR := hid hR;have HSp := hid (space_any w0 tb vN vS NL SL N M T w1 (hgp.up HAl.out) hgood.1 (fun s hs => by
    have h1 := hgood.1.slen hgood.2.2.1 hgood.2.2.2 s hs;have h2 := mk_len (N := N) (M := M) (by simpa using hall);have h3 := nt_small (mk_nt (N := N) (M := M) (by simpa using hall));omega))
   have HRb1 := hid ((HRb.out.below HAl.out).below hgp.bel);have HB1 := hid (below_then HB.out (below_then HAl.out hgp.bel));clear hR hP HBe HL HIn HZ HT b0 b1 b2 b3 HNb hgood hgr hall hgp;go_wp2_with fail;((with_reducible refine HSp.out.mono ?_); rintro e w2 ⟨vS2, vM2, rfl, hO, hMv⟩)
   have HRb2 := hid (HRb1.out.below hO.bel);have HB2 := hid (below_then HB1.out hO.bel);have HO := hid (hO.up HB1.out);have HM := hid (hMv.up HB1.out);obtain ⟨Aa, ca, rfl⟩ := hO.slice;obtain ⟨Ab, cb, rfl⟩ := hMv.slice;clear HSp hO hMv;obtain ⟨r0, r1, r2⟩ := HRb2.out.cells;have rf0 := HRb2.out.soft 0;have rf1 := HRb2.out.soft 1;have rf2 := HRb2.out.soft 2;have HRc := hid (HRb2.out.set0 (.slice Aa T.states.length ca));have HRd := hid (HRc.out.set1 (.slice Ab (movesOf T).length cb));have HRe := hid (HRd.out.set2 true);have HOe := hid (((HO.out.box (o := 0) HRb2.out (by decide) (by decide) hrbw (.slice Aa T.states.length ca)).box (o := 1) HRc.out (by decide) (by decide) hrbw (.slice Ab (movesOf T).length cb)).box (o := 2) HRd.out (by decide) (by decide) hrbw (.bool true));have HMe := hid (((HM.out.box (o := 0) HRb2.out (by decide) hrbw (.slice Aa T.states.length ca)).box (o := 1) HRc.out (by decide) hrbw (.slice Ab (movesOf T).length cb)).box (o := 2) HRd.out (by decide) hrbw (.bool true));clear HRc HRd;go_wp2_with fail;generalize ((w2.setCell ⟨rb, 0, none⟩ _).setCell ⟨rb, 1, none⟩ _).setCell ⟨rb, 2, none⟩ _ = we at *;obtain ⟨d0, d1, d2⟩ := HRe.out.cells;exact bodyPost_ret (v := .tuple #[.agg #[.slice Aa T.states.length ca, .slice Ab (movesOf T).length cb, .bool true], .int .i64 0]) (by simp [results, Tryz.results117, go_sem, d0, d1, d2]) rfl (GphPo.yes HR.out rfl HOe.out HMe.out)
end
section
open Go.RowKit

def overP (M : List Int) (p : Int) : Bool := decide (100 < inc1 (M.getD p.toNat 0))
theorem big_over {M l : List Int} (hl : plsOk l M.length) (hM : ∀ p : Nat, M.getD p 0 ≤ 100) : bigM (incs M l) = l.any (overP M) := by
 rw [Bool.eq_iff_iff];unfold bigM;rw [List.any_eq_true, List.any_eq_true];constructor
 · rintro ⟨x, hx, h⟩;obtain ⟨p, hp, rfl⟩ := List.getElem_of_mem hx;have hg := incs_get M l hl p;have e : (incs M l).getD p 0 = (incs M l)[p] := by simp [hp]
   rw [e] at hg;by_cases hm : (p : Int) ∈ l
   · rw [if_pos hm] at hg;refine ⟨(p : Int), hm, ?_⟩;unfold overP;rw [hg] at h;simpa using h
   · rw [if_neg hm] at hg;have := hM p;have h2 := of_decide_eq_true h;omega
 · rintro ⟨p, hp, h⟩;have hr := hl.1 p hp;obtain ⟨q, rfl⟩ := Int.eq_ofNat_of_zero_le hr.1;have hq : q < (incs M l).length := by rw [incs_len]; omega
   refine ⟨(incs M l)[q], List.getElem_mem hq, ?_⟩;have hg := incs_get M l hl q;rw [if_pos hp] at hg;have e : (incs M l).getD q 0 = (incs M l)[q] := by simp [hq]
   rw [← e, hg];simpa [overP] using h
theorem pls_take {l : List Int} {n : Nat} (h : plsOk l n) (k : Nat) : plsOk (l.take k) n :=
 ⟨fun p hp => h.1 p (List.mem_of_mem_take hp), List.Sublist.nodup (List.take_sublist k l) h.2⟩
theorem incs_at {M l : List Int} {k p : Nat} (hl : plsOk l M.length) (hk : k < l.length) (hp : l[k] = (p : Int)) (hpm : p < M.length) :
 ∃ h : p < (incs M (l.take k)).length, (incs M (l.take k))[p] = M.getD p 0 := by
 refine ⟨by rw [incs_len]; exact hpm, ?_⟩;have hg := incs_get M (l.take k) (pls_take hl k) p;have hn : (p : Int) ∉ l.take k := by
  intro hm;obtain ⟨j, hj, e⟩ := List.getElem_of_mem hm;rw [List.getElem_take] at e;rw [List.length_take] at hj;have h2 := hl.2;have h3 : List.Pairwise (· ≠ ·) l := h2;rw [List.pairwise_iff_getElem] at h3;exact h3 j k (by omega) hk (by omega) (by rw [e, hp])
 rw [if_neg hn] at hg;have e : (incs M (l.take k)).getD p 0 = (incs M (l.take k))[p]'(by rw [incs_len]; exact hpm) := by simp [incs_len, hpm]
 rw [← e, hg]
def RFi (L : List Int) (w : World) (e : Ending) (w' : World) : Prop := if bigM L then e = .returned (.tuple #[.slice none 0 0, .bool false]) ∧ Below w.heap.size w w' else ∃ v, e = .returned (.tuple #[v, .bool true]) ∧ NS w w' v L
theorem RFi.no {L : List Int} {w w' : World} {e : Ending} (h : bigM L = true) (he : e = .returned (.tuple #[.slice none 0 0, .bool false])) (hb : Below w.heap.size w w') : RFi L w e w' := by unfold RFi; rw [if_pos h]; exact ⟨he, hb⟩
theorem RFi.yes {L : List Int} {w w' : World} {e : Ending} {v : Value} (h : bigM L = false) (he : e = .returned (.tuple #[v, .bool true])) (hs : NS w w' v L) : RFi L w e w' := by unfold RFi; rw [if_neg (by rw [h]; decide)]; exact ⟨v, he, hs⟩
theorem set_same {w wr : World} {g n cap p : Nat} {D : List Int} {x : Int} (_h : NS w wr (.slice (some ⟨g, 0, none⟩) n cap) D) (hc : wr.cell? ⟨g, p, none⟩ = some (.int .i64 x)) (hx : x = -1) (hp : p < D.length) : D.set p (-1) = D := by
 have h2 := (_h.cells p hp).1;rw [hc] at h2;injection h2 with h2;injection h2 with _ h2;apply List.ext_getElem (by simp);intro j h3 h4;rw [List.getElem_set];split
 · subst_vars; exact h2
 · rfl
theorem decs_le {M : List Int} (l : List Int) (h : plsOk l M.length) (hM : ∀ p : Nat, M.getD p 0 ≤ 100) : ∀ p : Nat, (decs M l).getD p 0 ≤ 100 := by
 intro p;rw [decs_get M l h];have := hM p;have := dec1_bnd (M.getD p 0);split <;> omega
theorem rfire_any (N : Nt) (A : Option Addr) (n c : Nat) (Am : Option Addr) (m cm : Nat) (M : List Int) (t : Nat) (ht : t < N.tr.length) (w : World) (h : TIn w A N.tr) (hn : N.tr.length = n) (hM : ZIn w Am M) (hm : M.length = m) (hm0 : 0 < m) (hm2 : m ≤ 1000) (hok : trOk N.tr[t] m) (hbd : bnd 1000 M) (hsp : ∀ p : Nat, M.getD p 0 ≤ 100) :
 Calls Tryz.prog 128 #[.agg #[.int .i64 N.pl, .slice A n c, .int .i64 N.src, .int .i64 N.snk], .slice Am m cm, .int .i64 t] w (RFi (fireT N.tr[t] M) w) := by
 have HB := hid (below_alloc w (.cells #[.int .i64 N.pl, .slice A n c, .int .i64 N.src, .int .i64 N.snk] 24));have HNb0 := hid (NB.new w N.pl A n c N.src N.snk);have HM0 := hid (hM.below HB.out);have HM := hid hm;have htn : t < n := by omega
 obtain ⟨ad, rfl, hpa, hTr⟩ := (h.below HB.out) t ht;have HTr0 := hid hTr;have HPa := hid hpa;have HOk := hid hok;have HR := hid (show fireT N.tr[t] M = incs (decs M N.tr[t].i) N.tr[t].o from rfl);generalize fireT N.tr[t] M = R at HR ⊢;generalize N.tr[t] = T at *;obtain ⟨lb, li, lo⟩ := T;simp only at HR HOk;have HBd := hid hbd;have HSp := hid hsp;clear h hn hM hm hok hbd hsp hTr hpa;obtain ⟨i0, hi, hz0, hz1, hz2⟩ := info_parts intInfo;have HI := hid (And.intro hi (And.intro hz0 (And.intro hz1 hz2)));clear hi hz0 hz1 hz2;go_enter Tryz.func128, Tryz.ntmps128;have hs0 : (w.alloc (.cells #[.int .i64 N.pl, .slice (some ad) n c, .int .i64 N.src, .int .i64 N.snk] 24)).heap.size = w.heap.size + 1 := by simp
 have hown := own_lit0 (w.alloc (.cells #[.int .i64 N.pl, .slice (some ad) n c, .int .i64 N.src, .int .i64 N.snk] 24));rw [hs0] at hown;have HOwn := hid hown;clear hown;have HAl := hid (below_alloc (w.alloc (.cells #[.int .i64 N.pl, .slice (some ad) n c, .int .i64 N.src, .int .i64 N.snk] 24)) (.cells #[] 3));have HRd0 := hid (rd_of_z (HM0.out.below HAl.out));have HS0 := hid hs0;clear hs0;go_wp2_with (at_builtin; refine wpList_append_rd intC_len intC_one _ rfl _ _ 27 rfl (w.heap.size + 1) 3 i0 (.int .i64 0) 8 Tryz.underlying27 HI.out.1 HI.out.2.1 HI.out.2.2.1 HI.out.2.2.2 rfl (by decide) (.slice (some ⟨w.heap.size + 1, 0, none⟩) 0 0) 0 [] rfl HOwn.out Am m cm M rfl HRd0.out HM.out ?c3 ?c4 ?c5 ?_);case c3 => unfold maxLen; omega
 case c4 => omega
 case c5 => have := HAl.out.size; have := HS0.out; omega
 intro v' w1 hown1 hgrow1;have hS1 := NS.of_app (w := (w.alloc (.cells #[.int .i64 N.pl, .slice (some ad) n c, .int .i64 N.src, .int .i64 N.snk] 24))) (L := []) (n := 0) HAl.out (by rw [HS0.out]; exact HOwn.out) (by rw [HS0.out]; simpa using hown1) hgrow1 rfl HM.out;rw [List.nil_append] at hS1;clear hown1 hgrow1 HRd0 HOwn HAl;generalize w.alloc _ = w0 at *;obtain ⟨gb, cap, rfl, hgb, hgl⟩ := hS1.row (by rw [HM.out]; exact hm0);rw [HM.out] at hS1 ⊢;have HS1 := hid hS1;have HGb := hid hgb;have HNb := hid HNb0.out;obtain ⟨_, ⟨u1, m1, s1⟩, u2, m2, s2⟩ := HTr0.out;obtain ⟨Ai, ni, ci, rfl, zi, hi1, hi2, hi3⟩ := s1;obtain ⟨Ao, no, co, rfl, zo, ho1, ho2, ho3⟩ := s2;have Q := hid (And.intro m1 m2);have HZi := hid zi;have HZo := hid zo;have Hli := hid hi1;have Hlo := hid ho1;have HOkli := hid HOk.out.1;have HOklo := hid HOk.out.2;have HLp := hid HM.out;have hni : ni ≤ 1000 := by have := pls_len HOk.out.1; rw [← hi1]; omega
 have hno : no ≤ 1000 := by have := pls_len HOk.out.2; rw [← ho1]; omega
 have htn0 : (0 : Int) ≤ (t : Int) := by omega
 have htn1 : (t : Int) < (n : Int) := by omega
 obtain ⟨b0, b1, b2, b3⟩ := (HNb.out.below HS1.out.2).cells;have q1 := cell_stays HS1.out.2 Q.out.1;have q2 := cell_stays HS1.out.2 Q.out.2;clear hS1 hgb hgl zi zo hi1 ho1 m1 m2 hi2 ho2;go_wp2_with fail;clear b0 b1 b2 b3 q1 q2;go_loopg [9] (ni) (fun g iv wr => ∃ k : Nat, k + g = ni ∧ iv = .int .i64 k ∧ NS w0 wr (.slice (some ⟨gb, 0, none⟩) m cap) (decs M (li.take k)));case atStart => exact ⟨0, by omega, rfl, by rw [List.take_zero]; exact HS1.out⟩
 case round =>
  obtain ⟨k, hk, rfl, hS⟩ := hrel;have HK := hid hk;have HS := hid hS;skip;have hle : k ≤ ni := by omega
  have HZr := hid (HZi.out.below hS.2);have q1 := cell_stays hS.2 Q.out.1;have q2 := cell_stays hS.2 Q.out.2;have hgr : gb < wr.heap.size := (hS.1.lt gb rfl).2;obtain ⟨b0, b1, b2, b3⟩ := (HNb.out.below hS.2).cells;clear hk hS;by_cases hlt : k < ni
  · have hlt' : k < li.length := by rw [Hli.out]; exact hlt
    obtain ⟨ap, rfl, hpa, q0⟩ := HZr.out k hlt';obtain ⟨p, hp⟩ := Int.eq_ofNat_of_zero_le (HOkli.out.1 _ (List.getElem_mem hlt')).1;have hpm : p < m := by have := (HOkli.out.1 _ (List.getElem_mem hlt')).2; omega
    obtain ⟨hpl, hrd, hx1, hx2⟩ := decs_round M li k p hlt' hp (by rw [HLp.out]; exact hpm) 1000 (by omega) HBd.out;have HTk := hid (List.take_succ_eq_append_getElem hlt');rw [hp] at q0 HTk;have HRd := hid hrd;have HC := hid (HS.out.cells p hpl);have HLd := hid (show (decs M (li.take k)).length = m by rw [decs_len]; exact HLp.out);generalize (decs M (li.take k))[p] = x at *;generalize decs M (li.take k) = D at *;clear hrd hp hlt' hpl;obtain ⟨r0, r1⟩ := HC.out;have hp0 : (0 : Int) ≤ (p : Int) := by omega
    have hp9 : (p : Int) < (m : Int) := by omega
    by_cases hx : x = -1
    · have q3 : (x != -1) = false := by rw [hx]; rfl
      have HSn := hid (show NS w0 wr (.slice (some ⟨gb, 0, none⟩) m cap) (D.set p (dec1 x)) by
       have e : D.set p (dec1 x) = D := by unfold dec1; rw [if_pos hx]; exact set_same HS.out HC.out.1 hx (by rw [HLd.out]; exact hpm)
       rw [e]; exact HS.out)
      clear hx;go_wp2_with fail;go_roundg (gk - 1);case measure => have := HK.out; omega
      case rel => exact ⟨k + 1, by have := HK.out; omega, by go_num, by rw [HRd.out]; exact HSn.out⟩
    · have q3 : (x != -1) = true := by simpa using hx
      have HD1 := hid (show dec1 x = x - 1 from if_neg hx);rw [HD1.out] at HRd;clear hx;go_wp2_with fail;go_roundg (gk - 1);case measure => have := HK.out; omega
      case rel => exact ⟨k + 1, by have := HK.out; omega, by go_num, by rw [HRd.out]; exact HS.out.set HGb.out p _⟩
  · have HD := hid (show decs M (li.take k) = decs M li by rw [List.take_of_length_le (by rw [Hli.out]; omega)]);rw [HD.out] at HS;clear HD;have HLp1 := hid (show (decs M li).length = m by rw [decs_len]; exact HLp.out);have HBd1 := hid (show bnd (1000 + (ni : Int)) (decs M li) by have := decs_bnd li 1000 M (by omega) HBd.out; rw [Hli.out] at this; exact this);have HSp1 := hid (decs_le li (by rw [HLp.out]; exact HOkli.out) HSp.out);clear HLp HBd HSp HK hle hgr HZr;have HLp := hid HLp1.out;have HBd := hid HBd1.out;have HBig := hid (show bigM R = lo.any (overP (decs M li)) by rw [HR.out]; exact big_over (by rw [HLp1.out]; exact HOklo.out) HSp1.out);clear HLp1 HBd1;generalize decs M li = M1 at *;obtain ⟨go, rfl⟩ : ∃ go, go = gk := ⟨_, rfl⟩;go_wp2_with fail;go_loopg [11] (no) (fun g iv wr => ∃ k : Nat, k + g = no ∧ iv = .int .i64 k ∧ NS w0 wr (.slice (some ⟨gb, 0, none⟩) m cap) (incs M1 (lo.take k)) ∧ (lo.take k).any (overP M1) = false);case atStart => exact ⟨0, by omega, rfl, by rw [List.take_zero]; exact HS.out, by simp⟩
    case round =>
     obtain ⟨k, hk, rfl, hS, hov⟩ := hrel;have HK := hid hk;have HS := hid hS;have HOv := hid hov;have hle : k ≤ no := by omega
     have HZr := hid (HZo.out.below hS.2);have q1 := cell_stays hS.2 Q.out.1;have q2 := cell_stays hS.2 Q.out.2;have hgr : gb < wr.heap.size := (hS.1.lt gb rfl).2;obtain ⟨b0, b1, b2, b3⟩ := (HNb.out.below hS.2).cells;clear hk hS hov;by_cases hlt : k < no
     · have hlt' : k < lo.length := by rw [Hlo.out]; exact hlt
       obtain ⟨ap, rfl, hpa, q0⟩ := HZr.out k hlt';obtain ⟨p, hp⟩ := Int.eq_ofNat_of_zero_le (HOklo.out.1 _ (List.getElem_mem hlt')).1;have hpm : p < m := by have := (HOklo.out.1 _ (List.getElem_mem hlt')).2; omega
       obtain ⟨hpl, hrd, hx1, hx2⟩ := incs_round M1 lo k p hlt' hp (by rw [HLp.out]; exact hpm) (1000 + ni) (by omega) HBd.out;have HTk := hid (List.take_succ_eq_append_getElem hlt');rw [hp] at q0 HTk;obtain ⟨_, hat⟩ := incs_at (by rw [HLp.out]; exact HOklo.out) hlt' hp (by rw [HLp.out]; exact hpm);have HOp := hid (show overP M1 (p : Int) = decide (100 < inc1 (incs M1 (lo.take k))[p]) by unfold overP; rw [hat, Int.toNat_natCast]);have HLi := hid (show (p : Int) ∈ lo by rw [← hp]; exact List.getElem_mem hlt');clear hat;have HRd := hid hrd;have HC := hid (HS.out.cells p hpl);have HLd := hid (show (incs M1 (lo.take k)).length = m by rw [incs_len]; exact HLp.out);generalize (incs M1 (lo.take k))[p] = x at *;generalize incs M1 (lo.take k) = D at *;clear hrd hp hlt' hpl;obtain ⟨r0, r1⟩ := HC.out;have hp0 : (0 : Int) ≤ (p : Int) := by omega
       have hp9 : (p : Int) < (m : Int) := by omega
       by_cases hx : x = -1
       · have q3 : (x != -1) = false := by rw [hx]; rfl
         have HSn := hid (show NS w0 wr (.slice (some ⟨gb, 0, none⟩) m cap) (D.set p (inc1 x)) by
          have e : D.set p (inc1 x) = D := by unfold inc1; rw [if_pos hx]; exact set_same HS.out HC.out.1 hx (by rw [HLd.out]; exact hpm)
          rw [e]; exact HS.out)
         have hv : ¬ 100 < inc1 x := by unfold inc1; rw [if_pos hx]; omega
         have q4 : x ≤ 100 := by omega
         clear hx;go_wp2_with fail;go_roundg (gk - 1);case measure => have := HK.out; omega
         case rel => exact ⟨k + 1, by have := HK.out; omega, by go_num, by rw [HRd.out]; exact HSn.out, by rw [HTk.out, List.any_append, HOv.out]; simp [HOp.out, hv]⟩
       · have q3 : (x != -1) = true := by simpa using hx
         have hi1 : inc1 x = x + 1 := if_neg hx;rw [hi1] at HRd HOp;clear hx hi1;by_cases hv : 100 < x + 1
         · have HSn := hid (HS.out.set HGb.out p (x + 1)).2;have HX := hid (show bigM R = true by rw [HBig.out, List.any_eq_true]; exact ⟨_, HLi.out, by rw [HOp.out]; exact decide_eq_true hv⟩);go_wp2_with fail;go_ret2;exact RFi.no HX.out rfl (below_then HB.out HSn.out)
         · have q4 : x + 1 ≤ 100 := by omega
           go_wp2_with fail;go_roundg (gk - 1);case measure => have := HK.out; omega
           case rel => exact ⟨k + 1, by have := HK.out; omega, by go_num, by rw [HRd.out]; exact HS.out.set HGb.out p _, by rw [HTk.out, List.any_append, HOv.out]; simp [HOp.out, hv]⟩
     · have HD := hid (show incs M1 (lo.take k) = R by rw [List.take_of_length_le (by rw [Hlo.out]; omega)]; exact HR.out.symm);have HX := hid (show bigM R = false by rw [HBig.out]; have := HOv.out; rwa [List.take_of_length_le (by rw [Hlo.out]; omega)] at this);rw [HD.out] at HS;go_wp2_with fail;go_ret2;exact RFi.yes HX.out rfl (NS.up HB.out HS.out)
end
end Go.Proofs.YtkhmngljpfibcaaGreatDoor
