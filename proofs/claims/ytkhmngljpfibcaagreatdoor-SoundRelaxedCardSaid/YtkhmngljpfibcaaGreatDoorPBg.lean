/- cover.begin and cover.Graph: what a call returns. cover.Graph: what a call returns. Moves of the tree, what leads to each state, lowering: plain; rows of rows of one's own. Rows of moves, each in its own block; the moves that leave each state. -/
import Derived.Test.YtkhmngljpfibcaaGreatDoorPUu
import Derived.Test.YtkhmngljpfibcaaGreatDoorPDl
import Derived.Test.YtkhmngljpfibcaaGreatDoorPHb
import Derived.Test.YtkhmngljpfibcaaGreatDoorPDe
import Derived.Maps.AppendAt
namespace Go.Proofs.YtkhmngljpfibcaaGreatDoor
set_option maxRecDepth 100000
set_option maxHeartbeats 6400000
open Go.Lib (hid)
section
open Go.RowKit

def badR (N : Nt) (place most : Int) : Bool := decide (place < 0) || (decide (N.pl ≤ place) || (decide (most < 1) || decide (1000 < most)))
def BePo (N : Nt) (LL : List (List Int)) (place most : Int) (w : World) (e : Ending) (w' : World) : Prop :=
 if LL.all (mkB N) then (if badR N place most then e = .returned (.tuple #[.pointer none, .int .i64 2]) ∧ Below w.heap.size w w' else GrPo (growT N (LL.headD []) most.toNat) w e w')
 else e = .returned (.tuple #[.pointer none, .int .i64 1]) ∧ Below w.heap.size w w'
theorem BePo.arg {N : Nt} {LL : List (List Int)} {place most : Int} {w w' : World} {e : Ending} (h : LL.all (mkB N) = false) (he : e = .returned (.tuple #[.pointer none, .int .i64 1])) (hb : Below w.heap.size w w') : BePo N LL place most w e w' := by
 unfold BePo; rw [if_neg (by rw [h]; decide)]; exact ⟨he, hb⟩
theorem BePo.range {N : Nt} {LL : List (List Int)} {place most : Int} {w w' : World} {e : Ending} (h : LL.all (mkB N) = true) (h2 : badR N place most = true) (he : e = .returned (.tuple #[.pointer none, .int .i64 2])) (hb : Below w.heap.size w w') : BePo N LL place most w e w' := by
 unfold BePo; rw [if_pos h, if_pos h2]; exact ⟨he, hb⟩
theorem BePo.grow {N : Nt} {LL : List (List Int)} {place most : Int} {w w' : World} {e : Ending} (h : LL.all (mkB N) = true) (h2 : badR N place most = false) (hg : GrPo (growT N (LL.headD []) most.toNat) w e w') : BePo N LL place most w e w' := by
 unfold BePo; rw [if_pos h, if_neg (by rw [h2]; decide)]; exact hg
theorem add0 (ad : Addr) : ad.add 0 = ad := by simp [Addr.add]
theorem begin_any (N : Nt) (A : Option Addr) (n c : Nat) (Ak : Option Addr) (nk ck : Nat) (LL : List (List Int)) (place most : Int) (w : World) (h : NtIn w A N) (hn : N.tr.length = n) (hn2 : n ≤ 9223372036854775807) (hL : LIn w Ak LL) (hk : LL.length = nk) (hk0 : 0 < nk) (hk2 : nk ≤ 9223372036854775807) (ht : Tb w) :
 Calls Tryz.prog 85 #[.agg #[.int .i64 N.pl, .slice A n c, .int .i64 N.src, .int .i64 N.snk], .slice Ak nk ck, .int .i64 place, .int .i64 most] w (BePo N LL place most w) := by
 have HB := hid (below_alloc w (.cells #[.int .i64 N.pl, .slice A n c, .int .i64 N.src, .int .i64 N.snk] 24));have HNb := hid (NB.new w N.pl A n c N.src N.snk);have HIn := hid (h.below HB.out);have HL := hid (hL.below HB.out);have HT := hid (ht.below HB.out);have HLn := hid hn;have HLk := hid hk;clear h hn hL hk ht;go_enter Tryz.func85, Tryz.ntmps85;go_wp2_with fail;generalize w.alloc _ = w0 at *;go_loopg [16] (nk) (fun g iv wr => ∃ k : Nat, k + g = nk ∧ iv = .int .i64 k ∧ (LL.take k).all (mkB N) = true ∧ Below w0.heap.size w0 wr);case atStart => exact ⟨0, by omega, rfl, by simp, Below.refl _ _⟩
 case round =>
  obtain ⟨k, hkg, rfl, hall, hB⟩ := hrel;have HK := hid hkg;have HAll := hid hall;have HBr := hid hB;have hle : k ≤ nk := by omega
  clear hkg hall hB;obtain ⟨b0, b1, b2, b3⟩ := (HNb.out.below HBr.out).cells;by_cases hlt : k < nk
  · have hlt' : k < LL.length := by rw [HLk.out]; exact hlt
    obtain ⟨ak, rfl, hpa, u, q0, Am, m, cm, rfl, zm, hm1, hm2, hm3⟩ := (HL.out.below HBr.out) k hlt';have HTk := hid (List.take_succ_eq_append_getElem hlt');have HMm := hid (List.getElem_mem hlt');generalize LL[k] = M at *;have HEn := hid (penabled_any N A n c Am m cm M wr (HIn.out.below HBr.out) HLn.out hn2 zm hm1 (by omega));clear hlt' zm hm1;cases hv : mkB N M with
    | false =>
     have HX := hid (show LL.all (mkB N) = false by rw [List.all_eq_false]; exact ⟨M, HMm.out, by rw [hv]; decide⟩);have HE := hid (show enE N M = 1 by unfold enE; rw [hv]; rfl);clear hv;go_wp2_with fail;((with_reducible refine HEn.out.mono ?_); rintro e w1 ⟨v, rfl, hS⟩)
     obtain ⟨Av, cv, rfl⟩ := hS.slice;have HB1 := hid (below_then HB.out (below_then HBr.out hS.2));rw [HE.out];clear hS;go_wp2_with fail;go_ret2;exact BePo.arg HX.out rfl HB1.out
    | true =>
     have HX := hid (show (LL.take (k + 1)).all (mkB N) = true by rw [HTk.out, List.all_append, HAll.out]; simp [hv]);have HE := hid (show enE N M = 0 by unfold enE; rw [hv]; rfl);clear hv;go_wp2_with fail;((with_reducible refine HEn.out.mono ?_); rintro e w1 ⟨v, rfl, hS⟩)
     obtain ⟨Av, cv, rfl⟩ := hS.slice;have HB1 := hid (below_then HBr.out hS.2);rw [HE.out];clear hS;go_wp2_with fail;go_roundg (gk - 1);case measure => have := HK.out; omega
     case rel => exact ⟨k + 1, by have := HK.out; omega, by go_num, HX.out, HB1.out⟩
  · have HA := hid (show LL.all (mkB N) = true by have := HAll.out; rwa [List.take_of_length_le (by rw [HLk.out]; omega)] at this);clear HK HAll;have HBw := hid (below_then HB.out HBr.out);have HBad := hid (show badR N place most = (decide (place < 0) || (decide (N.pl ≤ place) || (decide (most < 1) || decide (1000 < most)))) from rfl);by_cases h1 : place < 0
    · have HX := hid (show badR N place most = true by rw [HBad.out, decide_eq_true h1]; rfl);go_wp2_with fail;go_ret2;exact BePo.range HA.out HX.out rfl HBw.out
    have d1 : decide (place < 0) = false := by simpa using h1
    have g1 : 0 ≤ place := by omega
    by_cases h2 : N.pl ≤ place
    · have HX := hid (show badR N place most = true by rw [HBad.out, d1, decide_eq_true h2]; rfl);clear h1;go_wp2_with fail;go_ret2;exact BePo.range HA.out HX.out rfl HBw.out
    have d2 : decide (N.pl ≤ place) = false := by simpa using h2
    by_cases h3 : most < 1
    · have HX := hid (show badR N place most = true by rw [HBad.out, d1, d2, decide_eq_true h3]; rfl);clear h1 h2;go_wp2_with fail;go_ret2;exact BePo.range HA.out HX.out rfl HBw.out
    have d3 : decide (most < 1) = false := by simpa using h3
    by_cases h4 : 1000 < most
    · have HX := hid (show badR N place most = true by rw [HBad.out, d1, d2, d3, decide_eq_true h4]; rfl);clear h1 h2 h3;go_wp2_with fail;go_ret2;exact BePo.range HA.out HX.out rfl HBw.out
    have d4 : decide (1000 < most) = false := by simpa using h4
    have HX := hid (show badR N place most = false by rw [HBad.out, d1, d2, d3, d4]; rfl);have hlt0 : 0 < LL.length := by rw [HLk.out]; exact hk0
    obtain ⟨ak, rfl, hpa, u, q0, Am, m, cm, rfl, zm, hm1, hm2, hm3⟩ := (HL.out.below HBr.out) 0 hlt0;rw [add0] at q0;have hM0 : mkB N LL[0] = true := by have := HA.out; rw [List.all_eq_true] at this; exact this _ (List.getElem_mem hlt0)
    have HHd := hid (show LL.headD [] = LL[0] by cases LL with | nil => simp at hlt0 | cons a l => rfl);have HM0 := hid hM0;clear h1 h2 h3 h4;obtain ⟨mo, rfl⟩ := Int.eq_ofNat_of_zero_le (show 0 ≤ most by have := of_decide_eq_false d3; omega);generalize LL[0] = M at *;have hkk : (0 : Int) < (nk : Int) := by omega
    go_wp2_with fail;have hbd : Below wr.heap.size wr wr.drew := (Below.refl _ _).drew;have HBd := hid (below_then HBr.out hbd);have HInd := hid (HIn.out.below HBd.out);have HZd := hid (zm.below hbd);have HTd := hid (HT.out.below HBd.out);have HNd := hid (HNb.out.below HBd.out);have hS0 := And.intro HNd.out.cells.1 (And.intro HNd.out.cells.2.1 (And.intro HNd.out.cells.2.2.1 (And.intro HNd.out.cells.2.2.2 (cell_stays hbd q0))));refine rh5 hS0 (fun hHeld => ?_);clear hS0 hbd HBr HBw zm q0 b0 b1 b2 b3 hM0;generalize wr.drew = wd at *;refine tkH 0 ?_;(try go_simp);refine tkH 1 ?_;(try go_simp);refine tkH 2 ?_;(try go_simp);refine tkH 3 ?_;(try go_simp);refine tkH 4 ?_;(try go_simp);have hS1 := hHeld;cases hg : growT N M mo with
    | none =>
     have HG := hid (grow_any N A n c Am m cm M mo wd HInd.out.1 HLn.out HZd.out hm1 HM0.out HTd.out);rw [hg] at HG;refine tkR 5 (fun K hK => ?_);go_simp;((refine (HG.out).mono ?_); rintro e w4 ⟨rfl, hb4⟩)
     refine hK.out _ _ (⟨cell_stays hb4 hS1.1, cell_stays hb4 hS1.2.1, cell_stays hb4 hS1.2.2.1, cell_stays hb4 hS1.2.2.2.1, cell_stays hb4 hS1.2.2.2.2⟩) (fun hHeld => ?_);clear hK K;try go_simp
     refine tkH 6 ?_;(try go_simp);refine tkH 7 ?_;(try go_simp);refine tkH 8 ?_;(try go_simp);refine tkH 9 ?_;(try go_simp);refine wpAnyH_done (by kernel_rfl) ?_ _;go_wp2_with fail;go_ret2;exact BePo.grow HA.out HX.out (GrPo.no (by rw [HHd.out]; exact hg) rfl (below_then HB.out (below_then HBd.out hb4)))
    | some T =>
     have HG := hid (grow_any N A n c Am m cm M mo wd HInd.out.1 HLn.out HZd.out hm1 HM0.out HTd.out);rw [hg] at HG;refine tkR 5 (fun K hK => ?_);go_simp;((refine (HG.out).mono ?_); rintro e w4 ⟨tb, vN, vS, NL, SL, rfl, hgp⟩)
     refine hK.out _ _ (⟨cell_stays hgp.bel hS1.1, cell_stays hgp.bel hS1.2.1, cell_stays hgp.bel hS1.2.2.1, cell_stays hgp.bel hS1.2.2.2.1, cell_stays hgp.bel hS1.2.2.2.2⟩) (fun hHeld => ?_);clear hK K;try go_simp
     refine tkH 6 ?_;(try go_simp);refine tkH 7 ?_;(try go_simp);refine tkH 8 ?_;(try go_simp);refine tkH 9 ?_;(try go_simp);refine wpAnyH_done (by kernel_rfl) ?_ _;go_wp2_with fail;go_ret2;refine BePo.grow HA.out HX.out ?_;rw [HHd.out, Int.toNat_natCast, hg];exact ⟨tb, vN, vS, NL, SL, rfl, hgp.up (below_then HB.out HBd.out)⟩
end
section
open Go.RowKit

def beR (N : Nt) (LL : List (List Int)) (place most : Int) : Sum Int TS :=
 if LL.all (mkB N) then (if badR N place most then .inl 2 else match growT N (LL.headD []) most.toNat with | some T => .inr T | none => .inl 13) else .inl 1
theorem BePo.parts {N : Nt} {LL : List (List Int)} {place most : Int} {w w' : World} {e : Ending} (h : BePo N LL place most w e w') :
 (∃ k : Int, beR N LL place most = .inl k ∧ (k != 0) = true ∧ e = .returned (.tuple #[.pointer none, .int .i64 k]) ∧ Below w.heap.size w w') ∨
 ∃ T tb vN vS NL SL, beR N LL place most = .inr T ∧ e = .returned (.tuple #[.pointer (some ⟨tb, 0, none⟩), .int .i64 0]) ∧ GP w w' tb vN vS NL SL T ∧ growT N (LL.headD []) most.toNat = some T ∧ LL.all (mkB N) = true := by
 unfold BePo at h;unfold beR;cases h1 : LL.all (mkB N) with
 | false =>
  rw [h1] at h;exact .inl ⟨1, rfl, rfl, h.1, h.2⟩
 | true =>
  rw [h1] at h;simp only [if_true] at h ⊢;cases h2 : badR N place most with
  | true =>
   rw [h2] at h;exact .inl ⟨2, rfl, rfl, h.1, h.2⟩
  | false =>
   rw [h2] at h;simp only [Bool.false_eq_true, if_false] at h ⊢;cases h3 : growT N (LL.headD []) most.toNat with
   | none =>
    rw [h3] at h;exact .inl ⟨13, rfl, rfl, h.1, h.2⟩
   | some T =>
    rw [h3] at h;obtain ⟨tb, vN, vS, NL, SL, h4, h5⟩ : ∃ tb vN vS NL SL, e = .returned (.tuple #[.pointer (some ⟨tb, 0, none⟩), .int .i64 0]) ∧ GP w w' tb vN vS NL SL T := h;exact .inr ⟨T, tb, vN, vS, NL, SL, rfl, h4, h5, rfl, trivial⟩
theorem grow_good {N : Nt} {M : List Int} {most : Nat} {T : TS} (hv : mkB N M = true) (h : growT N M most = some T) : TInv N M T ∧ Done N T ∧ netOk N M.length ∧ isM M :=
 ⟨(growT_inv h).1, (growT_inv h).2, netOk_of (mk_nt hv) (mk_len hv), mkM hv⟩
theorem TInv.slen {N : Nt} {M : List Int} {T : TS} (h : TInv N M T) (hN : netOk N M.length) (hM : isM M) : ∀ s ∈ T.states, s.length = M.length := by
 intro s hs;obtain ⟨q, hq, rfl⟩ := List.getElem_of_mem hs;obtain ⟨j, d, hd, _, hst⟩ := h.own q hq;have hst2 := h.st j d hd;rw [hst, List.getElem?_eq_getElem hq] at hst2;have e := Option.some.inj hst2;rw [e]; exact (h.fine hN hM j d hd).lm
theorem lin_one {w : World} {Am : Option Addr} {m cm : Nat} {M : List Int} (hz : ZIn w Am M) (hm : M.length = m) (h1 : m ≤ cm) (h2 : cm ≤ 9223372036854775807) : LIn (w.alloc (.cells #[.slice Am m cm] 27)) (some ⟨w.heap.size, 0, none⟩) [M] := by
 intro i hi;have hi0 : i = 0 := by simp at hi; omega
 subst hi0;have hn := heap_alloc_new w (.cells #[.slice Am m cm] 27);refine ⟨_, rfl, by rw [add_block]; simp, .slice Am m cm, ?_, Am, m, cm, rfl, hz.below (below_alloc w _), hm, h1, h2⟩;rw [add0];simp only [World.cell?, hn];rfl
theorem bset3 {w w1 : World} {b : Nat} (h : Below w.heap.size w w1) (hb : w.heap.size ≤ b) (u v x : Value) : Below w.heap.size w (((w1.setCell ⟨b, 0, none⟩ u).setCell ⟨b, 1, none⟩ v).setCell ⟨b, 2, none⟩ x) :=
 ((h.setCell (p := ⟨b, 0, none⟩) hb u).setCell (p := ⟨b, 1, none⟩) hb v).setCell (p := ⟨b, 2, none⟩) hb x
def GphPo (N : Nt) (M : List Int) (most : Int) (w : World) (e : Ending) (w' : World) : Prop :=
 Below w.heap.size w w' ∧ match beR N [M] 0 most with
 | .inl k => e = .returned (.tuple #[.agg #[.slice none 0 0, .slice none 0 0, .bool false], .int .i64 k])
 | .inr T => ∃ vS vM, e = .returned (.tuple #[.agg #[vS, vM, .bool true], .int .i64 0]) ∧ OLL w w' vS T.states ∧ OMv w w' vM (movesOf T)
theorem GphPo.no {N : Nt} {M : List Int} {most : Int} {w w' : World} {e : Ending} {k : Int} (h : beR N [M] 0 most = .inl k) (hb : Below w.heap.size w w') (he : e = .returned (.tuple #[.agg #[.slice none 0 0, .slice none 0 0, .bool false], .int .i64 k])) : GphPo N M most w e w' := by
 refine ⟨hb, ?_⟩; rw [h]; exact he
theorem GphPo.yes {N : Nt} {M : List Int} {most : Int} {w w' : World} {e : Ending} {T : TS} {vS vM : Value} (h : beR N [M] 0 most = .inr T) (he : e = .returned (.tuple #[.agg #[vS, vM, .bool true], .int .i64 0])) (hs : OLL w w' vS T.states) (hm : OMv w w' vM (movesOf T)) : GphPo N M most w e w' := by
 refine ⟨hs.bel, ?_⟩; rw [h]; exact ⟨vS, vM, he, hs, hm⟩
theorem graph_any (N : Nt) (A : Option Addr) (n c : Nat) (Am : Option Addr) (m cm : Nat) (M : List Int) (most : Int) (w : World) (h : NtIn w A N) (hn : N.tr.length = n) (hn2 : n ≤ 9223372036854775807) (hM : ZIn w Am M) (hm : M.length = m) (hm1 : m ≤ cm) (hm2 : cm ≤ 9223372036854775807) (ht : Tb w) :
 Calls Tryz.prog 117 #[.agg #[.int .i64 N.pl, .slice A n c, .int .i64 N.src, .int .i64 N.snk], .slice Am m cm, .int .i64 most] w (GphPo N M most w) := by
 have HB := hid (two_boxes w (.cells #[.int .i64 N.pl, .slice A n c, .int .i64 N.src, .int .i64 N.snk] 24) (.cells #[.slice none 0 0, .slice none 0 0, .bool false] 41));have hnew := heap_alloc_new (w.alloc (.cells #[.int .i64 N.pl, .slice A n c, .int .i64 N.src, .int .i64 N.snk] 24)) (.cells #[.slice none 0 0, .slice none 0 0, .bool false] 41);rw [World.size_alloc] at hnew;have HRb := hid (show SpB _ (w.heap.size + 1) (.slice none 0 0) (.slice none 0 0) false from hnew);have HNb := hid ((NB.new w N.pl A n c N.src N.snk).below (below_alloc _ (.cells #[.slice none 0 0, .slice none 0 0, .bool false] 41)));have hs0 : ((w.alloc (.cells #[.int .i64 N.pl, .slice A n c, .int .i64 N.src, .int .i64 N.snk] 24)).alloc (.cells #[.slice none 0 0, .slice none 0 0, .bool false] 41)).heap.size = w.heap.size + 1 + 1 := by simp
 have HIn := hid (h.below HB.out);have HZ := hid (hM.below HB.out);have HT := hid (ht.below HB.out);clear h hM ht hnew;go_enter Tryz.func117, Tryz.ntmps117;go_wp2_with fail;generalize hrb : w.heap.size + 1 = rb at *;generalize (w.alloc _).alloc _ = w0 at *;obtain ⟨b0, b1, b2, b3⟩ := HNb.out.cells;have hrbw : w.heap.size ≤ rb := by omega
 clear hrb;have HL := hid (lin_one HZ.out hm hm1 hm2);have HBe := hid (begin_any N A n c (some ⟨w0.heap.size, 0, none⟩) 1 1 [M] 0 most _ (HIn.out.below (below_alloc w0 (.cells #[.slice Am m cm] 27))) hn hn2 HL.out rfl (by decide) (by decide) (HT.out.below (below_alloc w0 _)));rw [hs0] at HBe;have HAl := hid (below_alloc w0 (.cells #[.slice Am m cm] 27));((with_reducible refine HBe.out.mono ?_); rintro e w1 hP)
 rcases hP.parts with ⟨k, hR, hk, rfl, hb1⟩ | ⟨T, tb, vN, vS, NL, SL, hR, rfl, hgp, hgr, hall⟩
 · have HR := hid hR;have HRb1 := hid ((HRb.out.below HAl.out).below hb1);have HB1 := hid (below_then HB.out (below_then HAl.out hb1));clear hR hb1 hP HBe HL HIn HZ HT b0 b1 b2 b3 HNb;obtain ⟨r0, r1, r2⟩ := HRb1.out.cells;have rf0 := HRb1.out.soft 0;have rf1 := HRb1.out.soft 1;have rf2 := HRb1.out.soft 2;have HRe := hid (((HRb1.out.set0 (.slice none 0 0)).set1 (.slice none 0 0)).set2 false);have HBe := hid (bset3 HB1.out hrbw (.slice none 0 0) (.slice none 0 0) (.bool false));go_wp2_with fail;generalize ((w1.setCell ⟨rb, 0, none⟩ _).setCell ⟨rb, 1, none⟩ _).setCell ⟨rb, 2, none⟩ _ = we at *;obtain ⟨d0, d1, d2⟩ := HRe.out.cells;exact bodyPost_ret (v := .tuple #[.agg #[.slice none 0 0, .slice none 0 0, .bool false], .int .i64 k]) (by simp [results, Tryz.results117, go_sem, d0, d1, d2]) rfl (GphPo.no HR.out HBe.out rfl)
 · have hgood := grow_good (N := N) (M := M) (by simpa using hall) hgr;have HR := hid hR;have HSp := hid (space_any w0 tb vN vS NL SL N M T w1 (hgp.up HAl.out) hgood.1 (fun s hs => by
    have h1 := hgood.1.slen hgood.2.2.1 hgood.2.2.2 s hs;have h2 := mk_len (N := N) (M := M) (by simpa using hall);have h3 := nt_small (mk_nt (N := N) (M := M) (by simpa using hall));omega))
   have HRb1 := hid ((HRb.out.below HAl.out).below hgp.bel);have HB1 := hid (below_then HB.out (below_then HAl.out hgp.bel));clear hR hP HBe HL HIn HZ HT b0 b1 b2 b3 HNb hgood hgr hall hgp;go_wp2_with fail;((with_reducible refine HSp.out.mono ?_); rintro e w2 ⟨vS2, vM2, rfl, hO, hMv⟩)
   have HRb2 := hid (HRb1.out.below hO.bel);have HB2 := hid (below_then HB1.out hO.bel);have HO := hid (hO.up HB1.out);have HM := hid (hMv.up HB1.out);obtain ⟨Aa, ca, rfl⟩ := hO.slice;obtain ⟨Ab, cb, rfl⟩ := hMv.slice;clear HSp hO hMv;obtain ⟨r0, r1, r2⟩ := HRb2.out.cells;have rf0 := HRb2.out.soft 0;have rf1 := HRb2.out.soft 1;have rf2 := HRb2.out.soft 2;have HRc := hid (HRb2.out.set0 (.slice Aa T.states.length ca));have HRd := hid (HRc.out.set1 (.slice Ab (movesOf T).length cb));have HRe := hid (HRd.out.set2 true);have HOe := hid (((HO.out.box (o := 0) HRb2.out (by decide) (by decide) hrbw (.slice Aa T.states.length ca)).box (o := 1) HRc.out (by decide) (by decide) hrbw (.slice Ab (movesOf T).length cb)).box (o := 2) HRd.out (by decide) (by decide) hrbw (.bool true));have HMe := hid (((HM.out.box (o := 0) HRb2.out (by decide) hrbw (.slice Aa T.states.length ca)).box (o := 1) HRc.out (by decide) hrbw (.slice Ab (movesOf T).length cb)).box (o := 2) HRd.out (by decide) hrbw (.bool true));clear HRc HRd;go_wp2_with fail;generalize ((w2.setCell ⟨rb, 0, none⟩ _).setCell ⟨rb, 1, none⟩ _).setCell ⟨rb, 2, none⟩ _ = we at *;obtain ⟨d0, d1, d2⟩ := HRe.out.cells;exact bodyPost_ret (v := .tuple #[.agg #[.slice Aa T.states.length ca, .slice Ab (movesOf T).length cb, .bool true], .int .i64 0]) (by simp [results, Tryz.results117, go_sem, d0, d1, d2]) rfl (GphPo.yes HR.out rfl HOe.out HMe.out)
end
section
open Go.RowKit

theorem moves_ok {N : Nt} {M : List Int} {T : TS} (h : TInv N M T) : mvOk (movesOf T) T.states.length ∧ ∀ x ∈ movesOf T, 0 ≤ x.s ∧ x.s < (N.tr.length : Int) := by
 have key : ∀ x ∈ movesOf T, (0 ≤ x.f ∧ x.f < (T.states.length : Int) ∧ 0 ≤ x.t ∧ x.t < (T.states.length : Int)) ∧ 0 ≤ x.s ∧ x.s < (N.tr.length : Int) := by
  intro x hx;unfold movesOf at hx;obtain ⟨d, hd, rfl⟩ := List.mem_map.1 hx;obtain ⟨j, hj, rfl⟩ := List.getElem_of_mem hd;rw [List.length_drop] at hj;rw [List.getElem_drop];have hdj : T.nodes[1 + j]? = some T.nodes[1 + j] := List.getElem?_eq_getElem (by omega);obtain ⟨i, k, e, t, hij, h1, h2, h3, _, h5, _⟩ := h.par (1 + j) _ hdj (by omega);have s1 := (List.getElem?_eq_some_iff.1 (h.st _ _ hdj)).1;have s2 := (List.getElem?_eq_some_iff.1 (h.st _ _ h3)).1;have s3 := (List.getElem?_eq_some_iff.1 h5).1;unfold mvOf;simp only;rw [h1, Int.toNat_natCast, h3, h2];simp only;omega
 exact ⟨fun x hx => (key x hx).1, fun x hx => (key x hx).2⟩
def backL (MV : List Mv) (n : Nat) : List (List Int) := (List.range n).map fun t : Nat => (MV.filter fun x => decide (x.t = ((t : Nat) : Int))).map Mv.f
theorem backL_len (MV : List Mv) (n : Nat) : (backL MV n).length = n := by simp [backL]
theorem backL_at (MV : List Mv) (n t : Nat) (h : t < n) : (backL MV n)[t]? = some ((MV.filter fun x => decide (x.t = (t : Int))).map Mv.f) := by
 unfold backL; rw [List.getElem?_map, List.getElem?_range h]; rfl
theorem backL_nil (n : Nat) : backL [] n = List.replicate n [] := by
 apply List.ext_getElem?;intro t;rcases Nat.lt_or_ge t n with h | h
 · rw [backL_at [] n t h]; simp [h]
 · rw [List.getElem?_eq_none (by rw [backL_len]; exact h), List.getElem?_eq_none (by simpa using h)]
theorem backL_short (MV : List Mv) (n t : Nat) {s : List Int} (h : (backL MV n)[t]? = some s) : s.length ≤ MV.length := by
 have ht : t < n := by have := (List.getElem?_eq_some_iff.1 h).1; rwa [backL_len] at this
 rw [backL_at MV n t ht] at h; cases h;rw [List.length_map]; exact List.length_filter_le _ _
theorem backL_mem (MV : List Mv) (n t : Nat) {s : List Int} (h : (backL MV n)[t]? = some s) (f : Int) : f ∈ s ↔ ∃ x ∈ MV, x.t = (t : Int) ∧ x.f = f := by
 have ht : t < n := by have := (List.getElem?_eq_some_iff.1 h).1; rwa [backL_len] at this
 rw [backL_at MV n t ht] at h; cases h;simp [and_assoc]
theorem backL_take (MV : List Mv) (n k t : Nat) (hk : k < MV.length) (ht : MV[k].t = (t : Int)) (htn : t < n) {s : List Int} (hs : (backL (MV.take k) n)[t]? = some s) : backL (MV.take (k + 1)) n = (backL (MV.take k) n).set t (s ++ [MV[k].f]) := by
 rw [backL_at _ n t htn] at hs; cases hs;apply List.ext_getElem?;intro q;rw [List.getElem?_set];rcases Nat.lt_or_ge q n with h | h
 · rw [backL_at _ n q h, backL_at _ n q h, List.take_succ_eq_append_getElem hk, List.filter_append, List.map_append];by_cases e : t = q
   · subst e;rw [if_pos rfl, if_pos (by rw [backL_len]; exact htn)];simp [ht]
   · rw [if_neg e];have : ¬ ((t : Int) = (q : Int)) := by omega
     simp [ht, this]
 · rw [List.getElem?_eq_none (by rw [backL_len]; exact h), if_neg (by omega), List.getElem?_eq_none (by rw [backL_len]; exact h)]
structure BK (B : Nat) (wr : World) (v : Value) (SL : List Value) (LL : List (List Int)) : Prop where
 row : wr.ownsRow B 27 1 v SL.length SL
 len : SL.length = LL.length
 els : ∀ (k : Nat) (x : Value) (s : List Int), SL[k]? = some x → LL[k]? = some s → wr.ownsRow B 3 1 x s.length (s.map (Value.int .i64))
 apart : ∀ (j k : Nat) (x y : Value), j ≠ k → SL[j]? = some x → SL[k]? = some y → x.ownBlock = none ∨ x.ownBlock ≠ y.ownBlock
section
variable {B : Nat} {wr w' : World} {v : Value} {SL : List Value} {LL : List (List Int)}
theorem BK.kept (h : BK B wr v SL LL) {row : Option Nat} (hg : wr.grownBy w' row) (h1 : v.ownBlock = none ∨ v.ownBlock ≠ row) (h2 : ∀ (k : Nat) (x : Value), SL[k]? = some x → x.ownBlock = none ∨ x.ownBlock ≠ row) : BK B w' v SL LL :=
 ⟨h.row.kept hg h1, h.len, fun k x s hx hs => (h.els k x s hx hs).kept hg (h2 k x hx), h.apart⟩
theorem BK.below (h : BK B wr v SL LL) (hb : Below wr.heap.size wr w') : BK B w' v SL LL :=
 ⟨own_stays h.row hb, h.len, fun k x s hx hs => own_stays (h.els k x s hx hs) hb, h.apart⟩
theorem BK.lt (h : BK B wr v SL LL) : (∀ g, v.ownBlock = some g → B ≤ g ∧ g < wr.heap.size) ∧ ∀ (k : Nat) (x : Value) (g : Nat), SL[k]? = some x → x.ownBlock = some g → B ≤ g ∧ g < wr.heap.size := by
 refine ⟨fun g hg => h.row.lt g hg, fun k x g hx hg => ?_⟩;have hk : k < LL.length := by rw [← h.len]; exact (List.getElem?_eq_some_iff.1 hx).1
 exact (h.els k x _ hx (List.getElem?_eq_getElem hk)).lt g hg
theorem BK.far (h : BK B wr v SL LL) {U : Nat} (hU : (∀ g, v.ownBlock = some g → B ≤ g ∧ g < U) ∧ ∀ (k : Nat) (x : Value) (g : Nat), SL[k]? = some x → x.ownBlock = some g → B ≤ g ∧ g < U) {row : Option Nat} (hg : wr.grownBy w' row) (hr : ∀ g, row = some g → g < B ∨ U ≤ g) : BK B w' v SL LL := by
 have key : ∀ x : Value, (∀ g, x.ownBlock = some g → B ≤ g ∧ g < U) → x.ownBlock = none ∨ x.ownBlock ≠ row := by
  intro x hx;cases hb : x.ownBlock with
  | none => exact .inl rfl
  | some g =>
   refine .inr fun e => ?_
   have := hx g hb; have := hr g e.symm; omega
 exact h.kept hg (key v hU.1) fun k x hx => key x fun g hg => hU.2 k x g hx hg
theorem BK.at_ (h : BK B wr v SL LL) {g n c : Nat} (hv : v = .slice (some ⟨g, 0, none⟩) n c) {k : Nat} {s : List Int} (hk : LL[k]? = some s) :
 ∃ u, SL[k]? = some u ∧ g < wr.heap.size ∧ wr.cell? ⟨g, k, none⟩ = some u ∧ wr.frozen? ⟨g, k, none⟩ = false ∧ wr.ownsRow B 3 1 u s.length (s.map (Value.int .i64)) := by
 have hl : k < SL.length := by rw [h.len]; exact (List.getElem?_eq_some_iff.1 hk).1
 have hu : SL[k]? = some SL[k] := List.getElem?_eq_getElem hl;subst hv;refine ⟨SL[k], hu, (h.row.lt g rfl).2, ?_, ?_, h.els k _ s hu hk⟩
 · have hc := h.row.cells (g := g) rfl k _ hu;have ha : (⟨g, 0, none⟩ : Addr).add k = ⟨g, k, none⟩ := by unfold Addr.add; split <;> simp_all
   rw [ha] at hc; exact hc
 · obtain ⟨cur, hc⟩ := own_kind h.row rfl;simp [World.frozen?, hc]
theorem BK.push {g n c : Nat} (h : BK B wr (.slice (some ⟨g, 0, none⟩) n c) SL LL) {t : Nat} {u v' : Value} {s : List Int} (hu : SL[t]? = some u) (hs : LL[t]? = some s) {o : Obj} {x : Int}
 (ho : w'.ownsRow B 3 1 v' (s.length + 1) (s.map (Value.int .i64) ++ [.int .i64 x])) (hg : (wr.alloc o).grownBy w' u.ownBlock) (hat : v'.ownBlock = u.ownBlock ∨ v'.ownBlock = some (wr.alloc o).heap.size) :
 BK B (w'.setCell ⟨g, t, none⟩ v') (.slice (some ⟨g, 0, none⟩) n c) (SL.set t v') (LL.set t (s ++ [x])) := by
 have hu' := h.els t u s hu hs;have ha := h.below (below_alloc wr o);have hset : w'.grownBy (w'.setCell ⟨g, t, none⟩ v') (some g) := Lib.grownBy_setB (grown_refl w' (some g)) t v';have hrow : w'.ownsRow B 27 1 (.slice (some ⟨g, 0, none⟩) n c) SL.length SL := ha.row.kept hg (own_apart ha.row (hu'.alloc o) (by decide));obtain ⟨cur, hcur⟩ := own_kind hrow rfl;have hlt := h.lt;have htl : t < SL.length := (List.getElem?_eq_some_iff.1 hu).1;have hn : n = SL.length := by
  rcases hrow.2 with ⟨hv, _⟩ | ⟨g', cap, cur, hv, _⟩
  · cases hv
  · cases hv; rfl
 subst hn;refine ⟨?_, by rw [List.length_set, List.length_set]; exact h.len, ?_, ?_⟩
 · have := (hrow.stored t v').1;rw [List.length_set]; exact this
 · intro k y q hy hq;rw [List.getElem?_set] at hy hq;by_cases e : t = k
   · subst e;rw [if_pos rfl, if_pos htl] at hy;rw [if_pos rfl, if_pos (by rw [← h.len]; exact htl)] at hq;cases hy; cases hq;rw [List.length_append, List.map_append];exact ho.kept hset (own_other ho hcur (by decide))
   · rw [if_neg e] at hy hq;have h1 := ha.els k y q hy hq;have h2 := h1.kept hg (h.apart k t y u (fun e' => e e'.symm) hy hu);exact h2.kept hset (own_other h2 hcur (by decide))
 · intro j k y z hjk hy hz;rw [List.getElem?_set] at hy hz;have old : ∀ (k : Nat) (z : Value), t ≠ k → SL[k]? = some z → z.ownBlock = none ∨ z.ownBlock ≠ v'.ownBlock := by
    intro k z e hz;rcases hat with e1 | e1
    · rw [e1]; exact h.apart k t z u (fun e' => e e'.symm) hz hu
    · rw [e1];cases hb : z.ownBlock with
      | none => exact .inl rfl
      | some b =>
       refine .inr fun e2 => ?_
       have := hlt.2 k z b hz hb;have := Option.some.inj e2;simp at this; omega
   by_cases e1 : t = j
   · rw [if_pos e1, if_pos htl] at hy;cases hy;rw [if_neg (by omega)] at hz;rcases old k z (by omega) hz with h1 | h1
     · cases hv : v'.ownBlock with
       | none => exact .inl rfl
       | some b => exact .inr (by rw [h1]; simp)
     · exact .inr fun e => h1 e.symm
   · rw [if_neg e1] at hy;by_cases e2 : t = k
     · rw [if_pos e2, if_pos htl] at hz;cases hz;exact old j y e1 hy
     · rw [if_neg e2] at hz;exact h.apart j k y z hjk hy hz
end
theorem BK.start {B : Nat} {w : World} {n : Nat} (hB : B ≤ w.heap.size) (hn : n ≤ 1000000) : BK B (w.alloc (.cells (madeCells #[.slice none 0 0] n) 27)) (.slice (some ⟨w.heap.size, 0, none⟩) n n) (List.replicate n (.slice none 0 0)) (List.replicate n []) := by
 have ho := World.ownsRow_lit (base := B) (e := 27) (size := 1) w (madeCells #[.slice none 0 0] n) n hB (by unfold maxLen; omega) (by simp [madeCells]);rw [toList_madeCells_one] at ho;refine ⟨by rw [List.length_replicate]; exact ho, by simp, fun k x s hx hs => ?_, fun j k x y _ hx _ => ?_⟩
 · have h1 : x = .slice none 0 0 := List.eq_of_mem_replicate (List.mem_of_getElem? hx);have h2 : s = [] := List.eq_of_mem_replicate (List.mem_of_getElem? hs);subst h1 h2;exact World.ownsRow_nil _ _ _ _
 · have h1 : x = .slice none 0 0 := List.eq_of_mem_replicate (List.mem_of_getElem? hx);subst h1; exact .inl rfl
theorem step_append_at {P : Program} {w : World} {ops : Array Oper} {o : Oper} {a : Act} {K : Act → World → Prop} {Q : Exit → Act → World → Prop} {E : Prop} (hgd : o.guard = none) (s x : Operand) (t : TypeId)
 (ho : o.op = .call { callee := .builtin .append, args := #[s, x], argTypes := #[t, t] })
 (base : Nat) (e : TypeId) (i : TypeInfo) (z : Value) (size bytes : Nat) (ht : P.underlying t = some (.slice e)) (hi : P.info? e = some i) (hz : i.zero = some z)
 (hsize : i.size = size) (hby : i.bytes = bytes) (hzs : z.cells.size = size) (hsz : 0 < size)
 (v : Value) (n : Nat) (xs : List Value) (hs : a.eval s = v) (hown : w.ownsRow base e size v n xs)
 (ad : Addr) (m c : Nat) (news : List Value) (hx : a.eval x = .slice (some ad) m c) (hl : news.length = m * size) (hnews : ∀ j u, news[j]? = some u → w.cell? (ad.add j) = some u) (h1 : ∀ u ∈ news, u.oneCell' = true)
 (h63 : n + m ≤ maxLen) (hbytes : (n + m) * bytes ≤ 140737488355328) (hbase : base ≤ w.heap.size)
 (h : ∀ v' w', w'.ownsRow base e size v' (n + m) (xs ++ news) → w.grownBy w' v.ownBlock → (v'.ownBlock = v.ownBlock ∨ v'.ownBlock = some w.heap.size) → K (a.put o.dst v') w') :
 if Region.wanted o (yielded ops a.tmps) = true then Oper.wp P o a w K Q else E := by
 have hw : Region.wanted o (yielded ops a.tmps) = true := by simp [Region.wanted, hgd]
 rw [if_pos hw];obtain ⟨v', w', hr, h2, h3, _, h5⟩ := run_append_own_at (P := P) w base t o.type e i z size bytes ht hi hz hsize hby hzs hsz v n xs hown ad m c news hl hnews h1 h63 hbytes hbase;unfold Oper.wp execOp;simp only [ho, resolve, invoke, builtin, Sem.run_bind, Sem.run_pure, Result.andThen_ok, List.map_toArray, List.map_cons, List.map_nil, hs, hx, hr];exact h v' w' h2 h3 h5
end
section
open Go.RowKit

def outL (MV : List Mv) (n : Nat) : List (List Mv) := (List.range n).map fun t : Nat => MV.filter fun x => decide (x.f = ((t : Nat) : Int))
theorem outL_len (MV : List Mv) (n : Nat) : (outL MV n).length = n := by simp [outL]
theorem outL_at (MV : List Mv) (n t : Nat) (h : t < n) : (outL MV n)[t]? = some (MV.filter fun x => decide (x.f = (t : Int))) := by
 unfold outL; rw [List.getElem?_map, List.getElem?_range h]; rfl
theorem outL_nil (n : Nat) : outL [] n = List.replicate n [] := by
 apply List.ext_getElem?;intro t;rcases Nat.lt_or_ge t n with h | h
 · rw [outL_at [] n t h]; simp [h]
 · rw [List.getElem?_eq_none (by rw [outL_len]; exact h), List.getElem?_eq_none (by simpa using h)]
theorem outL_short (MV : List Mv) (n t : Nat) {s : List Mv} (h : (outL MV n)[t]? = some s) : s.length ≤ MV.length := by
 have ht : t < n := by have := (List.getElem?_eq_some_iff.1 h).1; rwa [outL_len] at this
 rw [outL_at MV n t ht] at h; cases h;exact List.length_filter_le _ _
theorem outL_mem (MV : List Mv) (n t : Nat) {s : List Mv} (h : (outL MV n)[t]? = some s) (x : Mv) : x ∈ s ↔ x ∈ MV ∧ x.f = (t : Int) := by
 have ht : t < n := by have := (List.getElem?_eq_some_iff.1 h).1; rwa [outL_len] at this
 rw [outL_at MV n t ht] at h; cases h;simp
theorem outL_take (MV : List Mv) (n k t : Nat) (hk : k < MV.length) (ht : MV[k].f = (t : Int)) (htn : t < n) {s : List Mv} (hs : (outL (MV.take k) n)[t]? = some s) : outL (MV.take (k + 1)) n = (outL (MV.take k) n).set t (s ++ [MV[k]]) := by
 rw [outL_at _ n t htn] at hs; cases hs;apply List.ext_getElem?;intro q;rw [List.getElem?_set];rcases Nat.lt_or_ge q n with h | h
 · rw [outL_at _ n q h, outL_at _ n q h, List.take_succ_eq_append_getElem hk, List.filter_append];by_cases e : t = q
   · subst e;rw [if_pos rfl, if_pos (by rw [outL_len]; exact htn)];simp [ht]
   · rw [if_neg e];have : ¬ ((t : Int) = (q : Int)) := by omega
     simp [ht, this]
 · rw [List.getElem?_eq_none (by rw [outL_len]; exact h), if_neg (by omega), List.getElem?_eq_none (by rw [outL_len]; exact h)]
structure BM (B : Nat) (wr : World) (v : Value) (SL : List Value) (LL : List (List Mv)) : Prop where
 row : wr.ownsRow B 29 1 v SL.length SL
 len : SL.length = LL.length
 els : ∀ (k : Nat) (x : Value) (s : List Mv), SL[k]? = some x → LL[k]? = some s → wr.ownsRow B 113 3 x s.length (s.flatMap mvC)
 apart : ∀ (j k : Nat) (x y : Value), j ≠ k → SL[j]? = some x → SL[k]? = some y → x.ownBlock = none ∨ x.ownBlock ≠ y.ownBlock
section
variable {B : Nat} {wr w' : World} {v : Value} {SL : List Value} {LL : List (List Mv)}
theorem BM.below (h : BM B wr v SL LL) (hb : Below wr.heap.size wr w') : BM B w' v SL LL :=
 ⟨own_stays h.row hb, h.len, fun k x s hx hs => own_stays (h.els k x s hx hs) hb, h.apart⟩
theorem BM.lt (h : BM B wr v SL LL) : (∀ g, v.ownBlock = some g → B ≤ g ∧ g < wr.heap.size) ∧ ∀ (k : Nat) (x : Value) (g : Nat), SL[k]? = some x → x.ownBlock = some g → B ≤ g ∧ g < wr.heap.size := by
 refine ⟨fun g hg => h.row.lt g hg, fun k x g hx hg => ?_⟩;have hk : k < LL.length := by rw [← h.len]; exact (List.getElem?_eq_some_iff.1 hx).1
 exact (h.els k x _ hx (List.getElem?_eq_getElem hk)).lt g hg
theorem BM.at_ (h : BM B wr v SL LL) {g n c : Nat} (hv : v = .slice (some ⟨g, 0, none⟩) n c) {k : Nat} {s : List Mv} (hk : LL[k]? = some s) :
 ∃ u, SL[k]? = some u ∧ g < wr.heap.size ∧ wr.cell? ⟨g, k, none⟩ = some u ∧ wr.frozen? ⟨g, k, none⟩ = false ∧ wr.ownsRow B 113 3 u s.length (s.flatMap mvC) := by
 have hl : k < SL.length := by rw [h.len]; exact (List.getElem?_eq_some_iff.1 hk).1
 have hu : SL[k]? = some SL[k] := List.getElem?_eq_getElem hl;subst hv;refine ⟨SL[k], hu, (h.row.lt g rfl).2, ?_, ?_, h.els k _ s hu hk⟩
 · have hc := h.row.cells (g := g) rfl k _ hu;have ha : (⟨g, 0, none⟩ : Addr).add k = ⟨g, k, none⟩ := by unfold Addr.add; split <;> simp_all
   rw [ha] at hc; exact hc
 · obtain ⟨cur, hc⟩ := own_kind h.row rfl;simp [World.frozen?, hc]
theorem BM.push {g n c : Nat} (h : BM B wr (.slice (some ⟨g, 0, none⟩) n c) SL LL) {t : Nat} {u v' : Value} {s : List Mv} (hu : SL[t]? = some u) (hs : LL[t]? = some s) {o : Obj} {x : Mv}
 (ho : w'.ownsRow B 113 3 v' (s.length + 1) (s.flatMap mvC ++ mvC x)) (hg : (wr.alloc o).grownBy w' u.ownBlock) (hat : v'.ownBlock = u.ownBlock ∨ v'.ownBlock = some (wr.alloc o).heap.size) :
 BM B (w'.setCell ⟨g, t, none⟩ v') (.slice (some ⟨g, 0, none⟩) n c) (SL.set t v') (LL.set t (s ++ [x])) := by
 have hu' := h.els t u s hu hs;have ha := h.below (below_alloc wr o);have hset : w'.grownBy (w'.setCell ⟨g, t, none⟩ v') (some g) := Lib.grownBy_setB (grown_refl w' (some g)) t v';have hrow : w'.ownsRow B 29 1 (.slice (some ⟨g, 0, none⟩) n c) SL.length SL := ha.row.kept hg (own_apart ha.row (hu'.alloc o) (by decide));obtain ⟨cur, hcur⟩ := own_kind hrow rfl;have hlt := h.lt;have htl : t < SL.length := (List.getElem?_eq_some_iff.1 hu).1;have hn : n = SL.length := by
  rcases hrow.2 with ⟨hv, _⟩ | ⟨g', cap, cur, hv, _⟩
  · cases hv
  · cases hv; rfl
 subst hn;refine ⟨?_, by rw [List.length_set, List.length_set]; exact h.len, ?_, ?_⟩
 · have := (hrow.stored t v').1;rw [List.length_set]; exact this
 · intro k y q hy hq;rw [List.getElem?_set] at hy hq;by_cases e : t = k
   · subst e;rw [if_pos rfl, if_pos htl] at hy;rw [if_pos rfl, if_pos (by rw [← h.len]; exact htl)] at hq;cases hy; cases hq;rw [List.length_append, List.flatMap_append, show [x].flatMap mvC = mvC x by simp];exact ho.kept hset (own_other ho hcur (by decide))
   · rw [if_neg e] at hy hq;have h1 := ha.els k y q hy hq;have h2 := h1.kept hg (h.apart k t y u (fun e' => e e'.symm) hy hu);exact h2.kept hset (own_other h2 hcur (by decide))
 · intro j k y z hjk hy hz;rw [List.getElem?_set] at hy hz;have old : ∀ (k : Nat) (z : Value), t ≠ k → SL[k]? = some z → z.ownBlock = none ∨ z.ownBlock ≠ v'.ownBlock := by
    intro k z e hz;rcases hat with e1 | e1
    · rw [e1]; exact h.apart k t z u (fun e' => e e'.symm) hz hu
    · rw [e1];cases hb : z.ownBlock with
      | none => exact .inl rfl
      | some b =>
       refine .inr fun e2 => ?_
       have := hlt.2 k z b hz hb;have := Option.some.inj e2;simp at this; omega
   by_cases e1 : t = j
   · rw [if_pos e1, if_pos htl] at hy;cases hy;rw [if_neg (by omega)] at hz;rcases old k z (by omega) hz with h1 | h1
     · cases hv : v'.ownBlock with
       | none => exact .inl rfl
       | some b => exact .inr (by rw [h1]; simp)
     · exact .inr fun e => h1 e.symm
   · rw [if_neg e1] at hy;by_cases e2 : t = k
     · rw [if_pos e2, if_pos htl] at hz;cases hz;exact old j y e1 hy
     · rw [if_neg e2] at hz;exact h.apart j k y z hjk hy hz
end
theorem BM.start {B : Nat} {w : World} {n : Nat} (hB : B ≤ w.heap.size) (hn : n ≤ 1000000) : BM B (w.alloc (.cells (madeCells #[.slice none 0 0] n) 29)) (.slice (some ⟨w.heap.size, 0, none⟩) n n) (List.replicate n (.slice none 0 0)) (List.replicate n []) := by
 have ho := World.ownsRow_lit (base := B) (e := 29) (size := 1) w (madeCells #[.slice none 0 0] n) n hB (by unfold maxLen; omega) (by simp [madeCells]);rw [toList_madeCells_one] at ho;refine ⟨by rw [List.length_replicate]; exact ho, by simp, fun k x s hx hs => ?_, fun j k x y _ hx _ => ?_⟩
 · have h1 : x = .slice none 0 0 := List.eq_of_mem_replicate (List.mem_of_getElem? hx);have h2 : s = [] := List.eq_of_mem_replicate (List.mem_of_getElem? hs);subst h1 h2;exact World.ownsRow_nil _ _ _ _
 · have h1 : x = .slice none 0 0 := List.eq_of_mem_replicate (List.mem_of_getElem? hx);subst h1; exact .inl rfl
end
end Go.Proofs.YtkhmngljpfibcaaGreatDoor
