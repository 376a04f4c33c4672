/- cover.begin and cover.Graph: what a call returns. cover.Graph: what a call returns. -/
import Derived.Test.YtpiihmbeedlpkaaGreatDoorPUu
import Derived.Test.YtpiihmbeedlpkaaGreatDoorPDl
namespace Go.Proofs.YtpiihmbeedlpkaaGreatDoor
set_option maxRecDepth 100000
set_option maxHeartbeats 6400000
open Go.Lib (hid)
section
open Go.RowKit

def badR (N : Nt) (place most : Int) : Bool := decide (place < 0) || (decide (N.pl ≤ place) || (decide (most < 1) || decide (1000 < most)))
def BePo (N : Nt) (LL : List (List Int)) (place most : Int) (w : World) (e : Ending) (w' : World) : Prop :=
 if LL.all (mkB N) then (if badR N place most then e = .returned (.tuple #[.pointer none, .int .i64 2]) ∧ Below w.heap.size w w' else GrPo (growT N (LL.headD []) most.toNat) w e w')
 else e = .returned (.tuple #[.pointer none, .int .i64 1]) ∧ Below w.heap.size w w'
theorem BePo.arg {N : Nt} {LL : List (List Int)} {place most : Int} {w w' : World} {e : Ending} (h : LL.all (mkB N) = false) (he : e = .returned (.tuple #[.pointer none, .int .i64 1])) (hb : Below w.heap.size w w') : BePo N LL place most w e w' := by
 unfold BePo; rw [if_neg (by rw [h]; decide)]; exact ⟨he, hb⟩
theorem BePo.range {N : Nt} {LL : List (List Int)} {place most : Int} {w w' : World} {e : Ending} (h : LL.all (mkB N) = true) (h2 : badR N place most = true) (he : e = .returned (.tuple #[.pointer none, .int .i64 2])) (hb : Below w.heap.size w w') : BePo N LL place most w e w' := by
 unfold BePo; rw [if_pos h, if_pos h2]; exact ⟨he, hb⟩
theorem BePo.grow {N : Nt} {LL : List (List Int)} {place most : Int} {w w' : World} {e : Ending} (h : LL.all (mkB N) = true) (h2 : badR N place most = false) (hg : GrPo (growT N (LL.headD []) most.toNat) w e w') : BePo N LL place most w e w' := by
 unfold BePo; rw [if_pos h, if_neg (by rw [h2]; decide)]; exact hg
theorem add0 (ad : Addr) : ad.add 0 = ad := by simp [Addr.add]
theorem begin_any (N : Nt) (A : Option Addr) (n c : Nat) (Ak : Option Addr) (nk ck : Nat) (LL : List (List Int)) (place most : Int) (w : World) (h : NtIn w A N) (hn : N.tr.length = n) (hn2 : n ≤ 9223372036854775807) (hL : LIn w Ak LL) (hk : LL.length = nk) (hk0 : 0 < nk) (hk2 : nk ≤ 9223372036854775807) (ht : Tb w) :
 Calls Tryz.prog 42 #[.agg #[.int .i64 N.pl, .slice A n c, .int .i64 N.src, .int .i64 N.snk], .slice Ak nk ck, .int .i64 place, .int .i64 most] w (BePo N LL place most w) := by
 have HB := hid (below_alloc w (.cells #[.int .i64 N.pl, .slice A n c, .int .i64 N.src, .int .i64 N.snk] 30));have HNb := hid (NB.new w N.pl A n c N.src N.snk);have HIn := hid (h.below HB.out);have HL := hid (hL.below HB.out);have HT := hid (ht.below HB.out);have HLn := hid hn;have HLk := hid hk;clear h hn hL hk ht;go_enter Tryz.func42, Tryz.ntmps42;go_wp2_with fail;generalize w.alloc _ = w0 at *;go_loopg [16] (nk) (fun g iv wr => ∃ k : Nat, k + g = nk ∧ iv = .int .i64 k ∧ (LL.take k).all (mkB N) = true ∧ Below w0.heap.size w0 wr);case atStart => exact ⟨0, by omega, rfl, by simp, Below.refl _ _⟩
 case round =>
  obtain ⟨k, hkg, rfl, hall, hB⟩ := hrel;have HK := hid hkg;have HAll := hid hall;have HBr := hid hB;have hle : k ≤ nk := by omega
  clear hkg hall hB;obtain ⟨b0, b1, b2, b3⟩ := (HNb.out.below HBr.out).cells;by_cases hlt : k < nk
  · have hlt' : k < LL.length := by rw [HLk.out]; exact hlt
    obtain ⟨ak, rfl, hpa, u, q0, Am, m, cm, rfl, zm, hm1, hm2, hm3⟩ := (HL.out.below HBr.out) k hlt';have HTk := hid (List.take_succ_eq_append_getElem hlt');have HMm := hid (List.getElem_mem hlt');generalize LL[k] = M at *;have HEn := hid (penabled_any N A n c Am m cm M wr (HIn.out.below HBr.out) HLn.out hn2 zm hm1 (by omega));clear hlt' zm hm1;cases hv : mkB N M with
    | false =>
     have HX := hid (show LL.all (mkB N) = false by rw [List.all_eq_false]; exact ⟨M, HMm.out, by rw [hv]; decide⟩);have HE := hid (show enE N M = 1 by unfold enE; rw [hv]; rfl);clear hv;go_wp2_with fail;((with_reducible refine HEn.out.mono ?_); rintro e w1 ⟨v, rfl, hS⟩)
     obtain ⟨Av, cv, rfl⟩ := hS.slice;have HB1 := hid (below_then HB.out (below_then HBr.out hS.2));rw [HE.out];clear hS;go_wp2_with fail;go_ret2;exact BePo.arg HX.out rfl HB1.out
    | true =>
     have HX := hid (show (LL.take (k + 1)).all (mkB N) = true by rw [HTk.out, List.all_append, HAll.out]; simp [hv]);have HE := hid (show enE N M = 0 by unfold enE; rw [hv]; rfl);clear hv;go_wp2_with fail;((with_reducible refine HEn.out.mono ?_); rintro e w1 ⟨v, rfl, hS⟩)
     obtain ⟨Av, cv, rfl⟩ := hS.slice;have HB1 := hid (below_then HBr.out hS.2);rw [HE.out];clear hS;go_wp2_with fail;go_roundg (gk - 1);case measure => have := HK.out; omega
     case rel => exact ⟨k + 1, by have := HK.out; omega, by go_num, HX.out, HB1.out⟩
  · have HA := hid (show LL.all (mkB N) = true by have := HAll.out; rwa [List.take_of_length_le (by rw [HLk.out]; omega)] at this);clear HK HAll;have HBw := hid (below_then HB.out HBr.out);have HBad := hid (show badR N place most = (decide (place < 0) || (decide (N.pl ≤ place) || (decide (most < 1) || decide (1000 < most)))) from rfl);by_cases h1 : place < 0
    · have HX := hid (show badR N place most = true by rw [HBad.out, decide_eq_true h1]; rfl);go_wp2_with fail;go_ret2;exact BePo.range HA.out HX.out rfl HBw.out
    have d1 : decide (place < 0) = false := by simpa using h1
    have g1 : 0 ≤ place := by omega
    by_cases h2 : N.pl ≤ place
    · have HX := hid (show badR N place most = true by rw [HBad.out, d1, decide_eq_true h2]; rfl);clear h1;go_wp2_with fail;go_ret2;exact BePo.range HA.out HX.out rfl HBw.out
    have d2 : decide (N.pl ≤ place) = false := by simpa using h2
    by_cases h3 : most < 1
    · have HX := hid (show badR N place most = true by rw [HBad.out, d1, d2, decide_eq_true h3]; rfl);clear h1 h2;go_wp2_with fail;go_ret2;exact BePo.range HA.out HX.out rfl HBw.out
    have d3 : decide (most < 1) = false := by simpa using h3
    by_cases h4 : 1000 < most
    · have HX := hid (show badR N place most = true by rw [HBad.out, d1, d2, d3, decide_eq_true h4]; rfl);clear h1 h2 h3;go_wp2_with fail;go_ret2;exact BePo.range HA.out HX.out rfl HBw.out
    have d4 : decide (1000 < most) = false := by simpa using h4
    have HX := hid (show badR N place most = false by rw [HBad.out, d1, d2, d3, d4]; rfl);have hlt0 : 0 < LL.length := by rw [HLk.out]; exact hk0
    obtain ⟨ak, rfl, hpa, u, q0, Am, m, cm, rfl, zm, hm1, hm2, hm3⟩ := (HL.out.below HBr.out) 0 hlt0;rw [add0] at q0;have hM0 : mkB N LL[0] = true := by have := HA.out; rw [List.all_eq_true] at this; exact this _ (List.getElem_mem hlt0)
    have HHd := hid (show LL.headD [] = LL[0] by cases LL with | nil => simp at hlt0 | cons a l => rfl);have HM0 := hid hM0;clear h1 h2 h3 h4;obtain ⟨mo, rfl⟩ := Int.eq_ofNat_of_zero_le (show 0 ≤ most by have := of_decide_eq_false d3; omega);generalize LL[0] = M at *;have hkk : (0 : Int) < (nk : Int) := by omega
    go_wp2_with fail;have hbd : Below wr.heap.size wr wr.drew := (Below.refl _ _).drew;have HBd := hid (below_then HBr.out hbd);have HInd := hid (HIn.out.below HBd.out);have HZd := hid (zm.below hbd);have HTd := hid (HT.out.below HBd.out);have HNd := hid (HNb.out.below HBd.out);have hS0 := And.intro HNd.out.cells.1 (And.intro HNd.out.cells.2.1 (And.intro HNd.out.cells.2.2.1 (And.intro HNd.out.cells.2.2.2 (cell_stays hbd q0))));refine rh5 hS0 (fun hHeld => ?_);clear hS0 hbd HBr HBw zm q0 b0 b1 b2 b3 hM0;generalize wr.drew = wd at *;refine tkH 0 ?_;(try go_simp);refine tkH 1 ?_;(try go_simp);refine tkH 2 ?_;(try go_simp);refine tkH 3 ?_;(try go_simp);refine tkH 4 ?_;(try go_simp);have hS1 := hHeld;cases hg : growT N M mo with
    | none =>
     have HG := hid (grow_any N A n c Am m cm M mo wd HInd.out.1 HLn.out HZd.out hm1 HM0.out HTd.out);rw [hg] at HG;refine tkR 5 (fun K hK => ?_);go_simp;((refine (HG.out).mono ?_); rintro e w4 ⟨rfl, hb4⟩)
     refine hK.out _ _ (⟨cell_stays hb4 hS1.1, cell_stays hb4 hS1.2.1, cell_stays hb4 hS1.2.2.1, cell_stays hb4 hS1.2.2.2.1, cell_stays hb4 hS1.2.2.2.2⟩) (fun hHeld => ?_);clear hK K;try go_simp
     refine tkH 6 ?_;(try go_simp);refine tkH 7 ?_;(try go_simp);refine tkH 8 ?_;(try go_simp);refine tkH 9 ?_;(try go_simp);refine wpAnyH_done (by kernel_rfl) ?_ _;go_wp2_with fail;go_ret2;exact BePo.grow HA.out HX.out (GrPo.no (by rw [HHd.out]; exact hg) rfl (below_then HB.out (below_then HBd.out hb4)))
    | some T =>
     have HG := hid (grow_any N A n c Am m cm M mo wd HInd.out.1 HLn.out HZd.out hm1 HM0.out HTd.out);rw [hg] at HG;refine tkR 5 (fun K hK => ?_);go_simp;((refine (HG.out).mono ?_); rintro e w4 ⟨tb, vN, vS, NL, SL, rfl, hgp⟩)
     refine hK.out _ _ (⟨cell_stays hgp.bel hS1.1, cell_stays hgp.bel hS1.2.1, cell_stays hgp.bel hS1.2.2.1, cell_stays hgp.bel hS1.2.2.2.1, cell_stays hgp.bel hS1.2.2.2.2⟩) (fun hHeld => ?_);clear hK K;try go_simp
     refine tkH 6 ?_;(try go_simp);refine tkH 7 ?_;(try go_simp);refine tkH 8 ?_;(try go_simp);refine tkH 9 ?_;(try go_simp);refine wpAnyH_done (by kernel_rfl) ?_ _;go_wp2_with fail;go_ret2;refine BePo.grow HA.out HX.out ?_;rw [HHd.out, Int.toNat_natCast, hg];exact ⟨tb, vN, vS, NL, SL, rfl, hgp.up (below_then HB.out HBd.out)⟩
end
section
open Go.RowKit

def beR (N : Nt) (LL : List (List Int)) (place most : Int) : Sum Int TS :=
 if LL.all (mkB N) then (if badR N place most then .inl 2 else match growT N (LL.headD []) most.toNat with | some T => .inr T | none => .inl 13) else .inl 1
theorem BePo.parts {N : Nt} {LL : List (List Int)} {place most : Int} {w w' : World} {e : Ending} (h : BePo N LL place most w e w') :
 (∃ k : Int, beR N LL place most = .inl k ∧ (k != 0) = true ∧ e = .returned (.tuple #[.pointer none, .int .i64 k]) ∧ Below w.heap.size w w') ∨
 ∃ T tb vN vS NL SL, beR N LL place most = .inr T ∧ e = .returned (.tuple #[.pointer (some ⟨tb, 0, none⟩), .int .i64 0]) ∧ GP w w' tb vN vS NL SL T ∧ growT N (LL.headD []) most.toNat = some T ∧ LL.all (mkB N) = true := by
 unfold BePo at h;unfold beR;cases h1 : LL.all (mkB N) with
 | false =>
  rw [h1] at h;exact .inl ⟨1, rfl, rfl, h.1, h.2⟩
 | true =>
  rw [h1] at h;simp only [if_true] at h ⊢;cases h2 : badR N place most with
  | true =>
   rw [h2] at h;exact .inl ⟨2, rfl, rfl, h.1, h.2⟩
  | false =>
   rw [h2] at h;simp only [Bool.false_eq_true, if_false] at h ⊢;cases h3 : growT N (LL.headD []) most.toNat with
   | none =>
    rw [h3] at h;exact .inl ⟨13, rfl, rfl, h.1, h.2⟩
   | some T =>
    rw [h3] at h;obtain ⟨tb, vN, vS, NL, SL, h4, h5⟩ : ∃ tb vN vS NL SL, e = .returned (.tuple #[.pointer (some ⟨tb, 0, none⟩), .int .i64 0]) ∧ GP w w' tb vN vS NL SL T := h;exact .inr ⟨T, tb, vN, vS, NL, SL, rfl, h4, h5, rfl, trivial⟩
theorem grow_good {N : Nt} {M : List Int} {most : Nat} {T : TS} (hv : mkB N M = true) (h : growT N M most = some T) : TInv N M T ∧ Done N T ∧ netOk N M.length ∧ isM M :=
 ⟨(growT_inv h).1, (growT_inv h).2, netOk_of (mk_nt hv) (mk_len hv), mkM hv⟩
theorem TInv.slen {N : Nt} {M : List Int} {T : TS} (h : TInv N M T) (hN : netOk N M.length) (hM : isM M) : ∀ s ∈ T.states, s.length = M.length := by
 intro s hs;obtain ⟨q, hq, rfl⟩ := List.getElem_of_mem hs;obtain ⟨j, d, hd, _, hst⟩ := h.own q hq;have hst2 := h.st j d hd;rw [hst, List.getElem?_eq_getElem hq] at hst2;have e := Option.some.inj hst2;rw [e]; exact (h.fine hN hM j d hd).lm
theorem lin_one {w : World} {Am : Option Addr} {m cm : Nat} {M : List Int} (hz : ZIn w Am M) (hm : M.length = m) (h1 : m ≤ cm) (h2 : cm ≤ 9223372036854775807) : LIn (w.alloc (.cells #[.slice Am m cm] 34)) (some ⟨w.heap.size, 0, none⟩) [M] := by
 intro i hi;have hi0 : i = 0 := by simp at hi; omega
 subst hi0;have hn := heap_alloc_new w (.cells #[.slice Am m cm] 34);refine ⟨_, rfl, by rw [add_block]; simp, .slice Am m cm, ?_, Am, m, cm, rfl, hz.below (below_alloc w _), hm, h1, h2⟩;rw [add0];simp only [World.cell?, hn];rfl
theorem bset3 {w w1 : World} {b : Nat} (h : Below w.heap.size w w1) (hb : w.heap.size ≤ b) (u v x : Value) : Below w.heap.size w (((w1.setCell ⟨b, 0, none⟩ u).setCell ⟨b, 1, none⟩ v).setCell ⟨b, 2, none⟩ x) :=
 ((h.setCell (p := ⟨b, 0, none⟩) hb u).setCell (p := ⟨b, 1, none⟩) hb v).setCell (p := ⟨b, 2, none⟩) hb x
def GphPo (N : Nt) (M : List Int) (most : Int) (w : World) (e : Ending) (w' : World) : Prop :=
 Below w.heap.size w w' ∧ match beR N [M] 0 most with
 | .inl k => e = .returned (.tuple #[.agg #[.slice none 0 0, .slice none 0 0, .bool false], .int .i64 k])
 | .inr T => ∃ vS vM, e = .returned (.tuple #[.agg #[vS, vM, .bool true], .int .i64 0]) ∧ OLL w w' vS T.states ∧ OMv w w' vM (movesOf T)
theorem GphPo.no {N : Nt} {M : List Int} {most : Int} {w w' : World} {e : Ending} {k : Int} (h : beR N [M] 0 most = .inl k) (hb : Below w.heap.size w w') (he : e = .returned (.tuple #[.agg #[.slice none 0 0, .slice none 0 0, .bool false], .int .i64 k])) : GphPo N M most w e w' := by
 refine ⟨hb, ?_⟩; rw [h]; exact he
theorem GphPo.yes {N : Nt} {M : List Int} {most : Int} {w w' : World} {e : Ending} {T : TS} {vS vM : Value} (h : beR N [M] 0 most = .inr T) (he : e = .returned (.tuple #[.agg #[vS, vM, .bool true], .int .i64 0])) (hs : OLL w w' vS T.states) (hm : OMv w w' vM (movesOf T)) : GphPo N M most w e w' := by
 refine ⟨hs.bel, ?_⟩; rw [h]; exact ⟨vS, vM, he, hs, hm⟩
theorem graph_any (N : Nt) (A : Option Addr) (n c : Nat) (Am : Option Addr) (m cm : Nat) (M : List Int) (most : Int) (w : World) (h : NtIn w A N) (hn : N.tr.length = n) (hn2 : n ≤ 9223372036854775807) (hM : ZIn w Am M) (hm : M.length = m) (hm1 : m ≤ cm) (hm2 : cm ≤ 9223372036854775807) (ht : Tb w) :
 Calls Tryz.prog 35 #[.agg #[.int .i64 N.pl, .slice A n c, .int .i64 N.src, .int .i64 N.snk], .slice Am m cm, .int .i64 most] w (GphPo N M most w) := by
 have HB := hid (two_boxes w (.cells #[.int .i64 N.pl, .slice A n c, .int .i64 N.src, .int .i64 N.snk] 30) (.cells #[.slice none 0 0, .slice none 0 0, .bool false] 65));have hnew := heap_alloc_new (w.alloc (.cells #[.int .i64 N.pl, .slice A n c, .int .i64 N.src, .int .i64 N.snk] 30)) (.cells #[.slice none 0 0, .slice none 0 0, .bool false] 65);rw [World.size_alloc] at hnew;have HRb := hid (show SpB _ (w.heap.size + 1) (.slice none 0 0) (.slice none 0 0) false from hnew);have HNb := hid ((NB.new w N.pl A n c N.src N.snk).below (below_alloc _ (.cells #[.slice none 0 0, .slice none 0 0, .bool false] 65)));have hs0 : ((w.alloc (.cells #[.int .i64 N.pl, .slice A n c, .int .i64 N.src, .int .i64 N.snk] 30)).alloc (.cells #[.slice none 0 0, .slice none 0 0, .bool false] 65)).heap.size = w.heap.size + 1 + 1 := by simp
 have HIn := hid (h.below HB.out);have HZ := hid (hM.below HB.out);have HT := hid (ht.below HB.out);clear h hM ht hnew;go_enter Tryz.func35, Tryz.ntmps35;go_wp2_with fail;generalize hrb : w.heap.size + 1 = rb at *;generalize (w.alloc _).alloc _ = w0 at *;obtain ⟨b0, b1, b2, b3⟩ := HNb.out.cells;have hrbw : w.heap.size ≤ rb := by omega
 clear hrb;have HL := hid (lin_one HZ.out hm hm1 hm2);have HBe := hid (begin_any N A n c (some ⟨w0.heap.size, 0, none⟩) 1 1 [M] 0 most _ (HIn.out.below (below_alloc w0 (.cells #[.slice Am m cm] 34))) hn hn2 HL.out rfl (by decide) (by decide) (HT.out.below (below_alloc w0 _)));rw [hs0] at HBe;have HAl := hid (below_alloc w0 (.cells #[.slice Am m cm] 34));((with_reducible refine HBe.out.mono ?_); rintro e w1 hP)
 rcases hP.parts with ⟨k, hR, hk, rfl, hb1⟩ | ⟨T, tb, vN, vS, NL, SL, hR, rfl, hgp, hgr, hall⟩
 · have HR := hid hR;have HRb1 := hid ((HRb.out.below HAl.out).below hb1);have HB1 := hid (below_then HB.out (below_then HAl.out hb1));clear hR hb1 hP HBe HL HIn HZ HT b0 b1 b2 b3 HNb;obtain ⟨r0, r1, r2⟩ := HRb1.out.cells;have rf0 := HRb1.out.soft;have HRe := hid (((HRb1.out.set0 (.slice none 0 0)).set1 (.slice none 0 0)).set2 false);have HBe := hid (bset3 HB1.out hrbw (.slice none 0 0) (.slice none 0 0) (.bool false));go_wp2_with fail;generalize ((w1.setCell ⟨rb, 0, none⟩ _).setCell ⟨rb, 1, none⟩ _).setCell ⟨rb, 2, none⟩ _ = we at *;obtain ⟨d0, d1, d2⟩ := HRe.out.cells;exact bodyPost_ret (v := .tuple #[.agg #[.slice none 0 0, .slice none 0 0, .bool false], .int .i64 k]) (by simp [results, Tryz.results35, go_sem, d0, d1, d2]) rfl (GphPo.no HR.out HBe.out rfl)
 · have hgood := grow_good (N := N) (M := M) (by simpa using hall) hgr;have HR := hid hR;have HSp := hid (space_any w0 tb vN vS NL SL N M T w1 (hgp.up HAl.out) hgood.1 (fun s hs => by
    have h1 := hgood.1.slen hgood.2.2.1 hgood.2.2.2 s hs;have h2 := mk_len (N := N) (M := M) (by simpa using hall);have h3 := nt_small (mk_nt (N := N) (M := M) (by simpa using hall));omega))
   have HRb1 := hid ((HRb.out.below HAl.out).below hgp.bel);have HB1 := hid (below_then HB.out (below_then HAl.out hgp.bel));clear hR hP HBe HL HIn HZ HT b0 b1 b2 b3 HNb hgood hgr hall hgp;go_wp2_with fail;((with_reducible refine HSp.out.mono ?_); rintro e w2 ⟨vS2, vM2, rfl, hO, hMv⟩)
   have HRb2 := hid (HRb1.out.below hO.bel);have HB2 := hid (below_then HB1.out hO.bel);have HO := hid (hO.up HB1.out);have HM := hid (hMv.up HB1.out);obtain ⟨Aa, ca, rfl⟩ := hO.slice;obtain ⟨Ab, cb, rfl⟩ := hMv.slice;clear HSp hO hMv;obtain ⟨r0, r1, r2⟩ := HRb2.out.cells;have rf0 := HRb2.out.soft;have HRc := hid (HRb2.out.set0 (.slice Aa T.states.length ca));have HRd := hid (HRc.out.set1 (.slice Ab (movesOf T).length cb));have HRe := hid (HRd.out.set2 true);have HOe := hid (((HO.out.box (o := 0) HRb2.out (by decide) (by decide) hrbw (.slice Aa T.states.length ca)).box (o := 1) HRc.out (by decide) (by decide) hrbw (.slice Ab (movesOf T).length cb)).box (o := 2) HRd.out (by decide) (by decide) hrbw (.bool true));have HMe := hid (((HM.out.box (o := 0) HRb2.out (by decide) hrbw (.slice Aa T.states.length ca)).box (o := 1) HRc.out (by decide) hrbw (.slice Ab (movesOf T).length cb)).box (o := 2) HRd.out (by decide) hrbw (.bool true));clear HRc HRd;go_wp2_with fail;generalize ((w2.setCell ⟨rb, 0, none⟩ _).setCell ⟨rb, 1, none⟩ _).setCell ⟨rb, 2, none⟩ _ = we at *;obtain ⟨d0, d1, d2⟩ := HRe.out.cells;exact bodyPost_ret (v := .tuple #[.agg #[.slice Aa T.states.length ca, .slice Ab (movesOf T).length cb, .bool true], .int .i64 0]) (by simp [results, Tryz.results35, go_sem, d0, d1, d2]) rfl (GphPo.yes HR.out rfl HOe.out HMe.out)
end
end Go.Proofs.YtpiihmbeedlpkaaGreatDoor
