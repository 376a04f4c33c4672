/- run of sound: what a call returns. covered of sound: what a call returns. Reason of sound: what a call returns. The examples of chapter 28, plain: what is wrong with them. -/
import Derived.Test.YtpiihmbeedlpkaaGreatDoorPUu
import Derived.Test.YtpiihmbeedlpkaaGreatDoorPBo
import Derived.Test.YtpiihmbeedlpkaaGreatDoorPUd
import Derived.Test.YtpiihmbeedlpkaaGreatDoorPBm
import Derived.Test.YtpiihmbeedlpkaaGreatDoorPBt
import Derived.Test.YtpiihmbeedlpkaaGreatDoorPBw
namespace Go.Proofs.YtpiihmbeedlpkaaGreatDoor
set_option maxRecDepth 100000
set_option maxHeartbeats 3200000
open Go.Lib (hid)
section
open Go.RowKit

theorem wrun_any (w : World) (b : Nat) (N : Nt) (LL : List (List Int)) (MV : List Mv) (fl : Bool) (A : Option Addr) (n c : Nat) (As : Option Addr) (cs : Nat) (Av : Option Addr) (cv : Nat) (Af : Option Addr) (cf : Nat) (Ag : Option Addr) (cg : Nat) (k : Nat) (h : WdI w b N LL MV fl A n c As cs Av cv Af cf Ag cg) (hmo : mvOk MV LL.length) (hk : k < LL.length) (hl : Lead MV k 0) (hl2 : LL.length ≤ 1000000) (hv2 : MV.length ≤ 20000) :
 Calls Tryz.prog 19 #[.pointer (some ⟨b, 0, none⟩), .int .i64 (k : Int)] w fun e w' => ∃ v l, e = .returned v ∧ NS w w' v l ∧ WayL MV k 0 l ∧ l.length < LL.length := by
 have HW := hid h;have HDi := hid (wdist_any w b N LL MV fl A n c As cs Av cv Af cf Ag cg k h hmo hk hl2 hv2);have HMo := hid hmo;have HLe := hid hl;have hn0 : 0 < LL.length := by omega
 clear h hmo hl;go_enter Tryz.func19, Tryz.ntmps19;go_wp2_with fail;((with_reducible refine HDi.out.mono ?_); rintro e w1 ⟨v1, F, rfl, hS, hD⟩)
 obtain ⟨A1, c1, rfl, hz, _⟩ := hS.zin;have hfl := hD.len;rw [hfl];have hf0 := (lead_far HMo.out hD hn0).1 HLe.out;have htop := hD.top 0 hn0;have HWy := hid (wway_any w1 b N LL MV fl A n c As cs Av cv Af cf Ag cg 0 k A1 c1 F (HW.out.below hS.2) HMo.out hz hD hn0 hf0 hl2 hv2);rw [show ((0 : Nat) : Int) = 0 from rfl] at HWy htop;have HB1 := hid hS.2;clear HDi hS hz hf0 hD hfl;go_wp2_with fail;((with_reducible refine HWy.out.mono ?_); rintro e w2 ⟨v2, l, rfl, hS2, hw, hll⟩)
 have HS2 := hid (NS.up HB1.out hS2);have HWl := hid (And.intro hw hll);clear hS2 hw hll;go_wp2_with fail;go_ret;exact ⟨_, l, rfl, HS2.out, HWl.out.1, by have := HWl.out.2; omega⟩
end
section
open Go.RowKit

def CvdPo (N : Nt) (A : Option Addr) (n c : Nat) (work : Bool) (most : Int) (w : World) (e : Ending) (w' : World) : Prop :=
 (∃ k : Int, e = .returned (.tuple #[.pointer none, .int .i64 k]) ∧ k ≠ 0 ∧ (FltK N work most k ∨ (FltK N work most 0 ∧ growT N (iniM N) most.toNat = none ∧ k = 13)) ∧ Below w.heap.size w w') ∨
 (FltK N work most 0 ∧ ∃ (T : TS) (b : Nat) (As : Option Addr) (cs : Nat) (Av : Option Addr) (cv : Nat) (Af : Option Addr) (cf : Nat) (Ag : Option Addr) (cg : Nat), growT N (iniM N) most.toNat = some T ∧ e = .returned (.tuple #[.pointer (some ⟨b, 0, none⟩), .int .i64 0]) ∧ WdI w' b N T.states (movesOf T) true A n c As cs Av cv Af cf Ag cg ∧ Below w.heap.size w w')
theorem beR_ini {N : Nt} {most : Int} (hv : ntB N = true) (h1 : 1 ≤ most) (h2 : most ≤ 500) : beR N [iniM N] 0 most = match growT N (iniM N) most.toNat with | some T => .inr T | none => .inl 13 := by
 have hm := one_mk hv N.src.toNat;have hp := nt_small hv;have hb : badR N 0 most = false := by unfold badR; simp; omega
 have ha : [iniM N].all (mkB N) = true := by simp; exact hm
 unfold beR;rw [if_pos ha, hb];rfl
theorem covered_any (N : Nt) (A : Option Addr) (n c : Nat) (work : Bool) (most : Int) (w : World) (h : NtIn w A N) (hn : N.tr.length = n) (hn2 : n ≤ 9223372036854775806) (ht : Tb w) :
 Calls Tryz.prog 15 #[.agg #[.int .i64 N.pl, .slice A n c, .int .i64 N.src, .int .i64 N.snk], .bool work, .int .i64 most] w (CvdPo N A n c work most w) := by
 have HB0 := hid (below_alloc w (.cells #[.int .i64 N.pl, .slice A n c, .int .i64 N.src, .int .i64 N.snk] 30));have HNb0 := hid (NB.new w N.pl A n c N.src N.snk);have HIn0 := hid (h.below HB0.out);have HT0 := hid (ht.below HB0.out);have HNl := hid hn;have hn3 : n ≤ 9223372036854775807 := by omega
 clear h hn ht;go_enter Tryz.func15, Tryz.ntmps15;go_wp2_with fail;generalize w.alloc _ = w0 at *;obtain ⟨b0, b1, b2, b3⟩ := HNb0.out.cells;have HP := hid (proper_any N A n c work most w0 HIn0.out HNl.out hn2);((with_reducible refine HP.out.mono ?_); rintro e w1 hpr)
 rcases hpr with ⟨k, rfl, hf, hk0, hb1⟩ | ⟨hf, v1, rfl, hS⟩
 · have HF := hid hf;have HB1 := hid (below_then HB0.out hb1);have q1 : (k != 0) = true := by rw [bne_iff_ne]; exact hk0
   have HK0 := hid hk0;clear hf hb1 hk0 HP b0 b1 b2 b3;go_wp2_with fail;go_ret2;exact .inl ⟨k, rfl, HK0.out, .inl HF.out, HB1.out⟩
 · have HF := hid hf;obtain ⟨hv, hwf, hm1, hm2⟩ := hf.ok;have HV := hid hv;have hb1 := hS.2;have HB1 := hid (below_then HB0.out hb1);have HNb1 := hid (HNb0.out.below hb1);have HIn1 := hid (HIn0.out.below hb1);have HT1 := hid (HT0.out.below hb1);obtain ⟨A1, c1, rfl, hz, hz1, hz2⟩ := hS.zin;have HG := hid (graph_any N A n c A1 (iniM N).length c1 (iniM N) most w1 HIn1.out HNl.out hn3 hz rfl hz1 hz2 HT1.out);have HBe := hid (beR_ini hv hm1 hm2);clear hf hv hwf hS hb1 hz hz1 hz2 HP b0 b1 b2 b3 HB0 HNb0 HIn0 HT0;obtain ⟨b0, b1, b2, b3⟩ := HNb1.out.cells;go_wp2_with fail;((with_reducible refine HG.out.mono ?_); rintro e w2 ⟨hb2, hg⟩)
   rw [HBe.out] at hg;have HB2 := hid (below_then HB1.out hb2);have HNb2 := hid (HNb1.out.below hb2);have HIn2 := hid (HIn1.out.below hb2);clear HG HBe b0 b1 b2 b3 hb2 HB1 HNb1 HIn1 HT1;cases hgr : growT N (iniM N) most.toNat with
   | none =>
    rw [hgr] at hg;simp only at hg;subst hg;have HGr := hid hgr;clear hgr;go_wp2_with fail;go_ret2;exact .inl ⟨13, rfl, by decide, .inr ⟨HF.out, HGr.out, rfl⟩, HB2.out.alloc HB2.out.size _⟩
   | some T =>
    rw [hgr] at hg;simp only at hg;obtain ⟨vS, vM, rfl, hO, hM⟩ := hg;obtain ⟨As, cs, rfl, hl, _, _⟩ := hO.lin;obtain ⟨Av, cv, rfl, _, _, _, hr, _⟩ := own_rd mvC_len (by decide) hM.1;obtain ⟨hI, _⟩ := growT_inv hgr;obtain ⟨hmo, _⟩ := moves_ok hI;have hcnt := hI.cnt;have hlen := hI.len;have hml : (movesOf T).length ≤ 20000 := by rw [movesOf_len]; omega
    have HGr := hid hgr;have HL := hid hl;have HR := hid hr;have HMo := hid hmo;clear hgr hl hr hO hM hI hmo;have HA := hid (below_alloc w2 (.cells #[.slice As T.states.length cs, .slice Av (movesOf T).length cv, .bool true] 65));obtain ⟨b0, b1, b2, b3⟩ := (HNb2.out.below HA.out).cells;have d0 := heap_alloc_new w2 (.cells #[.slice As T.states.length cs, .slice Av (movesOf T).length cv, .bool true] 65);obtain ⟨e0, e1, e2⟩ := (show SpB _ w2.heap.size (.slice As T.states.length cs) (.slice Av (movesOf T).length cv) true from d0).cells;have HGa := hid (gather_any N A n c As cs T.states Av cv (movesOf T) true _ (HIn2.out.below HA.out) HNl.out hn3 HV.out (HL.out.below HA.out) (HR.out.below HA.out) HMo.out (by omega) hml);have HB3 := hid (HB2.out.trans (HA.out.mono HB2.out.size));clear d0;go_wp2_with fail;((with_reducible refine HGa.out.mono ?_); rintro e w4 ⟨b, Af, cf, Ag, cg, rfl, hW, hb4⟩)
    have HW := hid hW;have HB4 := hid (below_then HB3.out hb4);clear hW hb4 HGa b0 b1 b2 b3 e0 e1 e2;go_wp2_with fail;go_ret2;exact .inr ⟨HF.out, T, b, As, cs, Av, cv, Af, cf, Ag, cg, HGr.out, rfl, HW.out, HB4.out⟩
end
section
open Go.RowKit

def CovE (N : Nt) (work : Bool) (most k : Int) : Prop := k ≠ 0 ∧ (FltK N work most k ∨ (FltK N work most 0 ∧ growT N (iniM N) most.toNat = none ∧ k = 13))
def CovT (N : Nt) (work : Bool) (most : Int) (T : TS) : Prop := FltK N work most 0 ∧ growT N (iniM N) most.toNat = some T
structure GrF (N : Nt) (T : TS) : Prop where
 gr : Gr N T
 all : ∀ s ∈ T.states, (s.length : Int) = N.pl
 nod : ∀ (i j : Nat) (s : List Int), T.states[i]? = some s → T.states[j]? = some s → i = j
 mo : mvOk (movesOf T) T.states.length
 l0 : 0 < T.states.length
 l2 : T.states.length ≤ 20001
 v2 : (movesOf T).length ≤ 20000
 ld : ∀ k, k < T.states.length → Lead (movesOf T) k 0
theorem CovT.grf {N : Nt} {work : Bool} {most : Int} {T : TS} (h : CovT N work most T) : GrF N T := by
 obtain ⟨hf, hg⟩ := h;have hv := hf.ok.1;have hG := Gr.of hv hg;have hmo := (moves_ok hG.i).1;have h1 := (List.getElem?_eq_some_iff.1 hG.i.one).1;have hc := hG.i.cnt;have hl := hG.i.len;exact ⟨hG, fun s hs => hG.slen hs, hG.i.nod, hmo, h1, by omega, by rw [movesOf_len]; omega, root_lead hmo (fun j h0 hj => mv_tree hG.i hj h0)⟩
def RsnPo (N : Nt) (most : Int) (w : World) (e : Ending) (w' : World) : Prop := Below w.heap.size w w' ∧
 ((∃ k : Int, e = .returned (.tuple #[.int .i64 0, .int .i64 k]) ∧ CovE N true most k) ∨ ∃ (T : TS) (r : Int), e = .returned (.tuple #[.int .i64 r, .int .i64 0]) ∧ CovT N true most T ∧ RsN N T.states (movesOf T) r)
theorem reason_any (N : Nt) (A : Option Addr) (n c : Nat) (most : Int) (w : World) (h : NtIn w A N) (hn : N.tr.length = n) (hn2 : n ≤ 9223372036854775806) (ht : Tb w) :
 Calls Tryz.prog 10 #[.agg #[.int .i64 N.pl, .slice A n c, .int .i64 N.src, .int .i64 N.snk], .int .i64 most] w (RsnPo N most w) := by
 have HB0 := hid (below_alloc w (.cells #[.int .i64 N.pl, .slice A n c, .int .i64 N.src, .int .i64 N.snk] 30));have HNb0 := hid (NB.new w N.pl A n c N.src N.snk);have HC := hid (covered_any N A n c true most _ (h.below HB0.out) hn hn2 (ht.below HB0.out));clear h hn ht;go_enter Tryz.func10, Tryz.ntmps10;go_wp2_with fail;generalize w.alloc _ = w0 at *;obtain ⟨b0, b1, b2, b3⟩ := HNb0.out.cells;((with_reducible refine HC.out.mono ?_); rintro e w1 hcv)
 rcases hcv with ⟨k, rfl, hk0, hk, hb1⟩ | ⟨hf, T, b, As, cs, Av, cv, Af, cf, Ag, cg, hg, rfl, hW, hb1⟩
 · have HE := hid (show CovE N true most k from ⟨hk0, hk⟩);have HB1 := hid (below_then HB0.out hb1);have q1 : (k != 0) = true := by rw [bne_iff_ne]; exact hk0
   clear hk0 hk hb1 HC b0 b1 b2 b3;go_wp2_with fail;go_ret2;exact ⟨HB1.out, .inl ⟨k, rfl, HE.out⟩⟩
 · have HT := hid (show CovT N true most T from ⟨hf, hg⟩);have HG := hid HT.out.grf;have HB1 := hid (below_then HB0.out hb1);have HFa := hid (wfault_any w1 b N T.states (movesOf T) true A n c As cs Av cv Af cf Ag cg hW HG.out.gr.v HG.out.all HG.out.nod HG.out.mo HG.out.l0 (by have := HG.out.l2; omega) HG.out.v2);clear hf hg hW hb1 HC b0 b1 b2 b3;go_wp2_with fail;((with_reducible refine HFa.out.mono ?_); rintro e w2 ⟨r, a, rfl, hr, hb2⟩)
   have HB2 := hid (below_then HB1.out hb2);have HR := hid hr.1;clear hr hb2 HFa;go_wp2_with fail;go_ret2;exact ⟨HB2.out, .inr ⟨T, r, rfl, HT.out, HR.out⟩⟩
end
section
def e28a : Nt := ⟨3, [⟨⟨#[97]⟩, [0], [1]⟩, ⟨⟨#[98]⟩, [1], [2]⟩], 0, 2⟩
def e28b : Nt := ⟨3, [⟨⟨#[97]⟩, [0], [1]⟩, ⟨⟨#[98]⟩, [1], [2]⟩, ⟨⟨#[99]⟩, [0], [1, 2]⟩], 0, 2⟩
theorem e28a_tree : ∃ T, growT e28a (iniM e28a) 10 = some T ∧ T.states = [[1, 0, 0], [0, 1, 0], [0, 0, 1]] ∧ movesOf T = [⟨0, 1, 0⟩, ⟨1, 2, 1⟩] :=
 ⟨(growT e28a (iniM e28a) 10).get (by kernel_rfl), (Option.some_get _).symm, by kernel_rfl, by kernel_rfl⟩
theorem e28b_tree : ∃ T, growT e28b (iniM e28b) 10 = some T ∧ T.states = [[1, 0, 0], [0, 1, 0], [0, 1, 1], [0, 0, 1], [0, 0, 2]] :=
 ⟨(growT e28b (iniM e28b) 10).get (by kernel_rfl), (Option.some_get _).symm, by kernel_rfl⟩
theorem e28a_wf : wfP e28a := by
 have h0 : Rch e28a false 0 0 := .start;have h1 : Rch e28a false 0 1 := .step ⟨⟨#[97]⟩, [0], [1]⟩ 0 1 (by simp [e28a]) (by simp [insT]) h0 (by simp [outT]);have h2 : Rch e28a false 0 2 := .step ⟨⟨#[98]⟩, [1], [2]⟩ 1 2 (by simp [e28a]) (by simp [insT]) h1 (by simp [outT]);have g2 : Rch e28a true 2 2 := .start;have g1 : Rch e28a true 2 1 := .step ⟨⟨#[98]⟩, [1], [2]⟩ 2 1 (by simp [e28a]) (by simp [insT]) g2 (by simp [outT]);have g0 : Rch e28a true 2 0 := .step ⟨⟨#[97]⟩, [0], [1]⟩ 1 0 (by simp [e28a]) (by simp [insT]) g1 (by simp [outT]);refine ⟨by decide, rfl, ⟨fun x hx => ?_, fun t ht => ?_⟩, ⟨fun x hx => ?_, fun t ht => ?_⟩⟩
 · have hx' : x < 3 := hx
   match x, hx' with
   | 0, _ => exact h0
   | 1, _ => exact h1
   | 2, _ => exact h2
 · have : t = ⟨⟨#[97]⟩, [0], [1]⟩ ∨ t = ⟨⟨#[98]⟩, [1], [2]⟩ := by simpa [e28a] using ht
   rcases this with rfl | rfl
   · exact ⟨0, by simp [insT], h0⟩
   · exact ⟨1, by simp [insT], h1⟩
 · have hx' : x < 3 := hx
   match x, hx' with
   | 0, _ => exact g0
   | 1, _ => exact g1
   | 2, _ => exact g2
 · have : t = ⟨⟨#[97]⟩, [0], [1]⟩ ∨ t = ⟨⟨#[98]⟩, [1], [2]⟩ := by simpa [e28a] using ht
   rcases this with rfl | rfl
   · exact ⟨1, by simp [insT], g1⟩
   · exact ⟨2, by simp [insT], g2⟩
theorem e28b_wf : wfP e28b := by
 have h0 : Rch e28b false 0 0 := .start;have h1 : Rch e28b false 0 1 := .step ⟨⟨#[97]⟩, [0], [1]⟩ 0 1 (by simp [e28b]) (by simp [insT]) h0 (by simp [outT]);have h2 : Rch e28b false 0 2 := .step ⟨⟨#[98]⟩, [1], [2]⟩ 1 2 (by simp [e28b]) (by simp [insT]) h1 (by simp [outT]);have g2 : Rch e28b true 2 2 := .start;have g1 : Rch e28b true 2 1 := .step ⟨⟨#[98]⟩, [1], [2]⟩ 2 1 (by simp [e28b]) (by simp [insT]) g2 (by simp [outT]);have g0 : Rch e28b true 2 0 := .step ⟨⟨#[97]⟩, [0], [1]⟩ 1 0 (by simp [e28b]) (by simp [insT]) g1 (by simp [outT]);refine ⟨by decide, rfl, ⟨fun x hx => ?_, fun t ht => ?_⟩, ⟨fun x hx => ?_, fun t ht => ?_⟩⟩
 · have hx' : x < 3 := hx
   match x, hx' with
   | 0, _ => exact h0
   | 1, _ => exact h1
   | 2, _ => exact h2
 · have : t = ⟨⟨#[97]⟩, [0], [1]⟩ ∨ t = ⟨⟨#[98]⟩, [1], [2]⟩ ∨ t = ⟨⟨#[99]⟩, [0], [1, 2]⟩ := by simpa [e28b] using ht
   rcases this with rfl | rfl | rfl
   · exact ⟨0, by simp [insT], h0⟩
   · exact ⟨1, by simp [insT], h1⟩
   · exact ⟨0, by simp [insT], h0⟩
 · have hx' : x < 3 := hx
   match x, hx' with
   | 0, _ => exact g0
   | 1, _ => exact g1
   | 2, _ => exact g2
 · have : t = ⟨⟨#[97]⟩, [0], [1]⟩ ∨ t = ⟨⟨#[98]⟩, [1], [2]⟩ ∨ t = ⟨⟨#[99]⟩, [0], [1, 2]⟩ := by simpa [e28b] using ht
   rcases this with rfl | rfl | rfl
   · exact ⟨1, by simp [insT], g1⟩
   · exact ⟨2, by simp [insT], g2⟩
   · exact ⟨1, by simp [insT], g1⟩
theorem e28a_flt : FltK e28a true 10 0 := .inr (.inr (.inr ⟨by kernel_rfl, fun _ => e28a_wf, by decide, rfl⟩))
theorem e28b_flt : FltK e28b true 10 0 := .inr (.inr (.inr ⟨by kernel_rfl, fun _ => e28b_wf, by decide, rfl⟩))
theorem e28a_cov {k : Int} (h : CovE e28a true 10 k) : False := by
 obtain ⟨h0, h1 | ⟨_, h2, _⟩⟩ := h
 · exact h0 (h1.uniq e28a_flt)
 · obtain ⟨T, hT, _⟩ := e28a_tree;rw [show ((10 : Int).toNat) = 10 from rfl, hT] at h2; cases h2
theorem e28b_cov {k : Int} (h : CovE e28b true 10 k) : False := by
 obtain ⟨h0, h1 | ⟨_, h2, _⟩⟩ := h
 · exact h0 (h1.uniq e28b_flt)
 · obtain ⟨T, hT, _⟩ := e28b_tree;rw [show ((10 : Int).toNat) = 10 from rfl, hT] at h2; cases h2
theorem e28a_r {T : TS} {r : Int} (h : CovT e28a true 10 T) (hr : RsN e28a T.states (movesOf T) r) : r = 0 := by
 obtain ⟨T', hT, hs, hm⟩ := e28a_tree;have e : T = T' := by
  have := h.2;rw [show ((10 : Int).toNat) = 10 from rfl, hT] at this;exact (Option.some.inj this).symm
 subst e;rw [hs, hm] at hr;refine hr.uniq (.inr (.inr (.inr (.inr ⟨?_, ?_, ?_, ?_, rfl⟩))))
 · rintro ⟨s, hs, ho⟩;have : s = [1, 0, 0] ∨ s = [0, 1, 0] ∨ s = [0, 0, 1] := by simpa using hs
   rcases this with rfl | rfl | rfl <;> exact absurd ho (by decide)
 · rintro ⟨s, hs, h0, hf⟩;have : s = [1, 0, 0] ∨ s = [0, 1, 0] ∨ s = [0, 0, 1] := by simpa using hs
   rcases this with rfl | rfl | rfl
   · exact absurd h0 (by decide)
   · exact absurd h0 (by decide)
   · exact hf (by kernel_rfl)
 · rintro ⟨k, hk, hn⟩;have h2 : Lead [⟨0, 1, 0⟩, ⟨1, 2, 1⟩] 2 2 := .stop;have h1 : Lead [⟨0, 1, 0⟩, ⟨1, 2, 1⟩] 2 1 := .step (t := 2) (k := 1) (by simp) h2;have h0 : Lead [⟨0, 1, 0⟩, ⟨1, 2, 1⟩] 2 0 := .step (t := 1) (k := 0) (by simp) h1;have hk' : k < 3 := hk;refine hn ⟨2, by kernel_rfl, ?_⟩
   match k, hk' with
   | 0, _ => exact h0
   | 1, _ => exact h1
   | 2, _ => exact h2
 · rintro ⟨t, ht, hd⟩;have : t = ⟨⟨#[97]⟩, [0], [1]⟩ ∨ t = ⟨⟨#[98]⟩, [1], [2]⟩ := by simpa [e28a] using ht
   rcases this with rfl | rfl
   · exact absurd (hd [1, 0, 0] (by simp)) (by decide)
   · exact absurd (hd [0, 1, 0] (by simp)) (by decide)
theorem e28b_r {T : TS} {r : Int} (h : CovT e28b true 10 T) (hr : RsN e28b T.states (movesOf T) r) : r = 2 := by
 obtain ⟨T', hT, hs⟩ := e28b_tree;have e : T = T' := by
  have := h.2;rw [show ((10 : Int).toNat) = 10 from rfl, hT] at this;exact (Option.some.inj this).symm
 subst e;rw [hs] at hr;refine hr.uniq (.inr (.inl ⟨?_, rfl, [0, 1, 1], by simp, by decide, by decide⟩));rintro ⟨s, hs, ho⟩;have : s = [1, 0, 0] ∨ s = [0, 1, 0] ∨ s = [0, 1, 1] ∨ s = [0, 0, 1] ∨ s = [0, 0, 2] := by simpa using hs
 rcases this with rfl | rfl | rfl | rfl | rfl <;> exact absurd ho (by decide)
end
end Go.Proofs.YtpiihmbeedlpkaaGreatDoor
