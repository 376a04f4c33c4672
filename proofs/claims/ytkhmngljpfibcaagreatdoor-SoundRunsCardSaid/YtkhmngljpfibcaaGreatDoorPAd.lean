/- What a graph leads to, a space leads to, plain. run of sound: what a call returns. Reason of sound: what a call returns. Dead of sound: what a call returns. The examples of chapter 28, plain: what is wrong with them. -/
import Derived.Test.YtkhmngljpfibcaaGreatDoorPUu
import Derived.Test.YtkhmngljpfibcaaGreatDoorPBj
import Derived.Test.YtkhmngljpfibcaaGreatDoorPBo
import Derived.Test.YtkhmngljpfibcaaGreatDoorPBm
import Derived.Test.YtkhmngljpfibcaaGreatDoorPBu
import Derived.Test.YtkhmngljpfibcaaGreatDoorPBw
namespace Go.Proofs.YtkhmngljpfibcaaGreatDoor
set_option maxRecDepth 100000
set_option maxHeartbeats 6400000
open Go.Lib (hid)
section
section
variable {N : Nt} {LL KK : List (List Int)} {MV WV : List Mv}
theorem lead_in (hmv : MvF N LL MV) (hc : MvC N KK WV) {g k : Nat} (h : Lead MV g k) : ∀ {s s' : List Int} {a : Nat}, LL[k]? = some s → LL[g]? = some s' → KK[a]? = some s → ∃ b, KK[b]? = some s' ∧ Lead WV b a := by
 induction h with
 | stop => intro s s' a h1 h2 h3; rw [h1] at h2; cases h2; exact ⟨a, h3, .stop⟩
 | @step s t k hx _ ih =>
  intro u u' a h1 h2 h3;obtain ⟨f, t', k', tr, v, v', ex, hf, ht, hk, hcn, hfi, _⟩ := hmv _ hx;have e1 : s = f := by have := congrArg Mv.f ex; simp only at this; omega
  have e2 : t = t' := by have := congrArg Mv.t ex; simp only at this; omega
  subst e1 e2;rw [h1] at hf; cases hf;obtain ⟨_, c, hc1, hc2⟩ := hc a k' u tr h3 hk hcn;rw [hfi] at hc2;obtain ⟨b, hb1, hb2⟩ := ih ht h2 hc2;exact ⟨b, hb1, .step hc1 hb2⟩
theorem leads_in (hmv : MvF N LL MV) (hc : MvC N KK WV) {k a : Nat} {s : List Int} (h : Leads N LL MV k) (h1 : LL[k]? = some s) (h2 : KK[a]? = some s) : Leads N KK WV a := by
 obtain ⟨g, hg, hl⟩ := h;obtain ⟨b, hb, hlb⟩ := lead_in hmv hc hl h1 hg h2;exact ⟨b, hb, hlb⟩
theorem all_in (hmv : MvF N LL MV) (hc : MvC N KK WV) (hroot : ∀ k, k < LL.length → Lead MV k 0) {m : List Int} (h0 : LL[0]? = some m) (h1 : KK[0]? = some m) {s : List Int} (hs : s ∈ LL) : ∃ b, KK[b]? = some s ∧ Lead WV b 0 := by
 obtain ⟨k, hk, rfl⟩ := List.getElem_of_mem hs;exact lead_in hmv hc (hroot k hk) h0 (List.getElem?_eq_getElem hk) h1
end
end
section
open Go.RowKit

theorem wrun_any (w : World) (b : Nat) (N : Nt) (LL : List (List Int)) (MV : List Mv) (fl : Bool) (A : Option Addr) (n c : Nat) (As : Option Addr) (cs : Nat) (Av : Option Addr) (cv : Nat) (Af : Option Addr) (cf : Nat) (Ag : Option Addr) (cg : Nat) (k : Nat) (h : WdI w b N LL MV fl A n c As cs Av cv Af cf Ag cg) (hmo : mvOk MV LL.length) (hk : k < LL.length) (hl : Lead MV k 0) (hl2 : LL.length ≤ 1000000) (hv2 : MV.length ≤ 20000) :
 Calls Tryz.prog 49 #[.pointer (some ⟨b, 0, none⟩), .int .i64 (k : Int)] w fun e w' => ∃ v l, e = .returned v ∧ NS w w' v l ∧ WayL MV k 0 l ∧ l.length < LL.length := by
 have HW := hid h;have HDi := hid (wdist_any w b N LL MV fl A n c As cs Av cv Af cf Ag cg k h hmo hk hl2 hv2);have HMo := hid hmo;have HLe := hid hl;have hn0 : 0 < LL.length := by omega
 clear h hmo hl;go_enter Tryz.func49, Tryz.ntmps49;go_wp2_with fail;((with_reducible refine HDi.out.mono ?_); rintro e w1 ⟨v1, F, rfl, hS, hD⟩)
 obtain ⟨A1, c1, rfl, hz, _⟩ := hS.zin;have hfl := hD.len;rw [hfl];have hf0 := (lead_far HMo.out hD hn0).1 HLe.out;have htop := hD.top 0 hn0;have HWy := hid (wway_any w1 b N LL MV fl A n c As cs Av cv Af cf Ag cg 0 k A1 c1 F (HW.out.below hS.2) HMo.out hz hD hn0 hf0 hl2 hv2);rw [show ((0 : Nat) : Int) = 0 from rfl] at HWy htop;have HB1 := hid hS.2;clear HDi hS hz hf0 hD hfl;go_wp2_with fail;((with_reducible refine HWy.out.mono ?_); rintro e w2 ⟨v2, l, rfl, hS2, hw, hll⟩)
 have HS2 := hid (NS.up HB1.out hS2);have HWl := hid (And.intro hw hll);clear hS2 hw hll;go_wp2_with fail;go_ret;exact ⟨_, l, rfl, HS2.out, HWl.out.1, by have := HWl.out.2; omega⟩
end
section
open Go.RowKit

def CovE (N : Nt) (work : Bool) (most k : Int) : Prop := k ≠ 0 ∧ (FltK N work most k ∨ (FltK N work most 0 ∧ growT N (iniM N) most.toNat = none ∧ k = 13))
def CovT (N : Nt) (work : Bool) (most : Int) (T : TS) : Prop := FltK N work most 0 ∧ growT N (iniM N) most.toNat = some T
structure GrF (N : Nt) (T : TS) : Prop where
 gr : Gr N T
 all : ∀ s ∈ T.states, (s.length : Int) = N.pl
 nod : ∀ (i j : Nat) (s : List Int), T.states[i]? = some s → T.states[j]? = some s → i = j
 mo : mvOk (movesOf T) T.states.length
 l0 : 0 < T.states.length
 l2 : T.states.length ≤ 20001
 v2 : (movesOf T).length ≤ 20000
 ld : ∀ k, k < T.states.length → Lead (movesOf T) k 0
theorem CovT.grf {N : Nt} {work : Bool} {most : Int} {T : TS} (h : CovT N work most T) : GrF N T := by
 obtain ⟨hf, hg⟩ := h;have hv := hf.ok.1;have hG := Gr.of hv hg;have hmo := (moves_ok hG.i).1;have h1 := (List.getElem?_eq_some_iff.1 hG.i.one).1;have hc := hG.i.cnt;have hl := hG.i.len;exact ⟨hG, fun s hs => hG.slen hs, hG.i.nod, hmo, h1, by omega, by rw [movesOf_len]; omega, root_lead hmo (fun j h0 hj => mv_tree hG.i hj h0)⟩
def RsnPo (N : Nt) (most : Int) (w : World) (e : Ending) (w' : World) : Prop := Below w.heap.size w w' ∧
 ((∃ k : Int, e = .returned (.tuple #[.int .i64 0, .int .i64 k]) ∧ CovE N true most k) ∨ ∃ (T : TS) (r : Int), e = .returned (.tuple #[.int .i64 r, .int .i64 0]) ∧ CovT N true most T ∧ RsN N T.states (movesOf T) r)
theorem reason_any (N : Nt) (A : Option Addr) (n c : Nat) (most : Int) (w : World) (h : NtIn w A N) (hn : N.tr.length = n) (hn2 : n ≤ 9223372036854775806) (ht : Tb w) :
 Calls Tryz.prog 12 #[.agg #[.int .i64 N.pl, .slice A n c, .int .i64 N.src, .int .i64 N.snk], .int .i64 most] w (RsnPo N most w) := by
 have HB0 := hid (below_alloc w (.cells #[.int .i64 N.pl, .slice A n c, .int .i64 N.src, .int .i64 N.snk] 24));have HNb0 := hid (NB.new w N.pl A n c N.src N.snk);have HC := hid (covered_any N A n c true most _ (h.below HB0.out) hn hn2 (ht.below HB0.out));clear h hn ht;go_enter Tryz.func12, Tryz.ntmps12;go_wp2_with fail;generalize w.alloc _ = w0 at *;obtain ⟨b0, b1, b2, b3⟩ := HNb0.out.cells;((with_reducible refine HC.out.mono ?_); rintro e w1 hcv)
 rcases hcv with ⟨k, rfl, hk0, hk, hb1⟩ | ⟨hf, T, b, As, cs, Av, cv, Af, cf, Ag, cg, hg, rfl, hW, hb1⟩
 · have HE := hid (show CovE N true most k from ⟨hk0, hk⟩);have HB1 := hid (HB0.out.trans (hb1.mono HB0.out.size));have q1 : (k != 0) = true := by rw [bne_iff_ne]; exact hk0
   clear hk0 hk hb1 HC b0 b1 b2 b3;go_wp2_with fail;go_ret2;exact ⟨HB1.out, .inl ⟨k, rfl, HE.out⟩⟩
 · have HT := hid (show CovT N true most T from ⟨hf, hg⟩);have HG := hid HT.out.grf;have HB1 := hid (HB0.out.trans (hb1.mono HB0.out.size));have HFa := hid (wfault_any w1 b N T.states (movesOf T) true A n c As cs Av cv Af cf Ag cg hW HG.out.gr.v HG.out.all HG.out.nod HG.out.mo HG.out.l0 (by have := HG.out.l2; omega) HG.out.v2);clear hf hg hW hb1 HC b0 b1 b2 b3;go_wp2_with fail;((with_reducible refine HFa.out.mono ?_); rintro e w2 ⟨r, a, rfl, hr, hb2⟩)
   have HB2 := hid (HB1.out.trans (hb2.mono HB1.out.size));have HR := hid hr.1;clear hr hb2 HFa;go_wp2_with fail;go_ret2;exact ⟨HB2.out, .inr ⟨T, r, rfl, HT.out, HR.out⟩⟩
end
section
open Go.RowKit

def DeaPo (N : Nt) (most : Int) (w : World) (e : Ending) (w' : World) : Prop :=
 (∃ k : Int, e = .returned (.tuple #[.slice none 0 0, .int .i64 k]) ∧ CovE N false most k ∧ Below w.heap.size w w') ∨
 ∃ (T : TS) (v : Value) (L : List Int), e = .returned (.tuple #[v, .int .i64 0]) ∧ CovT N false most T ∧ NS w w' v L ∧ (L = [] ↔ ¬ RsD N T.states)
theorem sdead_any (N : Nt) (A : Option Addr) (n c : Nat) (most : Int) (w : World) (h : NtIn w A N) (hn : N.tr.length = n) (hn2 : n ≤ 9223372036854775806) (ht : Tb w) :
 Calls Tryz.prog 30 #[.agg #[.int .i64 N.pl, .slice A n c, .int .i64 N.src, .int .i64 N.snk], .int .i64 most] w (DeaPo N most w) := by
 have HB0 := hid (below_alloc w (.cells #[.int .i64 N.pl, .slice A n c, .int .i64 N.src, .int .i64 N.snk] 24));have HNb0 := hid (NB.new w N.pl A n c N.src N.snk);have HC := hid (covered_any N A n c false most _ (h.below HB0.out) hn hn2 (ht.below HB0.out));have HNl := hid hn;obtain ⟨i0, hi, hz0, hz1, hz2⟩ := info_parts intInfo;have HI := hid (And.intro hi (And.intro hz0 (And.intro hz1 hz2)));clear hi hz0 hz1 hz2;clear h hn ht;go_enter Tryz.func30, Tryz.ntmps30;go_wp2_with fail;generalize w.alloc _ = w0 at *;obtain ⟨b0, b1, b2, b3⟩ := HNb0.out.cells;((with_reducible refine HC.out.mono ?_); rintro e w1 hcv)
 rcases hcv with ⟨k, rfl, hk0, hk, hb1⟩ | ⟨hf, T, b, As, cs, Av, cv, Af, cf, Ag, cg, hg, rfl, hW, hb1⟩
 · have HE := hid (show CovE N false most k from ⟨hk0, hk⟩);have HB1 := hid (HB0.out.trans (hb1.mono HB0.out.size));have q1 : (k != 0) = true := by rw [bne_iff_ne]; exact hk0
   clear hk0 hk hb1 HC b0 b1 b2 b3;go_wp2_with fail;go_ret2;exact .inl ⟨k, rfl, HE.out, HB1.out⟩
 · have HT := hid (show CovT N false most T from ⟨hf, hg⟩);have HG := hid HT.out.grf;have HB1 := hid (HB0.out.trans (hb1.mono HB0.out.size));have HNb1 := hid (HNb0.out.below hb1);have HW1 := hid hW;have hn60 : n ≤ 60 := by have h9 := nt_small HG.out.gr.v; rw [HNl.out] at h9; omega
   clear hf hg hW hb1 HC b0 b1 b2 b3 HB0 HNb0;obtain ⟨b0, b1, b2, b3⟩ := HNb1.out.cells;go_wp2_with fail;clear b0 b1 b2 b3;go_loopg [22, 8] (n) (fun g iv lv wr => ∃ (t : Nat) (L : List Int), t + g = n ∧ iv = .int .i64 (t : Int) ∧ NS w1 wr lv L ∧ (L = [] ↔ ∀ x ∈ N.tr.take t, ∃ s ∈ T.states, canT x s = true) ∧ L.length ≤ t);case atStart => exact ⟨0, [], by omega, rfl, NS.start (Below.refl _ _), by simp, by simp⟩
   case round =>
    obtain ⟨t, L, htg, rfl, hS, hY, hLe⟩ := hrel;have HK := hid htg;have HS := hid hS;have HY := hid hY;have HLe := hid hLe;obtain ⟨Ao, co, rfl⟩ := hS.slice;have HWr := hid (HW1.out.below hS.2);have hle : t ≤ n := by omega
    clear htg hS hY hLe;by_cases hlt : t < n
    · have htl : t < N.tr.length := by rw [HNl.out]; exact hlt
      have hmem := List.getElem_mem htl;have HWh := hid (wwhere_any wr b N T.states (movesOf T) true A n c As cs Av cv Af cf Ag cg t HWr.out (by have := HG.out.l2; omega) htl (fun s hs => (nt_inM HG.out.gr.v (m := s.length) (HG.out.all s hs) _ hmem).1) (by have h1 := pls_len (trOk_mem (netOk_of HG.out.gr.v (m := N.pl.toNat) (by have := nt_small HG.out.gr.v; omega)) hmem).1; have := nt_small HG.out.gr.v; omega));have HTk := hid (List.take_succ_eq_append_getElem htl);generalize N.tr[t] = X at *;clear HWr hmem;rcases lidx_two (canT X) T.states with ⟨hn1, hno⟩ | ⟨g9, s9, hg9, hs9, hc9⟩
      · rw [hn1] at HWh;have HNo := hid hno;clear hn1 hno;go_wp2_with fail;((with_reducible refine HWh.out.mono ?_); rintro e w9 ⟨rfl, hb9⟩)
        have HS9 := hid (HS.out.below hb9);clear hb9 HWh HS;have hl60 : L.length ≤ 60 := by have := HLe.out; omega
        go_wp2_with (at_builtin; refine wpList_append_own _ rfl _ _ 27 rfl w1.heap.size 3 i0 (.int .i64 0) 1 8 Tryz.underlying27 HI.out.1 HI.out.2.1 HI.out.2.2.1 HI.out.2.2.2 rfl (by decide) (.slice Ao L.length co) _ _ rfl (HS9.out.1.alloc _) ⟨w9.heap.size, 0, none⟩ 1 1 [.int .i64 (t : Int)] rfl rfl ?c1 ?c2 ?c3 ?c4 ?c5 ?_);case c1 => intro j u hj; match j, hj with | 0, hj => simp at hj; subst hj; simp [Addr.add] | j + 1, hj => simp at hj
        case c2 => intro u hu; simp at hu; subst hu; rfl
        case c3 => unfold maxLen; omega
        case c4 => omega
        case c5 => have := HS9.out.size; simp; omega
        intro v7 w7 hown7 hgrow7 _;have HS7 := hid (HS9.out.push hown7 hgrow7);clear hown7 hgrow7;go_wp2_with fail;go_roundg (gk - 1);case measure => have := HK.out; omega
        case rel => exact ⟨t + 1, L ++ [(t : Int)], by have := HK.out; omega, by go_num, HS7.out, by
         rw [HTk.out];constructor
         · intro h; simp at h
         · intro h;obtain ⟨s, hs, hc⟩ := h X (by simp);exact absurd hc (by rw [HNo.out s hs]; decide), by rw [List.length_append]; simp; have := HLe.out; omega⟩
      · rw [hg9] at HWh;have HEx := hid (show ∃ s ∈ T.states, canT X s = true from ⟨s9, List.mem_of_getElem? hs9, hc9⟩);have q9 : decide ((g9 : Int) < 0) = false := by simp
        clear hg9 hs9 hc9;go_wp2_with fail;((with_reducible refine HWh.out.mono ?_); rintro e w9 ⟨rfl, hb9⟩)
        have HS9 := hid (HS.out.below hb9);clear hb9 HWh HS;go_wp2_with fail;go_roundg (gk - 1);case measure => have := HK.out; omega
        case rel => exact ⟨t + 1, L, by have := HK.out; omega, by go_num, HS9.out, by
         rw [HTk.out];refine HY.out.trans ⟨fun h x hx => ?_, fun h x hx => h x (List.mem_append_left _ hx)⟩;rcases List.mem_append.1 hx with h1 | h1
         · exact h x h1
         · simp at h1; subst h1; exact HEx.out, by have := HLe.out; omega⟩
    · have hte : N.tr.take t = N.tr := List.take_of_length_le (by rw [HNl.out]; omega);have HD := hid (show L = [] ↔ ¬ RsD N T.states from HY.out.trans (by
       rw [hte];unfold RsD;constructor
       · rintro h ⟨x, hx, hd⟩;obtain ⟨s, hs, hc⟩ := h x hx;rw [hd s hs] at hc; cases hc
       · intro h x hx;refine Classical.byContradiction fun hne => h ⟨x, hx, fun s hs => ?_⟩
         cases hc : canT x s with
         | false => rfl
         | true => exact absurd ⟨s, hs, hc⟩ hne))
      have HS2 := hid (NS.up HB1.out HS.out);clear hte;go_wp2_with fail;go_ret2;exact .inr ⟨T, _, L, rfl, HT.out, HS2.out, HD.out⟩
end
section
def e28a : Nt := ⟨3, [⟨⟨#[97]⟩, [0], [1]⟩, ⟨⟨#[98]⟩, [1], [2]⟩], 0, 2⟩
def e28b : Nt := ⟨3, [⟨⟨#[97]⟩, [0], [1]⟩, ⟨⟨#[98]⟩, [1], [2]⟩, ⟨⟨#[99]⟩, [0], [1, 2]⟩], 0, 2⟩
theorem e28a_tree : ∃ T, growT e28a (iniM e28a) 10 = some T ∧ T.states = [[1, 0, 0], [0, 1, 0], [0, 0, 1]] ∧ movesOf T = [⟨0, 1, 0⟩, ⟨1, 2, 1⟩] :=
 ⟨(growT e28a (iniM e28a) 10).get (by kernel_rfl), (Option.some_get _).symm, by kernel_rfl, by kernel_rfl⟩
theorem e28b_tree : ∃ T, growT e28b (iniM e28b) 10 = some T ∧ T.states = [[1, 0, 0], [0, 1, 0], [0, 1, 1], [0, 0, 1], [0, 0, 2]] :=
 ⟨(growT e28b (iniM e28b) 10).get (by kernel_rfl), (Option.some_get _).symm, by kernel_rfl⟩
theorem e28a_wf : wfP e28a := by
 have h0 : Rch e28a false 0 0 := .start;have h1 : Rch e28a false 0 1 := .step ⟨⟨#[97]⟩, [0], [1]⟩ 0 1 (by simp [e28a]) (by simp [insT]) h0 (by simp [outT]);have h2 : Rch e28a false 0 2 := .step ⟨⟨#[98]⟩, [1], [2]⟩ 1 2 (by simp [e28a]) (by simp [insT]) h1 (by simp [outT]);have g2 : Rch e28a true 2 2 := .start;have g1 : Rch e28a true 2 1 := .step ⟨⟨#[98]⟩, [1], [2]⟩ 2 1 (by simp [e28a]) (by simp [insT]) g2 (by simp [outT]);have g0 : Rch e28a true 2 0 := .step ⟨⟨#[97]⟩, [0], [1]⟩ 1 0 (by simp [e28a]) (by simp [insT]) g1 (by simp [outT]);refine ⟨by decide, rfl, ⟨fun x hx => ?_, fun t ht => ?_⟩, ⟨fun x hx => ?_, fun t ht => ?_⟩⟩
 · have hx' : x < 3 := hx
   match x, hx' with
   | 0, _ => exact h0
   | 1, _ => exact h1
   | 2, _ => exact h2
 · have : t = ⟨⟨#[97]⟩, [0], [1]⟩ ∨ t = ⟨⟨#[98]⟩, [1], [2]⟩ := by simpa [e28a] using ht
   rcases this with rfl | rfl
   · exact ⟨0, by simp [insT], h0⟩
   · exact ⟨1, by simp [insT], h1⟩
 · have hx' : x < 3 := hx
   match x, hx' with
   | 0, _ => exact g0
   | 1, _ => exact g1
   | 2, _ => exact g2
 · have : t = ⟨⟨#[97]⟩, [0], [1]⟩ ∨ t = ⟨⟨#[98]⟩, [1], [2]⟩ := by simpa [e28a] using ht
   rcases this with rfl | rfl
   · exact ⟨1, by simp [insT], g1⟩
   · exact ⟨2, by simp [insT], g2⟩
theorem e28b_wf : wfP e28b := by
 have h0 : Rch e28b false 0 0 := .start;have h1 : Rch e28b false 0 1 := .step ⟨⟨#[97]⟩, [0], [1]⟩ 0 1 (by simp [e28b]) (by simp [insT]) h0 (by simp [outT]);have h2 : Rch e28b false 0 2 := .step ⟨⟨#[98]⟩, [1], [2]⟩ 1 2 (by simp [e28b]) (by simp [insT]) h1 (by simp [outT]);have g2 : Rch e28b true 2 2 := .start;have g1 : Rch e28b true 2 1 := .step ⟨⟨#[98]⟩, [1], [2]⟩ 2 1 (by simp [e28b]) (by simp [insT]) g2 (by simp [outT]);have g0 : Rch e28b true 2 0 := .step ⟨⟨#[97]⟩, [0], [1]⟩ 1 0 (by simp [e28b]) (by simp [insT]) g1 (by simp [outT]);refine ⟨by decide, rfl, ⟨fun x hx => ?_, fun t ht => ?_⟩, ⟨fun x hx => ?_, fun t ht => ?_⟩⟩
 · have hx' : x < 3 := hx
   match x, hx' with
   | 0, _ => exact h0
   | 1, _ => exact h1
   | 2, _ => exact h2
 · have : t = ⟨⟨#[97]⟩, [0], [1]⟩ ∨ t = ⟨⟨#[98]⟩, [1], [2]⟩ ∨ t = ⟨⟨#[99]⟩, [0], [1, 2]⟩ := by simpa [e28b] using ht
   rcases this with rfl | rfl | rfl
   · exact ⟨0, by simp [insT], h0⟩
   · exact ⟨1, by simp [insT], h1⟩
   · exact ⟨0, by simp [insT], h0⟩
 · have hx' : x < 3 := hx
   match x, hx' with
   | 0, _ => exact g0
   | 1, _ => exact g1
   | 2, _ => exact g2
 · have : t = ⟨⟨#[97]⟩, [0], [1]⟩ ∨ t = ⟨⟨#[98]⟩, [1], [2]⟩ ∨ t = ⟨⟨#[99]⟩, [0], [1, 2]⟩ := by simpa [e28b] using ht
   rcases this with rfl | rfl | rfl
   · exact ⟨1, by simp [insT], g1⟩
   · exact ⟨2, by simp [insT], g2⟩
   · exact ⟨1, by simp [insT], g1⟩
theorem e28a_flt : FltK e28a true 10 0 := .inr (.inr (.inr ⟨by kernel_rfl, fun _ => e28a_wf, by decide, rfl⟩))
theorem e28b_flt : FltK e28b true 10 0 := .inr (.inr (.inr ⟨by kernel_rfl, fun _ => e28b_wf, by decide, rfl⟩))
theorem e28a_cov {k : Int} (h : CovE e28a true 10 k) : False := by
 obtain ⟨h0, h1 | ⟨_, h2, _⟩⟩ := h
 · exact h0 (h1.uniq e28a_flt)
 · obtain ⟨T, hT, _⟩ := e28a_tree;rw [show ((10 : Int).toNat) = 10 from rfl, hT] at h2; cases h2
theorem e28b_cov {k : Int} (h : CovE e28b true 10 k) : False := by
 obtain ⟨h0, h1 | ⟨_, h2, _⟩⟩ := h
 · exact h0 (h1.uniq e28b_flt)
 · obtain ⟨T, hT, _⟩ := e28b_tree;rw [show ((10 : Int).toNat) = 10 from rfl, hT] at h2; cases h2
theorem e28a_r {T : TS} {r : Int} (h : CovT e28a true 10 T) (hr : RsN e28a T.states (movesOf T) r) : r = 0 := by
 obtain ⟨T', hT, hs, hm⟩ := e28a_tree;have e : T = T' := by
  have := h.2;rw [show ((10 : Int).toNat) = 10 from rfl, hT] at this;exact (Option.some.inj this).symm
 subst e;rw [hs, hm] at hr;refine hr.uniq (.inr (.inr (.inr (.inr ⟨?_, ?_, ?_, ?_, rfl⟩))))
 · rintro ⟨s, hs, ho⟩;have : s = [1, 0, 0] ∨ s = [0, 1, 0] ∨ s = [0, 0, 1] := by simpa using hs
   rcases this with rfl | rfl | rfl <;> exact absurd ho (by decide)
 · rintro ⟨s, hs, h0, hf⟩;have : s = [1, 0, 0] ∨ s = [0, 1, 0] ∨ s = [0, 0, 1] := by simpa using hs
   rcases this with rfl | rfl | rfl
   · exact absurd h0 (by decide)
   · exact absurd h0 (by decide)
   · exact hf (by kernel_rfl)
 · rintro ⟨k, hk, hn⟩;have h2 : Lead [⟨0, 1, 0⟩, ⟨1, 2, 1⟩] 2 2 := .stop;have h1 : Lead [⟨0, 1, 0⟩, ⟨1, 2, 1⟩] 2 1 := .step (t := 2) (k := 1) (by simp) h2;have h0 : Lead [⟨0, 1, 0⟩, ⟨1, 2, 1⟩] 2 0 := .step (t := 1) (k := 0) (by simp) h1;have hk' : k < 3 := hk;refine hn ⟨2, by kernel_rfl, ?_⟩
   match k, hk' with
   | 0, _ => exact h0
   | 1, _ => exact h1
   | 2, _ => exact h2
 · rintro ⟨t, ht, hd⟩;have : t = ⟨⟨#[97]⟩, [0], [1]⟩ ∨ t = ⟨⟨#[98]⟩, [1], [2]⟩ := by simpa [e28a] using ht
   rcases this with rfl | rfl
   · exact absurd (hd [1, 0, 0] (by simp)) (by decide)
   · exact absurd (hd [0, 1, 0] (by simp)) (by decide)
theorem e28b_r {T : TS} {r : Int} (h : CovT e28b true 10 T) (hr : RsN e28b T.states (movesOf T) r) : r = 2 := by
 obtain ⟨T', hT, hs⟩ := e28b_tree;have e : T = T' := by
  have := h.2;rw [show ((10 : Int).toNat) = 10 from rfl, hT] at this;exact (Option.some.inj this).symm
 subst e;rw [hs] at hr;refine hr.uniq (.inr (.inl ⟨?_, rfl, [0, 1, 1], by simp, by decide, by decide⟩));rintro ⟨s, hs, ho⟩;have : s = [1, 0, 0] ∨ s = [0, 1, 0] ∨ s = [0, 1, 1] ∨ s = [0, 0, 1] ∨ s = [0, 0, 2] := by simpa using hs
 rcases this with rfl | rfl | rfl | rfl | rfl <;> exact absurd ho (by decide)
end
end Go.Proofs.YtkhmngljpfibcaaGreatDoor
