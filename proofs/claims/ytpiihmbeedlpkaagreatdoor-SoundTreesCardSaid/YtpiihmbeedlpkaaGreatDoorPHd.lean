/- cover.Bounded: what a call returns. -/
import Derived.Test.YtpiihmbeedlpkaaGreatDoorPUu
import Derived.Test.YtpiihmbeedlpkaaGreatDoorPDn
import Derived.Test.YtpiihmbeedlpkaaGreatDoorPHc
namespace Go.Proofs.YtpiihmbeedlpkaaGreatDoor
set_option maxRecDepth 100000
set_option maxHeartbeats 12800000
open Go.Lib (hid)
open Go.RowKit

def CtB (w : World) (b : Nat) (vs : Array Value) : Prop := w.heap[b]? = some (.cells vs 38 (0, 0))
theorem ct_set {w : World} {b : Nat} {a0 a1 a2 a3 a4 a5 a6 a7 : Value} (h : CtB w b #[a0, a1, a2, a3, a4, a5, a6, a7]) (v0 v1 v2 v3 v4 v5 v6 v7 : Value) :
 CtB ((((((((w.setCell ⟨b, 0, none⟩ v0).setCell ⟨b, 1, none⟩ v1).setCell ⟨b, 2, none⟩ v2).setCell ⟨b, 3, none⟩ v3).setCell ⟨b, 4, none⟩ v4).setCell ⟨b, 5, none⟩ v5).setCell ⟨b, 6, none⟩ v6).setCell ⟨b, 7, none⟩ v7) b #[v0, v1, v2, v3, v4, v5, v6, v7] := by
 unfold CtB at h ⊢;have h0 : (w.setCell ⟨b, 0, none⟩ v0).heap[b]? = some (.cells #[v0, a1, a2, a3, a4, a5, a6, a7] 38 (0, 0)) := by rw [heap_set2 h]; rfl
 have h1 : ((w.setCell ⟨b, 0, none⟩ v0).setCell ⟨b, 1, none⟩ v1).heap[b]? = some (.cells #[v0, v1, a2, a3, a4, a5, a6, a7] 38 (0, 0)) := by rw [heap_set2 h0]; rfl
 have h2 : (((w.setCell ⟨b, 0, none⟩ v0).setCell ⟨b, 1, none⟩ v1).setCell ⟨b, 2, none⟩ v2).heap[b]? = some (.cells #[v0, v1, v2, a3, a4, a5, a6, a7] 38 (0, 0)) := by rw [heap_set2 h1]; rfl
 have h3 : ((((w.setCell ⟨b, 0, none⟩ v0).setCell ⟨b, 1, none⟩ v1).setCell ⟨b, 2, none⟩ v2).setCell ⟨b, 3, none⟩ v3).heap[b]? = some (.cells #[v0, v1, v2, v3, a4, a5, a6, a7] 38 (0, 0)) := by rw [heap_set2 h2]; rfl
 have h4 : (((((w.setCell ⟨b, 0, none⟩ v0).setCell ⟨b, 1, none⟩ v1).setCell ⟨b, 2, none⟩ v2).setCell ⟨b, 3, none⟩ v3).setCell ⟨b, 4, none⟩ v4).heap[b]? = some (.cells #[v0, v1, v2, v3, v4, a5, a6, a7] 38 (0, 0)) := by rw [heap_set2 h3]; rfl
 have h5 : ((((((w.setCell ⟨b, 0, none⟩ v0).setCell ⟨b, 1, none⟩ v1).setCell ⟨b, 2, none⟩ v2).setCell ⟨b, 3, none⟩ v3).setCell ⟨b, 4, none⟩ v4).setCell ⟨b, 5, none⟩ v5).heap[b]? = some (.cells #[v0, v1, v2, v3, v4, v5, a6, a7] 38 (0, 0)) := by rw [heap_set2 h4]; rfl
 have h6 : (((((((w.setCell ⟨b, 0, none⟩ v0).setCell ⟨b, 1, none⟩ v1).setCell ⟨b, 2, none⟩ v2).setCell ⟨b, 3, none⟩ v3).setCell ⟨b, 4, none⟩ v4).setCell ⟨b, 5, none⟩ v5).setCell ⟨b, 6, none⟩ v6).heap[b]? = some (.cells #[v0, v1, v2, v3, v4, v5, v6, a7] 38 (0, 0)) := by rw [heap_set2 h5]; rfl
 have h7 : ((((((((w.setCell ⟨b, 0, none⟩ v0).setCell ⟨b, 1, none⟩ v1).setCell ⟨b, 2, none⟩ v2).setCell ⟨b, 3, none⟩ v3).setCell ⟨b, 4, none⟩ v4).setCell ⟨b, 5, none⟩ v5).setCell ⟨b, 6, none⟩ v6).setCell ⟨b, 7, none⟩ v7).heap[b]? = some (.cells #[v0, v1, v2, v3, v4, v5, v6, v7] 38 (0, 0)) := by rw [heap_set2 h6]; rfl
 exact h7
theorem grown_step {w w1 : World} {b o : Nat} {v : Value} (h : w.grownBy w1 (some b)) : w.grownBy (w1.setCell ⟨b, o, none⟩ v) (some b) := Lib.grownBy_setB h o v
theorem ct_grown (w : World) (b : Nat) (v0 v1 v2 v3 v4 v5 v6 v7 : Value) :
 w.grownBy ((((((((w.setCell ⟨b, 0, none⟩ v0).setCell ⟨b, 1, none⟩ v1).setCell ⟨b, 2, none⟩ v2).setCell ⟨b, 3, none⟩ v3).setCell ⟨b, 4, none⟩ v4).setCell ⟨b, 5, none⟩ v5).setCell ⟨b, 6, none⟩ v6).setCell ⟨b, 7, none⟩ v7) (some b) :=
 grown_step (grown_step (grown_step (grown_step (grown_step (grown_step (grown_step (grown_step (grown_refl w (some b)))))))))
section
variable {w w' : World} {b : Nat} {a0 a1 a2 a3 a4 a5 a6 a7 : Value} {vs : Array Value}
theorem CtB.lt (h : CtB w b vs) : b < w.heap.size := (Array.getElem?_eq_some_iff.1 h).1
theorem CtB.below (h : CtB w b vs) (hb : Below w.heap.size w w') : CtB w' b vs := by
 unfold CtB; rw [hb.block b h.lt]; exact h
theorem CtB.cells (h : CtB w b #[a0, a1, a2, a3, a4, a5, a6, a7]) : w.cell? ⟨b, 0, none⟩ = some a0 ∧ w.cell? ⟨b, 1, none⟩ = some a1 ∧ w.cell? ⟨b, 2, none⟩ = some a2 ∧ w.cell? ⟨b, 3, none⟩ = some a3 ∧ w.cell? ⟨b, 4, none⟩ = some a4 ∧ w.cell? ⟨b, 5, none⟩ = some a5 ∧ w.cell? ⟨b, 6, none⟩ = some a6 ∧ w.cell? ⟨b, 7, none⟩ = some a7 := by
 unfold CtB at h;simp [World.cell?, h]
theorem CtB.soft (h : CtB w b vs) (o : Nat) : w.frozen? ⟨b, o, none⟩ = false := by
 unfold CtB at h;simp [World.frozen?, h]
end
theorem OLL.kept {w0 wr w' : World} {v : Value} {LL : List (List Int)} (h : OLL w0 wr v LL) {b : Nat} {cs : Array Value} {T : TypeId} (hb : wr.heap[b]? = some (.cells cs T (0, 0))) (h1 : 34 ≠ T) (h2 : 3 ≠ T) (h3 : w0.heap.size ≤ b) (hg : wr.grownBy w' (some b)) : OLL w0 w' v LL := by
 obtain ⟨SL, a1, a2, a3, a4⟩ := h;have h5 : ∀ k, some b = some k → w0.heap.size ≤ k := fun k hk => by cases hk; exact h3
 exact ⟨SL, a1.kept hg (own_other a1 hb h1), a2, fun k x s hk hs => (a3 k x s hk hs).kept hg (own_other (a3 k x s hk hs).1 hb h2) h5, a4.grown hg a4.size h5⟩
def zCt : Value := .agg #[.int .i64 0, .int .i64 0, .slice none 0 0, .slice none 0 0, .slice none 0 0, .slice none 0 0, .slice none 0 0, .slice none 0 0]
structure FOm (N : Nt) (T : TS) (i : Nat) (d : Nd) (g : Nat) (z : Nd) (W1 W2 : List Nat) (p : Nat) : Prop where
 fst : ∀ (j : Nat) (e : Nd), j < i → T.nodes[j]? = some e → e.om = false
 at_ : T.nodes[i]? = some d
 om : d.om = true
 gr : d.gr = (g : Int)
 anc : T.nodes[g]? = some z
 w1 : Path N T 0 g W1
 w2 : Path N T g i W2
 ne : W2 ≠ []
 le : leE z.ms d.pn
 pl : p < d.pn.length
 df : d.pn.getD p 0 ≠ z.ms.getD p 0
def BdPo (N : Nt) (M : List Int) (most : Int) (w : World) (e : Ending) (w' : World) : Prop :=
 Below w.heap.size w w' ∧ match beR N [M] 0 most with
 | .inl k => e = .returned (.tuple #[.bool false, zCt, .int .i64 k])
 | .inr T => (∃ v, e = .returned (.tuple #[.bool true, .agg #[.int .i64 5, .int .i64 0, .slice none 0 0, .slice none 0 0, v, .slice none 0 0, .slice none 0 0, .slice none 0 0], .int .i64 0]) ∧ OLL w w' v T.states ∧ ∀ (j : Nat) (d : Nd), T.nodes[j]? = some d → d.om = false) ∨
  ∃ (i : Nat) (d : Nd) (g : Nat) (z : Nd) (W1 W2 : List Nat) (p : Nat) (v1 v2 : Value), FOm N T i d g z W1 W2 p ∧ e = .returned (.tuple #[.bool false, .agg #[.int .i64 6, .int .i64 p, v1, v2, .slice none 0 0, .slice none 0 0, .slice none 0 0, .slice none 0 0], .int .i64 0]) ∧ NS w w' v1 (W1.map Int.ofNat) ∧ NS w w' v2 (W2.map Int.ofNat)
theorem BdPo.no {N : Nt} {M : List Int} {most : Int} {w w' : World} {e : Ending} {k : Int} (h : beR N [M] 0 most = .inl k) (hb : Below w.heap.size w w') (he : e = .returned (.tuple #[.bool false, zCt, .int .i64 k])) : BdPo N M most w e w' := by
 refine ⟨hb, ?_⟩; rw [h]; exact he
theorem BdPo.yes {N : Nt} {M : List Int} {most : Int} {w w' : World} {e : Ending} {T : TS} {v : Value} (h : beR N [M] 0 most = .inr T) (he : e = .returned (.tuple #[.bool true, .agg #[.int .i64 5, .int .i64 0, .slice none 0 0, .slice none 0 0, v, .slice none 0 0, .slice none 0 0, .slice none 0 0], .int .i64 0])) (hs : OLL w w' v T.states) (hno : ∀ (j : Nat) (d : Nd), T.nodes[j]? = some d → d.om = false) : BdPo N M most w e w' := by
 refine ⟨hs.bel, ?_⟩; rw [h]; exact .inl ⟨v, he, hs, hno⟩
theorem BdPo.om {N : Nt} {M : List Int} {most : Int} {w w' : World} {e : Ending} {T : TS} {i : Nat} {d : Nd} {g : Nat} {z : Nd} {W1 W2 : List Nat} {p : Nat} {v1 v2 : Value} (h : beR N [M] 0 most = .inr T) (hf : FOm N T i d g z W1 W2 p) (he : e = .returned (.tuple #[.bool false, .agg #[.int .i64 6, .int .i64 p, v1, v2, .slice none 0 0, .slice none 0 0, .slice none 0 0, .slice none 0 0], .int .i64 0])) (h1 : NS w w' v1 (W1.map Int.ofNat)) (h2 : NS w w' v2 (W2.map Int.ofNat)) : BdPo N M most w e w' := by
 refine ⟨h1.2, ?_⟩; rw [h]; exact .inr ⟨i, d, g, z, W1, W2, p, v1, v2, hf, he, h1, h2⟩
theorem differ {x y : List Int} (hl : x.length = y.length) (h : x ≠ y) {q : Nat} (hq : ∀ p, p < q → x.getD p 0 = y.getD p 0) : q < x.length := by
 rcases Nat.lt_or_ge q x.length with h1 | h1
 · exact h1
 · exact absurd (ext_get hl fun p hp => hq p (by omega)) h
theorem bounded_any (N : Nt) (A : Option Addr) (n c : Nat) (Am : Option Addr) (m cm : Nat) (M : List Int) (most : Int) (w : World) (h : NtIn w A N) (hn : N.tr.length = n) (hn2 : n ≤ 9223372036854775807) (hM : ZIn w Am M) (hm : M.length = m) (hm1 : m ≤ cm) (hm2 : cm ≤ 9223372036854775807) (ht : Tb w) :
 Calls Tryz.prog 18 #[.agg #[.int .i64 N.pl, .slice A n c, .int .i64 N.src, .int .i64 N.snk], .slice Am m cm, .int .i64 most] w (BdPo N M most w) := by
 have HB := hid (two_boxes w (.cells #[.int .i64 N.pl, .slice A n c, .int .i64 N.src, .int .i64 N.snk] 30) (.cells #[.int .i64 0, .int .i64 0, .slice none 0 0, .slice none 0 0, .slice none 0 0, .slice none 0 0, .slice none 0 0, .slice none 0 0] 38));have hnew := heap_alloc_new (w.alloc (.cells #[.int .i64 N.pl, .slice A n c, .int .i64 N.src, .int .i64 N.snk] 30)) (.cells #[.int .i64 0, .int .i64 0, .slice none 0 0, .slice none 0 0, .slice none 0 0, .slice none 0 0, .slice none 0 0, .slice none 0 0] 38);rw [World.size_alloc] at hnew;have HRb := hid (show CtB _ (w.heap.size + 1) #[.int .i64 0, .int .i64 0, .slice none 0 0, .slice none 0 0, .slice none 0 0, .slice none 0 0, .slice none 0 0, .slice none 0 0] from hnew);have HNb := hid ((NB.new w N.pl A n c N.src N.snk).below (below_alloc _ (.cells #[.int .i64 0, .int .i64 0, .slice none 0 0, .slice none 0 0, .slice none 0 0, .slice none 0 0, .slice none 0 0, .slice none 0 0] 38)));have hs0 : ((w.alloc (.cells #[.int .i64 N.pl, .slice A n c, .int .i64 N.src, .int .i64 N.snk] 30)).alloc (.cells #[.int .i64 0, .int .i64 0, .slice none 0 0, .slice none 0 0, .slice none 0 0, .slice none 0 0, .slice none 0 0, .slice none 0 0] 38)).heap.size = w.heap.size + 1 + 1 := by simp
 have HIn := hid (h.below HB.out);have HZ := hid (hM.below HB.out);have HT := hid (ht.below HB.out);clear h hM ht hnew;go_enter Tryz.func18, Tryz.ntmps18;go_wp2_with fail;generalize hrb : w.heap.size + 1 = rb at *;generalize (w.alloc _).alloc _ = w0 at *;obtain ⟨b0, b1, b2, b3⟩ := HNb.out.cells;have hrbw : w.heap.size ≤ rb := by omega
 clear hrb;have HL := hid (lin_one HZ.out hm hm1 hm2);have HBe := hid (begin_any N A n c (some ⟨w0.heap.size, 0, none⟩) 1 1 [M] 0 most _ (HIn.out.below (below_alloc w0 (.cells #[.slice Am m cm] 34))) hn hn2 HL.out rfl (by decide) (by decide) (HT.out.below (below_alloc w0 _)));rw [hs0] at HBe;have HAl := hid (below_alloc w0 (.cells #[.slice Am m cm] 34));((with_reducible refine HBe.out.mono ?_); rintro e w1 hP)
 rcases hP.parts with ⟨k, hR, hk, rfl, hb1⟩ | ⟨T, tb, vN, vS, NL, SL, hR, rfl, hgp, hgr, hall⟩
 · have HR := hid hR;have HRb1 := hid ((HRb.out.below HAl.out).below hb1);have HB1 := hid (below_then HB.out (below_then HAl.out hb1));clear hR hb1 hP HBe HL HIn HZ HT b0 b1 b2 b3 HNb;obtain ⟨r0, r1, r2, r3, r4, r5, r6, r7⟩ := HRb1.out.cells;have rf0 := HRb1.out.soft;have HRe := hid (ct_set HRb1.out (.int .i64 0) (.int .i64 0) (.slice none 0 0) (.slice none 0 0) (.slice none 0 0) (.slice none 0 0) (.slice none 0 0) (.slice none 0 0));have HGe := hid (ct_grown w1 rb (.int .i64 0) (.int .i64 0) (.slice none 0 0) (.slice none 0 0) (.slice none 0 0) (.slice none 0 0) (.slice none 0 0) (.slice none 0 0));go_wp2_with fail;generalize (((((((w1.setCell ⟨rb, 0, none⟩ _).setCell ⟨rb, 1, none⟩ _).setCell ⟨rb, 2, none⟩ _).setCell ⟨rb, 3, none⟩ _).setCell ⟨rb, 4, none⟩ _).setCell ⟨rb, 5, none⟩ _).setCell ⟨rb, 6, none⟩ _).setCell ⟨rb, 7, none⟩ _ = we at *;obtain ⟨d0, d1, d2, d3, d4, d5, d6, d7⟩ := HRe.out.cells;have HB9 := hid (HB1.out.grown HGe.out HB1.out.size (fun k hk => by cases hk; exact hrbw));exact bodyPost_ret (v := .tuple #[.bool false, zCt, .int .i64 k]) (by simp [zCt, results, Tryz.results18, go_sem, d0, d1, d2, d3, d4, d5, d6, d7]) rfl (BdPo.no HR.out HB9.out rfl)
 · have hgood := grow_good (N := N) (M := M) (by simpa using hall) hgr;have hpl := mk_len (N := N) (M := M) (by simpa using hall);have hps := nt_small (mk_nt (N := N) (M := M) (by simpa using hall));have HR := hid hR;have HTI := hid hgood.1;have HNet := hid hgood.2.2.1;have HisM := hid hgood.2.2.2;have HG1 := hid (hgp.up HAl.out);have HRb1 := hid ((HRb.out.below HAl.out).below hgp.bel);have HB1 := hid (below_then HB.out (below_then HAl.out hgp.bel));have HNl := hid hgp.len;have hnl : NL.length ≤ 20001 := by rw [hgp.len]; exact hgood.1.len
   have hnl0 : 0 < NL.length := by rw [hgp.len]; exact (List.getElem?_eq_some_iff.1 hgood.1.root).1
   obtain ⟨AN, cN, hvN, hAN⟩ := row_slice hgp.nds;obtain ⟨gN, rfl, _, _⟩ := hAN hnl0;subst hvN;have hm40 : m ≤ 40 := by omega
   clear hR hP HBe HL HIn HZ HT b0 b1 b2 b3 HNb hgood hgr hall hgp hAN;obtain ⟨t0, t1, _, _⟩ := HG1.out.cells;go_wp2_with fail;go_loopg [32] (NL.length) (fun g kv wr => ∃ k : Nat, k + g = NL.length ∧ kv = .int .i64 (k : Int) ∧ (∀ (j : Nat) (d : Nd), j < k → T.nodes[j]? = some d → d.om = false) ∧ Below w1.heap.size w1 wr);case atStart => exact ⟨0, by omega, rfl, fun j d hj => by omega, Below.refl _ _⟩
   case round =>
    clear t0 t1;obtain ⟨k, hkg, rfl, hno, hB⟩ := hrel;have HK := hid hkg;have HNo := hid hno;have HBr := hid hB;have hkn : k ≤ NL.length := by omega
    have HGr := hid (HG1.out.below hB);clear hkg hno hB;obtain ⟨t0, t1, _, _⟩ := HGr.out.cells;by_cases hlt : k < NL.length
    · have hkl : k < T.nodes.length := by rw [← HNl.out]; exact hlt
      obtain ⟨d, hd⟩ : ∃ d, T.nodes[k]? = some d := ⟨_, List.getElem?_eq_getElem hkl⟩;have HD := hid hd;have HFi := hid (HTI.out.fine HNet.out HisM.out k d hd);obtain ⟨gN1, cN1, x, hv', _, _, _, hx, hxp, hxm, hc⟩ := HGr.out.at_ hd;cases hv';have n0 : wr.cell? ⟨gN, k * 8, none⟩ = some x.vp := hc 0 _ rfl;have n1 := hc 1 _ rfl;have n2 := hc 2 _ rfl;have n3 := hc 3 _ rfl;have n4 := hc 4 _ rfl;have n5 := hc 5 _ rfl;have n6 := hc 6 _ rfl;have n7 := hc 7 _ rfl;rw [hx] at n2 n3 n4 n5 n6 n7;rw [show k * 8 + 2 = k * 8 + 1 + 1 by omega] at n2;rw [show k * 8 + 3 = k * 8 + 1 + 1 + 1 by omega] at n3;rw [show k * 8 + 4 = k * 8 + 1 + 1 + 1 + 1 by omega] at n4;rw [show k * 8 + 5 = k * 8 + 1 + 1 + 1 + 1 + 1 by omega] at n5;rw [show k * 8 + 6 = k * 8 + 1 + 1 + 1 + 1 + 1 + 1 by omega] at n6;rw [show k * 8 + 7 = k * 8 + 1 + 1 + 1 + 1 + 1 + 1 + 1 by omega] at n7;obtain ⟨Ap, cp, hpe⟩ := hxp.slice;obtain ⟨Aq, cq, hqe⟩ := hxm.slice;have hlp : d.pn.length = m := by rw [HFi.out.lp, hm]
      have hlm : d.ms.length = m := by rw [HFi.out.lm, hm]
      rw [hlp] at hpe;rw [hlm] at hqe;have n0' : wr.cell? ⟨gN, k * 8, none⟩ = some (.slice Ap m cp) := n0.trans (congrArg some hpe);have n1' : wr.cell? ⟨gN, k * 8 + 1, none⟩ = some (.slice Aq m cq) := n1.trans (congrArg some hqe);have HZp := hid (show ZIn wr Ap d.pn by obtain ⟨A', c', e, hz, _⟩ := hxp.zin; rw [hpe, hlp] at e; cases e; exact hz);have HLp := hid hlp;have HBx := hid (below_alloc wr (.cells #[(.slice Ap m cp), (.slice Aq m cq), .int .i64 d.ab, .int .i64 d.tr, .int .i64 (d.st : Int), .int .i64 d.gr, .bool d.nw, .bool d.om] 93));have HXb := hid (NdB.new wr (.slice Ap m cp) (.slice Aq m cq) d.ab d.tr (d.st : Int) d.gr d.nw d.om);clear hc hx hd hxp hxm n0 n1 hpe hqe hlp hlm;have hk0 : (0 : Int) ≤ (k : Int) := by omega
      have hk9 : (k : Int) < (NL.length : Int) := by omega
      cases hom : d.om with
      | false =>
       rw [hom] at n7 HXb HBx;have HNo1 := hid (show ∀ (j : Nat) (e : Nd), j < k + 1 → T.nodes[j]? = some e → e.om = false by
        intro j e hj he;rcases Nat.lt_or_ge j k with h1 | h1
        · exact HNo.out j e h1 he
        · obtain rfl : j = k := by omega
          rw [HD.out] at he; cases he; exact hom)
       clear hom;go_wp2_with fail;go_roundg (gk - 1);case measure => have := HK.out; omega
       case rel => exact ⟨k + 1, by have := HK.out; omega, by go_num, HNo1.out, below_then HBr.out HBx.out⟩
      | true =>
       rw [hom] at n7 HXb HBx;rcases node_om HTI.out HNet.out HisM.out HD.out with ⟨h1, _⟩ | ⟨_, hho, hk1, g, z, W2, hg, hz, hw2, hwn, hle, hne⟩
       · rw [hom] at h1; cases h1
       obtain ⟨W1, hw1⟩ := root_path HTI.out g z hz;have HFz := hid (HTI.out.fine HNet.out HisM.out g z hz);have HFo := hid (fun (p : Nat) (hp : p < d.pn.length) (hdf : d.pn.getD p 0 ≠ z.ms.getD p 0) => show FOm N T k d g z W1 W2 p from ⟨HNo.out, HD.out, hom, hg, hz, hw1, hw2, hwn, hle, hp, hdf⟩);have HNe := hid hne;have HW := hid (And.intro hw1 hw2);have hgk : g ≤ k := (hw2.le HTI.out).1;have hl1 : W1.length ≤ 100000 := by have := (path_len HTI.out hw1 hz).2; have := HTI.out.cnt; have := HTI.out.len; omega
       have hl2 : W2.length ≤ 100000 := by have := (path_len HTI.out hw2 HD.out).2; have := HTI.out.cnt; have := HTI.out.len; omega
       rw [hg] at n5 HXb HBx;obtain ⟨gN1, cN1, xz, hv', _, _, _, hxz, _, hzm, hc⟩ := HGr.out.at_ hz;cases hv';have z1 := hc 1 _ rfl;obtain ⟨Az, cz, hze⟩ := hzm.slice;have hlz : z.ms.length = m := by rw [HFz.out.lm, hm]
       rw [hlz] at hze;have z1' : wr.cell? ⟨gN, g * 8 + 1, none⟩ = some (.slice Az m cz) := z1.trans (congrArg some hze);have HZz := hid (show ZIn wr Az z.ms by obtain ⟨A', c', e, hz', _⟩ := hzm.zin; rw [hze, hlz] at e; cases e; exact hz');have HLz := hid hlz;clear hom hho hg hz hw1 hw2 hwn hle hne hc hxz hzm z1 hze hlz;have hg0 : (0 : Int) ≤ (g : Int) := by omega
       have hg9 : (g : Int) < (NL.length : Int) := by omega
       have hxr : wr.heap.size ≠ rb := by have := HRb1.out.lt; have := HBr.out.size; omega
       go_wp2_with fail;generalize hxb : wr.heap.size = xb at *;generalize wr.alloc _ = w2 at *;rw [← hxb] at HBx;clear hxb n0' n1' n2 n3 n4 n5 n6 n7;have HG2 := hid (HGr.out.below HBx.out);have HZp2 := hid (HZp.out.below HBx.out);have HZz2 := hid (HZz.out.below HBx.out);have z2 := cell_stays HBx.out z1';have HB2 := hid (below_then HBr.out HBx.out);clear t0 t1 HGr HZp HZz z1' HBx HBr;obtain ⟨t0, t1, _, _⟩ := HG2.out.cells;obtain ⟨x0, x1, x2, x3, x4, x5, x6, x7⟩ := HXb.out.cells;go_quiet (fail);have hbq := below_drewN w2 nq;generalize w2.drewN nq = w3 at *;have HG3 := hid (HG2.out.below hbq);have HXb3 := hid (HXb.out.below hbq);have HZp3 := hid (HZp2.out.below hbq);have HZz3 := hid (HZz2.out.below hbq);have HB3 := hid (below_then HB2.out hbq);clear hbq HG2 HXb HZp2 HZz2 HB2 z2 t0 t1 x0 x1 x2 x3 x4 x5 x6 x7;obtain ⟨go, rfl⟩ : ∃ go, go = gk := ⟨_, rfl⟩;obtain ⟨wo, rfl⟩ : ∃ wo : World, wo = wr := ⟨_, rfl⟩;go_wp2_with fail;go_loopg [14] (m) (fun g pv wx => ∃ p : Nat, p + g = m ∧ pv = .int .i64 (p : Int) ∧ (∀ q, q < p → d.pn.getD q 0 = z.ms.getD q 0) ∧ Below w3.heap.size w3 wx);case atStart => exact ⟨0, by omega, rfl, fun q hq => by omega, Below.refl _ _⟩
       case round =>
        obtain ⟨p, hpg, rfl, hpq, hB⟩ := hrel;have HKp := hid hpg;have HPq := hid hpq;have hpm : p < m := by have := differ (by rw [HLp.out, HLz.out]) (fun e => HNe.out e.symm) hpq; rw [HLp.out] at this; exact this
        have HBx := hid hB;obtain ⟨ap, rfl, hpa, q0⟩ := (HZp3.out.below hB) p (by rw [HLp.out]; exact hpm);obtain ⟨az, rfl, hza, q5⟩ := (HZz3.out.below hB) p (by rw [HLz.out]; exact hpm);obtain ⟨x0, x1, x2, x3, x4, x5, x6, x7⟩ := (HXb3.out.below hB).cells;have hgp : d.pn.getD p 0 = d.pn[p]'(by rw [HLp.out]; exact hpm) := by simp [HLp.out, hpm]
        have hgz : z.ms.getD p 0 = z.ms[p]'(by rw [HLz.out]; exact hpm) := by simp [HLz.out, hpm]
        have HGp := hid (And.intro hgp hgz);have hpl1 : p < d.pn.length := by rw [HLp.out]; exact hpm
        have hpl2 : p < z.ms.length := by rw [HLz.out]; exact hpm
        clear hpg hpq hB hgp hgz;go_wp2_with fail;by_cases heq : d.pn[p] = z.ms[p]
        · have q1 : (d.pn[p] == z.ms[p]) = true := by rw [heq]; exact beq_self_eq_true _
          have HNx := hid (show ∀ q, q < p + 1 → d.pn.getD q 0 = z.ms.getD q 0 by
           intro q hq;rcases Nat.lt_or_ge q p with h1 | h1
           · exact HPq.out q h1
           · obtain rfl : q = p := by omega
             rw [HGp.out.1, HGp.out.2]; exact heq)
          clear heq;go_quiet (fail);go_wp2_with fail;go_roundg (gk - 1);case measure => have := HKp.out; omega
          case rel => exact ⟨p + 1, by have := HKp.out; omega, by go_num, HNx.out, below_then HBx.out (below_drewN _ _)⟩
        · have q1 : (d.pn[p] == z.ms[p]) = false := by simpa using heq
          have HF := hid (HFo.out p hpl1 (by rw [HGp.out.1, HGp.out.2]; exact heq));clear heq;go_quiet (fail);have HB4 := hid (below_then HBx.out (below_drewN _ nq));clear HBx q0 q5 x0 x1 x2 x3 x4 x5 x6 x7;generalize wr.drewN nq = w4 at *;have HG4 := hid (HG3.out.below HB4.out);have HXb4 := hid (HXb3.out.below HB4.out);have hbd : Below w4.heap.size w4 w4.drew := (Below.refl _ _).drew;have HGd := hid (HG4.out.below hbd);have HXd := hid (HXb4.out.below hbd);have HB5 := hid (below_then HB3.out (below_then HB4.out hbd));have HRd := hid (HRb1.out.below HB5.out);have hS0 := HXd.out.cells.2.2.2.2.2.1;clear hbd HG4 HXb4 HB4;go_wp2_with fail;refine wp_region_held_drew (S := fun w' => w'.cell? ⟨xb, 5, none⟩ = some (.int .i64 (g : Int))) (by kernel_rfl) hS0 (fun hHeld => ?_);clear hS0;generalize w4.drew = wd at *;refine tkH 0 ?_;(try go_simp);refine tkH 1 ?_;(try go_simp);refine tkH 2 ?_;(try go_simp);refine tkH 3 ?_;(try go_simp);refine tkH 5 ?_;(try go_simp);refine tkH 6 ?_;(try go_simp);refine tkH 7 ?_;(try go_simp);refine tkH 8 ?_;(try go_simp);have hS0 := hHeld;refine tkR 4 (fun K hK => ?_);go_simp;((refine (way_any w0 tb _ vS NL SL N M T wd (HGd.out) HTI.out 0 g W1 HW.out.1 (by rw [← HNl.out]; omega) hl1).mono ?_); rintro e w5 ⟨v1, rfl, hS5⟩)
          refine hK.out _ _ (cell_stays hS5.2 hS0) (fun hHeld => ?_);clear hK K;try go_simp
          have hS1 := hHeld;have HN5 := hid hS5;have HG5 := hid (HGd.out.below hS5.2);refine tkR 9 (fun K hK => ?_);go_simp;((refine (way_any w0 tb _ vS NL SL N M T w5 (HG5.out) HTI.out g k W2 HW.out.2 (by rw [← HNl.out]; omega) hl2).mono ?_); rintro e w6 ⟨v2, rfl, hS6⟩)
          refine hK.out _ _ (cell_stays hS6.2 hS1) (fun hHeld => ?_);clear hK K;try go_simp
          have hS2 := hHeld;have HRb6 := hid ((HRd.out.below hS5.2).below hS6.2);have HB6 := hid (below_then (below_then HB1.out (below_then HB5.out hS5.2)) hS6.2);have HN6 := hid hS6;have HN5' := hid (HN5.out.below hS6.2);have HN5x := hid hS5.2;obtain ⟨A1, c1, hv1⟩ := hS5.slice;obtain ⟨A2, c2, hv2⟩ := hS6.slice;rw [List.length_map] at hv1 hv2;subst hv1 hv2;clear hS5 hS6 HN5 HG5 hS0 hS1;have HB5w := hid (below_then HB1.out HB5.out);refine tkH 10 ?_;(try go_simp);refine tkH 11 ?_;(try go_simp);obtain ⟨r0, r1, r2, r3, r4, r5, r6, r7⟩ := HRb6.out.cells;have rf0 := HRb6.out.soft;have HRe := hid (ct_set HRb6.out (.int .i64 6) (.int .i64 p) (.slice A1 W1.length c1) (.slice A2 W2.length c2) (.slice none 0 0) (.slice none 0 0) (.slice none 0 0) (.slice none 0 0));have HGe := hid (ct_grown w6 rb (.int .i64 6) (.int .i64 p) (.slice A1 W1.length c1) (.slice A2 W2.length c2) (.slice none 0 0) (.slice none 0 0) (.slice none 0 0) (.slice none 0 0));refine tkR 12 (fun K hK => ?_);go_simp;skip;refine hK.out _ _ (HGe.out.cell hS2 (fun e => hxr (Option.some.inj e))) (fun hHeld => ?_);clear hK K;try go_simp
          refine tkH 13 ?_;(try go_simp);refine wpAnyH_done (by kernel_rfl) ?_ _;generalize (((((((w6.setCell ⟨rb, 0, none⟩ _).setCell ⟨rb, 1, none⟩ _).setCell ⟨rb, 2, none⟩ _).setCell ⟨rb, 3, none⟩ _).setCell ⟨rb, 4, none⟩ _).setCell ⟨rb, 5, none⟩ _).setCell ⟨rb, 6, none⟩ _).setCell ⟨rb, 7, none⟩ _ = we at *;obtain ⟨d0, d1, d2, d3, d4, d5, d6, d7⟩ := HRe.out.cells;have hr9 : ∀ k, some rb = some k → w.heap.size ≤ k := fun k hk => by cases hk; exact hrbw
          have HE1 := hid ((NS.up HB5w.out HN5'.out).kept HGe.out (own_other (NS.up HB5w.out HN5'.out).1 HRb6.out (by decide)) hr9);have HN6w := hid (NS.up (below_then HB5w.out HN5x.out) HN6.out);have HE2 := hid (HN6w.out.kept HGe.out (own_other HN6w.out.1 HRb6.out (by decide)) hr9);go_wp2_with fail;exact bodyPost_ret (v := .tuple #[.bool false, .agg #[.int .i64 6, .int .i64 p, .slice A1 W1.length c1, .slice A2 W2.length c2, .slice none 0 0, .slice none 0 0, .slice none 0 0, .slice none 0 0], .int .i64 0]) (by simp [results, Tryz.results18, go_sem, d0, d1, d2, d3, d4, d5, d6, d7]) rfl (BdPo.om HR.out HF.out rfl HE1.out HE2.out)
    · have HNa := hid (show ∀ (j : Nat) (d : Nd), T.nodes[j]? = some d → d.om = false from fun j d hj => HNo.out j d (by have := (List.getElem?_eq_some_iff.1 hj).1; rw [← HNl.out] at this; omega) hj);have HSp := hid (space_any w0 tb _ vS NL SL N M T wr HGr.out HTI.out (fun s hs => by
       have h1 := HTI.out.slen HNet.out HisM.out s hs;omega))
      go_wp2_with fail;((with_reducible refine HSp.out.mono ?_); rintro e w2 ⟨vS2, vM2, rfl, hO, hMv⟩)
      have HB2 := hid (below_then HBr.out hO.bel);have HRb2 := hid (HRb1.out.below HB2.out);have HO := hid (hO.up (below_then HB1.out HBr.out));obtain ⟨Aa, ca, rfl⟩ := hO.slice;obtain ⟨Ab, cb, rfl⟩ := hMv.slice;have hfd : ∀ w : World, (Instr.field 65 (.agg #[.slice Aa T.states.length ca, .slice Ab (movesOf T).length cb, .bool true]) 0).run Tryz.prog w = .ok (.slice Aa T.states.length ca) w := fun _ => by kernel_rfl
      clear HSp hO hMv;obtain ⟨r0, r1, r2, r3, r4, r5, r6, r7⟩ := HRb2.out.cells;have rf0 := HRb2.out.soft;have HRe := hid (ct_set HRb2.out (.int .i64 5) (.int .i64 0) (.slice none 0 0) (.slice none 0 0) (.slice Aa T.states.length ca) (.slice none 0 0) (.slice none 0 0) (.slice none 0 0));have HGe := hid (ct_grown w2 rb (.int .i64 5) (.int .i64 0) (.slice none 0 0) (.slice none 0 0) (.slice Aa T.states.length ca) (.slice none 0 0) (.slice none 0 0) (.slice none 0 0));go_wp2_with fail;generalize (((((((w2.setCell ⟨rb, 0, none⟩ _).setCell ⟨rb, 1, none⟩ _).setCell ⟨rb, 2, none⟩ _).setCell ⟨rb, 3, none⟩ _).setCell ⟨rb, 4, none⟩ _).setCell ⟨rb, 5, none⟩ _).setCell ⟨rb, 6, none⟩ _).setCell ⟨rb, 7, none⟩ _ = we at *;obtain ⟨d0, d1, d2, d3, d4, d5, d6, d7⟩ := HRe.out.cells;have HOe := hid (HO.out.kept HRb2.out (by decide) (by decide) hrbw HGe.out);exact bodyPost_ret (v := .tuple #[.bool true, .agg #[.int .i64 5, .int .i64 0, .slice none 0 0, .slice none 0 0, .slice Aa T.states.length ca, .slice none 0 0, .slice none 0 0, .slice none 0 0], .int .i64 0]) (by simp [results, Tryz.results18, go_sem, d0, d1, d2, d3, d4, d5, d6, d7]) rfl (BdPo.yes HR.out rfl HOe.out HNa.out)
end Go.Proofs.YtpiihmbeedlpkaaGreatDoor
