/- The builder's tree: what a call does. finish and FromTree: what a call returns. -/
import Derived.Test.YtpiihmbeedlpkaaGreatDoorPUu
import Derived.Test.YtpiihmbeedlpkaaGreatDoorPUo
import Derived.Test.YtpiihmbeedlpkaaGreatDoorPUl
import Derived.Test.YtpiihmbeedlpkaaGreatDoorPUh
namespace Go.Proofs.YtpiihmbeedlpkaaGreatDoor
set_option maxRecDepth 100000
set_option maxHeartbeats 12800000
open Go.Lib (hid)
section
open Go.RowKit

theorem btree_stop (w0 w : World) (b n : Nat) (T : List Tq) (p q : Nat) (op : Int) (act : ByteArray) (A : Option Addr) (m c : Nat) (hB : BdL w0 w b n T) (hg : 60 < T.length ∨ 40 < n) (hT : T.length ≤ 30000) (hn : n ≤ 30000) :
 Calls Tryz.prog 13 #[.pointer (some ⟨b, 0, none⟩), .agg #[.int .i64 op, .string act, .slice A m c], .int .i64 (p : Int), .int .i64 (q : Int)] w (TePo w0 b (n, T) w) := by
 have hal := below_alloc w (.cells #[.int .i64 op, .string act, .slice A m c] 24);have HF := hid (And.intro (hB.below hal) (KO.below (b := b) hal));obtain ⟨v, hbk, hb0, hot, hlb⟩ := hB;obtain ⟨Av, cv, rfl⟩ := hot.slice;have HBk := hid (hbk.below hal);obtain ⟨c0, c1, c2, c3⟩ := HBk.out.cells;clear hbk hot hlb hal;by_cases h1 : 60 < T.length
 · have q1 : decide ((60 : Int) < (T.length : Int)) = true := decide_eq_true (by omega);clear hg;go_enter Tryz.func13, Tryz.ntmps13;go_wp2_with fail
   go_end0
   exact ⟨rfl, HF.out.1, HF.out.2⟩
 · have q1 : decide ((60 : Int) < (T.length : Int)) = false := decide_eq_false (by omega);have q2 : decide ((40 : Int) < (n : Int)) = true := decide_eq_true (by omega);clear hg;go_enter Tryz.func13, Tryz.ntmps13;go_wp2_with fail
   go_end0
   exact ⟨rfl, HF.out.1, HF.out.2⟩
theorem btree_any (w0 : World) (b : Nat) : ∀ (k : Nat) (t : Tre), szT t ≤ k → okTr t → ∀ (w : World) (n : Nat) (T : List Tq) (p q : Nat) (c0 c1 c2 : Value), TrM w0 t c0 c1 c2 → BdL w0 w b n T → n + 2 * szT t ≤ 30000 → T.length + 2 * szT t ≤ 30000 → p ≤ 30000 → q ≤ 30000 →
 Calls Tryz.prog 13 #[.pointer (some ⟨b, 0, none⟩), .agg #[c0, c1, c2], .int .i64 (p : Int), .int .i64 (q : Int)] w (TePo w0 b (gT t n T p q) w) := by
 intro k
 induction k with
 | zero => intro t h; have := szT_pos t; omega
 | succ k ih =>
  intro t hk hok w n T p q c0 c1 c2 hM hB hs1 hs2 hp hq;obtain ⟨op, act, l⟩ := t;obtain ⟨A, m, c, rfl, rfl, rfl, hop, hac, hl, hnc, hcm, hL⟩ := hM.out;rw [okTr] at hok;obtain ⟨hr, hokl⟩ := hok;rw [szT] at hk hs1 hs2;have hIH : TrIH w0 b l := fun j hj w n T p q c0 c1 c2 h1 h2 h3 h4 h5 h6 => ih l[j] (by have := sz_at l j hj; omega) ((okTl_iff l).1 hokl _ (List.getElem_mem hj)) w n T p q c0 c1 c2 h1 h2 h3 h4 h5 h6
  rw [gT];by_cases hg : 60 < T.length ∨ 40 < n
  · rw [if_pos hg];exact btree_stop w0 w b n T p q op act A m c hB hg (by omega) (by omega)
  rw [if_neg hg];have ht : T.length ≤ 60 := by omega
  have hn : n ≤ 40 := by omega
  unfold rgt at hr;by_cases h12 : op = 1 ∨ op = 2
  · rw [if_pos h12];rcases h12 with rfl | rfl
    · exact btree_leaf1 w0 w b n T p q act l A m c hIH hL hl hokl hB ht hn (by omega) (by omega) hp hq hac
    · exact btree_leaf2 w0 w b n T p q act l A m c hIH hL hl hokl hB ht hn (by omega) (by omega) hp hq hac
  rw [if_neg h12];by_cases h3 : op = 3
  · subst h3;rw [if_pos rfl, hl];exact btree_seq w0 w b n T p q act l A m c hIH hL hl hokl hB ht hn (by omega) (by omega) (by omega) hp hq hac
  rw [if_neg h3];by_cases h4 : op = 4
  · subst h4;rw [if_pos rfl, hl];exact btree_xor w0 w b n T p q act l A m c hIH hL hl hokl hB ht hn (by omega) (by omega) hp hq hac
  rw [if_neg h4];by_cases h5 : op = 5
  · subst h5;rw [if_pos rfl, hl];exact btree_and w0 w b n T p q act l A m c hIH hL hl hokl hB ht hn (by omega) (by omega) hp hq hac
  rw [if_neg h5];obtain rfl : op = 6 := by omega
  exact btree_loop w0 w b n T p q act l A m c hIH hL hl hokl hB ht hn (by omega) (by omega) (by omega) hp hq hac
end
section
open Go.RowKit

def zNt : Value := .agg #[.int .i64 0, .slice none 0 0, .int .i64 0, .int .i64 0]
section
variable {w w' : World} {b : Nat} {pl : Int} {A : Option Addr} {n c : Nat} {src snk : Int}
theorem nb_soft (h : NB w b pl A n c src snk) (o : Nat) : w.frozen? ⟨b, o, none⟩ = false := by unfold NB at h; simp [World.frozen?, h]
theorem nb_ko {b0 : Nat} (h : NB w b pl A n c src snk) (hne : b ≠ b0) (hk : KO b0 w w') : NB w' b pl A n c src snk := hk b _ _ _ hne (by decide) h
theorem nb_set (h : NB w b pl A n c src snk) (pl2 : Int) (A2 : Option Addr) (n2 c2 : Nat) (s2 k2 : Int) :
 NB ((((w.setCell ⟨b, 0, none⟩ (.int .i64 pl2)).setCell ⟨b, 1, none⟩ (.slice A2 n2 c2)).setCell ⟨b, 2, none⟩ (.int .i64 s2)).setCell ⟨b, 3, none⟩ (.int .i64 k2)) b pl2 A2 n2 c2 s2 k2 := by
 unfold NB at h ⊢;have h0 : (w.setCell ⟨b, 0, none⟩ (.int .i64 pl2)).heap[b]? = some (.cells #[.int .i64 pl2, .slice A n c, .int .i64 src, .int .i64 snk] 30 (0, 0)) := by rw [heap_set2 h]; rfl
 have h1 : ((w.setCell ⟨b, 0, none⟩ (.int .i64 pl2)).setCell ⟨b, 1, none⟩ (.slice A2 n2 c2)).heap[b]? = some (.cells #[.int .i64 pl2, .slice A2 n2 c2, .int .i64 src, .int .i64 snk] 30 (0, 0)) := by rw [heap_set2 h0]; rfl
 have h2 : (((w.setCell ⟨b, 0, none⟩ (.int .i64 pl2)).setCell ⟨b, 1, none⟩ (.slice A2 n2 c2)).setCell ⟨b, 2, none⟩ (.int .i64 s2)).heap[b]? = some (.cells #[.int .i64 pl2, .slice A2 n2 c2, .int .i64 s2, .int .i64 snk] 30 (0, 0)) := by rw [heap_set2 h1]; rfl
 rw [heap_set2 h2]; rfl
theorem nb_grown (w : World) (b : Nat) (v0 v1 v2 v3 : Value) : w.grownBy ((((w.setCell ⟨b, 0, none⟩ v0).setCell ⟨b, 1, none⟩ v1).setCell ⟨b, 2, none⟩ v2).setCell ⟨b, 3, none⟩ v3) (some b) :=
 grown_step (grown_step (grown_step (grown_step (grown_refl w (some b)))))
theorem otr_nb {w0 : World} {v : Value} {T : List Tq} (h : OTq w0 w v T) (hb : NB w b pl A n c src snk) (h3 : w0.heap.size ≤ b) (hg : w.grownBy w' (some b)) : OTq w0 w' v T := by
 obtain ⟨XL, g1, g2, g3, g4⟩ := h;have h5 : ∀ k, some b = some k → w0.heap.size ≤ k := fun k hk => by cases hk; exact h3
 exact ⟨XL, g1, g2.kept hg (own_other g2 hb (by decide)), fun x hx => ⟨(g3 x hx).1.kept hg (own_other (g3 x hx).1.1 hb (by decide)) h5, (g3 x hx).2.kept hg (own_other (g3 x hx).2.1 hb (by decide)) h5⟩, g4.grown hg g4.size h5⟩
end
def FiPo (N : Nt) (A : Option Addr) (n c : Nat) (w : World) (e : Ending) (w' : World) : Prop :=
 (e = .returned (.tuple #[.agg #[.int .i64 N.pl, .slice A n c, .int .i64 N.src, .int .i64 N.snk], .int .i64 0]) ∧ ntB N = true ∨ e = .returned (.tuple #[zNt, .int .i64 5])) ∧ Below w.heap.size w w'
theorem finish_any (N : Nt) (A : Option Addr) (n c : Nat) (w : World) (h : NtIn w A N) (hn : N.tr.length = n) (hn2 : n ≤ 9223372036854775807) :
 Calls Tryz.prog 14 #[.agg #[.int .i64 N.pl, .slice A n c, .int .i64 N.src, .int .i64 N.snk]] w (FiPo N A n c w) := by
 have hnb := (NB.new w N.pl A n c N.src N.snk).below (below_alloc _ (.cells #[.int .i64 0, .slice none 0 0, .int .i64 0, .int .i64 0] 30));have hrb := NB.new (w.alloc (.cells #[.int .i64 N.pl, .slice A n c, .int .i64 N.src, .int .i64 N.snk] 30)) 0 none 0 0 0 0;rw [World.size_alloc] at hrb;have HB := hid (two_boxes w (.cells #[.int .i64 N.pl, .slice A n c, .int .i64 N.src, .int .i64 N.snk] 30) (.cells #[.int .i64 0, .slice none 0 0, .int .i64 0, .int .i64 0] 30));have HNb := hid hnb;have HR := hid hrb;have HV := hid (pvalid_any N A n c _ (h.below HB.out) hn hn2);clear h hn hnb hrb;go_enter Tryz.func14, Tryz.ntmps14;obtain ⟨b0, b1, b2, b3⟩ := HNb.out.cells;go_wp2_with fail;generalize hw0 : (w.alloc (.cells #[.int .i64 N.pl, .slice A n c, .int .i64 N.src, .int .i64 N.snk] 30)).alloc (.cells #[.int .i64 0, .slice none 0 0, .int .i64 0, .int .i64 0] 30) = w0 at *;obtain ⟨rb, hrbe⟩ : ∃ rb, rb = w.heap.size + 1 := ⟨_, rfl⟩;have hrb : w.heap.size ≤ rb := by omega
 rw [← hrbe] at HR ⊢;clear hw0 hrbe;((with_reducible refine HV.out.mono ?_); rintro e w1 ⟨rfl, hb1⟩)
 have HB1 := hid (below_then HB.out hb1);have HR1 := hid (HR.out.below hb1);have HN1 := hid (HNb.out.below hb1);clear hb1 b0 b1 b2 b3 HV HB HR HNb;obtain ⟨r0, r1, r2, r3⟩ := HR1.out.cells;have rf0 := nb_soft HR1.out 0;have rf1 := nb_soft HR1.out 1;have rf2 := nb_soft HR1.out 2;have rf3 := nb_soft HR1.out 3;cases hv : ntB N with
 | false =>
  have HRe := hid (nb_set HR1.out 0 none 0 0 0 0);have HGe := hid (nb_grown w1 rb (.int .i64 0) (.slice none 0 0) (.int .i64 0) (.int .i64 0));go_wp2_with fail;generalize ((((w1.setCell ⟨rb, 0, none⟩ _).setCell ⟨rb, 1, none⟩ _).setCell ⟨rb, 2, none⟩ _).setCell ⟨rb, 3, none⟩ _) = we at *;obtain ⟨d0, d1, d2, d3⟩ := HRe.out.cells;have HBe := hid (HB1.out.grown HGe.out HB1.out.size (fun k hk => by cases hk; exact hrb));exact bodyPost_ret (v := .tuple #[zNt, .int .i64 5]) (by simp [zNt, results, Tryz.results14, go_sem, d0, d1, d2, d3]) rfl ⟨.inr rfl, HBe.out⟩
 | true =>
  have HRe := hid (nb_set HR1.out N.pl A n c N.src N.snk);have HGe := hid (nb_grown w1 rb (.int .i64 N.pl) (.slice A n c) (.int .i64 N.src) (.int .i64 N.snk));obtain ⟨b0, b1, b2, b3⟩ := HN1.out.cells;go_wp2_with fail;generalize ((((w1.setCell ⟨rb, 0, none⟩ _).setCell ⟨rb, 1, none⟩ _).setCell ⟨rb, 2, none⟩ _).setCell ⟨rb, 3, none⟩ _) = we at *;obtain ⟨d0, d1, d2, d3⟩ := HRe.out.cells;have HBe := hid (HB1.out.grown HGe.out HB1.out.size (fun k hk => by cases hk; exact hrb));exact bodyPost_ret (v := .tuple #[.agg #[.int .i64 N.pl, .slice A n c, .int .i64 N.src, .int .i64 N.snk], .int .i64 0]) (by simp [results, Tryz.results14, go_sem, d0, d1, d2, d3]) rfl ⟨.inl ⟨rfl, hv⟩, HBe.out⟩
theorem built_net {t : Tre} (ho : okTr t) (hv : ntB ⟨((gT t 2 [] 0 1).1 : Int), (gT t 2 [] 0 1).2.map Tq.tr, 0, 1⟩ = true) : (⟨((gT t 2 [] 0 1).1 : Int), (gT t 2 [] 0 1).2.map Tq.tr, 0, 1⟩ : Nt) = trN t := by
 unfold ntB at hv;simp only [Bool.and_eq_true, decide_eq_true_eq, List.length_map] at hv;have e := gT_eq t 2 [] 0 1 ho (by omega) hv.1.2.2;rw [e]; rfl
def FtPo (t : Tre) (w : World) (e : Ending) (w' : World) : Prop :=
  ((∃ (A : Option Addr) (n c : Nat), e = .returned (.tuple #[.agg #[.int .i64 (trN t).pl, .slice A n c, .int .i64 (trN t).src, .int .i64 (trN t).snk], .int .i64 0]) ∧ okTr t ∧ ntB (trN t) = true ∧ NtIn w' A (trN t) ∧ (trN t).tr.length = n) ∨
   ∃ k : Int, k ≠ 0 ∧ e = .returned (.tuple #[zNt, .int .i64 k])) ∧ Below w.heap.size w w'
theorem fromTree_any (t : Tre) (c0 c1 c2 : Value) (w : World) (h : TrM w t c0 c1 c2) : Calls Tryz.prog 7 #[.agg #[c0, c1, c2]] w (FtPo t w) := by
 have hTx : ∀ a b c : Value, TBx (w.alloc (.cells #[a, b, c] 24)) w.heap.size a b c := TBx.new w;obtain ⟨op, act, l⟩ := t;obtain ⟨A, n, c, rfl, rfl, rfl, hop, hac, hl, hnc, hcm, hL⟩ := h.out;generalize ht : Tre.mk op act l = t at *;have HB := hid (two_boxes w (.cells #[.int .i64 op, .string act, .slice A n c] 24) (.cells #[.int .i64 0, .slice none 0 0, .int .i64 0, .int .i64 0] 30));have HTb := hid ((hTx (.int .i64 op) (.string act) (.slice A n c)).below (below_alloc _ (.cells #[.int .i64 0, .slice none 0 0, .int .i64 0, .int .i64 0] 30)));have hrb := NB.new (w.alloc (.cells #[.int .i64 op, .string act, .slice A n c] 24)) 0 none 0 0 0 0;rw [World.size_alloc] at hrb;have HR := hid hrb;have HM := hid (TrM.below HB.out _ _ _ _ h);have HV := hid (pvalidT_any t _ _ _ _ HM.out);clear h hTx hrb hop hac hl hnc hcm hL ht;go_enter Tryz.func7, Tryz.ntmps7;obtain ⟨b0, b1, b2⟩ := HTb.out.cells;go_wp2_with fail;generalize hw0 : (w.alloc (.cells #[.int .i64 op, .string act, .slice A n c] 24)).alloc (.cells #[.int .i64 0, .slice none 0 0, .int .i64 0, .int .i64 0] 30) = w0 at *;obtain ⟨rb, hrbe⟩ : ∃ rb, rb = w.heap.size + 1 := ⟨_, rfl⟩;have hrb : w.heap.size ≤ rb := by omega
 rw [← hrbe] at HR ⊢;clear hw0 hrbe;((with_reducible refine HV.out.mono ?_); rintro e w1 ⟨⟨rfl, ho, hsz⟩ | rfl, hb1⟩)
 · have HO := hid (And.intro ho hsz);have HB1 := hid (below_then HB.out hb1);have HR1 := hid (HR.out.below hb1);have HT1 := hid (HTb.out.below hb1);have HM1 := hid (TrM.below hb1 _ _ _ _ HM.out);clear ho hsz hb1 b0 b1 b2 HV HB HR HTb HM;have hal := below_alloc w1 (.cells #[.int .i64 2, .slice none 0 0, .int .i64 0, .int .i64 1] 47);have HR2 := hid (HR1.out.below hal);have HT2 := hid (HT1.out.below hal);have HBd := hid (show BdL w1 _ w1.heap.size 2 [] from ⟨.slice none 0 0, heap_alloc_new w1 (.cells #[.int .i64 2, .slice none 0 0, .int .i64 0, .int .i64 1] 47), Nat.le_refl _, OTq.start hal, fun x hx => by simp at hx⟩);have hrl := HR1.out.lt;clear hal HR1 HT1
   go_upto_region 4 with (fail)
   generalize w1.alloc (.cells #[.int .i64 2, .slice none 0 0, .int .i64 0, .int .i64 1] 47) = w2 at *;obtain ⟨b, hbe⟩ : ∃ b, b = w1.heap.size := ⟨_, rfl⟩;have hne : rb ≠ b := by omega
   rw [← hbe] at HBd ⊢;have HCa := hid (show Calls Tryz.prog 13 #[.pointer (some ⟨b, 0, none⟩), .agg #[.int .i64 op, .string act, .slice A n c], .int .i64 0, .int .i64 1] w2 (TePo w1 b (gT t 2 [] 0 1) w2) from btree_any w1 b _ t (Nat.le_refl _) HO.out.1 w2 2 [] 0 1 _ _ _ HM1.out HBd.out (by have := HO.out.2; omega) (by have := HO.out.2; simp; omega) (by omega) (by omega));obtain ⟨b0, b1, b2⟩ := HT2.out.cells;clear hbe hrl;go_wp2_with fail;((with_reducible refine HCa.out.mono ?_); rintro e w3 ⟨rfl, hbl, hko⟩)
   have HR3 := hid (nb_ko HR2.out hne hko);have HBw := hid hbl.bel;have hgb := gT_bd t 2 [] 0 1 HO.out.1;have HBn := hid (fun hv => built_net (t := t) HO.out.1 hv);have hsz := HO.out.2;generalize gT t 2 [] 0 1 = R at *;obtain ⟨v, hbk, _, hot, hlb⟩ := hbl;obtain ⟨A2, cv, rfl, htin, hcc, hcm⟩ := hot.tin;have HOt := hid (OTq.up HB1.out hot);have HLb := hid (show ∀ x ∈ R.2.map Tq.tr, x.lb.size ≤ 9223372036854775807 from fun x hx => by obtain ⟨y, hy, rfl⟩ := List.mem_map.1 hx; exact hlb y hy);obtain ⟨d0, d1, d2, d3⟩ := hbk.cells;have HNt := hid (show NtIn w3 A2 ⟨(R.1 : Int), R.2.map Tq.tr, 0, 1⟩ from ⟨htin, HLb.out⟩);have hrl : R.2.length ≤ 1000 := by simp at hgb; omega
   have HFi := hid (finish_any ⟨(R.1 : Int), R.2.map Tq.tr, 0, 1⟩ A2 R.2.length cv w3 HNt.out (List.length_map ..) (by omega));clear hko HCa hbk hot hlb htin hcc hcm HBd hgb b0 b1 b2;have HB3 := hid (below_then HB1.out HBw.out);go_wp2_with fail;((with_reducible refine HFi.out.mono ?_); rintro e w4 ⟨⟨rfl, hv⟩ | rfl, hb4⟩)
   · have HO4 := hid (HOt.out.below hb4);have HR4 := hid (HR3.out.below hb4);have HB4 := hid (below_then HB3.out hb4);have HVv := hid hv;clear hb4 hv d0 d1 d2 d3 HR3 HNt HB3;obtain ⟨r0, r1, r2, r3⟩ := HR4.out.cells;have rf0 := nb_soft HR4.out 0;have rf1 := nb_soft HR4.out 1;have rf2 := nb_soft HR4.out 2;have rf3 := nb_soft HR4.out 3;have HRe := hid (nb_set HR4.out (R.1 : Int) A2 R.2.length cv 0 1);have HGe := hid (nb_grown w4 rb (.int .i64 (R.1 : Int)) (.slice A2 R.2.length cv) (.int .i64 0) (.int .i64 1));go_wp2_with fail;have HOe := hid (otr_nb HO4.out HR4.out hrb HGe.out);generalize ((((w4.setCell ⟨rb, 0, none⟩ _).setCell ⟨rb, 1, none⟩ _).setCell ⟨rb, 2, none⟩ _).setCell ⟨rb, 3, none⟩ _) = we at *;obtain ⟨d0, d1, d2, d3⟩ := HRe.out.cells;have HBe := hid (HB4.out.grown HGe.out HB4.out.size (fun k hk => by cases hk; exact hrb));have hN := HBn.out HVv.out;have hvt := HVv.out;rw [hN] at hvt;refine bodyPost_ret (v := .tuple #[.agg #[.int .i64 (trN t).pl, .slice A2 R.2.length cv, .int .i64 (trN t).src, .int .i64 (trN t).snk], .int .i64 0]) (by rw [← hN]; simp [results, Tryz.results7, go_sem, d0, d1, d2, d3]) rfl ⟨.inl ⟨A2, R.2.length, cv, rfl, HO.out.1, hvt, ?_, by rw [← hN]; exact List.length_map ..⟩, HBe.out⟩;rw [← hN];obtain ⟨A', c', e, hti, _⟩ := HOe.out.tin;cases e;exact ⟨hti, HLb.out⟩
   · have HR4 := hid (HR3.out.below hb4);have HB4 := hid (below_then HB3.out hb4);clear hb4 d0 d1 d2 d3 HR3 HNt HB3;unfold zNt;obtain ⟨r0, r1, r2, r3⟩ := HR4.out.cells;have rf0 := nb_soft HR4.out 0;have rf1 := nb_soft HR4.out 1;have rf2 := nb_soft HR4.out 2;have rf3 := nb_soft HR4.out 3;have HRe := hid (nb_set HR4.out 0 none 0 0 0 0);have HGe := hid (nb_grown w4 rb (.int .i64 0) (.slice none 0 0) (.int .i64 0) (.int .i64 0));go_wp2_with fail;generalize ((((w4.setCell ⟨rb, 0, none⟩ _).setCell ⟨rb, 1, none⟩ _).setCell ⟨rb, 2, none⟩ _).setCell ⟨rb, 3, none⟩ _) = we at *;obtain ⟨d0, d1, d2, d3⟩ := HRe.out.cells;have HBe := hid (HB4.out.grown HGe.out HB4.out.size (fun k hk => by cases hk; exact hrb));exact bodyPost_ret (v := .tuple #[zNt, .int .i64 5]) (by simp [zNt, results, Tryz.results7, go_sem, d0, d1, d2, d3]) rfl ⟨.inr ⟨5, by decide, rfl⟩, HBe.out⟩
 · have HB1 := hid (below_then HB.out hb1);have HR1 := hid (HR.out.below hb1);clear hb1 b0 b1 b2 HV HB HR HTb HM;obtain ⟨r0, r1, r2, r3⟩ := HR1.out.cells;have rf0 := nb_soft HR1.out 0;have rf1 := nb_soft HR1.out 1;have rf2 := nb_soft HR1.out 2;have rf3 := nb_soft HR1.out 3;have HRe := hid (nb_set HR1.out 0 none 0 0 0 0);have HGe := hid (nb_grown w1 rb (.int .i64 0) (.slice none 0 0) (.int .i64 0) (.int .i64 0));go_wp2_with fail;generalize ((((w1.setCell ⟨rb, 0, none⟩ _).setCell ⟨rb, 1, none⟩ _).setCell ⟨rb, 2, none⟩ _).setCell ⟨rb, 3, none⟩ _) = we at *;obtain ⟨d0, d1, d2, d3⟩ := HRe.out.cells;have HBe := hid (HB1.out.grown HGe.out HB1.out.size (fun k hk => by cases hk; exact hrb));exact bodyPost_ret (v := .tuple #[zNt, .int .i64 1]) (by simp [zNt, results, Tryz.results7, go_sem, d0, d1, d2, d3]) rfl ⟨.inr ⟨1, by decide, rfl⟩, HBe.out⟩
end
end Go.Proofs.YtpiihmbeedlpkaaGreatDoor
