/- Reverse of reference 21: what a call returns. awake of the statements of chapter 28: what a call returns. -/
import Derived.Test.YtpiihmbeedlpkaaGreatDoorPUu
import Derived.Test.YtpiihmbeedlpkaaGreatDoorPQj
import Derived.Test.YtpiihmbeedlpkaaGreatDoorPQp
import Derived.Test.YtpiihmbeedlpkaaGreatDoorPYm
import Derived.Test.YtpiihmbeedlpkaaGreatDoorPAd
import Derived.Test.YtpiihmbeedlpkaaGreatDoorPAf
import Derived.Test.YtpiihmbeedlpkaaGreatDoorPHf
import Derived.Test.YtpiihmbeedlpkaaGreatDoorPHd
namespace Go.Proofs.YtpiihmbeedlpkaaGreatDoor
set_option maxRecDepth 100000
set_option maxHeartbeats 12800000
open Go.Lib (hid)
section
open Go.RowKit

def IRw (w : World) (u : Value) (l : List Int) : Prop := ∃ A c, u = .slice A l.length c ∧ l.length ≤ c ∧ c ≤ 9223372036854775807 ∧ (l = [] ∨ ∃ g cs fr, A = some ⟨g, 0, none⟩ ∧ w.heap[g]? = some (.cells cs 3 fr) ∧ ∀ i (h : i < l.length), cs[i]? = some (.int .i64 l[i]))
theorem IRw.sl {w : World} {u : Value} {l : List Int} (h : IRw w u l) : SlIn w u l := by
 obtain ⟨A, c, rfl, h1, h2, h3⟩ := h;refine ⟨A, l.length, c, rfl, fun i hi => ?_, rfl, h1, h2⟩;rcases h3 with rfl | ⟨g, cs, fr, rfl, hg, hc⟩
 · simp at hi
 · refine ⟨_, rfl, by rw [add_block]; exact (Array.getElem?_eq_some_iff.1 hg).1, ?_⟩;rw [add_zero, Nat.zero_add, Lib.cell_of_heap hg];exact hc i hi
theorem IRw.keep {w w' : World} {u : Value} {l : List Int} (h : IRw w u l) (hk : ∀ (g : Nat) (cs : Array Value) (fr : Nat × Nat), w.heap[g]? = some (.cells cs 3 fr) → 0 < cs.size → w'.heap[g]? = w.heap[g]?) : IRw w' u l := by
 obtain ⟨A, c, rfl, h1, h2, h3⟩ := h;refine ⟨A, c, rfl, h1, h2, ?_⟩;rcases h3 with rfl | ⟨g, cs, fr, rfl, hg, hc⟩
 · exact .inl rfl
 · by_cases h0 : l = []
   · exact .inl h0
   · have hp : 0 < l.length := List.length_pos_iff.2 h0;have h4 := hc 0 hp;refine .inr ⟨g, cs, fr, rfl, by rw [hk g cs fr hg ((Array.getElem?_eq_some_iff.1 h4).1)]; exact hg, hc⟩
theorem IRw.below {w w' : World} {u : Value} {l : List Int} (h : IRw w u l) (hb : Below w.heap.size w w') : IRw w' u l :=
 h.keep fun g _ _ hg _ => hb.block g (Array.getElem?_eq_some_iff.1 hg).1
structure T3 where
 lb : ByteArray
 a : Value
 b : Value
def c3 (x : T3) : List Value := [.string x.lb, x.a, x.b]
theorem c3_len (x : T3) : (c3 x).length = 3 := rfl
def OTr (w0 wr : World) (v : Value) (L : List Tr) : Prop :=
 ∃ SL : List T3, wr.ownsRow w0.heap.size 42 3 v L.length (SL.flatMap c3) ∧ SL.length = L.length ∧ (∀ (k : Nat) (u : T3) (t : Tr), SL[k]? = some u → L[k]? = some t → u.lb = t.lb ∧ IRw wr u.a t.i ∧ IRw wr u.b t.o) ∧ Below w0.heap.size w0 wr
theorem OTr.bel {w0 wr : World} {v : Value} {L : List Tr} (h : OTr w0 wr v L) : Below w0.heap.size w0 wr := by obtain ⟨_, _, _, _, h4⟩ := h; exact h4
theorem OTr.below {w0 wr w' : World} {v : Value} {L : List Tr} (h : OTr w0 wr v L) (hb : Below wr.heap.size wr w') : OTr w0 w' v L := by
 obtain ⟨SL, h1, h2, h3, h4⟩ := h;exact ⟨SL, own_stays h1 hb, h2, fun k u t hk ht => ⟨(h3 k u t hk ht).1, (h3 k u t hk ht).2.1.below hb, (h3 k u t hk ht).2.2.below hb⟩, below_then h4 hb⟩
theorem irw_box {w : World} {u : Value} {l : List Int} (h : IRw w u l) {b o : Nat} {cs : Array Value} {T : TypeId} {fr : Nat × Nat} (hb : w.heap[b]? = some (.cells cs T fr)) (h1 : 3 ≠ T) (x : Value) : IRw (w.setCell ⟨b, o, none⟩ x) u l :=
 h.keep fun g cs' fr' hg _ => (Lib.grownBy_setB (grown_refl w (some b)) o x).block g (Array.getElem?_eq_some_iff.1 hg).1 (fun e => by
  cases e;rw [hb] at hg;injection hg with hg;injection hg with _ h2 _;exact h1 h2.symm)
theorem OTr.box {w0 wr : World} {v : Value} {L : List Tr} (h : OTr w0 wr v L) {b o : Nat} {cs : Array Value} {T : TypeId} (hb : wr.heap[b]? = some (.cells cs T (0, 0))) (h1 : 42 ≠ T) (h2 : 3 ≠ T) (h3 : w0.heap.size ≤ b) (x : Value) : OTr w0 (wr.setCell ⟨b, o, none⟩ x) v L := by
 obtain ⟨SL, a1, a2, a3, a4⟩ := h;have hset : wr.grownBy (wr.setCell ⟨b, o, none⟩ x) (some b) := Lib.grownBy_setB (grown_refl wr (some b)) o x;have h5 : ∀ k, some b = some k → w0.heap.size ≤ k := fun k hk => by cases hk; exact h3
 exact ⟨SL, a1.kept hset (own_other a1 hb h1), a2, fun k u t hk ht => ⟨(a3 k u t hk ht).1, irw_box (a3 k u t hk ht).2.1 hb h2 x, irw_box (a3 k u t hk ht).2.2 hb h2 x⟩, a4.grown hset a4.size h5⟩
theorem irw_row {w w' : World} {u v : Value} {l : List Int} (h : IRw w u l) {b n : Nat} {xs : List Value} (h1 : w.ownsRow b 42 3 v n xs) (hg : w.grownBy w' v.ownBlock) : IRw w' u l :=
 h.keep fun g cs' fr' hgg _ => hg.block g (Array.getElem?_eq_some_iff.1 hgg).1 (fun e => by
  rcases h1.2 with ⟨rfl, _⟩ | ⟨g', cap, cur, rfl, _, hh, _⟩
  · cases e
  · have : g = g' := by simpa [Value.ownBlock] using e
    subst this;rw [hh] at hgg;injection hgg with hgg;injection hgg with _ h2 _;exact absurd h2 (by decide))
theorem OTr.push {w0 wr w' : World} {v v' : Value} {L : List Tr} {SL : List T3} (h1 : wr.ownsRow w0.heap.size 42 3 v L.length (SL.flatMap c3)) (h2 : SL.length = L.length) (h3 : ∀ (k : Nat) (u : T3) (t : Tr), SL[k]? = some u → L[k]? = some t → u.lb = t.lb ∧ IRw wr u.a t.i ∧ IRw wr u.b t.o) (h4 : Below w0.heap.size w0 wr)
 {x : T3} {t : Tr} (hx : x.lb = t.lb ∧ IRw wr x.a t.i ∧ IRw wr x.b t.o) (ho : w'.ownsRow w0.heap.size 42 3 v' (L.length + 1) (SL.flatMap c3 ++ c3 x)) (hg : wr.grownBy w' v.ownBlock) : OTr w0 w' v' (L ++ [t]) := by
 have hb5 : ∀ k, v.ownBlock = some k → w0.heap.size ≤ k := fun k hk => (h1.lt k hk).1
 refine ⟨SL ++ [x], ?_, by rw [List.length_append, List.length_append, h2]; rfl, fun k y s hk ht => ?_, h4.grown hg h4.size hb5⟩
 · rw [List.length_append, List.flatMap_append];have : [x].flatMap c3 = c3 x := by simp
   rw [this]; exact ho
 rcases Nat.lt_or_ge k SL.length with hl | hl
 · rw [List.getElem?_append_left hl] at hk;rw [List.getElem?_append_left (by rw [← h2]; exact hl)] at ht;obtain ⟨e1, e2, e3⟩ := h3 k y s hk ht;exact ⟨e1, irw_row e2 h1 hg, irw_row e3 h1 hg⟩
 · rw [List.getElem?_append_right hl] at hk;rw [List.getElem?_append_right (by rw [← h2]; exact hl)] at ht;rcases Nat.eq_zero_or_pos (k - SL.length) with h0 | h0
   · rw [h0] at hk;rw [← h2, h0] at ht;simp at hk ht;subst hk ht;exact ⟨hx.1, irw_row hx.2.1 h1 hg, irw_row hx.2.2 h1 hg⟩
   · rw [List.getElem?_eq_none (by simp; omega)] at hk; cases hk
theorem OTr.tin {w0 wr : World} {v : Value} {L : List Tr} (h : OTr w0 wr v L) : ∃ A c, v = .slice A L.length c ∧ TIn wr A L := by
 obtain ⟨SL, h1, h2, h3, _⟩ := h;obtain ⟨A, c, rfl, _, _, _, hrd, _⟩ := own_rd c3_len (by decide) h1;refine ⟨A, c, rfl, fun i hi => ?_⟩;have hi2 : i < SL.length := by omega
 obtain ⟨ad, e, hb, hc⟩ := hrd i hi2;obtain ⟨e1, e2, e3⟩ := h3 i SL[i] L[i] (List.getElem?_eq_getElem hi2) (List.getElem?_eq_getElem hi);refine ⟨ad, e, hb, ?_, ⟨_, ?_, e2.sl⟩, _, ?_, e3.sl⟩
 · have := hc 0 (.string SL[i].lb) (by omega) rfl;rw [e1] at this; exact this
 · have := hc 1 SL[i].a (by omega) rfl;rw [add_at _ _ _ (by omega)] at this; exact this
 · have := hc 2 SL[i].b (by omega) rfl;rw [add_at _ _ _ (by omega)] at this; exact this
theorem trsInfo : (Tryz.prog.info? 42).map (fun i => (i.zero, i.size, i.bytes)) = some (some (.agg #[.string ⟨#[]⟩, .slice none 0 0, .slice none 0 0]), 3, 64) := by kernel_rfl
def NtO (w : World) (b : Nat) (pl : Int) (v : Value) (src snk : Int) : Prop := w.heap[b]? = some (.cells #[.int .i64 pl, v, .int .i64 src, .int .i64 snk] 30 (0, 0))
theorem NtO.below {w w' : World} {b : Nat} {pl : Int} {v : Value} {src snk : Int} (h : NtO w b pl v src snk) (hb : Below w.heap.size w w') : NtO w' b pl v src snk := by
 unfold NtO; rw [hb.block b (Array.getElem?_eq_some_iff.1 h).1]; exact h
theorem NtO.lt {w : World} {b : Nat} {pl : Int} {v : Value} {src snk : Int} (h : NtO w b pl v src snk) : b < w.heap.size := (Array.getElem?_eq_some_iff.1 h).1
theorem NtO.cells {w : World} {b : Nat} {pl : Int} {v : Value} {src snk : Int} (h : NtO w b pl v src snk) : w.cell? ⟨b, 0, none⟩ = some (.int .i64 pl) ∧ w.cell? ⟨b, 1, none⟩ = some v ∧ w.cell? ⟨b, 2, none⟩ = some (.int .i64 src) ∧ w.cell? ⟨b, 3, none⟩ = some (.int .i64 snk) := by
 have h' : w.heap[b]? = _ := h;simp [World.cell?, h']
theorem NtO.soft {w : World} {b : Nat} {pl : Int} {v : Value} {src snk : Int} (h : NtO w b pl v src snk) (o : Nat) : w.frozen? ⟨b, o, none⟩ = false := by
 have h' : w.heap[b]? = _ := h;simp [World.frozen?, h']
end
section
open Go.RowKit

theorem lit_irw (w : World) (Z : List Int) (h : Z.length ≤ 1000000) (cs : Array Value) (hc : cs = (Z.map (Value.int .i64)).toArray) : IRw (w.alloc (.cells cs 3)) (.slice (some ⟨w.heap.size, 0, none⟩) Z.length Z.length) Z := by
 subst hc;refine ⟨_, _, rfl, Nat.le_refl _, by omega, .inr ⟨w.heap.size, _, _, rfl, heap_alloc_new w _, fun i hi => ?_⟩⟩;simp [hi]
def aw0 (w : World) : World := (((w.alloc (.cells #[.int .i64 0] 3)).alloc (.cells #[.int .i64 1] 3)).alloc (.cells #[.int .i64 1] 3)).alloc (.cells #[.int .i64 2] 3)
def aw1 (w : World) : World := (aw0 w).alloc (.cells #[.string ⟨#[97]⟩, .slice (some ⟨w.heap.size, 0, none⟩) 1 1, .slice (some ⟨w.heap.size + 1, 0, none⟩) 1 1, .string ⟨#[98]⟩, .slice (some ⟨w.heap.size + 1 + 1, 0, none⟩) 1 1, .slice (some ⟨w.heap.size + 1 + 1 + 1, 0, none⟩) 1 1] 42)
theorem aw0_size (w : World) : (aw0 w).heap.size = w.heap.size + 1 + 1 + 1 + 1 := by unfold aw0; simp
theorem aw1_size (w : World) : (aw1 w).heap.size = w.heap.size + 1 + 1 + 1 + 1 + 1 := by unfold aw1; rw [World.size_alloc, aw0_size]
theorem aw0_below (w : World) : Below w.heap.size w (aw0 w) := below_then (below_alloc w _) (below_then (below_alloc _ _) (below_then (below_alloc _ _) (below_alloc _ _)))
theorem aw1_below (w : World) : Below w.heap.size w (aw1 w) := below_then (aw0_below w) (below_alloc _ _)
theorem aw1_tr (w : World) : OTr w (aw1 w) (.slice (some ⟨w.heap.size + 1 + 1 + 1 + 1, 0, none⟩) 2 2) e28a.tr := by
 have h1 := lit_irw w [0] (by decide) #[.int .i64 0] rfl;have h2 := lit_irw (w.alloc (.cells #[.int .i64 0] 3)) [1] (by decide) #[.int .i64 1] rfl;rw [World.size_alloc] at h2;have h3 := lit_irw ((w.alloc (.cells #[.int .i64 0] 3)).alloc (.cells #[.int .i64 1] 3)) [1] (by decide) #[.int .i64 1] rfl;rw [World.size_alloc, World.size_alloc] at h3;have h4 := lit_irw (((w.alloc (.cells #[.int .i64 0] 3)).alloc (.cells #[.int .i64 1] 3)).alloc (.cells #[.int .i64 1] 3)) [2] (by decide) #[.int .i64 2] rfl;rw [World.size_alloc, World.size_alloc, World.size_alloc] at h4;have b1 := below_alloc (w.alloc (.cells #[.int .i64 0] 3)) (.cells #[.int .i64 1] 3);have b2 := below_alloc ((w.alloc (.cells #[.int .i64 0] 3)).alloc (.cells #[.int .i64 1] 3)) (.cells #[.int .i64 1] 3);have b3 := below_alloc (((w.alloc (.cells #[.int .i64 0] 3)).alloc (.cells #[.int .i64 1] 3)).alloc (.cells #[.int .i64 1] 3)) (.cells #[.int .i64 2] 3);have b4 := below_alloc (aw0 w) (.cells #[.string ⟨#[97]⟩, .slice (some ⟨w.heap.size, 0, none⟩) 1 1, .slice (some ⟨w.heap.size + 1, 0, none⟩) 1 1, .string ⟨#[98]⟩, .slice (some ⟨w.heap.size + 1 + 1, 0, none⟩) 1 1, .slice (some ⟨w.heap.size + 1 + 1 + 1, 0, none⟩) 1 1] 42);have g1 : IRw (aw1 w) _ [0] := IRw.below (show IRw (aw0 w) _ [0] from ((h1.below b1).below b2).below b3) b4;have g2 : IRw (aw1 w) _ [1] := IRw.below (show IRw (aw0 w) _ [1] from (h2.below b2).below b3) b4;have g3 : IRw (aw1 w) _ [1] := IRw.below (show IRw (aw0 w) _ [1] from h3.below b3) b4;have g4 : IRw (aw1 w) _ [2] := IRw.below (show IRw (aw0 w) _ [2] from h4) b4;have hown := World.ownsRow_lit (base := w.heap.size) (e := 42) (size := 3) (aw0 w) #[.string ⟨#[97]⟩, .slice (some ⟨w.heap.size, 0, none⟩) 1 1, .slice (some ⟨w.heap.size + 1, 0, none⟩) 1 1, .string ⟨#[98]⟩, .slice (some ⟨w.heap.size + 1 + 1, 0, none⟩) 1 1, .slice (some ⟨w.heap.size + 1 + 1 + 1, 0, none⟩) 1 1] 2 (by rw [aw0_size]; omega) (by unfold maxLen; omega) rfl;rw [aw0_size] at hown;refine ⟨[⟨⟨#[97]⟩, .slice (some ⟨w.heap.size, 0, none⟩) 1 1, .slice (some ⟨w.heap.size + 1, 0, none⟩) 1 1⟩, ⟨⟨#[98]⟩, .slice (some ⟨w.heap.size + 1 + 1, 0, none⟩) 1 1, .slice (some ⟨w.heap.size + 1 + 1 + 1, 0, none⟩) 1 1⟩], hown, rfl, fun k u t hk ht => ?_, aw1_below w⟩
 match k, hk, ht with
 | 0, hk, ht => cases hk; cases ht; exact ⟨rfl, g1, g2⟩
 | 1, hk, ht => cases hk; cases ht; exact ⟨rfl, g3, g4⟩
 | k + 2, hk, _ => simp at hk
theorem e28a_ok : ∀ t ∈ e28a.tr, t.lb.size ≤ 9223372036854775807 := fun t ht => by
 have : t = ⟨⟨#[97]⟩, [0], [1]⟩ ∨ t = ⟨⟨#[98]⟩, [1], [2]⟩ := by simpa [e28a] using ht
 rcases this with rfl | rfl <;> decide
theorem e28b_ok : ∀ t ∈ e28b.tr, t.lb.size ≤ 9223372036854775807 := fun t ht => by
 have : t = ⟨⟨#[97]⟩, [0], [1]⟩ ∨ t = ⟨⟨#[98]⟩, [1], [2]⟩ ∨ t = ⟨⟨#[99]⟩, [0], [1, 2]⟩ := by simpa [e28b] using ht
 rcases this with rfl | rfl | rfl <;> decide
theorem awake28_any (w : World) (ht : Tb w) : Calls Tryz.prog 4 #[] w fun e w' => e = .returned (.bool true) ∧ Below w.heap.size w w' := by
 have hal := below_alloc (aw1 w) (.cells #[.int .i64 3, .slice (some ⟨w.heap.size + 1 + 1 + 1 + 1, 0, none⟩) 2 2, .int .i64 0, .int .i64 2] 30);have hnb := heap_alloc_new (aw1 w) (.cells #[.int .i64 3, .slice (some ⟨w.heap.size + 1 + 1 + 1 + 1, 0, none⟩) 2 2, .int .i64 0, .int .i64 2] 30);rw [aw1_size] at hnb;have HNo := hid (show NtO _ (w.heap.size + 1 + 1 + 1 + 1 + 1) 3 (.slice (some ⟨w.heap.size + 1 + 1 + 1 + 1, 0, none⟩) 2 2) 0 2 from hnb);have HTr := hid ((aw1_tr w).below hal);have HB := hid (below_then (aw1_below w) hal);have HT := hid (ht.below HB.out);have HT0 := hid ht;have HSz := hid (show w.heap.size ≤ w.heap.size + 1 + 1 + 1 + 1 + 1 by omega);obtain ⟨i0, hi, hz0, hz1, hz2⟩ := info_parts trsInfo;have HI := hid (And.intro hi (And.intro hz0 (And.intro hz1 hz2)));clear hi hz0 hz1 hz2 ht hal hnb;unfold aw1 aw0 at HNo HTr HB HT;go_enter Tryz.func4, Tryz.ntmps4;go_wp2_with fail;generalize (((((w.alloc _).alloc _).alloc _).alloc _).alloc _).alloc _ = w0 at *;generalize w.heap.size + 1 + 1 + 1 + 1 + 1 = nb at *;generalize w.heap.size + 1 + 1 + 1 + 1 = tb at *;obtain ⟨At, ct, hvt, htin⟩ := HTr.out.tin;cases hvt;have HSo := hid (show Calls Tryz.prog 8 #[.agg #[.int .i64 3, .slice (some ⟨tb, 0, none⟩) 2 2, .int .i64 0, .int .i64 2], .int .i64 10] w0 (SoPo e28a 10 w0) from sound_any e28a (some ⟨tb, 0, none⟩) 2 2 10 w0 ⟨htin, e28a_ok⟩ rfl (by decide) HT.out);clear htin;((with_reducible refine HSo.out.mono ?_); rintro e w1 ⟨hb1, ⟨k, rfl, hk⟩ | ⟨T, r, v, rfl, hT, hr, hc⟩⟩)
 · exact absurd hk (fun h => e28a_cov h)
 obtain rfl : r = 0 := e28a_r hT hr;obtain ⟨cl, cn, Ar, nr, cr, R, Ap, np, cp, P, Ak, nk, ck, K, Av, nv, cv, V, As, ns, cs, S, Aw, nw, cw, X, rfl, hcr⟩ := hc;clear hcr;have hd0 : decide ((0 : Int) = 0) = true := rfl;have HNo1 := hid (HNo.out.below hb1);have HTr1 := hid (HTr.out.below hb1);have HB1 := hid (below_then HB.out hb1);have HT1 := hid (HT.out.below hb1);clear HSo hT hr hb1 HNo HTr HB HT;rw [hd0];obtain ⟨b0, b1, b2, b3⟩ := HNo1.out.cells;have hal := below_alloc w1 (.cells #[.int .i64 cl, .int .i64 cn, .slice Ar nr cr, .slice Ap np cp, .slice Ak nk ck, .slice Av nv cv, .slice As ns cs, .slice Aw nw cw] 38);have HNo2 := hid (HNo1.out.below hal);have HTr2 := hid (HTr1.out.below hal);have HB2 := hid (below_then HB1.out hal);have HT2 := hid (HT1.out.below hal)
 go_upto_region 3 with (fail)
 clear hal b0 b1 b2 b3 HNo1 HTr1 HB1 HT1 hd0;generalize w1.alloc (.cells #[.int .i64 cl, .int .i64 cn, .slice Ar nr cr, .slice Ap np cp, .slice Ak nk ck, .slice Av nv cv, .slice As ns cs, .slice Aw nw cw] 38) = w2 at *;obtain ⟨b0, b1, b2, b3⟩ := HNo2.out.cells;have l1 := lit_irw w2 [0] (by decide) #[.int .i64 0] rfl;have l2 := lit_irw (w2.alloc (.cells #[.int .i64 0] 3)) [1, 2] (by decide) #[.int .i64 1, .int .i64 2] rfl;rw [World.size_alloc] at l2;have a1 := below_alloc w2 (.cells #[.int .i64 0] 3);have a2 := below_alloc (w2.alloc (.cells #[.int .i64 0] 3)) (.cells #[.int .i64 1, .int .i64 2] 3);have a3 := below_alloc ((w2.alloc (.cells #[.int .i64 0] 3)).alloc (.cells #[.int .i64 1, .int .i64 2] 3)) (.cells #[.string ⟨#[99]⟩, .slice (some ⟨w2.heap.size, 0, none⟩) 1 1, .slice (some ⟨w2.heap.size + 1, 0, none⟩) 2 2] 42);have a12 := below_then a1 a2;have a123 := below_then a12 a3;have HL1 := hid ((l1.below a2).below a3);have HL2 := hid (l2.below a3);have HNo3 := hid (HNo2.out.below a123);have HTr3 := hid (HTr2.out.below a123);have HB3 := hid (below_then HB2.out a123);have HT3 := hid (HT2.out.below a123);have hc3 := heap_alloc_new ((w2.alloc (.cells #[.int .i64 0] 3)).alloc (.cells #[.int .i64 1, .int .i64 2] 3)) (.cells #[.string ⟨#[99]⟩, .slice (some ⟨w2.heap.size, 0, none⟩) 1 1, .slice (some ⟨w2.heap.size + 1, 0, none⟩) 2 2] 42);simp only [World.size_alloc] at hc3;have HC3 := hid hc3;obtain ⟨SL, o1, o2, o3, o4⟩ := HTr3.out;clear l1 l2 a1 a2 a3 a12 a123 hc3;go_wp2_with (at_builtin; refine wpList_append_own _ rfl _ _ 28 rfl w.heap.size 42 i0 (.agg #[.string ⟨#[]⟩, .slice none 0 0, .slice none 0 0]) 3 64 Tryz.underlying28 HI.out.1 HI.out.2.1 HI.out.2.2.1 HI.out.2.2.2 rfl (by decide) (.slice (some ⟨tb, 0, none⟩) 2 2) _ _ rfl o1 ⟨w2.heap.size + 1 + 1, 0, none⟩ 1 1 [.string ⟨#[99]⟩, .slice (some ⟨w2.heap.size, 0, none⟩) 1 1, .slice (some ⟨w2.heap.size + 1, 0, none⟩) 2 2] rfl rfl ?c1 ?c2 ?c3 ?c4 ?c5 ?_);case c1 => exact news_blk HC3.out
 case c2 => intro u hu; simp at hu; rcases hu with rfl | rfl | rfl <;> rfl
 case c3 => unfold maxLen; show 2 + 1 ≤ _; omega
 case c4 => show (2 + 1) * 64 ≤ _; omega
 case c5 => exact HB3.out.size
 intro v7 w7 hown7 hgrow7 _;have HTr7 := hid (OTr.push (x := ⟨⟨#[99]⟩, .slice (some ⟨w2.heap.size, 0, none⟩) 1 1, .slice (some ⟨w2.heap.size + 1, 0, none⟩) 2 2⟩) (t := ⟨⟨#[99]⟩, [0], [1, 2]⟩) o1 o2 o3 o4 ⟨rfl, HL1.out, HL2.out⟩ hown7 hgrow7);have hnr := row_block o1 HNo3.out (by decide);have HNo7 := hid (show NtO w7 nb 3 _ 0 2 from (hgrow7.block nb HNo3.out.lt hnr).trans HNo3.out);have HB7 := hid (HB3.out.grown hgrow7 HB3.out.size (fun k hk => (o1.lt k hk).1));have HT7 := hid ((HTr3.out.bel).size);clear o1 o2 o3 o4 hown7 hgrow7 hnr HL1 HL2 HC3 HTr2 HTr3 HNo2 HNo3 HB2 HB3 HT7 b0 b1 b2 b3;obtain ⟨A7, c7, hv7, _⟩ := HTr7.out.tin;have hv9 : v7 = .slice A7 3 c7 := hv7;clear hv7;subst hv9;obtain ⟨b0, b1, b2, b3⟩ := HNo7.out.cells;have bf1 := HNo7.out.soft 1;have HNo8 := hid (show NtO (w7.setCell ⟨nb, 1, none⟩ (.slice A7 3 c7)) nb 3 (.slice A7 3 c7) 0 2 by unfold NtO; rw [heap_set2 HNo7.out]; rfl);have HTr8 := hid (HTr7.out.box (o := 1) HNo7.out (by decide) (by decide) HSz.out (.slice A7 3 c7));have HB8 := hid (HB7.out.setCell (p := ⟨nb, 1, none⟩) HSz.out (.slice A7 3 c7))
 go_upto_region 4 with (fail)
 generalize w7.setCell ⟨nb, 1, none⟩ _ = w8 at *;clear b0 b1 b2 b3 bf1 HNo7 HTr7 HB7;have HT8 := hid (HT0.out.below HB8.out);obtain ⟨b0, b1, b2, b3⟩ := HNo8.out.cells;obtain ⟨At8, ct8, hvt8, htin8⟩ := HTr8.out.tin;cases hvt8;have HRs := hid (show Calls Tryz.prog 10 #[.agg #[.int .i64 3, .slice A7 3 c7, .int .i64 0, .int .i64 2], .int .i64 10] w8 (RsnPo e28b 10 w8) from reason_any e28b A7 3 c7 10 w8 ⟨htin8, e28b_ok⟩ rfl (by decide) HT8.out);clear htin8;go_wp2_with fail;((with_reducible refine HRs.out.mono ?_); rintro e w9 ⟨hb9, ⟨k, rfl, hk⟩ | ⟨T2, r, rfl, hT2, hr2⟩⟩)
 · exact absurd hk (fun h => e28b_cov h)
 obtain rfl : r = 2 := e28b_r hT2 hr2;have HB9 := hid (below_then HB8.out hb9);clear hT2 hr2 hb9 HRs;go_wp2_with fail;go_ret;exact ⟨rfl, HB9.out⟩
end
end Go.Proofs.YtpiihmbeedlpkaaGreatDoor
