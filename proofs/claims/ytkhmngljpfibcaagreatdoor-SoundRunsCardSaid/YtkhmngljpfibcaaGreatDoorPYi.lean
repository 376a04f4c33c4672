/- verdict: sound: what a call returns, plain; the facts that its walk uses. verdict.Check: what a call returns. A pump goes on from more tokens: plain. Opposite claims of a net are not both proved: plain. at, Initial, Final, below, markings, never, closed, covers of reference 28: what a call returns. great, Great, awake of the statements: what a call returns. Reverse of reference 21: what a call returns. -/
import Derived.Test.YtkhmngljpfibcaaGreatDoorPUu
import Derived.Test.YtkhmngljpfibcaaGreatDoorPQj
import Derived.Test.YtkhmngljpfibcaaGreatDoorPQp
import Derived.Test.YtkhmngljpfibcaaGreatDoorPIj
import Derived.Test.YtkhmngljpfibcaaGreatDoorPDg
import Derived.Lib.UnsafeStr
namespace Go.Proofs.YtkhmngljpfibcaaGreatDoor
set_option maxRecDepth 100000
set_option maxHeartbeats 1600000
open Go.Lib (hid)
section
open Go.RowKit

def mvT (N : Nt) (K : List (List Int)) (i : Nat) (f t s : Int) : Bool := decide (t = (i : Int) + 1) && (decide (0 ≤ f) && (decide (f ≤ (i : Int)) && (decide ((fireV N (K.getD f.toNat []) s).2 = 0) && decide ((fireV N (K.getD f.toNat []) s).1 = K.getD (i + 1) []))))
def mvOkAt (N : Nt) (K : List (List Int)) (V : List Mv) (i : Nat) : Bool := match V[i]? with
 | some x => mvT N K i x.f x.t x.s
 | none => true
theorem mvOk_get {N : Nt} {K : List (List Int)} {V : List Mv} {i : Nat} (h : i < V.length) : mvOkAt N K V i = mvT N K i V[i].f V[i].t V[i].s := by
 unfold mvOkAt; rw [List.getElem?_eq_getElem h]
def rowV (Z : List Int) (i : Nat) : Int := Z.getD i 0
def nearT (K : List (List Int)) (Z : List Int) (i : Nat) (t : Tr) : Bool := canT t (K.getD i []) && decide (rowV Z (lidx (isL (fireT t (K.getD i []))) K).toNat < rowV Z i)
def mrkOk (N : Nt) (K : List (List Int)) (Z : List Int) (i : Nat) : Bool := decide (lidx (isL (K.getD i [])) K = (i : Int)) && ((decide (K.getD i [] = finM N) == decide (rowV Z i = 0)) && (decide (K.getD i [] = finM N) || (N.tr.any (nearT K Z i) && !(decide (0 < (K.getD i []).getD N.snk.toNat 0)))))
def firedB (K : List (List Int)) (t : Tr) : Bool := K.any (canT t)
def sndB (N : Nt) (K : List (List Int)) (V : List Mv) (X : List (List Int)) : Bool :=
 !(K.isEmpty) && (mksX N.pl false K && (decide (K.getD 0 [] = iniM N) && (decide (V.length + 1 = K.length) && (decide (X.length = 1) && (decide ((X.headD []).length = K.length) && ((List.range V.length).all (mvOkAt N K V) && (closX N K && ((List.range K.length).all (mrkOk N K (X.headD [])) && N.tr.all (firedB K)))))))))
end
section
open Go.RowKit

def ndB (N : Nt) (cn : Int) (R : List Int) : Bool := decide ((runI N R).2.2 = 0) && (decide (0 < R.length) && decide (R.getD (R.length - 1) 0 = cn))
def ClmP (N : Nt) (cl cn : Int) (R P : List Int) (K : List (List Int)) (V : List Mv) (S X : List (List Int)) : Prop :=
 (1 ≤ cl ∧ cl ≤ 4 → wfP N) ∧ ((cl = 1 ∧ sndB N K V X = true) ∨ (cl = 2 ∧ unsB N cn R P K = true) ∨ (cl = 3 ∧ relB N S = true) ∨ (cl = 4 ∧ nrlB N cn K S = true) ∨ ((cl = 5 ∨ cl = 6) ∧ chkB N (iniM N) ⟨cl, cn, R, P, K⟩ = true) ∨ (cl = 7 ∧ deadB N cn K = true) ∨ (cl = 8 ∧ ndB N cn R = true))
theorem clm_at {N : Nt} {cn : Int} {R P : List Int} {K : List (List Int)} {V : List Mv} {S X : List (List Int)} (hw : wfP N) :
 (ClmP N 1 cn R P K V S X ↔ sndB N K V X = true) ∧ (ClmP N 2 cn R P K V S X ↔ unsB N cn R P K = true) ∧ (ClmP N 3 cn R P K V S X ↔ relB N S = true) ∧ (ClmP N 4 cn R P K V S X ↔ nrlB N cn K S = true) := by
 refine ⟨?_, ?_, ?_, ?_⟩ <;> (unfold ClmP; simp [hw])
end
section
theorem om_pump {N : Nt} {M : List Int} {most : Nat} {T : TS} {i : Nat} {d : Nd} {g : Nat} {z : Nd} {W1 W2 : List Nat} {p : Nat} (hv : mkB N M = true) (hg : growT N M most = some T) (hm : most ≤ 1000) (hf : FOm N T i d g z W1 W2 p) :
 run21 N M (W1.map Int.ofNat) = (z.ms, W1.length, 0) ∧ run21 N z.ms (W2.map Int.ofNat) = (d.pn, W2.length, 0) ∧ mkB N z.ms = true ∧ (∀ q : Nat, z.ms.getD q 0 ≤ d.pn.getD q 0) ∧ z.ms.getD p 0 < d.pn.getD p 0 ∧ p < M.length ∧ z.ms.length = M.length := by
 obtain ⟨_, _, _, e1, e2, l1, l2, hzM, hnn⟩ := om_cert hv hg hm hf;have hz : mkB N z.ms = true := by have := run21_mk (N := N) (M := M) (l := W1.map Int.ofNat) (by rw [e1]); rwa [e1] at this
 have hle : ∀ q : Nat, z.ms.getD q 0 ≤ d.pn.getD q 0 := fun q => by
  rcases Nat.lt_or_ge q z.ms.length with hq | hq
  · have h1 := (lessE_iff _ _).1 (hf.le q hq);have h2 := hnn q;rcases h1 with h1 | h1
    · omega
    · exact h1.2
  · rw [getD_out hq, getD_out (by omega)]; omega
 have hpl := hf.pl;refine ⟨e1, e2, hz, hle, ?_, by omega, l1⟩;have h1 := hle p;have h2 := hf.df;omega
end
section
theorem memB_iff {K : List (List Int)} {m : List Int} : memB K m = true ↔ m ∈ K := by
 unfold memB isL; rw [List.any_eq_true];exact ⟨fun ⟨x, hx, h⟩ => by have := of_decide_eq_true h; rw [← this]; exact hx, fun h => ⟨m, h, by simp⟩⟩
end
section
open Go.RowKit

theorem one21_any (pl : Nat) (A : Option Addr) (n c : Nat) (src snk : Int) (p : Nat) (w : World) (hp : p < pl) (hpl : pl ≤ 1000) :
 Calls Tryz.prog 35 #[.agg #[.int .i64 (pl : Int), .slice A n c, .int .i64 src, .int .i64 snk], .int .i64 (p : Int)] w fun e w' => ∃ v, e = .returned v ∧ NS w w' v (oneM pl p) := by
 have HB := hid (below_alloc w (.cells #[.int .i64 (pl : Int), .slice A n c, .int .i64 src, .int .i64 snk] 24));have HN := hid (NB.new w (pl : Int) A n c src snk);have hmk := mk_ints pl (by omega);have hp0 : (0 : Int) ≤ (p : Int) := by omega
 have hp1 : (p : Int) < (pl : Int) := by omega
 have hpl0 : (0 : Int) ≤ (pl : Int) := by omega
 have hc0 : (madeCells #[Value.int .i64 0] pl)[p]? = some (.int .i64 0) := by rw [← Array.getElem?_toList, toList_madeCells_one]; simp [hp]
 have hs0 : (w.alloc (.cells #[.int .i64 (pl : Int), .slice A n c, .int .i64 src, .int .i64 snk] 24)).heap.size = w.heap.size + 1 := by simp
 go_enter Tryz.func35, Tryz.ntmps35;go_wp2_with fail;have h1 := NS.one1 (w.alloc (.cells #[.int .i64 (pl : Int), .slice A n c, .int .i64 src, .int .i64 snk] 24)) pl p (by omega);rw [hs0] at h1;go_ret;exact ⟨_, rfl, NS.up HB.out h1⟩
theorem rsrc_any (N : Nt) (A : Option Addr) (n c : Nat) (hv : ntB N = true) (w : World) : Calls Tryz.prog 35 #[.agg #[.int .i64 N.pl, .slice A n c, .int .i64 N.src, .int .i64 N.snk], .int .i64 N.src] w fun e w' => ∃ v, e = .returned v ∧ NS w w' v (iniM N) := by
 have h1 := nt_small hv;have h2 := nt_src hv;have h := one21_any N.pl.toNat A n c N.src N.snk N.src.toNat w (by omega) (by omega);rw [show ((N.pl.toNat : Nat) : Int) = N.pl by omega, show ((N.src.toNat : Nat) : Int) = N.src by omega] at h;exact h
theorem ini28_any (N : Nt) (A : Option Addr) (n c : Nat) (hv : ntB N = true) (w : World) : Calls Tryz.prog 24 #[.agg #[.int .i64 N.pl, .slice A n c, .int .i64 N.src, .int .i64 N.snk]] w fun e w' => ∃ v, e = .returned v ∧ NS w w' v (iniM N) := by
 have HB := hid (below_alloc w (.cells #[.int .i64 N.pl, .slice A n c, .int .i64 N.src, .int .i64 N.snk] 24));have HO := hid (rsrc_any N A n c hv (w.alloc (.cells #[.int .i64 N.pl, .slice A n c, .int .i64 N.src, .int .i64 N.snk] 24)));clear hv;go_enter Tryz.func24, Tryz.ntmps24;go_wp2_with fail;((with_reducible refine HO.out.mono ?_); rintro e w1 ⟨v, rfl, hS⟩)
 go_wp2_with fail;go_ret;exact ⟨_, rfl, NS.up HB.out hS⟩
end
section
open Go.RowKit

structure CfL (w : World) (Ar : Option Addr) (nr : Nat) (R : List Int) (Ap : Option Addr) (np : Nat) (P : List Int) (Ak : Option Addr) (nk : Nat) (K : List (List Int)) (Av : Option Addr) (nv : Nat) (V : List Mv) (As : Option Addr) (ns : Nat) (S : List (List Int)) (Aw : Option Addr) (nw : Nat) (X : List (List Int)) : Prop where
 r : ZIn w Ar R
 rl : R.length = nr
 p : ZIn w Ap P
 pl : P.length = np
 k : LIn w Ak K
 kl : K.length = nk
 v : Rd mvC 3 w Av V
 vl : V.length = nv
 s : LIn w As S
 sl : S.length = ns
 x : LIn w Aw X
 xl : X.length = nw
end
section
open Go.RowKit

def IRw (w : World) (u : Value) (l : List Int) : Prop := ∃ A c, u = .slice A l.length c ∧ l.length ≤ c ∧ c ≤ 9223372036854775807 ∧ (l = [] ∨ ∃ g cs fr, A = some ⟨g, 0, none⟩ ∧ w.heap[g]? = some (.cells cs 3 fr) ∧ ∀ i (h : i < l.length), cs[i]? = some (.int .i64 l[i]))
theorem IRw.sl {w : World} {u : Value} {l : List Int} (h : IRw w u l) : SlIn w u l := by
 obtain ⟨A, c, rfl, h1, h2, h3⟩ := h;refine ⟨A, l.length, c, rfl, fun i hi => ?_, rfl, h1, h2⟩;rcases h3 with rfl | ⟨g, cs, fr, rfl, hg, hc⟩
 · simp at hi
 · refine ⟨_, rfl, by rw [add_block]; exact (Array.getElem?_eq_some_iff.1 hg).1, ?_⟩;rw [add_zero, Nat.zero_add, Lib.cell_of_heap hg];exact hc i hi
theorem IRw.keep {w w' : World} {u : Value} {l : List Int} (h : IRw w u l) (hk : ∀ (g : Nat) (cs : Array Value) (fr : Nat × Nat), w.heap[g]? = some (.cells cs 3 fr) → 0 < cs.size → w'.heap[g]? = w.heap[g]?) : IRw w' u l := by
 obtain ⟨A, c, rfl, h1, h2, h3⟩ := h;refine ⟨A, c, rfl, h1, h2, ?_⟩;rcases h3 with rfl | ⟨g, cs, fr, rfl, hg, hc⟩
 · exact .inl rfl
 · by_cases h0 : l = []
   · exact .inl h0
   · have hp : 0 < l.length := List.length_pos_iff.2 h0;have h4 := hc 0 hp;refine .inr ⟨g, cs, fr, rfl, by rw [hk g cs fr hg ((Array.getElem?_eq_some_iff.1 h4).1)]; exact hg, hc⟩
theorem IRw.below {w w' : World} {u : Value} {l : List Int} (h : IRw w u l) (hb : Below w.heap.size w w') : IRw w' u l :=
 h.keep fun g _ _ hg _ => hb.block g (Array.getElem?_eq_some_iff.1 hg).1
structure T3 where
 lb : ByteArray
 a : Value
 b : Value
def c3 (x : T3) : List Value := [.string x.lb, x.a, x.b]
theorem c3_len (x : T3) : (c3 x).length = 3 := rfl
def OTr (w0 wr : World) (v : Value) (L : List Tr) : Prop :=
 ∃ SL : List T3, wr.ownsRow w0.heap.size 79 3 v L.length (SL.flatMap c3) ∧ SL.length = L.length ∧ (∀ (k : Nat) (u : T3) (t : Tr), SL[k]? = some u → L[k]? = some t → u.lb = t.lb ∧ IRw wr u.a t.i ∧ IRw wr u.b t.o) ∧ Below w0.heap.size w0 wr
theorem OTr.bel {w0 wr : World} {v : Value} {L : List Tr} (h : OTr w0 wr v L) : Below w0.heap.size w0 wr := by obtain ⟨_, _, _, _, h4⟩ := h; exact h4
theorem OTr.below {w0 wr w' : World} {v : Value} {L : List Tr} (h : OTr w0 wr v L) (hb : Below wr.heap.size wr w') : OTr w0 w' v L := by
 obtain ⟨SL, h1, h2, h3, h4⟩ := h;exact ⟨SL, own_stays h1 hb, h2, fun k u t hk ht => ⟨(h3 k u t hk ht).1, (h3 k u t hk ht).2.1.below hb, (h3 k u t hk ht).2.2.below hb⟩, below_then h4 hb⟩
theorem irw_box {w : World} {u : Value} {l : List Int} (h : IRw w u l) {b o : Nat} {cs : Array Value} {T : TypeId} {fr : Nat × Nat} (hb : w.heap[b]? = some (.cells cs T fr)) (h1 : 3 ≠ T) (x : Value) : IRw (w.setCell ⟨b, o, none⟩ x) u l :=
 h.keep fun g cs' fr' hg _ => (Lib.grownBy_setB (grown_refl w (some b)) o x).block g (Array.getElem?_eq_some_iff.1 hg).1 (fun e => by
  cases e;rw [hb] at hg;injection hg with hg;injection hg with _ h2 _;exact h1 h2.symm)
theorem OTr.box {w0 wr : World} {v : Value} {L : List Tr} (h : OTr w0 wr v L) {b o : Nat} {cs : Array Value} {T : TypeId} (hb : wr.heap[b]? = some (.cells cs T (0, 0))) (h1 : 79 ≠ T) (h2 : 3 ≠ T) (h3 : w0.heap.size ≤ b) (x : Value) : OTr w0 (wr.setCell ⟨b, o, none⟩ x) v L := by
 obtain ⟨SL, a1, a2, a3, a4⟩ := h;have hset : wr.grownBy (wr.setCell ⟨b, o, none⟩ x) (some b) := Lib.grownBy_setB (grown_refl wr (some b)) o x;have h5 : ∀ k, some b = some k → w0.heap.size ≤ k := fun k hk => by cases hk; exact h3
 exact ⟨SL, a1.kept hset (own_other a1 hb h1), a2, fun k u t hk ht => ⟨(a3 k u t hk ht).1, irw_box (a3 k u t hk ht).2.1 hb h2 x, irw_box (a3 k u t hk ht).2.2 hb h2 x⟩, a4.grown hset a4.size h5⟩
theorem irw_row {w w' : World} {u v : Value} {l : List Int} (h : IRw w u l) {b n : Nat} {xs : List Value} (h1 : w.ownsRow b 79 3 v n xs) (hg : w.grownBy w' v.ownBlock) : IRw w' u l :=
 h.keep fun g cs' fr' hgg _ => hg.block g (Array.getElem?_eq_some_iff.1 hgg).1 (fun e => by
  rcases h1.2 with ⟨rfl, _⟩ | ⟨g', cap, cur, rfl, _, hh, _⟩
  · cases e
  · have : g = g' := by simpa [Value.ownBlock] using e
    subst this;rw [hh] at hgg;injection hgg with hgg;injection hgg with _ h2 _;exact absurd h2 (by decide))
theorem OTr.push {w0 wr w' : World} {v v' : Value} {L : List Tr} {SL : List T3} (h1 : wr.ownsRow w0.heap.size 79 3 v L.length (SL.flatMap c3)) (h2 : SL.length = L.length) (h3 : ∀ (k : Nat) (u : T3) (t : Tr), SL[k]? = some u → L[k]? = some t → u.lb = t.lb ∧ IRw wr u.a t.i ∧ IRw wr u.b t.o) (h4 : Below w0.heap.size w0 wr)
 {x : T3} {t : Tr} (hx : x.lb = t.lb ∧ IRw wr x.a t.i ∧ IRw wr x.b t.o) (ho : w'.ownsRow w0.heap.size 79 3 v' (L.length + 1) (SL.flatMap c3 ++ c3 x)) (hg : wr.grownBy w' v.ownBlock) : OTr w0 w' v' (L ++ [t]) := by
 have hb5 : ∀ k, v.ownBlock = some k → w0.heap.size ≤ k := fun k hk => (h1.lt k hk).1
 refine ⟨SL ++ [x], ?_, by rw [List.length_append, List.length_append, h2]; rfl, fun k y s hk ht => ?_, h4.grown hg h4.size hb5⟩
 · rw [List.length_append, List.flatMap_append];have : [x].flatMap c3 = c3 x := by simp
   rw [this]; exact ho
 rcases Nat.lt_or_ge k SL.length with hl | hl
 · rw [List.getElem?_append_left hl] at hk;rw [List.getElem?_append_left (by rw [← h2]; exact hl)] at ht;obtain ⟨e1, e2, e3⟩ := h3 k y s hk ht;exact ⟨e1, irw_row e2 h1 hg, irw_row e3 h1 hg⟩
 · rw [List.getElem?_append_right hl] at hk;rw [List.getElem?_append_right (by rw [← h2]; exact hl)] at ht;rcases Nat.eq_zero_or_pos (k - SL.length) with h0 | h0
   · rw [h0] at hk;rw [← h2, h0] at ht;simp at hk ht;subst hk ht;exact ⟨hx.1, irw_row hx.2.1 h1 hg, irw_row hx.2.2 h1 hg⟩
   · rw [List.getElem?_eq_none (by simp; omega)] at hk; cases hk
theorem OTr.tin {w0 wr : World} {v : Value} {L : List Tr} (h : OTr w0 wr v L) : ∃ A c, v = .slice A L.length c ∧ TIn wr A L := by
 obtain ⟨SL, h1, h2, h3, _⟩ := h;obtain ⟨A, c, rfl, _, _, _, hrd, _⟩ := own_rd c3_len (by decide) h1;refine ⟨A, c, rfl, fun i hi => ?_⟩;have hi2 : i < SL.length := by omega
 obtain ⟨ad, e, hb, hc⟩ := hrd i hi2;obtain ⟨e1, e2, e3⟩ := h3 i SL[i] L[i] (List.getElem?_eq_getElem hi2) (List.getElem?_eq_getElem hi);refine ⟨ad, e, hb, ?_, ⟨_, ?_, e2.sl⟩, _, ?_, e3.sl⟩
 · have := hc 0 (.string SL[i].lb) (by omega) rfl;rw [e1] at this; exact this
 · have := hc 1 SL[i].a (by omega) rfl;rw [add_at _ _ _ (by omega)] at this; exact this
 · have := hc 2 SL[i].b (by omega) rfl;rw [add_at _ _ _ (by omega)] at this; exact this
theorem trsInfo : (Tryz.prog.info? 79).map (fun i => (i.zero, i.size, i.bytes)) = some (some (.agg #[.string ⟨#[]⟩, .slice none 0 0, .slice none 0 0]), 3, 64) := by kernel_rfl
def NtO (w : World) (b : Nat) (pl : Int) (v : Value) (src snk : Int) : Prop := w.heap[b]? = some (.cells #[.int .i64 pl, v, .int .i64 src, .int .i64 snk] 24 (0, 0))
theorem NtO.below {w w' : World} {b : Nat} {pl : Int} {v : Value} {src snk : Int} (h : NtO w b pl v src snk) (hb : Below w.heap.size w w') : NtO w' b pl v src snk := by
 unfold NtO; rw [hb.block b (Array.getElem?_eq_some_iff.1 h).1]; exact h
theorem NtO.lt {w : World} {b : Nat} {pl : Int} {v : Value} {src snk : Int} (h : NtO w b pl v src snk) : b < w.heap.size := (Array.getElem?_eq_some_iff.1 h).1
theorem NtO.cells {w : World} {b : Nat} {pl : Int} {v : Value} {src snk : Int} (h : NtO w b pl v src snk) : w.cell? ⟨b, 0, none⟩ = some (.int .i64 pl) ∧ w.cell? ⟨b, 1, none⟩ = some v ∧ w.cell? ⟨b, 2, none⟩ = some (.int .i64 src) ∧ w.cell? ⟨b, 3, none⟩ = some (.int .i64 snk) := by
 have h' : w.heap[b]? = _ := h;simp [World.cell?, h']
theorem NtO.soft {w : World} {b : Nat} {pl : Int} {v : Value} {src snk : Int} (h : NtO w b pl v src snk) (o : Nat) : w.frozen? ⟨b, o, none⟩ = false := by
 have h' : w.heap[b]? = _ := h;simp [World.frozen?, h']
end
end Go.Proofs.YtkhmngljpfibcaaGreatDoor
