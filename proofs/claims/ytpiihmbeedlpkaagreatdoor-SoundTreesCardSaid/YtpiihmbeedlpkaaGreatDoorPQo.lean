/- The places that a net leads to, both ways; petri.reached: what a call returns. -/
import Derived.Test.YtpiihmbeedlpkaaGreatDoorPUu
import Derived.Test.YtpiihmbeedlpkaaGreatDoorPQj
import Derived.Deep.RegionHeld3
namespace Go.Proofs.YtpiihmbeedlpkaaGreatDoor
set_option maxRecDepth 100000
set_option maxHeartbeats 12800000
open Go.Lib (hid)
open Go.RowKit

def insT (b : Bool) (t : Tr) : List Int := if b then t.o else t.i
def outT (b : Bool) (t : Tr) : List Int := if b then t.i else t.o
inductive Rch (N : Nt) (b : Bool) (p : Nat) : Nat → Prop where
 | start : Rch N b p p
 | step (t : Tr) (x y : Nat) : t ∈ N.tr → (x : Int) ∈ insT b t → Rch N b p x → (y : Int) ∈ outT b t → Rch N b p y
structure RInv (N : Nt) (b : Bool) (p : Nat) (P T : List Bool) : Prop where
 st : P.getD p false = true
 so : ∀ x, P.getD x false = true → Rch N b p x
 tr : ∀ (i : Nat) (t : Tr), N.tr[i]? = some t → T.getD i false = true → (∃ x : Nat, (x : Int) ∈ insT b t ∧ Rch N b p x) ∧ ∀ y : Nat, (y : Int) ∈ outT b t → P.getD y false = true
def ClsTo (N : Nt) (b : Bool) (P T : List Bool) (j : Nat) : Prop := ∀ i, i < j → ∀ t, N.tr[i]? = some t → T.getD i false = true ∨ ∀ x : Nat, (x : Int) ∈ insT b t → P.getD x false = false
theorem setD (P : List Bool) (i x : Nat) (hi : i < P.length) : (P.set i true).getD x false = (decide (i = x) || P.getD x false) := by
 by_cases h : i = x
 · subst h; simp [hi]
 · simp [h, List.getD_eq_getElem?_getD, List.getElem?_set_ne h]
theorem repD (n x : Nat) : (List.replicate n false).getD x false = false := by
 rw [List.getD_eq_getElem?_getD, List.getElem?_replicate]; split <;> rfl
theorem RInv.zero (N : Nt) (b : Bool) (p pl n : Nat) (hp : p < pl) : RInv N b p ((List.replicate pl false).set p true) (List.replicate n false) := by
 constructor
 · rw [setD _ _ _ (by simpa using hp)]; simp
 · intro x hx;rw [setD _ _ _ (by simpa using hp), repD] at hx;simp at hx;subst hx;exact .start
 · intro i t _ h; rw [repD] at h; cases h
theorem RInv.grow {N : Nt} {b : Bool} {p : Nat} {P P' T : List Bool} {j : Nat} {t : Tr} (h : RInv N b p P T) (hT : j < T.length) (hj : N.tr[j]? = some t) (hin : ∃ x : Nat, (x : Int) ∈ insT b t ∧ P.getD x false = true) (hmono : ∀ x, P.getD x false = true → P'.getD x false = true) (hso : ∀ x, P'.getD x false = true → Rch N b p x) (hout : ∀ y : Nat, (y : Int) ∈ outT b t → P'.getD y false = true) : RInv N b p P' (T.set j true) := by
 refine ⟨hmono _ h.st, hso, fun i u hu ht => ?_⟩;rw [setD _ _ _ hT] at ht;by_cases hij : j = i
 · subst hij;rw [hj] at hu;cases hu;obtain ⟨x, h1, h2⟩ := hin;exact ⟨⟨x, h1, h.so _ h2⟩, hout⟩
 · rw [decide_eq_false hij, Bool.false_or] at ht;obtain ⟨h1, h2⟩ := h.tr i u hu ht;exact ⟨h1, fun y hy => hmono _ (h2 y hy)⟩
theorem cls_step {N : Nt} {b : Bool} {P T : List Bool} {j : Nat} {t : Tr} (h : ClsTo N b P T j) (hj : N.tr[j]? = some t) (hd : T.getD j false = true ∨ ∀ x : Nat, (x : Int) ∈ insT b t → P.getD x false = false) : ClsTo N b P T (j + 1) := by
 intro i hi u hu;by_cases hij : i = j
 · subst hij; rw [hj] at hu; cases hu; exact hd
 · exact h i (by omega) u hu
theorem cnt_set {T : List Bool} {j : Nat} (h : j < T.length) (hf : T[j] = false) : (T.set j true).count false + 1 = T.count false := by
 rw [List.count_set h, hf];have : 0 < T.count false := List.count_pos_iff.2 (by rw [← hf]; exact List.getElem_mem h);simp; omega
theorem rdone_pl {N : Nt} {b : Bool} {p : Nat} {P T : List Bool} (h : RInv N b p P T) (hc : ClsTo N b P T N.tr.length) (x : Nat) : P.getD x false = true ↔ Rch N b p x := by
 refine ⟨h.so x, fun hr => ?_⟩
 induction hr with
 | start => exact h.st
 | step t x y ht hx _ hy ih =>
  obtain ⟨k, hk, rfl⟩ := List.getElem_of_mem ht;have hk' : N.tr[k]? = some N.tr[k] := List.getElem?_eq_getElem hk;rcases hc k hk _ hk' with h1 | h1
  · exact (h.tr k _ hk' h1).2 y hy
  · rw [h1 x hx] at ih; cases ih
theorem rdone_tr {N : Nt} {b : Bool} {p : Nat} {P T : List Bool} (h : RInv N b p P T) (hc : ClsTo N b P T N.tr.length) {i : Nat} {t : Tr} (ht : N.tr[i]? = some t) : T.getD i false = true ↔ ∃ x : Nat, (x : Int) ∈ insT b t ∧ Rch N b p x := by
 refine ⟨fun h1 => (h.tr i t ht h1).1, fun ⟨x, hx, hr⟩ => ?_⟩;have hi : i < N.tr.length := (List.getElem?_eq_some_iff.1 ht).1;rcases hc i hi t ht with h1 | h1
 · exact h1
 · have := (rdone_pl h hc x).2 hr; rw [h1 x hx] at this; cases this
def BxV (w : World) (b : Nat) (g n : Nat) : Prop := w.heap[b]? = some (.cells #[.slice (some ⟨g, 0, none⟩) n n] 97 (0, 0))
theorem BxV.below {w w' : World} {b g n : Nat} (h : BxV w b g n) (hb : Below w.heap.size w w') : BxV w' b g n := by
 unfold BxV; rw [hb.block b (Array.getElem?_eq_some_iff.1 h).1]; exact h
theorem BxV.cell {w : World} {b g n : Nat} (h : BxV w b g n) : w.cell? ⟨b, 0, none⟩ = some (.slice (some ⟨g, 0, none⟩) n n) := by
 have h' : w.heap[b]? = _ := h;simp [World.cell?, h']
theorem BxV.other {w : World} {b g n c o : Nat} (h : BxV w b g n) (hb : c ≠ b) (u : Value) : BxV (w.setCell ⟨c, o, none⟩ u) b g n := by
 unfold BxV;have hg : w.grownBy (w.setCell ⟨c, o, none⟩ u) (some c) := Lib.grownBy_setB (grown_refl w (some c)) o u;rw [hg.block b (Array.getElem?_eq_some_iff.1 h).1 (fun e => hb (by cases e; rfl))];exact h
def ReS (w : World) (tb gp m : Nat) (P : List Bool) : Prop := BxV w tb gp m ∧ BL w gp P ∧ P.length = m
theorem ReS.below {w w' : World} {tb gp m : Nat} {P : List Bool} (h : ReS w tb gp m P) (hb : Below w.heap.size w w') : ReS w' tb gp m P := ⟨h.1.below hb, h.2.1.below hb, h.2.2⟩
def prB (P : List Bool) (x : Int) : Bool := P.getD x.toNat false
def RePo (N : Nt) (b : Bool) (p n : Nat) (w : World) (e : Ending) (w' : World) : Prop := ∃ (gp gt : Nat) (P T : List Bool), e = .returned (.tuple #[.slice (some ⟨gp, 0, none⟩) N.pl.toNat N.pl.toNat, .slice (some ⟨gt, 0, none⟩) n n]) ∧ BL w' gp P ∧ BL w' gt T ∧ P.length = N.pl.toNat ∧ T.length = n ∧ RInv N b p P T ∧ ClsTo N b P T N.tr.length ∧ Below w.heap.size w w'
theorem three {w0 : World} (a b c : Obj) : ((((w0.alloc a).alloc b).alloc c).drew).heap[w0.heap.size]? = some a ∧ ((((w0.alloc a).alloc b).alloc c).drew).heap[w0.heap.size + 1]? = some b ∧ ((((w0.alloc a).alloc b).alloc c).drew).heap[w0.heap.size + 1 + 1]? = some c ∧ Below w0.heap.size w0 ((((w0.alloc a).alloc b).alloc c).drew) := by
 have s1 : (w0.alloc a).heap.size = w0.heap.size + 1 := by simp
 have s2 : ((w0.alloc a).alloc b).heap.size = w0.heap.size + 1 + 1 := by simp
 have B2 : Below (w0.heap.size + 1) (w0.alloc a) ((w0.alloc a).alloc b) := by have := below_alloc (w0.alloc a) b; rwa [s1] at this
 have B3 : Below (w0.heap.size + 1 + 1) ((w0.alloc a).alloc b) (((w0.alloc a).alloc b).alloc c) := by have := below_alloc ((w0.alloc a).alloc b) c; rwa [s2] at this
 have hd : ∀ W : World, W.drew.heap = W.heap := fun W => rfl
 refine ⟨?_, ?_, ?_, ?_⟩
 · rw [hd, B3.block _ (by omega), B2.block _ (by omega)]; exact heap_alloc_new w0 a
 · rw [hd, B3.block _ (by omega), ← s1]; exact heap_alloc_new _ b
 · rw [hd, ← s2]; exact heap_alloc_new _ c
 · exact (((below_alloc w0 a).alloc (by simp) b).alloc (by simp; omega) c).drew
theorem blm {W : World} {g n : Nat} (h : W.heap[g]? = some (.cells (madeCells #[.bool false] n) 4)) : BL W g (List.replicate n false) := by
 unfold BL; rw [← made_bools]; exact h
theorem pre1_any (x : Int) (tb gp m : Nat) (P : List Bool) (w : World) (h : ReS w tb gp m P) (h0 : 0 ≤ x) (h1 : x < (m : Int)) :
 Calls Tryz.prog 81 #[.int .i64 x, .pointer (some ⟨tb, 0, none⟩)] w fun e w' => e = .returned (.bool (prB P x)) ∧ Below w.heap.size w w' := by
 obtain ⟨k, rfl⟩ := Int.eq_ofNat_of_zero_le h0;have hk : k < P.length := by have := h.2.2; omega
 have t0 := h.1.cell;have c0 := h.2.1.cell hk;have HV := hid (show prB P (k : Int) = P[k] by unfold prB; rw [Int.toNat_natCast]; simp [hk]);have hkm : k < m := by omega
 generalize P[k] = q at *;clear h hk;go_enter Tryz.func81, Tryz.ntmps81;go_wp2_with fail;go_ret;exact ⟨ret_bool HV.out.symm, Below.refl _ _⟩
theorem iindex_re (A : Option Addr) (n cap : Nat) (L : List Int) (w : World) (h : ZIn w A L) (hn : L.length = n) (hn4 : n ≤ 9223372036854775807) (tb gp m : Nat) (P : List Bool) (hS : ReS w tb gp m P ∧ inM L m) :
 Calls Tryz.prog 84 #[.slice A n cap, .func (.func 81) #[] #[.pointer (some ⟨tb, 0, none⟩)]] w (BIdx (!(L.any (prB P))) w) := by
 have H0 := hid h; clear h;have HN := hid hn; clear hn;have HSt := hid hS; clear hS;go_enter Tryz.func84, Tryz.ntmps84;go_wp2_with fail;go_loopg [8] (n) (fun g i wr => ∃ k : Nat, k + g = n ∧ i = .int .i64 k ∧ (L.take k).any (prB P) = false ∧ Below w.heap.size w wr);case atStart => exact ⟨0, by omega, rfl, by simp, Below.refl _ _⟩
 case round =>
  obtain ⟨k, hk, rfl, hno, hB⟩ := hrel;have HK := hid hk;have HNo := hid hno;have HB := hid hB;have HT := hid (H0.out.below hB);have hle : k ≤ n := by omega
  clear hk hno hB;by_cases hlt : k < n
  · have hlt' : k < L.length := by rw [HN.out]; exact hlt
    obtain ⟨ad, rfl, hp, c0⟩ := HT.out k hlt';have HTk := hid (List.take_succ_eq_append_getElem hlt');have HM := hid (List.getElem_mem hlt');generalize L[k] = x at *;clear hlt';have HX := hid (pre1_any x tb gp m P wr (HSt.out.1.below HB.out) (HSt.out.2 x HM.out).1 (HSt.out.2 x HM.out).2);cases hv : (prB P) x with
    | true =>
     rw [hv] at HX;have HV := hid hv; clear hv;go_wp2_with fail;((with_reducible refine HX.out.mono ?_); rintro e w1 ⟨rfl, hb1⟩)
     go_wp2_with fail;go_ret;refine BIdx.yes ?_ rfl (below_then HB.out hb1);rw [List.any_eq_true.2 ⟨x, HM.out, HV.out⟩]; rfl
    | false =>
     rw [hv] at HX;have HV := hid hv; clear hv;go_wp2_with fail;((with_reducible refine HX.out.mono ?_); rintro e w1 ⟨rfl, hb1⟩)
     have HB1 := hid (below_then HB.out hb1);clear hb1;go_wp2_with fail;go_roundg (gk - 1);case measure => have := HK.out; omega
     case rel => exact ⟨k + 1, by have := HK.out; omega, by go_num, by rw [HTk.out, List.any_append, HNo.out]; simp [HV.out], HB1.out⟩
  · have HE := hid (show L.take k = L from List.take_of_length_le (by have := HN.out; omega));go_wp2_with fail;go_ret;refine BIdx.no ?_ rfl HB.out;rw [← HE.out, HNo.out]; rfl
theorem icont_re (A : Option Addr) (n cap : Nat) (L : List Int) (w : World) (h : ZIn w A L) (hn : L.length = n) (hn4 : n ≤ 9223372036854775807) (tb gp m : Nat) (P : List Bool) (hS : ReS w tb gp m P ∧ inM L m) :
 Calls Tryz.prog 72 #[.slice A n cap, .func (.func 81) #[] #[.pointer (some ⟨tb, 0, none⟩)]] w fun e w' => e = .returned (.bool (L.any (prB P))) ∧ Below w.heap.size w w' := by
 have HI := hid (iindex_re A n cap L w h hn hn4 tb gp m P hS);clear h hn hS;generalize L.any (prB P) = r at HI ⊢;cases r with
 | false =>
  go_enter Tryz.func72, Tryz.ntmps72;go_wp2_with fail;((with_reducible refine HI.out.mono ?_); rintro e w1 hP)
  obtain ⟨he, hb⟩ := hP;have he' : e = .returned (.int .i64 (-1)) := he;clear he; subst he';go_wp2_with fail;go_ret;exact ⟨rfl, hb⟩
 | true =>
  go_enter Tryz.func72, Tryz.ntmps72;go_wp2_with fail;((with_reducible refine HI.out.mono ?_); rintro e w1 hP)
  obtain ⟨he, hb⟩ := hP;obtain ⟨i, he'⟩ : ∃ i : Nat, e = .returned (.int .i64 i) := he;subst he';go_wp2_with fail;go_ret;exact ⟨rfl, hb⟩
theorem preachF_any (N : Nt) (A : Option Addr) (n c : Nat) (p : Nat) (w : World) (h : NtIn w A N) (hn : N.tr.length = n) (hv : ntB N = true) (hp : p < N.pl.toNat) :
 Calls Tryz.prog 65 #[.agg #[.int .i64 N.pl, .slice A n c, .int .i64 N.src, .int .i64 N.snk], .int .i64 (p : Int), .bool false] w (RePo N false p n w) := by
 have HB0 := hid (below_alloc w (.cells #[.int .i64 N.pl, .slice A n c, .int .i64 N.src, .int .i64 N.snk] 30));have HNb0 := hid (NB.new w N.pl A n c N.src N.snk);have HIn0 := hid (h.below HB0.out);have HNl := hid hn;have HV := hid hv;have hps := nt_small hv;obtain ⟨pl, hpl⟩ := Int.eq_ofNat_of_zero_le (show 0 ≤ N.pl by omega);have HPl := hid hpl;rw [hpl] at hps HNb0 HB0 HIn0 ⊢;rw [hpl, Int.toNat_natCast] at hp;have HPt := hid (show N.pl.toNat = pl by rw [hpl]; rfl);have hn60 : n ≤ 60 := by omega
 have hpl40 : pl ≤ 40 := by omega
 have hmk1 := mk_bools pl (by omega);have hmk2 := mk_bools n (by omega);have hpl0 : (0 : Int) ≤ (pl : Int) := by omega
 have hn0 : (0 : Int) ≤ (n : Int) := by omega
 have hp0 : (0 : Int) ≤ (p : Int) := by omega
 have hp1 : (p : Int) < (pl : Int) := by omega
 clear h hn hv hps hpl;go_enter Tryz.func65, Tryz.ntmps65;go_wp2_with fail;generalize w.alloc _ = w0 at *;obtain ⟨b0, b1, b2, b3⟩ := HNb0.out.cells
 go_cut [8, 9] (fun s8 s9 wx => ∃ tb gp gt : Nat, s8 = .pointer (some ⟨tb, 0, none⟩) ∧ s9 = .slice (some ⟨gt, 0, none⟩) n n ∧ w0.heap.size ≤ tb ∧ w0.heap.size ≤ gp ∧ w0.heap.size ≤ gt ∧ tb ≠ gp ∧ tb ≠ gt ∧ gp ≠ gt ∧ BxV wx tb gp pl ∧ BL wx gp (List.replicate pl false) ∧ BL wx gt (List.replicate n false) ∧ Below w0.heap.size w0 wx)
 case first =>
  have hbl := HNb0.out.lt;have hbd : Below w0.heap.size w0 w0.drew := (Below.refl _ _).drew;have d0 : w0.drew.cell? ⟨w.heap.size, 0, none⟩ = some (.int .i64 (pl : Int)) := cell_stays hbd b0;have d1 : w0.drew.cell? ⟨w.heap.size, 1, none⟩ = some (.slice A n c) := cell_stays hbd b1;have hs : w0.drew.heap.size = w0.heap.size := by simp
  go_region_held3 (fun w' => w'.cell? ⟨w.heap.size, 0, none⟩ = some (.int .i64 (pl : Int)) ∧ w'.cell? ⟨w.heap.size, 1, none⟩ = some (.slice A n c))
   (first | exact ⟨by assumption, by assumption⟩ | exact ⟨cell_stays (by repeat (first | exact Below.refl _ _ | refine Below.drew ?_ | refine Below.setCell ?_ (by simp; try omega) _ | refine Below.alloc ?_ (by simp; try omega) _)) b0, cell_stays (by repeat (first | exact Below.refl _ _ | refine Below.drew ?_ | refine Below.setCell ?_ (by simp; try omega) _ | refine Below.alloc ?_ (by simp; try omega) _)) b1⟩)
   (fail)
  all_goals
   go_wp2_with fail;go_meet;first
    | exact ⟨w0.heap.size + 1 + 1, w0.heap.size, w0.heap.size + 1, rfl, rfl, by omega, by omega, by omega, by omega, by omega, by omega, (three _ _ _).2.2.1, blm (three _ _ _).1, blm (three _ _ _).2.1, (three _ _ _).2.2.2⟩
    | exact ⟨w0.heap.size + 1, w0.heap.size, w0.heap.size + 1 + 1, rfl, rfl, by omega, by omega, by omega, by omega, by omega, by omega, (three _ _ _).2.1, blm (three _ _ _).1, blm (three _ _ _).2.2.1, (three _ _ _).2.2.2⟩
    | exact ⟨w0.heap.size + 1 + 1, w0.heap.size + 1, w0.heap.size, rfl, rfl, by omega, by omega, by omega, by omega, by omega, by omega, (three _ _ _).2.2.1, blm (three _ _ _).2.1, blm (three _ _ _).1, (three _ _ _).2.2.2⟩
    | exact ⟨w0.heap.size, w0.heap.size + 1, w0.heap.size + 1 + 1, rfl, rfl, by omega, by omega, by omega, by omega, by omega, by omega, (three _ _ _).1, blm (three _ _ _).2.1, blm (three _ _ _).2.2.1, (three _ _ _).2.2.2⟩
    | exact ⟨w0.heap.size + 1, w0.heap.size + 1 + 1, w0.heap.size, rfl, rfl, by omega, by omega, by omega, by omega, by omega, by omega, (three _ _ _).2.1, blm (three _ _ _).2.2.1, blm (three _ _ _).1, (three _ _ _).2.2.2⟩
    | exact ⟨w0.heap.size, w0.heap.size + 1 + 1, w0.heap.size + 1, rfl, rfl, by omega, by omega, by omega, by omega, by omega, by omega, (three _ _ _).1, blm (three _ _ _).2.2.1, blm (three _ _ _).2.1, (three _ _ _).2.2.2⟩
 case rest =>
  clear b0 b1 b2 b3 hmk1 hmk2;obtain ⟨tb, gp, gt, rfl, rfl, hle1, hle2, hle3, hne1, hne2, hne3, hx1, hx2, hx3, hx4⟩ := hcut;have c0 := hx1.cell;have f0 := hx2.soft p;have e0 := hx2.cell (i := p) (by simpa using hp);rw [List.getElem_replicate] at e0;have HP1 := hid (hx2.set p true);have HT1 := hid (hx3.other (o := p) hne3 (.bool true));have HX1 := hid (hx1.other (o := p) (fun e => hne1 e.symm) (.bool true));have HB1 := hid (hx4.setCell (p := ⟨gp, p, none⟩) hle2 (.bool true));have HI1 := hid (RInv.zero N false p pl n hp);have HL1 := hid (show ((List.replicate pl false).set p true).length = pl by simp);have HL2 := hid (show (List.replicate n false).length = n by simp);have HC1 := hid (show (List.replicate n false).count false = n by simp);clear hx1 hx2 hx3 hx4
  go_upto_region 4 with (fail)
  clear c0 f0 e0;generalize (List.replicate pl false).set p true = P0 at *;generalize List.replicate n false = T0 at *;generalize wc.setCell ⟨gp, p, none⟩ (.bool true) = w1 at *;go_loopg [10] (n + 1) (fun g cv wr => ∃ (ch : Bool) (P1 T1 : List Bool), cv = .bool ch ∧ (ch = true → T1.count false + 1 ≤ g) ∧ P1.length = pl ∧ T1.length = n ∧ RInv N false p P1 T1 ∧ (ch = false → ClsTo N false P1 T1 N.tr.length) ∧ BL wr gp P1 ∧ BL wr gt T1 ∧ BxV wr tb gp pl ∧ Below w0.heap.size w0 wr);case atStart => exact ⟨true, P0, T0, rfl, fun _ => by have := HC1.out; omega, HL1.out, HL2.out, HI1.out, (fun h => absurd h (by simp)), HP1.out, HT1.out, HX1.out, HB1.out⟩
  case round =>
   clear HP1 HT1 HX1 HB1 HI1 HL1 HL2 HC1;obtain ⟨ch, P1, T1, rfl, hm, hl1, hl2, hi, hcl, hp1', ht1, hx1, hb1⟩ := hrel;obtain ⟨go1, rfl⟩ : ∃ go1, go1 = gk := ⟨_, rfl⟩;obtain ⟨w2, rfl⟩ : ∃ w2, w2 = wr := ⟨_, rfl⟩;have HP2 := hid hp1';have HT2 := hid ht1;have HX2 := hid hx1;have HB2 := hid hb1;have HI2 := hid hi;have HL2 := hid (And.intro hl1 hl2);have HM2 := hid hm;have HC2 := hid hcl;clear hp1' ht1 hx1 hb1 hi hl1 hl2 hm hcl;cases ch with
   | false =>
    have c0 := HX2.out.cell;go_wp2_with fail;go_ret2;exact ⟨gp, gt, P1, T1, by rw [HPt.out]; rfl, HP2.out, HT2.out, by rw [HPt.out]; exact HL2.out.1, HL2.out.2, HI2.out, HC2.out trivial, HB0.out.trans (HB2.out.mono HB0.out.size)⟩
   | true =>
    have HM3 := hid (HM2.out rfl);obtain ⟨b0, b1, b2, b3⟩ := (HNb0.out.below HB2.out).cells;clear HM2 HC2;go_wp2_with fail;clear b0 b1 b2 b3;go_loopg [31, 10] (n) (fun g iv cv wr => ∃ (j : Nat) (ch : Bool) (P1 T1 : List Bool), j + g = n ∧ iv = .int .i64 (j : Int) ∧ cv = .bool ch ∧ T1.count false + 1 ≤ go1 ∧ (ch = true → T1.count false + 2 ≤ go1) ∧ P1.length = pl ∧ T1.length = n ∧ RInv N false p P1 T1 ∧ (ch = false → ClsTo N false P1 T1 j) ∧ BL wr gp P1 ∧ BL wr gt T1 ∧ BxV wr tb gp pl ∧ Below w0.heap.size w0 wr);case atStart => exact ⟨0, false, P1, T1, by omega, rfl, rfl, HM3.out, (fun h => absurd h (by simp)), HL2.out.1, HL2.out.2, HI2.out, fun _ i hi => by omega, HP2.out, HT2.out, HX2.out, HB2.out⟩
    case round =>
     clear HP2 HT2 HX2 HB2 HI2 HL2 HM3;clear P1 T1;obtain ⟨j, ch, P1, T1, hj, rfl, rfl, hm1, hm2, hl1, hl2, hi, hcl, hp1', ht1, hx1, hb1⟩ := hrel;obtain ⟨w3, rfl⟩ : ∃ w3, w3 = wr := ⟨_, rfl⟩;obtain ⟨go3, rfl⟩ : ∃ go3, go3 = gk := ⟨_, rfl⟩;have HJ := hid hj;have HP3 := hid hp1';have HT3 := hid ht1;have HX3 := hid hx1;have HB3 := hid hb1;have HI3 := hid hi;have HL3 := hid (And.intro hl1 hl2);have HM3 := hid (And.intro hm1 hm2);have HC3 := hid hcl;have hjn : j ≤ n := by omega
     clear hj hp1' ht1 hx1 hb1 hi hl1 hl2 hm1 hm2 hcl;by_cases hlj : j < n
     · have hjt : j < N.tr.length := by rw [HNl.out]; exact hlj
       have hjT : j < T1.length := by rw [HL3.out.2]; exact hlj
       obtain ⟨ad, rfl, hpt, t0', ⟨u1, t1', s1⟩, u2, t2', s2⟩ := HIn0.out.1 j hjt;have t0 := cell_stays HB3.out t0';have t1 := cell_stays HB3.out t1';have t2 := cell_stays HB3.out t2';clear t0' t1' t2';have HTg := hid (List.getElem?_eq_getElem hjt);have HTm := hid (List.getElem_mem hjt);have HInK := hid (nt_inM HV.out HPl.out.symm _ (List.getElem_mem hjt));have HTr := hid (trOk_mem (netOk_of HV.out HPl.out.symm) (List.getElem_mem hjt));generalize N.tr[j] = T at *;obtain ⟨Ai, nti, ci, rfl, zi, hti1, hti2, hti3⟩ := s1;obtain ⟨Ao, nto, co, rfl, zo, hto1, hto2, hto3⟩ := s2;have hli : T.i.length ≤ 40 := by have := (pls_len HTr.out.1); omega
       have hlo : T.o.length ≤ 40 := by have := (pls_len HTr.out.2); omega
       have hti4 : nti ≤ 40 := by omega
       have hto4 : nto ≤ 40 := by omega
       have Hzi := hid zi;have Hzo := hid zo;have HTi := hid hti1;have HTo := hid hto1;have c1 := HT3.out.cell hjT;have hTj : T1.getD j false = T1[j] := by simp [hjT]
       have HTj := hid hTj;have HCn := hid (fun hf => cnt_set (T := T1) hjT hf);have HjT := hid hjT;have HA4 := hid (below_alloc w3 (.cells #[.string T.lb, .slice Ai nti ci, .slice Ao nto co] 42));have HTB4 := hid (TB.new w3 T.lb Ai nti ci Ao nto co);have c1' : (w3.alloc (.cells #[.string T.lb, .slice Ai nti ci, .slice Ao nto co] 42)).cell? ⟨gt, j, none⟩ = some (.bool T1[j]) := cell_stays HA4.out c1;have hgl := HT3.out.lt;clear zi zo hti1 hto1 hTj hjt
       go_upto_region 9 with (fail)
       clear t0 t1 t2 c1;have HP4 := hid (HP3.out.below HA4.out);have HT4 := hid (HT3.out.below HA4.out);have HX4 := hid (HX3.out.below HA4.out);have HB4 := hid (HB3.out.trans (HA4.out.mono HB3.out.size));clear HP3 HT3 HX3 HB3 HA4;obtain ⟨xb, hxb⟩ : ∃ xb, w3.heap.size = xb := ⟨_, rfl⟩;rw [hxb] at HTB4;simp only [hxb];clear hxb;generalize w3.alloc _ = w4 at *;generalize hfj : T1[j] = fj at *;obtain ⟨t0, t1, t2⟩ := HTB4.out;go_quiet (fail);clear t0 t1 t2;have hbd := below_drewN w4 nq;have c1 := cell_stays hbd c1';have HP5 := hid (HP4.out.below hbd);have HT5 := hid (HT4.out.below hbd);have HX5 := hid (HX4.out.below hbd);have HB5 := hid (below_then HB4.out hbd);clear HP4 HT4 HX4 HB4 hbd c1' HTB4;generalize w4.drewN nq = w5 at *;cases fj with
       | true =>
        have HC6 := hid (fun (hh : ch = false) => cls_step (HC3.out hh) HTg.out (Or.inl HTj.out));clear hfj HTj HCn;go_wp2_with fail;go_roundg (go3 - 1);case measure => have := HJ.out; omega
        case rel => exact ⟨j + 1, ch, P1, T1, by have := HJ.out; omega, by go_num, rfl, HM3.out.1, HM3.out.2, HL3.out.1, HL3.out.2, HI3.out, HC6.out, HP5.out, HT5.out, HX5.out, HB5.out⟩
       | false =>
        have HCt := hid (icont_re Ai nti ci T.i w5 (Hzi.out.below HB5.out) HTi.out (by omega) tb gp pl P1 ⟨⟨HX5.out, HP5.out, HL3.out.1⟩, HInK.out.1⟩);have HNx := hid (HCn.out rfl);cases hany : (T.i).any (prB P1) with
        | false =>
         have HC6 := hid (fun (hh : ch = false) => cls_step (HC3.out hh) HTg.out (Or.inr (fun x hx => by
          have := List.any_eq_false.1 hany (x : Int) hx;unfold prB at this;rw [Int.toNat_natCast] at this;simpa using this)))
         rw [hany] at HCt;clear hany hfj HTj HCn HNx;go_wp2_with fail;((with_reducible refine HCt.out.mono ?_); rintro e w6 ⟨rfl, hb6⟩)
         have HP6 := hid (HP5.out.below hb6);have HT6 := hid (HT5.out.below hb6);have HX6 := hid (HX5.out.below hb6);have HB6 := hid (below_then HB5.out hb6);clear hb6 c1 HP5 HT5 HX5 HB5 HCt;go_wp2_with fail;go_roundg (go3 - 1);case measure => have := HJ.out; omega
         case rel => exact ⟨j + 1, ch, P1, T1, by have := HJ.out; omega, by go_num, rfl, HM3.out.1, HM3.out.2, HL3.out.1, HL3.out.2, HI3.out, HC6.out, HP6.out, HT6.out, HX6.out, HB6.out⟩
        | true =>
         have HAn := hid (show ∃ x : Nat, (x : Int) ∈ insT false T ∧ P1.getD x false = true by
          obtain ⟨x, hx, h1⟩ := List.any_eq_true.1 hany;obtain ⟨y, rfl⟩ := Int.eq_ofNat_of_zero_le (HInK.out.1 x hx).1;unfold prB at h1;rw [Int.toNat_natCast] at h1;exact ⟨y, hx, h1⟩)
         rw [hany] at HCt;clear hany hfj HTj HCn;go_wp2_with fail;((with_reducible refine HCt.out.mono ?_); rintro e w6 ⟨rfl, hb6⟩)
         have HP6 := hid (HP5.out.below hb6);have HT6 := hid (HT5.out.below hb6);have HX6 := hid (HX5.out.below hb6);have HB6 := hid (below_then HB5.out hb6);have c2 := cell_stays hb6 c1;clear hb6 c1 HP5 HT5 HX5 HB5 HCt;have f0 := HT6.out.soft j;have HT7 := hid (HT6.out.set j true);have HP7 := hid (HP6.out.other (o := j) (fun e => hne3 e.symm) (.bool true));have HX7 := hid (HX6.out.other (o := j) (fun e => hne2 e.symm) (.bool true));have HB7 := hid (HB6.out.setCell (p := ⟨gt, j, none⟩) hle3 (.bool true))
         go_upto_region 15 with (fail)
         clear c2 f0 HP6 HT6 HX6 HB6;generalize w6.setCell ⟨gt, j, none⟩ (.bool true) = w7 at *;have HLT := hid (show (T1.set j true).length = n by rw [List.length_set]; exact HL3.out.2);go_loopg [58] (nto) (fun g qv wr => ∃ (q : Nat) (P2 : List Bool), q + g = nto ∧ qv = .int .i64 (q : Int) ∧ P2.length = pl ∧ (∀ x, P1.getD x false = true → P2.getD x false = true) ∧ (∀ x, P2.getD x false = true → Rch N false p x) ∧ (∀ y : Nat, (y : Int) ∈ (T.o).take q → P2.getD y false = true) ∧ BL wr gp P2 ∧ BL wr gt (T1.set j true) ∧ BxV wr tb gp pl ∧ Below w0.heap.size w0 wr);case atStart => exact ⟨0, P1, by omega, rfl, HL3.out.1, fun _ h => h, HI3.out.so, fun y hy => by simp at hy, HP7.out, HT7.out, HX7.out, HB7.out⟩
         case round =>
          clear HP7 HT7 HX7 HB7;obtain ⟨q, P2, hq, rfl, hl3, hmo, hso, hou, hp2, ht2, hx2, hb2⟩ := hrel;obtain ⟨w8, rfl⟩ : ∃ w8, w8 = wr := ⟨_, rfl⟩;have HQ := hid hq;have HP8 := hid hp2;have HT8 := hid ht2;have HX8 := hid hx2;have HB8 := hid hb2;have HL8 := hid hl3;have HMo := hid hmo;have HSo := hid hso;have HOu := hid hou;have hqn : q ≤ nto := by omega
          clear hq hp2 ht2 hx2 hb2 hl3 hmo hso hou;by_cases hlq : q < nto
          · have hqt : q < (T.o).length := by have := HTo.out; omega
            obtain ⟨ao, rfl, _, z0⟩ := (Hzo.out.below HB8.out) q hqt;have HTk := hid (List.take_succ_eq_append_getElem hqt);have HMm := hid (List.getElem_mem hqt);have hrg := HInK.out.2 _ (List.getElem_mem hqt);generalize (T.o)[q] = xq at *;obtain ⟨x, rfl⟩ := Int.eq_ofNat_of_zero_le hrg.1;have hx : x < pl := by omega
            have hx0 : (0 : Int) ≤ (x : Int) := by omega
            have hx1 : (x : Int) < (pl : Int) := by omega
            have hxP : x < P2.length := by rw [HL8.out]; exact hx
            have c3 := HP8.out.cell hxP;have f3 := HP8.out.soft x;have t8 := HX8.out.cell;have HP9 := hid (HP8.out.set x true);have HT9 := hid (HT8.out.other (o := x) hne3 (.bool true));have HX9 := hid (HX8.out.other (o := x) (fun e => hne1 e.symm) (.bool true));have HB9 := hid (HB8.out.setCell (p := ⟨gp, x, none⟩) hle2 (.bool true));have HSt := hid (fun z => setD P2 x z hxP);generalize P2[x] = px at *;clear hqt hrg hxP
            go_upto_region 18 with (fail)
            clear c3 f3 t8 z0 HP8 HT8 HX8 HB8;generalize w8.setCell ⟨gp, x, none⟩ (.bool true) = w9 at *;go_wp2_with fail;go_roundg (gk - 1);case measure => have := HQ.out; omega
            case rel =>
             refine ⟨q + 1, P2.set x true, by have := HQ.out; omega, by go_num, by rw [List.length_set]; exact HL8.out, fun z hz => ?_, fun z hz => ?_, fun y hy => ?_, HP9.out, HT9.out, HX9.out, HB9.out⟩
             · rw [HSt.out, HMo.out z hz]; simp
             · rw [HSt.out] at hz;rw [Bool.or_eq_true] at hz;rcases hz with h1 | h1
               · obtain ⟨y, hy, hy2⟩ := HAn.out;rw [← of_decide_eq_true h1];exact .step T y x HTm.out hy (HI3.out.so y hy2) HMm.out
               · exact HSo.out z h1
             · rw [HSt.out];rw [HTk.out] at hy;rcases List.mem_append.1 hy with h1 | h1
               · rw [HOu.out y h1]; simp
               · simp at h1;have : y = x := by omega
                 subst this; simp
          · have HE := hid (show (T.o).take q = T.o from List.take_of_length_le (by have := HTo.out; omega));have HI9 := hid (HI3.out.grow HjT.out HTg.out HAn.out HMo.out HSo.out (by have := HOu.out; rw [HE.out] at this; exact this));go_wp2_with fail;go_roundg (go3 - 1);case measure => have := HJ.out; omega
            case rel => exact ⟨j + 1, true, P2, T1.set j true, by have := HJ.out; omega, by go_num, rfl, by have := HNx.out; have := HM3.out.1; omega, fun _ => by have := HNx.out; have := HM3.out.1; omega, HL8.out, HLT.out, HI9.out, (fun h => absurd h (by simp)), HP8.out, HT8.out, HX8.out, HB8.out⟩
     · have HC6 := hid (fun (hh : ch = false) => show ClsTo N false P1 T1 N.tr.length by rw [show N.tr.length = j by rw [HNl.out]; omega]; exact HC3.out hh);go_wp2_with fail;go_roundg (go1 - 1);case measure => have := HM3.out.1; omega
       case rel => exact ⟨ch, P1, T1, rfl, fun hh => by have := HM3.out.2 hh; omega, HL3.out.1, HL3.out.2, HI3.out, HC6.out, HP3.out, HT3.out, HX3.out, HB3.out⟩
theorem preachT_any (N : Nt) (A : Option Addr) (n c : Nat) (p : Nat) (w : World) (h : NtIn w A N) (hn : N.tr.length = n) (hv : ntB N = true) (hp : p < N.pl.toNat) :
 Calls Tryz.prog 65 #[.agg #[.int .i64 N.pl, .slice A n c, .int .i64 N.src, .int .i64 N.snk], .int .i64 (p : Int), .bool true] w (RePo N true p n w) := by
 have HB0 := hid (below_alloc w (.cells #[.int .i64 N.pl, .slice A n c, .int .i64 N.src, .int .i64 N.snk] 30));have HNb0 := hid (NB.new w N.pl A n c N.src N.snk);have HIn0 := hid (h.below HB0.out);have HNl := hid hn;have HV := hid hv;have hps := nt_small hv;obtain ⟨pl, hpl⟩ := Int.eq_ofNat_of_zero_le (show 0 ≤ N.pl by omega);have HPl := hid hpl;rw [hpl] at hps HNb0 HB0 HIn0 ⊢;rw [hpl, Int.toNat_natCast] at hp;have HPt := hid (show N.pl.toNat = pl by rw [hpl]; rfl);have hn60 : n ≤ 60 := by omega
 have hpl40 : pl ≤ 40 := by omega
 have hmk1 := mk_bools pl (by omega);have hmk2 := mk_bools n (by omega);have hpl0 : (0 : Int) ≤ (pl : Int) := by omega
 have hn0 : (0 : Int) ≤ (n : Int) := by omega
 have hp0 : (0 : Int) ≤ (p : Int) := by omega
 have hp1 : (p : Int) < (pl : Int) := by omega
 clear h hn hv hps hpl;go_enter Tryz.func65, Tryz.ntmps65;go_wp2_with fail;generalize w.alloc _ = w0 at *;obtain ⟨b0, b1, b2, b3⟩ := HNb0.out.cells
 go_cut [8, 9] (fun s8 s9 wx => ∃ tb gp gt : Nat, s8 = .pointer (some ⟨tb, 0, none⟩) ∧ s9 = .slice (some ⟨gt, 0, none⟩) n n ∧ w0.heap.size ≤ tb ∧ w0.heap.size ≤ gp ∧ w0.heap.size ≤ gt ∧ tb ≠ gp ∧ tb ≠ gt ∧ gp ≠ gt ∧ BxV wx tb gp pl ∧ BL wx gp (List.replicate pl false) ∧ BL wx gt (List.replicate n false) ∧ Below w0.heap.size w0 wx)
 case first =>
  have hbl := HNb0.out.lt;have hbd : Below w0.heap.size w0 w0.drew := (Below.refl _ _).drew;have d0 : w0.drew.cell? ⟨w.heap.size, 0, none⟩ = some (.int .i64 (pl : Int)) := cell_stays hbd b0;have d1 : w0.drew.cell? ⟨w.heap.size, 1, none⟩ = some (.slice A n c) := cell_stays hbd b1;have hs : w0.drew.heap.size = w0.heap.size := by simp
  go_region_held3 (fun w' => w'.cell? ⟨w.heap.size, 0, none⟩ = some (.int .i64 (pl : Int)) ∧ w'.cell? ⟨w.heap.size, 1, none⟩ = some (.slice A n c))
   (first | exact ⟨by assumption, by assumption⟩ | exact ⟨cell_stays (by repeat (first | exact Below.refl _ _ | refine Below.drew ?_ | refine Below.setCell ?_ (by simp; try omega) _ | refine Below.alloc ?_ (by simp; try omega) _)) b0, cell_stays (by repeat (first | exact Below.refl _ _ | refine Below.drew ?_ | refine Below.setCell ?_ (by simp; try omega) _ | refine Below.alloc ?_ (by simp; try omega) _)) b1⟩)
   (fail)
  all_goals
   go_wp2_with fail;go_meet;first
    | exact ⟨w0.heap.size + 1 + 1, w0.heap.size, w0.heap.size + 1, rfl, rfl, by omega, by omega, by omega, by omega, by omega, by omega, (three _ _ _).2.2.1, blm (three _ _ _).1, blm (three _ _ _).2.1, (three _ _ _).2.2.2⟩
    | exact ⟨w0.heap.size + 1, w0.heap.size, w0.heap.size + 1 + 1, rfl, rfl, by omega, by omega, by omega, by omega, by omega, by omega, (three _ _ _).2.1, blm (three _ _ _).1, blm (three _ _ _).2.2.1, (three _ _ _).2.2.2⟩
    | exact ⟨w0.heap.size + 1 + 1, w0.heap.size + 1, w0.heap.size, rfl, rfl, by omega, by omega, by omega, by omega, by omega, by omega, (three _ _ _).2.2.1, blm (three _ _ _).2.1, blm (three _ _ _).1, (three _ _ _).2.2.2⟩
    | exact ⟨w0.heap.size, w0.heap.size + 1, w0.heap.size + 1 + 1, rfl, rfl, by omega, by omega, by omega, by omega, by omega, by omega, (three _ _ _).1, blm (three _ _ _).2.1, blm (three _ _ _).2.2.1, (three _ _ _).2.2.2⟩
    | exact ⟨w0.heap.size + 1, w0.heap.size + 1 + 1, w0.heap.size, rfl, rfl, by omega, by omega, by omega, by omega, by omega, by omega, (three _ _ _).2.1, blm (three _ _ _).2.2.1, blm (three _ _ _).1, (three _ _ _).2.2.2⟩
    | exact ⟨w0.heap.size, w0.heap.size + 1 + 1, w0.heap.size + 1, rfl, rfl, by omega, by omega, by omega, by omega, by omega, by omega, (three _ _ _).1, blm (three _ _ _).2.2.1, blm (three _ _ _).2.1, (three _ _ _).2.2.2⟩
 case rest =>
  clear b0 b1 b2 b3 hmk1 hmk2;obtain ⟨tb, gp, gt, rfl, rfl, hle1, hle2, hle3, hne1, hne2, hne3, hx1, hx2, hx3, hx4⟩ := hcut;have c0 := hx1.cell;have f0 := hx2.soft p;have e0 := hx2.cell (i := p) (by simpa using hp);rw [List.getElem_replicate] at e0;have HP1 := hid (hx2.set p true);have HT1 := hid (hx3.other (o := p) hne3 (.bool true));have HX1 := hid (hx1.other (o := p) (fun e => hne1 e.symm) (.bool true));have HB1 := hid (hx4.setCell (p := ⟨gp, p, none⟩) hle2 (.bool true));have HI1 := hid (RInv.zero N true p pl n hp);have HL1 := hid (show ((List.replicate pl false).set p true).length = pl by simp);have HL2 := hid (show (List.replicate n false).length = n by simp);have HC1 := hid (show (List.replicate n false).count false = n by simp);clear hx1 hx2 hx3 hx4
  go_upto_region 4 with (fail)
  clear c0 f0 e0;generalize (List.replicate pl false).set p true = P0 at *;generalize List.replicate n false = T0 at *;generalize wc.setCell ⟨gp, p, none⟩ (.bool true) = w1 at *;go_loopg [10] (n + 1) (fun g cv wr => ∃ (ch : Bool) (P1 T1 : List Bool), cv = .bool ch ∧ (ch = true → T1.count false + 1 ≤ g) ∧ P1.length = pl ∧ T1.length = n ∧ RInv N true p P1 T1 ∧ (ch = false → ClsTo N true P1 T1 N.tr.length) ∧ BL wr gp P1 ∧ BL wr gt T1 ∧ BxV wr tb gp pl ∧ Below w0.heap.size w0 wr);case atStart => exact ⟨true, P0, T0, rfl, fun _ => by have := HC1.out; omega, HL1.out, HL2.out, HI1.out, (fun h => absurd h (by simp)), HP1.out, HT1.out, HX1.out, HB1.out⟩
  case round =>
   clear HP1 HT1 HX1 HB1 HI1 HL1 HL2 HC1;obtain ⟨ch, P1, T1, rfl, hm, hl1, hl2, hi, hcl, hp1', ht1, hx1, hb1⟩ := hrel;obtain ⟨go1, rfl⟩ : ∃ go1, go1 = gk := ⟨_, rfl⟩;obtain ⟨w2, rfl⟩ : ∃ w2, w2 = wr := ⟨_, rfl⟩;have HP2 := hid hp1';have HT2 := hid ht1;have HX2 := hid hx1;have HB2 := hid hb1;have HI2 := hid hi;have HL2 := hid (And.intro hl1 hl2);have HM2 := hid hm;have HC2 := hid hcl;clear hp1' ht1 hx1 hb1 hi hl1 hl2 hm hcl;cases ch with
   | false =>
    have c0 := HX2.out.cell;go_wp2_with fail;go_ret2;exact ⟨gp, gt, P1, T1, by rw [HPt.out]; rfl, HP2.out, HT2.out, by rw [HPt.out]; exact HL2.out.1, HL2.out.2, HI2.out, HC2.out trivial, HB0.out.trans (HB2.out.mono HB0.out.size)⟩
   | true =>
    have HM3 := hid (HM2.out rfl);obtain ⟨b0, b1, b2, b3⟩ := (HNb0.out.below HB2.out).cells;clear HM2 HC2;go_wp2_with fail;clear b0 b1 b2 b3;go_loopg [31, 10] (n) (fun g iv cv wr => ∃ (j : Nat) (ch : Bool) (P1 T1 : List Bool), j + g = n ∧ iv = .int .i64 (j : Int) ∧ cv = .bool ch ∧ T1.count false + 1 ≤ go1 ∧ (ch = true → T1.count false + 2 ≤ go1) ∧ P1.length = pl ∧ T1.length = n ∧ RInv N true p P1 T1 ∧ (ch = false → ClsTo N true P1 T1 j) ∧ BL wr gp P1 ∧ BL wr gt T1 ∧ BxV wr tb gp pl ∧ Below w0.heap.size w0 wr);case atStart => exact ⟨0, false, P1, T1, by omega, rfl, rfl, HM3.out, (fun h => absurd h (by simp)), HL2.out.1, HL2.out.2, HI2.out, fun _ i hi => by omega, HP2.out, HT2.out, HX2.out, HB2.out⟩
    case round =>
     clear HP2 HT2 HX2 HB2 HI2 HL2 HM3;clear P1 T1;obtain ⟨j, ch, P1, T1, hj, rfl, rfl, hm1, hm2, hl1, hl2, hi, hcl, hp1', ht1, hx1, hb1⟩ := hrel;obtain ⟨w3, rfl⟩ : ∃ w3, w3 = wr := ⟨_, rfl⟩;obtain ⟨go3, rfl⟩ : ∃ go3, go3 = gk := ⟨_, rfl⟩;have HJ := hid hj;have HP3 := hid hp1';have HT3 := hid ht1;have HX3 := hid hx1;have HB3 := hid hb1;have HI3 := hid hi;have HL3 := hid (And.intro hl1 hl2);have HM3 := hid (And.intro hm1 hm2);have HC3 := hid hcl;have hjn : j ≤ n := by omega
     clear hj hp1' ht1 hx1 hb1 hi hl1 hl2 hm1 hm2 hcl;by_cases hlj : j < n
     · have hjt : j < N.tr.length := by rw [HNl.out]; exact hlj
       have hjT : j < T1.length := by rw [HL3.out.2]; exact hlj
       obtain ⟨ad, rfl, hpt, t0', ⟨u1, t1', s1⟩, u2, t2', s2⟩ := HIn0.out.1 j hjt;have t0 := cell_stays HB3.out t0';have t1 := cell_stays HB3.out t1';have t2 := cell_stays HB3.out t2';clear t0' t1' t2';have HTg := hid (List.getElem?_eq_getElem hjt);have HTm := hid (List.getElem_mem hjt);have HInK := hid (nt_inM HV.out HPl.out.symm _ (List.getElem_mem hjt));have HTr := hid (trOk_mem (netOk_of HV.out HPl.out.symm) (List.getElem_mem hjt));generalize N.tr[j] = T at *;obtain ⟨Ai, nti, ci, rfl, zi, hti1, hti2, hti3⟩ := s1;obtain ⟨Ao, nto, co, rfl, zo, hto1, hto2, hto3⟩ := s2;have hli : T.i.length ≤ 40 := by have := (pls_len HTr.out.1); omega
       have hlo : T.o.length ≤ 40 := by have := (pls_len HTr.out.2); omega
       have hti4 : nti ≤ 40 := by omega
       have hto4 : nto ≤ 40 := by omega
       have Hzi := hid zi;have Hzo := hid zo;have HTi := hid hti1;have HTo := hid hto1;have c1 := HT3.out.cell hjT;have hTj : T1.getD j false = T1[j] := by simp [hjT]
       have HTj := hid hTj;have HCn := hid (fun hf => cnt_set (T := T1) hjT hf);have HjT := hid hjT;have HA4 := hid (below_alloc w3 (.cells #[.string T.lb, .slice Ai nti ci, .slice Ao nto co] 42));have HTB4 := hid (TB.new w3 T.lb Ai nti ci Ao nto co);have c1' : (w3.alloc (.cells #[.string T.lb, .slice Ai nti ci, .slice Ao nto co] 42)).cell? ⟨gt, j, none⟩ = some (.bool T1[j]) := cell_stays HA4.out c1;have hgl := HT3.out.lt;clear zi zo hti1 hto1 hTj hjt
       go_upto_region 9 with (fail)
       clear t0 t1 t2 c1;have HP4 := hid (HP3.out.below HA4.out);have HT4 := hid (HT3.out.below HA4.out);have HX4 := hid (HX3.out.below HA4.out);have HB4 := hid (HB3.out.trans (HA4.out.mono HB3.out.size));clear HP3 HT3 HX3 HB3 HA4;obtain ⟨xb, hxb⟩ : ∃ xb, w3.heap.size = xb := ⟨_, rfl⟩;rw [hxb] at HTB4;simp only [hxb];clear hxb;generalize w3.alloc _ = w4 at *;generalize hfj : T1[j] = fj at *;obtain ⟨t0, t1, t2⟩ := HTB4.out;go_quiet (fail);clear t0 t1 t2;have hbd := below_drewN w4 nq;have c1 := cell_stays hbd c1';have HP5 := hid (HP4.out.below hbd);have HT5 := hid (HT4.out.below hbd);have HX5 := hid (HX4.out.below hbd);have HB5 := hid (below_then HB4.out hbd);clear HP4 HT4 HX4 HB4 hbd c1' HTB4;generalize w4.drewN nq = w5 at *;cases fj with
       | true =>
        have HC6 := hid (fun (hh : ch = false) => cls_step (HC3.out hh) HTg.out (Or.inl HTj.out));clear hfj HTj HCn;go_wp2_with fail;go_roundg (go3 - 1);case measure => have := HJ.out; omega
        case rel => exact ⟨j + 1, ch, P1, T1, by have := HJ.out; omega, by go_num, rfl, HM3.out.1, HM3.out.2, HL3.out.1, HL3.out.2, HI3.out, HC6.out, HP5.out, HT5.out, HX5.out, HB5.out⟩
       | false =>
        have HCt := hid (icont_re Ao nto co T.o w5 (Hzo.out.below HB5.out) HTo.out (by omega) tb gp pl P1 ⟨⟨HX5.out, HP5.out, HL3.out.1⟩, HInK.out.2⟩);have HNx := hid (HCn.out rfl);cases hany : (T.o).any (prB P1) with
        | false =>
         have HC6 := hid (fun (hh : ch = false) => cls_step (HC3.out hh) HTg.out (Or.inr (fun x hx => by
          have := List.any_eq_false.1 hany (x : Int) hx;unfold prB at this;rw [Int.toNat_natCast] at this;simpa using this)))
         rw [hany] at HCt;clear hany hfj HTj HCn HNx;go_wp2_with fail;((with_reducible refine HCt.out.mono ?_); rintro e w6 ⟨rfl, hb6⟩)
         have HP6 := hid (HP5.out.below hb6);have HT6 := hid (HT5.out.below hb6);have HX6 := hid (HX5.out.below hb6);have HB6 := hid (below_then HB5.out hb6);clear hb6 c1 HP5 HT5 HX5 HB5 HCt;go_wp2_with fail;go_roundg (go3 - 1);case measure => have := HJ.out; omega
         case rel => exact ⟨j + 1, ch, P1, T1, by have := HJ.out; omega, by go_num, rfl, HM3.out.1, HM3.out.2, HL3.out.1, HL3.out.2, HI3.out, HC6.out, HP6.out, HT6.out, HX6.out, HB6.out⟩
        | true =>
         have HAn := hid (show ∃ x : Nat, (x : Int) ∈ insT true T ∧ P1.getD x false = true by
          obtain ⟨x, hx, h1⟩ := List.any_eq_true.1 hany;obtain ⟨y, rfl⟩ := Int.eq_ofNat_of_zero_le (HInK.out.2 x hx).1;unfold prB at h1;rw [Int.toNat_natCast] at h1;exact ⟨y, hx, h1⟩)
         rw [hany] at HCt;clear hany hfj HTj HCn;go_wp2_with fail;((with_reducible refine HCt.out.mono ?_); rintro e w6 ⟨rfl, hb6⟩)
         have HP6 := hid (HP5.out.below hb6);have HT6 := hid (HT5.out.below hb6);have HX6 := hid (HX5.out.below hb6);have HB6 := hid (below_then HB5.out hb6);have c2 := cell_stays hb6 c1;clear hb6 c1 HP5 HT5 HX5 HB5 HCt;have f0 := HT6.out.soft j;have HT7 := hid (HT6.out.set j true);have HP7 := hid (HP6.out.other (o := j) (fun e => hne3 e.symm) (.bool true));have HX7 := hid (HX6.out.other (o := j) (fun e => hne2 e.symm) (.bool true));have HB7 := hid (HB6.out.setCell (p := ⟨gt, j, none⟩) hle3 (.bool true))
         go_upto_region 15 with (fail)
         clear c2 f0 HP6 HT6 HX6 HB6;generalize w6.setCell ⟨gt, j, none⟩ (.bool true) = w7 at *;have HLT := hid (show (T1.set j true).length = n by rw [List.length_set]; exact HL3.out.2);go_loopg [58] (nti) (fun g qv wr => ∃ (q : Nat) (P2 : List Bool), q + g = nti ∧ qv = .int .i64 (q : Int) ∧ P2.length = pl ∧ (∀ x, P1.getD x false = true → P2.getD x false = true) ∧ (∀ x, P2.getD x false = true → Rch N true p x) ∧ (∀ y : Nat, (y : Int) ∈ (T.i).take q → P2.getD y false = true) ∧ BL wr gp P2 ∧ BL wr gt (T1.set j true) ∧ BxV wr tb gp pl ∧ Below w0.heap.size w0 wr);case atStart => exact ⟨0, P1, by omega, rfl, HL3.out.1, fun _ h => h, HI3.out.so, fun y hy => by simp at hy, HP7.out, HT7.out, HX7.out, HB7.out⟩
         case round =>
          clear HP7 HT7 HX7 HB7;obtain ⟨q, P2, hq, rfl, hl3, hmo, hso, hou, hp2, ht2, hx2, hb2⟩ := hrel;obtain ⟨w8, rfl⟩ : ∃ w8, w8 = wr := ⟨_, rfl⟩;have HQ := hid hq;have HP8 := hid hp2;have HT8 := hid ht2;have HX8 := hid hx2;have HB8 := hid hb2;have HL8 := hid hl3;have HMo := hid hmo;have HSo := hid hso;have HOu := hid hou;have hqn : q ≤ nti := by omega
          clear hq hp2 ht2 hx2 hb2 hl3 hmo hso hou;by_cases hlq : q < nti
          · have hqt : q < (T.i).length := by have := HTi.out; omega
            obtain ⟨ao, rfl, _, z0⟩ := (Hzi.out.below HB8.out) q hqt;have HTk := hid (List.take_succ_eq_append_getElem hqt);have HMm := hid (List.getElem_mem hqt);have hrg := HInK.out.1 _ (List.getElem_mem hqt);generalize (T.i)[q] = xq at *;obtain ⟨x, rfl⟩ := Int.eq_ofNat_of_zero_le hrg.1;have hx : x < pl := by omega
            have hx0 : (0 : Int) ≤ (x : Int) := by omega
            have hx1 : (x : Int) < (pl : Int) := by omega
            have hxP : x < P2.length := by rw [HL8.out]; exact hx
            have c3 := HP8.out.cell hxP;have f3 := HP8.out.soft x;have t8 := HX8.out.cell;have HP9 := hid (HP8.out.set x true);have HT9 := hid (HT8.out.other (o := x) hne3 (.bool true));have HX9 := hid (HX8.out.other (o := x) (fun e => hne1 e.symm) (.bool true));have HB9 := hid (HB8.out.setCell (p := ⟨gp, x, none⟩) hle2 (.bool true));have HSt := hid (fun z => setD P2 x z hxP);generalize P2[x] = px at *;clear hqt hrg hxP
            go_upto_region 18 with (fail)
            clear c3 f3 t8 z0 HP8 HT8 HX8 HB8;generalize w8.setCell ⟨gp, x, none⟩ (.bool true) = w9 at *;go_wp2_with fail;go_roundg (gk - 1);case measure => have := HQ.out; omega
            case rel =>
             refine ⟨q + 1, P2.set x true, by have := HQ.out; omega, by go_num, by rw [List.length_set]; exact HL8.out, fun z hz => ?_, fun z hz => ?_, fun y hy => ?_, HP9.out, HT9.out, HX9.out, HB9.out⟩
             · rw [HSt.out, HMo.out z hz]; simp
             · rw [HSt.out] at hz;rw [Bool.or_eq_true] at hz;rcases hz with h1 | h1
               · obtain ⟨y, hy, hy2⟩ := HAn.out;rw [← of_decide_eq_true h1];exact .step T y x HTm.out hy (HI3.out.so y hy2) HMm.out
               · exact HSo.out z h1
             · rw [HSt.out];rw [HTk.out] at hy;rcases List.mem_append.1 hy with h1 | h1
               · rw [HOu.out y h1]; simp
               · simp at h1;have : y = x := by omega
                 subst this; simp
          · have HE := hid (show (T.i).take q = T.i from List.take_of_length_le (by have := HTi.out; omega));have HI9 := hid (HI3.out.grow HjT.out HTg.out HAn.out HMo.out HSo.out (by have := HOu.out; rw [HE.out] at this; exact this));go_wp2_with fail;go_roundg (go3 - 1);case measure => have := HJ.out; omega
            case rel => exact ⟨j + 1, true, P2, T1.set j true, by have := HJ.out; omega, by go_num, rfl, by have := HNx.out; have := HM3.out.1; omega, fun _ => by have := HNx.out; have := HM3.out.1; omega, HL8.out, HLT.out, HI9.out, (fun h => absurd h (by simp)), HP8.out, HT8.out, HX8.out, HB8.out⟩
     · have HC6 := hid (fun (hh : ch = false) => show ClsTo N true P1 T1 N.tr.length by rw [show N.tr.length = j by rw [HNl.out]; omega]; exact HC3.out hh);go_wp2_with fail;go_roundg (go1 - 1);case measure => have := HM3.out.1; omega
       case rel => exact ⟨ch, P1, T1, rfl, fun hh => by have := HM3.out.2 hh; omega, HL3.out.1, HL3.out.2, HI3.out, HC6.out, HP3.out, HT3.out, HX3.out, HB3.out⟩
end Go.Proofs.YtpiihmbeedlpkaaGreatDoor
