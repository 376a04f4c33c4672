/- at, Initial, Final, below, markings, never, closed, covers of reference 28: what a call returns. great, Great, awake of the statements: what a call returns. Sound of sound: what a call returns. Completes of reference 28: what a call returns. reached of sound: what a call returns. awake of the statements of chapter 29: what a call returns. -/
import Derived.Test.YtkhmngljpfibcaaGreatDoorPQt
import Derived.Test.YtkhmngljpfibcaaGreatDoorPAe
import Derived.Test.YtkhmngljpfibcaaGreatDoorPAk
namespace Go.Proofs.YtkhmngljpfibcaaGreatDoor
set_option maxRecDepth 100000
set_option maxHeartbeats 6400000
open Go.Lib (hid)
section
open Go.RowKit

theorem one21_any (pl : Nat) (A : Option Addr) (n c : Nat) (src snk : Int) (p : Nat) (w : World) (hp : p < pl) (hpl : pl ≤ 1000) :
 Calls Tryz.prog 35 #[.agg #[.int .i64 (pl : Int), .slice A n c, .int .i64 src, .int .i64 snk], .int .i64 (p : Int)] w fun e w' => ∃ v, e = .returned v ∧ NS w w' v (oneM pl p) := by
 have HB := hid (below_alloc w (.cells #[.int .i64 (pl : Int), .slice A n c, .int .i64 src, .int .i64 snk] 24));have HN := hid (NB.new w (pl : Int) A n c src snk);have hmk := mk_ints pl (by omega);have hp0 : (0 : Int) ≤ (p : Int) := by omega
 have hp1 : (p : Int) < (pl : Int) := by omega
 have hpl0 : (0 : Int) ≤ (pl : Int) := by omega
 have hc0 : (madeCells #[Value.int .i64 0] pl)[p]? = some (.int .i64 0) := by rw [← Array.getElem?_toList, toList_madeCells_one]; simp [hp]
 have hs0 : (w.alloc (.cells #[.int .i64 (pl : Int), .slice A n c, .int .i64 src, .int .i64 snk] 24)).heap.size = w.heap.size + 1 := by simp
 go_enter Tryz.func35, Tryz.ntmps35;go_wp2_with fail;have h1 := NS.one1 (w.alloc (.cells #[.int .i64 (pl : Int), .slice A n c, .int .i64 src, .int .i64 snk] 24)) pl p (by omega);rw [hs0] at h1;go_ret;exact ⟨_, rfl, NS.up HB.out h1⟩
theorem rsrc_any (N : Nt) (A : Option Addr) (n c : Nat) (hv : ntB N = true) (w : World) : Calls Tryz.prog 35 #[.agg #[.int .i64 N.pl, .slice A n c, .int .i64 N.src, .int .i64 N.snk], .int .i64 N.src] w fun e w' => ∃ v, e = .returned v ∧ NS w w' v (iniM N) := by
 have h1 := nt_small hv;have h2 := nt_src hv;have h := one21_any N.pl.toNat A n c N.src N.snk N.src.toNat w (by omega) (by omega);rw [show ((N.pl.toNat : Nat) : Int) = N.pl by omega, show ((N.src.toNat : Nat) : Int) = N.src by omega] at h;exact h
end
section
open Go.RowKit

def grT (t : Tr) : Bool := decide (50 < t.i.length) || (decide (50 < t.o.length) || decide (200 < t.lb.size))
theorem great1_any (lb : ByteArray) (Ai Ao : Option Addr) (ni ci no co : Nat) (w : World) :
 Calls Tryz.prog 88 #[.agg #[.string lb, .slice Ai ni ci, .slice Ao no co]] w fun e w' => e = .returned (.bool (decide (50 < ni) || (decide (50 < no) || decide (200 < lb.size)))) ∧ Below w.heap.size w w' := by
 have HB := hid (below_alloc w (.cells #[.string lb, .slice Ai ni ci, .slice Ao no co] 79));by_cases h1 : 50 < ni
 · have q1 : decide ((50 : Int) < (ni : Int)) = true := by simp; omega
   have HV := hid (show (decide (50 < ni) || (decide (50 < no) || decide (200 < lb.size))) = true by rw [decide_eq_true h1]; rfl);clear h1;go_enter Tryz.func88, Tryz.ntmps88;go_wp2_with fail;go_ret;exact ⟨ret_bool HV.out.symm, HB.out⟩
 · have q1 : decide ((50 : Int) < (ni : Int)) = false := by simp; omega
   by_cases h2 : 50 < no
   · have q2 : decide ((50 : Int) < (no : Int)) = true := by simp; omega
     have HV := hid (show (decide (50 < ni) || (decide (50 < no) || decide (200 < lb.size))) = true by rw [decide_eq_true h2]; simp);clear h1 h2;go_enter Tryz.func88, Tryz.ntmps88;go_wp2_with fail;go_ret;exact ⟨ret_bool HV.out.symm, HB.out⟩
   · have q2 : decide ((50 : Int) < (no : Int)) = false := by simp; omega
     by_cases h3 : 200 < lb.size
     · have q3 : decide ((200 : Int) < (lb.size : Int)) = true := by simp; omega
       have HV := hid (show (decide (50 < ni) || (decide (50 < no) || decide (200 < lb.size))) = true by rw [decide_eq_true h3]; simp);clear h1 h2 h3;go_enter Tryz.func88, Tryz.ntmps88;go_wp2_with fail;go_ret;exact ⟨ret_bool HV.out.symm, HB.out⟩
     · have q3 : decide ((200 : Int) < (lb.size : Int)) = false := by simp; omega
       have HV := hid (show (decide (50 < ni) || (decide (50 < no) || decide (200 < lb.size))) = false by rw [decide_eq_false h1, decide_eq_false h2, decide_eq_false h3]; rfl);clear h1 h2 h3;go_enter Tryz.func88, Tryz.ntmps88;go_wp2_with fail;go_ret;exact ⟨ret_bool HV.out.symm, HB.out⟩
theorem tindex_gr (A : Option Addr) (n cap : Nat) (L : List Tr) (w : World) (h : TIn w A L) (hn : L.length = n) (hn4 : n ≤ 9223372036854775807) :
 Calls Tryz.prog 116 #[.slice A n cap, .func (.func 88) #[] #[]] w (BIdx (!(L.any grT)) w) := by
 have H0 := hid h; clear h;have HN := hid hn; clear hn;go_enter Tryz.func116, Tryz.ntmps116;go_wp2_with fail;go_loopg [8] (n) (fun g i wr => ∃ k : Nat, k + g = n ∧ i = .int .i64 k ∧ (L.take k).any grT = false ∧ Below w.heap.size w wr);case atStart => exact ⟨0, by omega, rfl, by simp, Below.refl _ _⟩
 case round =>
  obtain ⟨k, hk, rfl, hno, hB⟩ := hrel;have HK := hid hk;have HNo := hid hno;have HB := hid hB;have HT := hid (H0.out.below hB);have hle : k ≤ n := by omega
  clear hk hno hB;by_cases hlt : k < n
  · have hlt' : k < L.length := by rw [HN.out]; exact hlt
    obtain ⟨ad, rfl, hp, c0, ⟨u1, c1, s1⟩, u2, c2, s2⟩ := HT.out k hlt';have HTk := hid (List.take_succ_eq_append_getElem hlt');have HM := hid (List.getElem_mem hlt');generalize L[k] = x at *;clear hlt';obtain ⟨lb, li, lo⟩ := x;obtain ⟨Ai, ni, ci, rfl, _, hi1, _⟩ := s1;obtain ⟨Ao, no, co, rfl, _, ho1, _⟩ := s2;simp only at c0 c1 c2 hi1 ho1;subst hi1 ho1;have HX := hid (great1_any lb Ai Ao li.length ci lo.length co wr);have HXe := hid (show grT ⟨lb, li, lo⟩ = (decide (50 < li.length) || (decide (50 < lo.length) || decide (200 < lb.size))) from rfl);rw [← HXe.out] at HX;cases hv : grT ⟨lb, li, lo⟩ with
    | true =>
     rw [hv] at HX;have HV := hid hv; clear hv;go_wp2_with fail;((with_reducible refine HX.out.mono ?_); rintro e w1 ⟨rfl, hb1⟩)
     go_wp2_with fail;go_ret;refine BIdx.yes ?_ rfl (below_then HB.out hb1);rw [List.any_eq_true.2 ⟨_, HM.out, HV.out⟩]; rfl
    | false =>
     rw [hv] at HX;have HV := hid hv; clear hv;go_wp2_with fail;((with_reducible refine HX.out.mono ?_); rintro e w1 ⟨rfl, hb1⟩)
     have HB1 := hid (below_then HB.out hb1);clear hb1;go_wp2_with fail;go_roundg (gk - 1);case measure => have := HK.out; omega
     case rel => exact ⟨k + 1, by have := HK.out; omega, by go_num, by rw [HTk.out, List.any_append, HNo.out]; simp [HV.out], HB1.out⟩
  · have HE := hid (show L.take k = L from List.take_of_length_le (by have := HN.out; omega));go_wp2_with fail;go_ret;refine BIdx.no ?_ rfl HB.out;rw [← HE.out, HNo.out]; rfl
theorem tcont_gr (A : Option Addr) (n cap : Nat) (L : List Tr) (w : World) (h : TIn w A L) (hn : L.length = n) (hn4 : n ≤ 9223372036854775807) :
 Calls Tryz.prog 45 #[.slice A n cap, .func (.func 88) #[] #[]] w fun e w' => e = .returned (.bool (L.any grT)) ∧ Below w.heap.size w w' := by
 have HI := hid (tindex_gr A n cap L w h hn hn4);clear h hn;generalize L.any grT = r at HI ⊢;cases r with
 | false =>
  go_enter Tryz.func45, Tryz.ntmps45;go_wp2_with fail;((with_reducible refine HI.out.mono ?_); rintro e w1 hP)
  obtain ⟨he, hb⟩ := hP;have he' : e = .returned (.int .i64 (-1)) := he;clear he; subst he';go_wp2_with fail;go_ret;exact ⟨rfl, hb⟩
 | true =>
  go_enter Tryz.func45, Tryz.ntmps45;go_wp2_with fail;((with_reducible refine HI.out.mono ?_); rintro e w1 hP)
  obtain ⟨he, hb⟩ := hP;obtain ⟨i, he'⟩ : ∃ i : Nat, e = .returned (.int .i64 i) := he;subst he';go_wp2_with fail;go_ret;exact ⟨rfl, hb⟩
theorem great_any (N : Nt) (A : Option Addr) (n c : Nat) (w : World) (h : NtIn w A N) (hn : N.tr.length = n) (hn2 : n ≤ 9223372036854775807) :
 Calls Tryz.prog 33 #[.agg #[.int .i64 N.pl, .slice A n c, .int .i64 N.src, .int .i64 N.snk]] w fun e w' => ∃ b, e = .returned (.bool b) ∧ (b = false → n ≤ 100) ∧ Below w.heap.size w w' := by
 have HB := hid (below_alloc w (.cells #[.int .i64 N.pl, .slice A n c, .int .i64 N.src, .int .i64 N.snk] 24));have HC := hid (tcont_gr A n c N.tr _ (h.1.below HB.out) hn (by omega));clear h hn;generalize N.tr.any grT = r at *;by_cases h1 : 12 < n
 · have q1 : decide ((12 : Int) < (n : Int)) = true := by simp; omega
   by_cases h2 : n ≤ 60
   · have q2 : decide ((n : Int) ≤ 60) = true := by simp; omega
     go_enter Tryz.func33, Tryz.ntmps33;go_wp2_with fail;go_ret;exact ⟨_, rfl, (fun hb => by first | omega | cases hb), HB.out⟩
   · have q2 : decide ((n : Int) ≤ 60) = false := by simp; omega
     by_cases h3 : 100 < n
     · have q3 : decide ((100 : Int) < (n : Int)) = true := by simp; omega
       go_enter Tryz.func33, Tryz.ntmps33;go_wp2_with fail;go_ret;exact ⟨_, rfl, (fun hb => by first | omega | cases hb), HB.out⟩
     · have q3 : decide ((100 : Int) < (n : Int)) = false := by simp; omega
       by_cases h4 : 12 < N.pl
       · have q4 : decide (12 < N.pl) = true := by simpa using h4
         by_cases h5 : N.pl ≤ 40
         · have q5 : decide (N.pl ≤ 40) = true := by simpa using h5
           go_enter Tryz.func33, Tryz.ntmps33;go_wp2_with fail;go_ret;exact ⟨_, rfl, (fun hb => by first | omega | cases hb), HB.out⟩
         · have q5 : decide (N.pl ≤ 40) = false := by simpa using h5
           go_enter Tryz.func33, Tryz.ntmps33;go_wp2_with fail;((with_reducible refine HC.out.mono ?_); rintro e w1 ⟨rfl, hb1⟩)
           go_wp2_with fail;go_ret;exact ⟨_, rfl, fun _ => by omega, below_then HB.out hb1⟩
       · have q4 : decide (12 < N.pl) = false := by simpa using h4
         go_enter Tryz.func33, Tryz.ntmps33;go_wp2_with fail;((with_reducible refine HC.out.mono ?_); rintro e w1 ⟨rfl, hb1⟩)
         go_wp2_with fail;go_ret;exact ⟨_, rfl, fun _ => by omega, below_then HB.out hb1⟩
 · have q1 : decide ((12 : Int) < (n : Int)) = false := by simp; omega
   have q3 : decide ((100 : Int) < (n : Int)) = false := by simp; omega
   by_cases h4 : 12 < N.pl
   · have q4 : decide (12 < N.pl) = true := by simpa using h4
     by_cases h5 : N.pl ≤ 40
     · have q5 : decide (N.pl ≤ 40) = true := by simpa using h5
       go_enter Tryz.func33, Tryz.ntmps33;go_wp2_with fail;go_ret;exact ⟨_, rfl, (fun hb => by first | omega | cases hb), HB.out⟩
     · have q5 : decide (N.pl ≤ 40) = false := by simpa using h5
       go_enter Tryz.func33, Tryz.ntmps33;go_wp2_with fail;((with_reducible refine HC.out.mono ?_); rintro e w1 ⟨rfl, hb1⟩)
       go_wp2_with fail;go_ret;exact ⟨_, rfl, fun _ => by omega, below_then HB.out hb1⟩
   · have q4 : decide (12 < N.pl) = false := by simpa using h4
     go_enter Tryz.func33, Tryz.ntmps33;go_wp2_with fail;((with_reducible refine HC.out.mono ?_); rintro e w1 ⟨rfl, hb1⟩)
     go_wp2_with fail;go_ret;exact ⟨_, rfl, fun _ => by omega, below_then HB.out hb1⟩
structure CfL (w : World) (Ar : Option Addr) (nr : Nat) (R : List Int) (Ap : Option Addr) (np : Nat) (P : List Int) (Ak : Option Addr) (nk : Nat) (K : List (List Int)) (Av : Option Addr) (nv : Nat) (V : List Mv) (As : Option Addr) (ns : Nat) (S : List (List Int)) (Aw : Option Addr) (nw : Nat) (X : List (List Int)) : Prop where
 r : ZIn w Ar R
 rl : R.length = nr
 p : ZIn w Ap P
 pl : P.length = np
 k : LIn w Ak K
 kl : K.length = nk
 v : Rd mvC 3 w Av V
 vl : V.length = nv
 s : LIn w As S
 sl : S.length = ns
 x : LIn w Aw X
 xl : X.length = nw
theorem CfL.below {w w' : World} {Ar : Option Addr} {nr : Nat} {R : List Int} {Ap : Option Addr} {np : Nat} {P : List Int} {Ak : Option Addr} {nk : Nat} {K : List (List Int)} {Av : Option Addr} {nv : Nat} {V : List Mv} {As : Option Addr} {ns : Nat} {S : List (List Int)} {Aw : Option Addr} {nw : Nat} {X : List (List Int)} (h : CfL w Ar nr R Ap np P Ak nk K Av nv V As ns S Aw nw X) (hb : Below w.heap.size w w') : CfL w' Ar nr R Ap np P Ak nk K Av nv V As ns S Aw nw X :=
 ⟨h.r.below hb, h.rl, h.p.below hb, h.pl, h.k.below hb, h.kl, h.v.below hb, h.vl, h.s.below hb, h.sl, h.x.below hb, h.xl⟩
end
section
open Go.RowKit

def CtSm (N : Nt) (T : TS) (R P : List Int) (K : List (List Int)) (V : List Mv) (S X : List (List Int)) : Prop :=
 R.length ≤ 1000 ∧ P.length ≤ 1000 ∧ K.length ≤ T.states.length ∧ V.length ≤ T.states.length ∧ S = [] ∧ X.length ≤ 1 ∧ (∀ l ∈ K, (l.length : Int) = N.pl) ∧ ∀ l ∈ X, l.length ≤ T.states.length
theorem zin_nil (w : World) : ZIn w none [] := fun i hi => by simp at hi
theorem lin_nil (w : World) : LIn w none [] := fun i hi => by simp at hi
theorem rd_nil (w : World) : Rd mvC 3 w none [] := fun i hi => by simp at hi
theorem CtB.set1 {w : World} {b : Nat} {a0 a1 a2 a3 a4 a5 a6 a7 : Value} (h : CtB w b #[a0, a1, a2, a3, a4, a5, a6, a7]) (u : Value) : CtB (w.setCell ⟨b, 1, none⟩ u) b #[a0, u, a2, a3, a4, a5, a6, a7] := by
 unfold CtB at h ⊢;rw [heap_set2 h]; rfl
theorem CtB.set2 {w : World} {b : Nat} {a0 a1 a2 a3 a4 a5 a6 a7 : Value} (h : CtB w b #[a0, a1, a2, a3, a4, a5, a6, a7]) (u : Value) : CtB (w.setCell ⟨b, 2, none⟩ u) b #[a0, a1, u, a3, a4, a5, a6, a7] := by
 unfold CtB at h ⊢;rw [heap_set2 h]; rfl
theorem CtB.set3 {w : World} {b : Nat} {a0 a1 a2 a3 a4 a5 a6 a7 : Value} (h : CtB w b #[a0, a1, a2, a3, a4, a5, a6, a7]) (u : Value) : CtB (w.setCell ⟨b, 3, none⟩ u) b #[a0, a1, a2, u, a4, a5, a6, a7] := by
 unfold CtB at h ⊢;rw [heap_set2 h]; rfl
theorem CtB.set4 {w : World} {b : Nat} {a0 a1 a2 a3 a4 a5 a6 a7 : Value} (h : CtB w b #[a0, a1, a2, a3, a4, a5, a6, a7]) (u : Value) : CtB (w.setCell ⟨b, 4, none⟩ u) b #[a0, a1, a2, a3, u, a5, a6, a7] := by
 unfold CtB at h ⊢;rw [heap_set2 h]; rfl
theorem cell_far {w : World} {b b' o o' : Nat} {u x : Value} (h : w.cell? ⟨b', o', none⟩ = some x) (hn : b' ≠ b) : (w.setCell ⟨b, o, none⟩ u).cell? ⟨b', o', none⟩ = some x :=
 (Lib.grownBy_setB (grown_refl w (some b)) o u).cell h (fun e => hn (Option.some.inj e))
theorem NS.ct {w0 w : World} {v : Value} {L : List Int} (h : NS w0 w v L) {b : Nat} {vs : Array Value} (hc : CtB w b vs) (hb : w0.heap.size ≤ b) {w' : World} (hg : w.grownBy w' (some b)) : NS w0 w' v L :=
 h.kept hg (own_other h.1 hc (by decide)) (fun k hk => by cases hk; exact hb)
theorem OLL.ct {w0 w : World} {v : Value} {L : List (List Int)} (h : OLL w0 w v L) {b : Nat} {vs : Array Value} (hc : CtB w b vs) (hb : w0.heap.size ≤ b) {w' : World} (hg : w.grownBy w' (some b)) : OLL w0 w' v L :=
 h.kept hc (by decide) (by decide) hb hg
theorem OMv.ct {w0 w : World} {v : Value} {L : List Mv} (h : OMv w0 w v L) {b : Nat} {vs : Array Value} (hc : CtB w b vs) (hb : w0.heap.size ≤ b) {w' : World} (hg : w.grownBy w' (some b)) : OMv w0 w' v L :=
 ⟨h.1.kept hg (own_other h.1 hc (by decide)), h.2.grown hg h.2.size (fun k hk => by cases hk; exact hb)⟩
theorem grown_one (w : World) (b o : Nat) (u : Value) : w.grownBy (w.setCell ⟨b, o, none⟩ u) (some b) := Lib.grownBy_setB (grown_refl w (some b)) o u
theorem one_row {w : World} {g : Nat} {A : Option Addr} {c : Nat} {F : List Int} (hg : w.heap[g]? = some (.cells #[.slice A F.length c] 27 (0, 0))) (hF : SlIn w (.slice A F.length c) F) : LIn w (some ⟨g, 0, none⟩) [F] := by
 intro i hi;have hi0 : i = 0 := by simp at hi; omega
 subst hi0;refine ⟨_, rfl, by rw [add_block]; exact (Array.getElem?_eq_some_iff.1 hg).1, _, ?_, hF⟩;rw [add_zero, Nat.zero_add, Lib.cell_of_heap hg]; rfl
theorem GrF.tree {N : Nt} {T : TS} (h : GrF N T) : ∀ j : Nat, 0 < j → j < T.states.length → ∃ x ∈ movesOf T, x.t = (j : Int) ∧ x.f < (j : Int) := fun _ h0 hj => mv_tree h.gr.i hj h0
theorem GrF.goal {N : Nt} {T : TS} (h : GrF N T) (hl : ¬ RsL N T.states (movesOf T)) : ∃ g : Nat, g < T.states.length ∧ T.states[g]? = some (finM N) ∧ lidx (isL (finM N)) T.states = (g : Int) := by
 have h1 : Leads N T.states (movesOf T) 0 := Classical.byContradiction fun hn => hl ⟨0, h.l0, hn⟩
 obtain ⟨g, hg, _⟩ := h1;obtain ⟨hlt, he⟩ := List.getElem?_eq_some_iff.1 hg;exact ⟨g, hlt, hg, by rw [← he]; exact h.gr.idx hlt⟩
theorem CovT.small {N : Nt} {work : Bool} {most : Int} {T : TS} (h : CovT N work most T) : T.states.length ≤ most.toNat ∧ T.states.length ≤ 500 := by
 have h1 := growT_le h.2;have h2 := h.1.ok;omega
theorem fin_le {N : Nt} (hv : ntB N = true) : (finM N).length ≤ 1000 := by
 have h1 : ((finM N).length : Int) = N.pl := mk_len (one_mk hv N.snk.toNat);have h2 := nt_small hv;omega
theorem ns_zin {w0 w : World} {A : Option Addr} {n c : Nat} {L : List Int} (h : NS w0 w (.slice A n c) L) : ZIn w A L := by
 obtain ⟨A', c', e, hz, _⟩ := h.zin;cases e; exact hz
theorem oll_lin {w0 w : World} {A : Option Addr} {n c : Nat} {L : List (List Int)} (h : OLL w0 w (.slice A n c) L) : LIn w A L := by
 obtain ⟨A', c', e, hz, _⟩ := h.lin;cases e; exact hz
theorem omv_rd {w0 w : World} {A : Option Addr} {n c : Nat} {L : List Mv} (h : OMv w0 w (.slice A n c) L) : Rd mvC 3 w A L := by
 obtain ⟨A', c', e, _, _, _, hz, _⟩ := own_rd mvC_len (by decide) h.1;cases e; exact hz
theorem rd_getD {T : TS} {q : Int} {N : Nt} (h : ∀ s ∈ T.states, (s.length : Int) = N.pl) (h0 : 0 ≤ q) (h1 : q < (T.states.length : Int)) : ((T.states.getD q.toNat []).length : Int) = N.pl := by
 obtain ⟨n, rfl⟩ := Int.eq_ofNat_of_zero_le h0;have hl : n < T.states.length := by omega
 rw [Int.toNat_natCast];have e : T.states.getD n [] = T.states[n] := by simp [hl]
 rw [e];exact h _ (List.getElem_mem hl)
end
section
open Go.RowKit

theorem exOne_mv {N : Nt} {most i k : Nat} {m : List Int} {E E' : ExS} (h : exOne N most i m k E = some E') (hl : E.MV.length ≤ 20000) : E'.MV.length ≤ 20000 := by
 unfold exOne at h;split at h
 · cases h; exact hl
 · split at h
   · split at h
     · cases h; exact hl
     · split at h
       · split at h
         · cases h
         · cases h; simp; omega
       · split at h
         · split at h
           · cases h
           · cases h; simp; omega
         · cases h; exact hl
   · cases h; exact hl
theorem exTo_mv {N : Nt} {most i : Nat} {m : List Int} : ∀ (k : Nat) {E E' : ExS}, exTo N most i m k E = some E' → E.MV.length ≤ 20000 → E'.MV.length ≤ 20000
 | 0, E, E', h, hl => by cases h; exact hl
 | k + 1, E, E', h, hl => by
  rw [exTo] at h;obtain ⟨E1, h1, h2⟩ := Option.bind_eq_some_iff.1 h;exact exOne_mv h2 (exTo_mv k h1 hl)
theorem exFrom_mv {N : Nt} {most : Nat} : ∀ (f i : Nat) {E E' : ExS}, exFrom N most f i E = some E' → E.MV.length ≤ 20000 → E'.MV.length ≤ 20000
 | 0, i, E, E', h, hl => by cases h
 | f + 1, i, E, E', h, hl => by
  rw [exFrom] at h;split at h
  · cases h; exact hl
  · obtain ⟨E1, h1, h2⟩ := Option.bind_eq_some_iff.1 h;exact exFrom_mv f (i + 1) h2 (exTo_mv _ h1 hl)
theorem exT_mv {N : Nt} {M : List Int} {most : Nat} {E : ExS} (h : exT N M most = some E) : E.MV.length ≤ 20000 := exFrom_mv _ _ h (by simp)
end
section
open Go.RowKit

def ReaPo (N : Nt) (M : List Int) (mn : Nat) (A : Option Addr) (n c : Nat) (w : World) (e : Ending) (w' : World) : Prop := Below w.heap.size w w' ∧
  ((exT N M mn = none ∧ e = .returned (.tuple #[.pointer none, .int .i64 13])) ∨
   ∃ (E : ExS) (b : Nat) (As : Option Addr) (cs : Nat) (Av : Option Addr) (cv : Nat) (Af : Option Addr) (cf : Nat) (Ag : Option Addr) (cg : Nat), exT N M mn = some E ∧ e = .returned (.tuple #[.pointer (some ⟨b, 0, none⟩), .int .i64 0]) ∧ WdI w' b N E.SL E.MV E.fl A n c As cs Av cv Af cf Ag cg)
theorem sreached_any (N : Nt) (A : Option Addr) (n c : Nat) (Am : Option Addr) (m cm : Nat) (M : List Int) (mn : Nat) (w : World) (h : NtIn w A N) (hn : N.tr.length = n) (hn2 : n ≤ 9223372036854775807) (hM : ZIn w Am M) (hm : M.length = m) (hmk : mkB N M = true) (h1 : 1 ≤ mn) (h2 : mn ≤ 2000) :
 Calls Tryz.prog 72 #[.agg #[.int .i64 N.pl, .slice A n c, .int .i64 N.src, .int .i64 N.snk], .slice Am m cm, .int .i64 (mn : Int)] w (ReaPo N M mn A n c w) := by
 have HB0 := hid (below_alloc w (.cells #[.int .i64 N.pl, .slice A n c, .int .i64 N.src, .int .i64 N.snk] 24));have HNb0 := hid (NB.new w N.pl A n c N.src N.snk);have HIn0 := hid (h.below HB0.out);have HEx := hid (explore_any N A n c Am m cm M mn _ (h.below HB0.out) hn (hM.below HB0.out) hm hmk h1 h2);have HNl := hid hn;have HMk := hid hmk;clear h hn hM hm hmk;go_enter Tryz.func72, Tryz.ntmps72;go_wp2_with fail;generalize w.alloc _ = w0 at *;obtain ⟨b0, b1, b2, b3⟩ := HNb0.out.cells;cases hR : exT N M mn with
 | none =>
  rw [hR] at HEx;have HR := hid hR;unfold ExPo at HEx;simp only at HEx;((with_reducible refine HEx.out.mono ?_); rintro e w1 ⟨hb1, rfl⟩)
  have HB1 := hid (below_then (below_then HB0.out hb1) (below_alloc w1 (.cells #[.slice none 0 0, .slice none 0 0, .bool false] 41)));clear hb1 HEx hR b0 b1 b2 b3;go_wp2_with fail;go_ret2;exact ⟨HB1.out, .inl ⟨HR.out, rfl⟩⟩
 | some E =>
  rw [hR] at HEx;have HR := hid hR;have HSp := hid (exT_spc HMk.out h1 hR);have HMv := hid (exT_mv hR);unfold ExPo at HEx;simp only at HEx;((with_reducible refine HEx.out.mono ?_); rintro e w1 ⟨hb1, vS, vM, rfl, hOl, hOm⟩)
  obtain ⟨SL, MV, fl⟩ := E;simp only at HMv hOl hOm;obtain ⟨As, cs, rfl⟩ := hOl.slice;obtain ⟨Av, cv, rfl⟩ := hOm.slice;have hal := below_alloc w1 (.cells #[.slice As SL.length cs, .slice Av MV.length cv, .bool fl] 41);have hsb := heap_alloc_new w1 (.cells #[.slice As SL.length cs, .slice Av MV.length cv, .bool fl] 41);have HSb := hid (show SpB _ w1.heap.size (.slice As SL.length cs) (.slice Av MV.length cv) fl from hsb);have HLn := hid ((oll_lin hOl).below hal);have HRd := hid ((omv_rd hOm).below hal);have HNb := hid ((HNb0.out.below hb1).below hal);have HIn := hid ((HIn0.out.below hb1).below hal);have HB := hid (below_then (below_then HB0.out hb1) hal);have hsl1 : SL.length ≤ 2000 := by have := HSp.out.le; simp only at this; omega
  have hmvl : MV.length ≤ 20000 := HMv.out;have HMo := hid (show mvOk MV SL.length from HSp.out.mvf.ok);clear hal hsb hOl hOm hb1 HEx hR HNb0 HIn0 HB0 b0 b1 b2 b3;obtain ⟨b0, b1, b2, b3⟩ := HNb.out.cells;obtain ⟨e0, e1, e2⟩ := HSb.out.cells;have HGa := hid (gather_any N A n c As cs SL Av cv MV fl _ HIn.out HNl.out hn2 (mk_nt HMk.out) HLn.out HRd.out HMo.out (by omega) hmvl);go_wp2_with fail;((with_reducible refine HGa.out.mono ?_); rintro e w4 ⟨b, Af, cf, Ag, cg, rfl, hW, hb4⟩)
  have HW := hid hW;have HB4 := hid (below_then HB.out hb4);clear hW hb4 HGa b0 b1 b2 b3 e0 e1 e2;go_wp2_with fail;go_ret2;exact ⟨HB4.out, .inr ⟨⟨SL, MV, fl⟩, b, As, cs, Av, cv, Af, cf, Ag, cg, HR.out, rfl, HW.out⟩⟩
end
section
open Go.RowKit

def exN : Nt := ⟨2, [⟨⟨#[97]⟩, [0], [1]⟩], 0, 1⟩
theorem lit_sl (w : World) (Z : List Int) (h : Z.length ≤ 1000000) (cs : Array Value) (hc : cs = (Z.map (Value.int .i64)).toArray) : SlIn (w.alloc (.cells cs 3)) (.slice (some ⟨w.heap.size, 0, none⟩) Z.length Z.length) Z := by
 subst hc;exact ⟨_, _, _, rfl, lit_ints w Z h, rfl, Nat.le_refl _, by omega⟩
theorem lit_ll (w : World) (vs : Array Value) (LL : List (List Int)) (h : ∀ i (hi : i < LL.length), ∃ u, vs[i]? = some u ∧ SlIn w u LL[i]) : LIn (w.alloc (.cells vs 27)) (some ⟨w.heap.size, 0, none⟩) LL := by
 intro i hi;obtain ⟨u, hu, hs⟩ := h i hi;refine ⟨_, rfl, by rw [add_block]; simp, u, ?_, hs.below (below_alloc w _)⟩;rw [add_zero, Nat.zero_add, Lib.cell_of_heap (heap_alloc_new w (.cells vs 27))];exact hu
theorem lit_mv (w : World) (x : Mv) : Rd mvC 3 (w.alloc (.cells #[.int .i64 x.f, .int .i64 x.t, .int .i64 x.s] 113)) (some ⟨w.heap.size, 0, none⟩) [x] := by
 intro i hi;have h0 : i = 0 := by simp at hi; omega
 subst h0;refine ⟨_, rfl, by rw [add_block]; simp, fun j u hj hu => ?_⟩;rw [add_zero, Nat.zero_add, Lib.cell_of_heap (heap_alloc_new w (.cells #[.int .i64 x.f, .int .i64 x.t, .int .i64 x.s] 113))];rw [show 0 * 3 + j = j by omega, ← Array.getElem?_toList];exact hu
theorem lit_tr (w : World) (lb : ByteArray) (u v : Value) (li lo : List Int) (hu : SlIn w u li) (hv : SlIn w v lo) : TIn (w.alloc (.cells #[.string lb, u, v] 79)) (some ⟨w.heap.size, 0, none⟩) [⟨lb, li, lo⟩] := by
 intro i hi;have h0 : i = 0 := by simp at hi; omega
 subst h0;have hh := heap_alloc_new w (.cells #[.string lb, u, v] 79);refine ⟨_, rfl, by rw [add_block]; simp, ?_⟩;rw [Nat.zero_mul, add0];refine ⟨by rw [Lib.cell_of_heap hh]; rfl, ⟨_, by rw [Lib.cell_of_heap hh]; rfl, hu.below (below_alloc w _)⟩, _, by rw [Lib.cell_of_heap hh]; rfl, hv.below (below_alloc w _)⟩
def exW (w : World) : World := ((w.alloc (.cells #[.int .i64 0] 3)).alloc (.cells #[.int .i64 1] 3)).alloc (.cells #[.string ⟨#[97]⟩, .slice (some ⟨w.heap.size, 0, none⟩) 1 1, .slice (some ⟨w.heap.size + 1, 0, none⟩) 1 1] 79)
theorem exW_size (w : World) : (exW w).heap.size = w.heap.size + 1 + 1 + 1 := by unfold exW; simp
theorem exW_below (w : World) : Below w.heap.size w (exW w) := below_then (below_alloc w _) (below_then (below_alloc _ _) (below_alloc _ _))
theorem ex_net (w : World) : NtIn (exW w) (some ⟨w.heap.size + 1 + 1, 0, none⟩) exN := by
 refine ⟨?_, fun t ht => by
  have : t = ⟨⟨#[97]⟩, [0], [1]⟩ := by simpa [exN] using ht
  subst this; decide⟩
 have h1 := lit_sl w [0] (by decide) #[.int .i64 0] rfl;have h2 := lit_sl (w.alloc (.cells #[.int .i64 0] 3)) [1] (by decide) #[.int .i64 1] rfl;rw [World.size_alloc] at h2;have h3 := lit_tr _ ⟨#[97]⟩ _ _ [0] [1] (h1.below (below_alloc (w.alloc (.cells #[.int .i64 0] 3)) (.cells #[.int .i64 1] 3))) h2;rw [World.size_alloc, World.size_alloc] at h3;exact h3
def ceA (w : World) : World := ((w.alloc (.cells #[.int .i64 1, .int .i64 0] 3)).alloc (.cells #[.int .i64 0, .int .i64 1] 3)).alloc (.cells #[.slice (some ⟨w.heap.size, 0, none⟩) 2 2, .slice (some ⟨w.heap.size + 1, 0, none⟩) 2 2] 27)
def ceB (w : World) : World := (ceA w).alloc (.cells #[.int .i64 0, .int .i64 1, .int .i64 0] 113)
def ceW (w : World) : World := ((ceB w).alloc (.cells #[.int .i64 1, .int .i64 0] 3)).alloc (.cells #[.slice (some ⟨w.heap.size + 1 + 1 + 1 + 1, 0, none⟩) 2 2] 27)
theorem ceA_size (w : World) : (ceA w).heap.size = w.heap.size + 1 + 1 + 1 := by unfold ceA; simp
theorem ceB_size (w : World) : (ceB w).heap.size = w.heap.size + 1 + 1 + 1 + 1 := by unfold ceB; rw [World.size_alloc, ceA_size]
theorem ceW_size (w : World) : (ceW w).heap.size = w.heap.size + 1 + 1 + 1 + 1 + 1 + 1 := by unfold ceW; rw [World.size_alloc, World.size_alloc, ceB_size]
theorem ceW_below (w : World) : Below w.heap.size w (ceW w) := below_then (below_then (below_then (below_alloc w _) (below_then (below_alloc _ _) (below_alloc _ _))) (below_alloc _ _)) (below_then (below_alloc _ _) (below_alloc _ _))
theorem ce_in (w : World) : CfM (ceW w) none 0 [] none 0 [] (some ⟨w.heap.size + 1 + 1, 0, none⟩) 2 [[1, 0], [0, 1]] (some ⟨w.heap.size + 1 + 1 + 1, 0, none⟩) 1 [⟨0, 1, 0⟩] none 0 [] (some ⟨w.heap.size + 1 + 1 + 1 + 1 + 1, 0, none⟩) 1 [[1, 0]] := by
 have h1 := lit_sl w [1, 0] (by decide) #[.int .i64 1, .int .i64 0] rfl;have h2 := lit_sl (w.alloc (.cells #[.int .i64 1, .int .i64 0] 3)) [0, 1] (by decide) #[.int .i64 0, .int .i64 1] rfl;rw [World.size_alloc] at h2;have h1' := h1.below (below_alloc (w.alloc (.cells #[.int .i64 1, .int .i64 0] 3)) (.cells #[.int .i64 0, .int .i64 1] 3));have h3 := lit_ll _ #[.slice (some ⟨w.heap.size, 0, none⟩) 2 2, .slice (some ⟨w.heap.size + 1, 0, none⟩) 2 2] [[1, 0], [0, 1]] (fun i hi => by
  match i, hi with
  | 0, _ => exact ⟨_, rfl, h1'⟩
  | 1, _ => exact ⟨_, rfl, h2⟩
  | i + 2, hi => exact absurd hi (by simp only [List.length_cons, List.length_nil]; omega))
 rw [World.size_alloc, World.size_alloc] at h3;have h4 := lit_mv (ceA w) ⟨0, 1, 0⟩;rw [ceA_size] at h4;have h5 := lit_sl (ceB w) [1, 0] (by decide) #[.int .i64 1, .int .i64 0] rfl;rw [ceB_size] at h5;have h6 := lit_ll ((ceB w).alloc (.cells #[.int .i64 1, .int .i64 0] 3)) #[.slice (some ⟨w.heap.size + 1 + 1 + 1 + 1, 0, none⟩) 2 2] [[1, 0]] (fun i hi => by
  match i, hi with
  | 0, _ => exact ⟨_, rfl, h5⟩
  | i + 1, hi => exact absurd hi (by simp only [List.length_cons, List.length_nil]; omega))
 rw [World.size_alloc, ceB_size] at h6;have b1 : Below (ceA w).heap.size (ceA w) (ceB w) := below_alloc _ _;have b2 : Below (ceB w).heap.size (ceB w) (ceW w) := below_then (below_alloc _ _) (below_alloc _ _);exact ⟨fun i hi => by simp at hi, rfl, by decide, fun i hi => by simp at hi, rfl, by decide, (show LIn (ceA w) _ _ from h3).below (below_then b1 b2), rfl, by decide, (show Rd mvC 3 (ceB w) _ _ from h4).below b2, rfl, by decide, fun i hi => by simp at hi, rfl, by decide, h6, rfl, by decide⟩
theorem ex_wf : wfP exN := by
 have h0 : Rch exN false 0 0 := .start;have h1 : Rch exN false 0 1 := .step ⟨⟨#[97]⟩, [0], [1]⟩ 0 1 (by simp [exN]) (by simp [insT]) h0 (by simp [outT]);have g1 : Rch exN true 1 1 := .start;have g0 : Rch exN true 1 0 := .step ⟨⟨#[97]⟩, [0], [1]⟩ 1 0 (by simp [exN]) (by simp [insT]) g1 (by simp [outT]);refine ⟨by decide, rfl, ⟨fun x hx => ?_, fun t ht => ?_⟩, ⟨fun x hx => ?_, fun t ht => ?_⟩⟩
 · have hx' : x < 2 := hx
   match x, hx' with
   | 0, _ => exact h0
   | 1, _ => exact h1
 · have : t = ⟨⟨#[97]⟩, [0], [1]⟩ := by simpa [exN] using ht
   subst this;exact ⟨0, by simp [insT], h0⟩
 · have hx' : x < 2 := hx
   match x, hx' with
   | 0, _ => exact g0
   | 1, _ => exact g1
 · have : t = ⟨⟨#[97]⟩, [0], [1]⟩ := by simpa [exN] using ht
   subst this;exact ⟨1, by simp [insT], g1⟩
theorem ex_chk : ChkP exN 1 0 [] [] [[1, 0], [0, 1]] [⟨0, 1, 0⟩] [] [[1, 0]] := by
 refine ⟨by kernel_rfl, by decide, by decide, by decide, fun _ => ex_wf, Or.inl ⟨rfl, by kernel_rfl⟩⟩
theorem ex_txm : TxM 0 [] [] [[1, 0], [0, 1]] [⟨0, 1, 0⟩] [] [[1, 0]] := by
 refine ⟨by decide, ⟨fun x hx => by simp at hx, by decide⟩, ⟨fun x hx => by simp at hx, by decide⟩, ⟨by decide, fun l hl => ?_⟩, ⟨by decide, fun m hm => ?_⟩, ⟨by decide, fun l hl => by simp at hl⟩, ⟨by decide, fun l hl => ?_⟩⟩
 · have : l = [1, 0] ∨ l = [0, 1] := by simpa using hl
   rcases this with rfl | rfl <;> exact ⟨fun x hx => by simp at hx; omega, by decide⟩
 · have : m = ⟨0, 1, 0⟩ := by simpa using hm
   subst this;exact fun x hx => by simp [mvL] at hx; omega
 · have : l = [1, 0] := by simpa using hl
   subst this;exact ⟨fun x hx => by simp at hx; omega, by decide⟩
def exS : ByteArray := ⟨(textL 0 0 [] [] [[1, 0], [0, 1]] [⟨0, 1, 0⟩] [] [[1, 0]]).toArray⟩
theorem ex_text {w w' : World} {e : Ending} (h : TxPo 1 0 [] [] [[1, 0], [0, 1]] [⟨0, 1, 0⟩] [] [[1, 0]] w e w') : e = .returned (.tuple #[.string exS, .int .i64 0]) ∧ Below w.heap.size w w' := by
 obtain ⟨h1, h2⟩ := h;rw [if_neg (by decide), show badT 0 [] [] [[1, 0], [0, 1]] [⟨0, 1, 0⟩] [] [[1, 0]] = false by kernel_rfl, if_neg (by decide), if_neg (show ¬ 262144 < (textL ((1 : Int) - 1).toNat 0 [] [] [[1, 0], [0, 1]] [⟨0, 1, 0⟩] [] [[1, 0]]).length by
  rw [show (textL ((1 : Int) - 1).toNat 0 [] [] [[1, 0], [0, 1]] [⟨0, 1, 0⟩] [] [[1, 0]]).length = 67 by kernel_rfl]; decide)] at h1
 exact ⟨h1, h2⟩
theorem ex_str : exS = ⟨#[99, 108, 97, 105, 109, 32, 115, 111, 117, 110, 100, 10, 110, 117, 109, 98, 101, 114, 32, 48, 10, 114, 117, 110, 10, 112, 117, 109, 112, 10, 109, 97, 114, 107, 32, 49, 32, 48, 10, 109, 97, 114, 107, 32, 48, 32, 49, 10, 109, 111, 118, 101, 32, 48, 32, 49, 32, 48, 10, 114, 111, 119, 32, 49, 32, 48, 10]⟩ := by kernel_rfl
theorem awake_any (w : World) (ht : Tb w) : Calls Tryz.prog 32 #[] w fun e w' => e = .returned (.bool true) ∧ Below w.heap.size w w' := by
 have HBw := hid (below_then (exW_below w) (below_alloc (exW w) (.cells #[.int .i64 2, .slice (some ⟨w.heap.size + 1 + 1, 0, none⟩) 1 1, .int .i64 0, .int .i64 1] 24)));have HNt := hid ((ex_net w).below (below_alloc (exW w) (.cells #[.int .i64 2, .slice (some ⟨w.heap.size + 1 + 1, 0, none⟩) 1 1, .int .i64 0, .int .i64 1] 24)));have hnb := NB.new (exW w) 2 (some ⟨w.heap.size + 1 + 1, 0, none⟩) 1 1 0 1;rw [exW_size] at hnb;have HNb := hid hnb;have HT := hid (ht.below HBw.out);have hs0 : ((exW w).alloc (.cells #[.int .i64 2, .slice (some ⟨w.heap.size + 1 + 1, 0, none⟩) 1 1, .int .i64 0, .int .i64 1] 24)).heap.size = w.heap.size + 1 + 1 + 1 + 1 := by rw [World.size_alloc, exW_size]
 clear ht hnb;unfold exW at HBw HNt HNb HT hs0;go_enter Tryz.func32, Tryz.ntmps32;go_wp2_with fail;generalize (((w.alloc _).alloc _).alloc _).alloc _ = w0 at *;have hce := ce_in w0;have hcb := ceW_below w0;have hcs := ceW_size w0;unfold ceW ceB ceA at hce hcb hcs;rw [hs0] at hce hcb hcs;have hnew := heap_alloc_new (((((((w0.alloc (.cells #[.int .i64 1, .int .i64 0] 3)).alloc (.cells #[.int .i64 0, .int .i64 1] 3)).alloc (.cells #[.slice (some ⟨w.heap.size + 1 + 1 + 1 + 1, 0, none⟩) 2 2, .slice (some ⟨w.heap.size + 1 + 1 + 1 + 1 + 1, 0, none⟩) 2 2] 27)).alloc (.cells #[.int .i64 0, .int .i64 1, .int .i64 0] 113)).alloc (.cells #[.int .i64 1, .int .i64 0] 3)).alloc (.cells #[.slice (some ⟨w.heap.size + 1 + 1 + 1 + 1 + 1 + 1 + 1 + 1, 0, none⟩) 2 2] 27))) (.cells #[.int .i64 1, .int .i64 0, .slice none 0 0, .slice none 0 0, .slice (some ⟨w.heap.size + 1 + 1 + 1 + 1 + 1 + 1, 0, none⟩) 2 2, .slice (some ⟨w.heap.size + 1 + 1 + 1 + 1 + 1 + 1 + 1, 0, none⟩) 1 1, .slice none 0 0, .slice (some ⟨w.heap.size + 1 + 1 + 1 + 1 + 1 + 1 + 1 + 1 + 1, 0, none⟩) 1 1] 31);rw [hcs] at hnew;generalize ((((((w0.alloc (.cells #[.int .i64 1, .int .i64 0] 3)).alloc (.cells #[.int .i64 0, .int .i64 1] 3)).alloc (.cells #[.slice (some ⟨w.heap.size + 1 + 1 + 1 + 1, 0, none⟩) 2 2, .slice (some ⟨w.heap.size + 1 + 1 + 1 + 1 + 1, 0, none⟩) 2 2] 27)).alloc (.cells #[.int .i64 0, .int .i64 1, .int .i64 0] 113)).alloc (.cells #[.int .i64 1, .int .i64 0] 3)).alloc (.cells #[.slice (some ⟨w.heap.size + 1 + 1 + 1 + 1 + 1 + 1 + 1 + 1, 0, none⟩) 2 2] 27)) = wc at *;have hca := below_alloc wc (.cells #[.int .i64 1, .int .i64 0, .slice none 0 0, .slice none 0 0, .slice (some ⟨w.heap.size + 1 + 1 + 1 + 1 + 1 + 1, 0, none⟩) 2 2, .slice (some ⟨w.heap.size + 1 + 1 + 1 + 1 + 1 + 1 + 1, 0, none⟩) 1 1, .slice none 0 0, .slice (some ⟨w.heap.size + 1 + 1 + 1 + 1 + 1 + 1 + 1 + 1 + 1, 0, none⟩) 1 1] 31);have HCt := hid (show CtB _ (w.heap.size + 1 + 1 + 1 + 1 + 1 + 1 + 1 + 1 + 1 + 1) _ from hnew);have HCf := hid (hce.below hca);have HBc := hid (below_then (show Below w0.heap.size w0 wc by rw [hs0]; exact hcb) hca);have HB1 := hid (below_then HBw.out HBc.out);have HNt1 := hid (HNt.out.below HBc.out);have HNb1 := hid (HNb.out.below HBc.out);have HT1 := hid (HT.out.below HBc.out);clear hce hcb hcs hnew hca hs0 HNt HNb HT HBc HBw;generalize wc.alloc _ = w1 at *;have HTx := hid (vtext_any 1 0 none 0 0 [] none 0 0 [] _ 2 2 _ _ 1 1 _ none 0 0 [] _ 1 1 _ w1 HCf.out HT1.out ex_txm);((with_reducible refine HTx.out.mono ?_); rintro e w2 hP)
 obtain ⟨rfl, hb2⟩ := ex_text hP;rw [ex_str];have HB2 := hid (below_then HB1.out hb2);have HNt2 := hid (HNt1.out.below hb2);have HNb2 := hid (HNb1.out.below hb2);have HT2 := hid (HT1.out.below hb2);have HCf2 := hid (HCf.out.below hb2);have HCt2 := hid (HCt.out.below hb2);clear hP hb2 HTx HB1 HNt1 HNb1 HT1 HCf HCt;obtain ⟨b0, b1, b2, b3⟩ := HNb2.out.cells;obtain ⟨d0, d1, d2, d3, d4, d5, d6, d7⟩ := HCt2.out.cells;have HCk := hid (show Calls Tryz.prog 36 #[.agg #[.int .i64 2, .slice (some ⟨w.heap.size + 1 + 1, 0, none⟩) 1 1, .int .i64 0, .int .i64 1], .agg #[.int .i64 1, .int .i64 0, .slice none 0 0, .slice none 0 0, .slice (some ⟨w.heap.size + 1 + 1 + 1 + 1 + 1 + 1, 0, none⟩) 2 2, .slice (some ⟨w.heap.size + 1 + 1 + 1 + 1 + 1 + 1 + 1, 0, none⟩) 1 1, .slice none 0 0, .slice (some ⟨w.heap.size + 1 + 1 + 1 + 1 + 1 + 1 + 1 + 1 + 1, 0, none⟩) 1 1]] w2 _ from vcheck_any exN _ 1 1 1 0 none 0 0 [] none 0 0 [] _ 2 2 _ _ 1 1 _ none 0 0 [] _ 1 1 _ w2 HT2.out HNt2.out rfl (by decide) HCf2.out (fun I hI => by cases hI));go_wp2_with fail;((with_reducible refine HCk.out.mono ?_); rintro e w3 ⟨⟨q, rfl, hq⟩, hb3⟩)
 have hqt : q = true := hq.2 ex_chk;subst hqt;have HB3 := hid (below_then HB2.out hb3);clear hb3 hq HCk b0 b1 b2 b3 d0 d1 d2 d3 d4 d5 d6 d7;go_wp2_with fail;go_ret;exact ⟨rfl, HB3.out⟩
end
end Go.Proofs.YtkhmngljpfibcaaGreatDoor
