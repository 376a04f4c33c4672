/- great, Great, awake of the statements: what a call returns. -/
import Derived.Test.YtkhmngljpfibcaaGreatDoorPUu
import Derived.Test.YtkhmngljpfibcaaGreatDoorPQt
import Derived.Test.YtkhmngljpfibcaaGreatDoorPQg
namespace Go.Proofs.YtkhmngljpfibcaaGreatDoor
set_option maxRecDepth 100000
set_option maxHeartbeats 12800000
open Go.Lib (hid)
open Go.RowKit

theorem lin_vals {w : World} {A : Option Addr} {LL : List (List Int)} (h : LIn w A LL) : ∃ UL : List Value, UL.length = LL.length ∧ (∀ (j : Nat) (u : Value) (s : List Int), UL[j]? = some u → LL[j]? = some s → SlIn w u s) ∧ ∀ (j : Nat) (u : Value), UL[j]? = some u → ∃ ad, A = some ad ∧ w.cell? (ad.add j) = some u := by
 have hall : ∀ j, ∃ u : Value, ∀ s, LL[j]? = some s → SlIn w u s ∧ ∃ ad, A = some ad ∧ w.cell? (ad.add j) = some u := fun j => by
  by_cases hj : j < LL.length
  · obtain ⟨ad, e, _, u, hu, hs⟩ := h j hj;exact ⟨u, fun s hs' => by rw [List.getElem?_eq_getElem hj] at hs'; cases hs'; exact ⟨hs, ad, e, hu⟩⟩
  · exact ⟨.bool false, fun s hs => by rw [List.getElem?_eq_none (by omega)] at hs; cases hs⟩
 refine ⟨(List.range LL.length).map fun j => Classical.choose (hall j), by simp, fun j u s hu hs => ?_, fun j u hu => ?_⟩
 · have hj := (List.getElem?_eq_some_iff.1 hs).1;rw [List.getElem?_map, List.getElem?_range hj] at hu;have e : Classical.choose (hall j) = u := by simpa using hu
   rw [← e];exact (Classical.choose_spec (hall j) s hs).1
 · have hj : j < LL.length := by have := (List.getElem?_eq_some_iff.1 hu).1; simpa using this
   rw [List.getElem?_map, List.getElem?_range hj] at hu;have e : Classical.choose (hall j) = u := by simpa using hu
   rw [← e];exact (Classical.choose_spec (hall j) LL[j] (List.getElem?_eq_getElem hj)).2
theorem step_append_lin {P : Program} {w : World} {ops : Array Oper} {o : Oper} {a : Act} {K : Act → World → Prop} {Q : Exit → Act → World → Prop} {E : Prop} (hgd : o.guard = none) (s x : Operand) (t : TypeId)
 (ho : o.op = .call { callee := .builtin .append, args := #[s, x], argTypes := #[t, t] })
 (base : Nat) (e : TypeId) (i : TypeInfo) (z : Value) (bytes : Nat) (ht : P.underlying t = some (.slice e)) (hi : P.info? e = some i) (hz : i.zero = some z)
 (hsize : i.size = 1) (hby : i.bytes = bytes) (hzs : z.cells.size = 1)
 (v : Value) (n : Nat) (xs : List Value) (hs : a.eval s = v) (hown : w.ownsRow base e 1 v n xs)
 (A : Option Addr) (m c : Nat) (UL : List Value) (hx : a.eval x = .slice A m c) (hr : ∀ (j : Nat) (u : Value), UL[j]? = some u → ∃ ad, A = some ad ∧ w.cell? (ad.add j) = some u) (hone : ∀ u ∈ UL, u.oneCell' = true) (hm : UL.length = m)
 (h63 : n + m ≤ maxLen) (hbytes : (n + m) * bytes ≤ 140737488355328) (hbase : base ≤ w.heap.size)
 (h : ∀ v' w', w'.ownsRow base e 1 v' (n + m) (xs ++ UL) → w.grownBy w' v.ownBlock → K (a.put o.dst v') w') :
 if Region.wanted o (yielded ops a.tmps) = true then Oper.wp P o a w K Q else E := by
 have hw : Region.wanted o (yielded ops a.tmps) = true := by simp [Region.wanted, hgd]
 rw [if_pos hw];cases A with
 | some ad => exact wp_append_own w s x t ho base e i z 1 bytes ht hi hz hsize hby hzs (by decide) v n xs hs hown ad m c UL hx (by omega) (fun j u hu => by obtain ⟨ad', e', hc⟩ := hr j u hu; cases e'; exact hc) hone h63 hbytes hbase fun v' w' h2 h3 _ => h v' w' h2 h3
 | none =>
  have hM : UL = [] := by
   cases UL with
   | nil => rfl
   | cons y M => obtain ⟨ad, e, _⟩ := hr 0 y rfl; cases e
  subst hM;obtain rfl : m = 0 := hm.symm;unfold Oper.wp execOp;simp only [ho, resolve, invoke, builtin, Sem.run_bind, Sem.run_pure, Result.andThen_ok, List.map_toArray, List.map_cons, List.map_nil, hs, hx, run_append_nils ht hi hown c];exact h v w (by simpa using hown) ⟨rfl, rfl, rfl, Nat.le_refl _, fun _ _ _ => rfl⟩
theorem RwL.app {w0 w' : World} {B : Nat} {v' : Value} {L M : List (List Int)} {SL UL : List Value} (h2 : SL.length = L.length) (h3 : ∀ (j : Nat) (u : Value) (s : List Int), SL[j]? = some u → L[j]? = some s → SlIn w0 u s) (g2 : UL.length = M.length) (g3 : ∀ (j : Nat) (u : Value) (s : List Int), UL[j]? = some u → M[j]? = some s → SlIn w0 u s) (ho : w'.ownsRow B 27 1 v' (L.length + M.length) (SL ++ UL)) : RwL w0 w' B v' (L ++ M) := by
 refine ⟨SL ++ UL, by rw [List.length_append]; exact ho, by simp [h2, g2], fun j x t hx ht => ?_⟩;rcases Nat.lt_or_ge j SL.length with hl | hl
 · rw [List.getElem?_append_left hl] at hx;rw [List.getElem?_append_left (by omega)] at ht;exact h3 j x t hx ht
 · rw [List.getElem?_append_right hl] at hx;rw [List.getElem?_append_right (by omega), ← h2] at ht;exact g3 _ x t hx ht
theorem rowInfo4 : (Tryz.prog.info? 27).map (fun i => (i.zero, i.size, i.bytes)) = some (some (.slice none 0 0), 1, 24) := by kernel_rfl
def grtB (m : Nat) (R P : List Int) (K : List (List Int)) (V : List Mv) (S X : List (List Int)) : Bool :=
 decide (m < R.length) || (decide (m < P.length) || (decide (m < K.length) || (decide (m < V.length) || (decide (m < S.length) || (decide (m < X.length) || (K ++ S ++ X).any (fun l => decide (m < l.length)))))))
theorem grt_no {m : Nat} {R P : List Int} {K : List (List Int)} {V : List Mv} {S X : List (List Int)} (h : grtB m R P K V S X = false) : R.length ≤ m ∧ P.length ≤ m ∧ K.length ≤ m ∧ V.length ≤ m ∧ S.length ≤ m ∧ X.length ≤ m ∧ (∀ l ∈ K, l.length ≤ m) ∧ (∀ l ∈ S, l.length ≤ m) ∧ ∀ l ∈ X, l.length ≤ m := by
 unfold grtB at h;simp only [Bool.or_eq_false_iff, decide_eq_false_iff_not, Nat.not_lt, List.any_eq_false, List.mem_append, decide_eq_true_eq] at h;obtain ⟨h1, h2, h3, h4, h5, h6, h7⟩ := h;exact ⟨h1, h2, h3, h4, h5, h6, fun l hl => h7 l (Or.inl (Or.inl hl)), fun l hl => h7 l (Or.inl (Or.inr hl)), fun l hl => h7 l (Or.inr hl)⟩
theorem slin_one {w : World} {u : Value} {s : List Int} (h : SlIn w u s) : u.oneCell' = true := by
 obtain ⟨A, n, c, rfl, _⟩ := h; rfl
theorem RwL.app2 {w0 : World} {L M : List (List Int)} {SL UL : List Value} (h2 : SL.length = L.length) (h3 : ∀ (j : Nat) (u : Value) (s : List Int), SL[j]? = some u → L[j]? = some s → SlIn w0 u s) (g3 : ∀ (j : Nat) (u : Value) (s : List Int), UL[j]? = some u → M[j]? = some s → SlIn w0 u s) (j : Nat) (u : Value) (s : List Int) (hu : (SL ++ UL)[j]? = some u) (hs : (L ++ M)[j]? = some s) : SlIn w0 u s := by
 rcases Nat.lt_or_ge j SL.length with hl | hl
 · rw [List.getElem?_append_left hl] at hu;rw [List.getElem?_append_left (by omega)] at hs;exact h3 j u s hu hs
 · rw [List.getElem?_append_right hl] at hu;rw [List.getElem?_append_right (by omega), ← h2] at hs;exact g3 _ u s hu hs
structure CfL (w : World) (Ar : Option Addr) (nr : Nat) (R : List Int) (Ap : Option Addr) (np : Nat) (P : List Int) (Ak : Option Addr) (nk : Nat) (K : List (List Int)) (Av : Option Addr) (nv : Nat) (V : List Mv) (As : Option Addr) (ns : Nat) (S : List (List Int)) (Aw : Option Addr) (nw : Nat) (X : List (List Int)) : Prop where
 r : ZIn w Ar R
 rl : R.length = nr
 p : ZIn w Ap P
 pl : P.length = np
 k : LIn w Ak K
 kl : K.length = nk
 v : Rd mvC 3 w Av V
 vl : V.length = nv
 s : LIn w As S
 sl : S.length = ns
 x : LIn w Aw X
 xl : X.length = nw
theorem CfL.below {w w' : World} {Ar : Option Addr} {nr : Nat} {R : List Int} {Ap : Option Addr} {np : Nat} {P : List Int} {Ak : Option Addr} {nk : Nat} {K : List (List Int)} {Av : Option Addr} {nv : Nat} {V : List Mv} {As : Option Addr} {ns : Nat} {S : List (List Int)} {Aw : Option Addr} {nw : Nat} {X : List (List Int)} (h : CfL w Ar nr R Ap np P Ak nk K Av nv V As ns S Aw nw X) (hb : Below w.heap.size w w') : CfL w' Ar nr R Ap np P Ak nk K Av nv V As ns S Aw nw X :=
 ⟨h.r.below hb, h.rl, h.p.below hb, h.pl, h.k.below hb, h.kl, h.v.below hb, h.vl, h.s.below hb, h.sl, h.x.below hb, h.xl⟩
theorem CfL.m {w : World} {Ar : Option Addr} {nr : Nat} {R : List Int} {Ap : Option Addr} {np : Nat} {P : List Int} {Ak : Option Addr} {nk : Nat} {K : List (List Int)} {Av : Option Addr} {nv : Nat} {V : List Mv} {As : Option Addr} {ns : Nat} {S : List (List Int)} {Aw : Option Addr} {nw : Nat} {X : List (List Int)} (h : CfL w Ar nr R Ap np P Ak nk K Av nv V As ns S Aw nw X) (h1 : nr ≤ 1000) (h2 : np ≤ 1000) (h3 : nk ≤ 1000) (h4 : nv ≤ 1000) (h5 : ns ≤ 1000) (h6 : nw ≤ 1000) : CfM w Ar nr R Ap np P Ak nk K Av nv V As ns S Aw nw X :=
 ⟨h.r, h.rl, by omega, h.p, h.pl, by omega, h.k, h.kl, by omega, h.v, h.vl, by omega, h.s, h.sl, by omega, h.x, h.xl, by omega⟩
theorem great29_any (cl cn : Int) (Ar : Option Addr) (nr cr : Nat) (R : List Int) (Ap : Option Addr) (np cp : Nat) (P : List Int) (Ak : Option Addr) (nk ck : Nat) (K : List (List Int)) (Av : Option Addr) (nv cv : Nat) (V : List Mv) (As : Option Addr) (ns cs : Nat) (S : List (List Int)) (Aw : Option Addr) (nw cw : Nat) (X : List (List Int)) (m : Nat) (w : World) (hC : CfL w Ar nr R Ap np P Ak nk K Av nv V As ns S Aw nw X) (hm : m ≤ 1000) :
 Calls Tryz.prog 39 #[.agg #[.int .i64 cl, .int .i64 cn, .slice Ar nr cr, .slice Ap np cp, .slice Ak nk ck, .slice Av nv cv, .slice As ns cs, .slice Aw nw cw], .int .i64 (m : Int)] w fun e w' => e = .returned (.bool (grtB m R P K V S X)) ∧ Below w.heap.size w w' := by
 have HB0 := hid (below_alloc w (.cells #[.int .i64 cl, .int .i64 cn, .slice Ar nr cr, .slice Ap np cp, .slice Ak nk ck, .slice Av nv cv, .slice As ns cs, .slice Aw nw cw] 31));have HCb0 := hid (show CtB _ w.heap.size #[.int .i64 cl, .int .i64 cn, .slice Ar nr cr, .slice Ap np cp, .slice Ak nk ck, .slice Av nv cv, .slice As ns cs, .slice Aw nw cw] from heap_alloc_new w _);have HC0 := hid (hC.below HB0.out);have HQ := hid (show grtB m R P K V S X = (decide (m < nr) || (decide (m < np) || (decide (m < nk) || (decide (m < nv) || (decide (m < ns) || (decide (m < nw) || (K ++ S ++ X).any (fun l => decide (m < l.length)))))))) by unfold grtB; rw [hC.rl, hC.pl, hC.kl, hC.vl, hC.sl, hC.xl]);generalize grtB m R P K V S X = Q at *;clear hC;by_cases h1 : m < nr
 · have q1 : decide ((m : Int) < (nr : Int)) = true := by simp; omega
   have p1 : decide (m < nr) = true := by simpa using h1
   have HV := hid (show Q = true by rw [HQ.out, p1]; simp);clear h1;obtain ⟨d0, d1, d2, d3, d4, d5, d6, d7⟩ := HCb0.out.cells;go_enter Tryz.func39, Tryz.ntmps39;go_wp2_with fail;go_ret;exact ⟨ret_bool HV.out.symm, HB0.out⟩
 have q1 : decide ((m : Int) < (nr : Int)) = false := by simp; omega
 have p1 : decide (m < nr) = false := by simpa using h1
 rw [p1, Bool.false_or] at HQ;by_cases h2 : m < np
 · have q2 : decide ((m : Int) < (np : Int)) = true := by simp; omega
   have p2 : decide (m < np) = true := by simpa using h2
   have HV := hid (show Q = true by rw [HQ.out, p2]; simp);clear h2;obtain ⟨d0, d1, d2, d3, d4, d5, d6, d7⟩ := HCb0.out.cells;go_enter Tryz.func39, Tryz.ntmps39;go_wp2_with fail;go_ret;exact ⟨ret_bool HV.out.symm, HB0.out⟩
 have q2 : decide ((m : Int) < (np : Int)) = false := by simp; omega
 have p2 : decide (m < np) = false := by simpa using h2
 rw [p2, Bool.false_or] at HQ;by_cases h3 : m < nk
 · have q3 : decide ((m : Int) < (nk : Int)) = true := by simp; omega
   have p3 : decide (m < nk) = true := by simpa using h3
   have HV := hid (show Q = true by rw [HQ.out, p3]; simp);clear h3;obtain ⟨d0, d1, d2, d3, d4, d5, d6, d7⟩ := HCb0.out.cells;go_enter Tryz.func39, Tryz.ntmps39;go_wp2_with fail;go_ret;exact ⟨ret_bool HV.out.symm, HB0.out⟩
 have q3 : decide ((m : Int) < (nk : Int)) = false := by simp; omega
 have p3 : decide (m < nk) = false := by simpa using h3
 rw [p3, Bool.false_or] at HQ;by_cases h4 : m < nv
 · have q4 : decide ((m : Int) < (nv : Int)) = true := by simp; omega
   have p4 : decide (m < nv) = true := by simpa using h4
   have HV := hid (show Q = true by rw [HQ.out, p4]; simp);clear h4;obtain ⟨d0, d1, d2, d3, d4, d5, d6, d7⟩ := HCb0.out.cells;go_enter Tryz.func39, Tryz.ntmps39;go_wp2_with fail;go_ret;exact ⟨ret_bool HV.out.symm, HB0.out⟩
 have q4 : decide ((m : Int) < (nv : Int)) = false := by simp; omega
 have p4 : decide (m < nv) = false := by simpa using h4
 rw [p4, Bool.false_or] at HQ;by_cases h5 : m < ns
 · have q5 : decide ((m : Int) < (ns : Int)) = true := by simp; omega
   have p5 : decide (m < ns) = true := by simpa using h5
   have HV := hid (show Q = true by rw [HQ.out, p5]; simp);clear h5;obtain ⟨d0, d1, d2, d3, d4, d5, d6, d7⟩ := HCb0.out.cells;go_enter Tryz.func39, Tryz.ntmps39;go_wp2_with fail;go_ret;exact ⟨ret_bool HV.out.symm, HB0.out⟩
 have q5 : decide ((m : Int) < (ns : Int)) = false := by simp; omega
 have p5 : decide (m < ns) = false := by simpa using h5
 rw [p5, Bool.false_or] at HQ;by_cases h6 : m < nw
 · have q6 : decide ((m : Int) < (nw : Int)) = true := by simp; omega
   have p6 : decide (m < nw) = true := by simpa using h6
   have HV := hid (show Q = true by rw [HQ.out, p6]; simp);clear h6;obtain ⟨d0, d1, d2, d3, d4, d5, d6, d7⟩ := HCb0.out.cells;go_enter Tryz.func39, Tryz.ntmps39;go_wp2_with fail;go_ret;exact ⟨ret_bool HV.out.symm, HB0.out⟩
 have q6 : decide ((m : Int) < (nw : Int)) = false := by simp; omega
 have p6 : decide (m < nw) = false := by simpa using h6
 rw [p6, Bool.false_or] at HQ;have hk1 : nk ≤ 1000 := by omega
 have hs1 : ns ≤ 1000 := by omega
 have hw1 : nw ≤ 1000 := by omega
 obtain ⟨d0, d1, d2, d3, d4, d5, d6, d7⟩ := HCb0.out.cells;go_enter Tryz.func39, Tryz.ntmps39;go_wp2_with fail;generalize w.alloc _ = w0 at *;clear d0 d1 d2 d3 d4 d5 d6 d7 q1 q2 q3 q4 q5 q6 p1 p2 p3 p4 p5 p6 h1 h2 h3 h4 h5 h6;obtain ⟨d0, d1, d2, d3, d4, d5, d6, d7⟩ := HCb0.out.cells;have hbd : Below w0.heap.size w0 w0.drew := (Below.refl _ _).drew;have HD0 := hid hbd;have HCbd := hid (HCb0.out.below hbd);have hS0 := cs3 hbd d4 d6 d7;clear hbd d0 d1 d2 d3 d4 d5 d6 d7;obtain ⟨d0, d1, d2, d3, d4, d5, d6, d7⟩ := HCbd.out.cells;obtain ⟨UK, uk1, uk2, uk3⟩ := lin_vals HC0.out.k;obtain ⟨US, us1, us2, us3⟩ := lin_vals HC0.out.s;obtain ⟨UX, ux1, ux2, ux3⟩ := lin_vals HC0.out.x;have UKf := hid (And.intro uk1 (And.intro uk2 uk3));have USf := hid (And.intro us1 (And.intro us2 us3));have UXf := hid (And.intro ux1 (And.intro ux2 ux3));have HLUKf := hid (show UK.length = nk by rw [uk1]; exact HC0.out.kl);have HLUSf := hid (show US.length = ns by rw [us1]; exact HC0.out.sl);have HLUXf := hid (show UX.length = nw by rw [ux1]; exact HC0.out.xl);obtain ⟨i1, hj, hz0, hz1, hz2⟩ := info_parts rowInfo4;have HI := hid (And.intro hj (And.intro hz0 (And.intro hz1 hz2)));clear hj hz0 hz1 hz2 uk1 uk2 uk3 us1 us2 us3 ux1 ux2 ux3;refine rh3 hS0 (fun hHeld => ?_);clear hS0;generalize w0.drew = wd at *;refine tkH 1 ?_;(try go_simp);refine tkH 2 ?_;(try go_simp);refine tkH 4 ?_;(try go_simp);refine tkH 5 ?_;(try go_simp);refine tkH 7 ?_;(try go_simp);refine tkH 8 ?_;(try go_simp);refine tkR 0 (fun K9 hK => ?_);go_simp;have HBd1 := hid (below_alloc wd (.cells #[] 27));have HO1 := hid (World.ownsRow_lit (base := wd.heap.size) (e := 27) (size := 1) wd #[] 0 (Nat.le_refl _) (by unfold maxLen; omega) rfl);refine hK.out _ _ ⟨cell_stays HBd1.out d4, cell_stays HBd1.out d6, cell_stays HBd1.out d7⟩ (fun hHeld => ?_);clear hK K9;try go_simp
 generalize hw1 : wd.alloc (.cells #[] 27) = w1 at *;clear hw1;refine tkR 3 (fun K9 hK => ?_);refine step_append_lin rfl _ _ 28 rfl wd.heap.size 27 i1 (.slice none 0 0) 24 Tryz.underlying28 HI.out.1 HI.out.2.1 HI.out.2.2.1 HI.out.2.2.2 rfl (.slice (some ⟨wd.heap.size, 0, none⟩) 0 0) 0 _ rfl HO1.out Ak nk ck UK rfl (fun j u hu => by obtain ⟨ad, e, hc⟩ := UKf.out.2.2 j u hu; exact ⟨ad, e, cell_stays (HD0.out.trans (HBd1.out.mono HD0.out.size)) hc⟩) (fun u hu => by obtain ⟨j, hj, rfl⟩ := List.getElem_of_mem hu; exact slin_one (UKf.out.2.1 j _ _ (List.getElem?_eq_getElem hj) (List.getElem?_eq_getElem (by rw [← UKf.out.1]; exact hj)))) HLUKf.out ?c3 ?c4 ?c5 ?_;case c3 => unfold maxLen; omega
 case c4 => omega
 case c5 => exact HBd1.out.size
 intro u2 w2 hown hgrow;try rw [Nat.zero_add] at hown
 obtain ⟨B2, cB2, eB, _⟩ := row_slice hown;subst eB;have HBd2 := hid (HBd1.out.grown hgrow HBd1.out.size (fun x hx => (HO1.out.lt x hx).1));have HO2 := hid hown;clear hown hgrow HO1;refine hK.out _ _ ⟨cell_stays HBd2.out d4, cell_stays HBd2.out d6, cell_stays HBd2.out d7⟩ (fun hHeld => ?_);clear hK K9;try go_simp
 refine tkR 6 (fun K9 hK => ?_);refine step_append_lin rfl _ _ 28 rfl wd.heap.size 27 i1 (.slice none 0 0) 24 Tryz.underlying28 HI.out.1 HI.out.2.1 HI.out.2.2.1 HI.out.2.2.2 rfl (.slice B2 nk cB2) nk _ rfl HO2.out As ns cs US rfl (fun j u hu => by obtain ⟨ad, e, hc⟩ := USf.out.2.2 j u hu; exact ⟨ad, e, cell_stays (HD0.out.trans (HBd2.out.mono HD0.out.size)) hc⟩) (fun u hu => by obtain ⟨j, hj, rfl⟩ := List.getElem_of_mem hu; exact slin_one (USf.out.2.1 j _ _ (List.getElem?_eq_getElem hj) (List.getElem?_eq_getElem (by rw [← USf.out.1]; exact hj)))) HLUSf.out ?c3 ?c4 ?c5 ?_;case c3 => unfold maxLen; omega
 case c4 => omega
 case c5 => exact HBd2.out.size
 intro u3 w3 hown hgrow;try rw [Nat.zero_add] at hown
 obtain ⟨B3, cB3, eB, _⟩ := row_slice hown;subst eB;have HBd3 := hid (HBd2.out.grown hgrow HBd2.out.size (fun x hx => (HO2.out.lt x hx).1));have HO3 := hid hown;clear hown hgrow HO2;refine hK.out _ _ ⟨cell_stays HBd3.out d4, cell_stays HBd3.out d6, cell_stays HBd3.out d7⟩ (fun hHeld => ?_);clear hK K9;try go_simp
 refine tkR 9 (fun K9 hK => ?_);refine step_append_lin rfl _ _ 28 rfl wd.heap.size 27 i1 (.slice none 0 0) 24 Tryz.underlying28 HI.out.1 HI.out.2.1 HI.out.2.2.1 HI.out.2.2.2 rfl (.slice B3 (nk + ns) cB3) (nk + ns) _ rfl HO3.out Aw nw cw UX rfl (fun j u hu => by obtain ⟨ad, e, hc⟩ := UXf.out.2.2 j u hu; exact ⟨ad, e, cell_stays (HD0.out.trans (HBd3.out.mono HD0.out.size)) hc⟩) (fun u hu => by obtain ⟨j, hj, rfl⟩ := List.getElem_of_mem hu; exact slin_one (UXf.out.2.1 j _ _ (List.getElem?_eq_getElem hj) (List.getElem?_eq_getElem (by rw [← UXf.out.1]; exact hj)))) HLUXf.out ?c3 ?c4 ?c5 ?_;case c3 => unfold maxLen; omega
 case c4 => omega
 case c5 => exact HBd3.out.size
 intro u4 w4 hown hgrow;try rw [Nat.zero_add] at hown
 obtain ⟨B4, cB4, eB, _⟩ := row_slice hown;subst eB;have HBd4 := hid (HBd3.out.grown hgrow HBd3.out.size (fun x hx => (HO3.out.lt x hx).1));have HO4 := hid hown;clear hown hgrow HO3;refine hK.out _ _ ⟨cell_stays HBd4.out d4, cell_stays HBd4.out d6, cell_stays HBd4.out d7⟩ (fun hHeld => ?_);clear hK K9;try go_simp
 refine tkH 10 ?_;(try go_simp);refine wpAnyH_done (by kernel_rfl) ?_ _;clear hHeld d0 d1 d2 d3 d4 d5 d6 d7;have hD4 : Below w0.heap.size w0 w4 := HD0.out.trans (HBd4.out.mono HD0.out.size);have hR1 := RwL.app (w0 := w0) (w' := w4) (B := wd.heap.size) (v' := .slice B4 (nk + ns + nw) cB4) (L := K ++ S) (M := X) (SL := UK ++ US) (UL := UX) (by rw [List.length_append, List.length_append, UKf.out.1, USf.out.1]) (fun j u s hu hs => (RwL.app2 UKf.out.1 UKf.out.2.1 USf.out.2.1) j u s hu hs) UXf.out.1 UXf.out.2.1 (by
  have h9 := HO4.out;rw [List.length_append, HC0.out.kl, HC0.out.sl, HC0.out.xl];simpa using h9)
 obtain ⟨Al, cl0, hv, hLi, hc1, hc2⟩ := hR1.lin hD4;have hlen : (K ++ S ++ X).length = nk + ns + nw := by rw [List.length_append, List.length_append, HC0.out.kl, HC0.out.sl, HC0.out.xl]
 have HLi := hid hLi;have HLl := hid hlen;have HD := hid hD4;rw [hv, hlen];clear hR1 hv hLi hc1 hc2 hlen hD4 HBd1 HBd2 HBd3 HBd4 HO4 HCbd;generalize K ++ S ++ X = LL at *;have hns : nk + ns + nw ≤ 3000 := by omega
 generalize nk + ns + nw = nl at *;have HBl4 := hid (Below.refl w4.heap.size w4);go_wp2_with fail;go_loopg [6] (nl) (fun g iv wr => ∃ i : Nat, i + g = nl ∧ iv = .int .i64 (i : Int) ∧ (LL.take i).any (fun l => decide (m < l.length)) = false ∧ Below w4.heap.size w4 wr);case atStart => exact ⟨0, by omega, rfl, by simp, HBl4.out⟩
 case round =>
  clear HBl4;obtain ⟨i, hi, rfl, hp, hB⟩ := hrel;have HK := hid hi;have HP := hid hp;have HBl := hid hB;have hle : i ≤ nl := by omega
  have HLr := hid (HLi.out.below hB);clear hi hp hB;by_cases hlt : i < nl
  · have hlt' : i < LL.length := by rw [HLl.out]; exact hlt
    obtain ⟨al, rfl, hpa, u, q0, Ax, nx, cx, rfl, zx, hx1, hx2, hx3⟩ := HLr.out i hlt';have HTk := hid (any_step (fun l => decide (m < l.length)) hlt');have HYe := hid (fun (hh : decide (m < LL[i].length) = true) => show LL.any (fun l => decide (m < l.length)) = true from List.any_eq_true.2 ⟨_, List.getElem_mem hlt', hh⟩);rw [hx1] at HYe HTk;clear zx hlt' hx1;by_cases hm9 : m < nx
    · have q1 : decide ((m : Int) < (nx : Int)) = true := by simp; omega
      have q2 : decide (m < nx) = true := by simpa using hm9
      have HV := hid (show Q = true by rw [HQ.out]; exact HYe.out q2);clear hm9 HYe HTk;go_wp2_with fail;go_ret;exact ⟨ret_bool HV.out.symm, HB0.out.trans ((HD.out.trans (HBl.out.mono HD.out.size)).mono HB0.out.size)⟩
    · have q1 : decide ((m : Int) < (nx : Int)) = false := by simp; omega
      have q2 : decide (m < nx) = false := by simpa using hm9
      have HV := hid (show (LL.take (i + 1)).any (fun l => decide (m < l.length)) = false by rw [HTk.out, HP.out, q2]; rfl);clear hm9 HYe HTk;go_wp2_with fail;go_roundg (gk - 1);case measure => have := HK.out; omega
      case rel => exact ⟨i + 1, by have := HK.out; omega, by go_num, HV.out, HBl.out⟩
  · have HV := hid (show Q = false by
     rw [HQ.out];have h1 := HP.out;rwa [List.take_of_length_le (by rw [HLl.out]; omega)] at h1)
    go_wp2_with fail;go_ret;exact ⟨ret_bool HV.out.symm, HB0.out.trans ((HD.out.trans (HBl.out.mono HD.out.size)).mono HB0.out.size)⟩
end Go.Proofs.YtkhmngljpfibcaaGreatDoor
