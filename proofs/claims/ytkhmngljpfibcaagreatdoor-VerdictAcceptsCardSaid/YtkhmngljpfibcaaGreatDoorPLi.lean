import Derived.Test.YtkhmngljpfibcaaGreatDoorPSw
import Derived.Test.YtkhmngljpfibcaaGreatDoorPSz
namespace Go.Proofs.YtkhmngljpfibcaaGreatDoor
set_option maxRecDepth 100000
set_option maxHeartbeats 25600000
open Go.Lib (hid)
open Go.RowKit

theorem claim_any (q : Bool) (a b : Int) (w : World) : Calls Tryz.prog 37 #[.bool q, .int .i64 a, .int .i64 b] w fun e w' => e = .returned (.int .i64 (if q then a else b)) ∧ Below w.heap.size w w' := by
 cases q with
 | true =>
  go_enter Tryz.func37, Tryz.ntmps37;go_wp2_with fail;go_ret;exact ⟨rfl, Below.refl _ _⟩
 | false =>
  go_enter Tryz.func37, Tryz.ntmps37;go_wp2_with fail;go_ret;exact ⟨rfl, Below.refl _ _⟩
def AcS (N : Nt) (cl cn : Int) (R P : List Int) (K : List (List Int)) (V : List Mv) (S X : List (List Int)) : Prop :=
 ChkP N cl cn R P K V S X ∧ V.length ≤ 20000 ∧ S.length ≤ 1000 ∧ X.length ≤ 1000 ∧ ∀ I ∈ S, I.length ≤ 1000000
def AcB (w wx : World) (N : Nt) (A : Option Addr) (n c cb : Nat) : Prop := Below w.heap.size w wx ∧ NB wx w.heap.size N.pl A n c N.src N.snk ∧ w.heap.size < cb ∧ ∃ a0 a1 a2 a3 a4 a5 a6 a7, CtB wx cb #[a0, a1, a2, a3, a4, a5, a6, a7]
def AcC (N : Nt) (wx : World) (cb : Nat) (q : Bool) (a b k : Int) (E : Int → Prop) : Prop := k ≠ 0 ∨ (k = 0 ∧ ∃ (cl cn : Int) (Ar : Option Addr) (nr cr : Nat) (R : List Int) (Ap : Option Addr) (np cp : Nat) (P : List Int) (Ak : Option Addr) (nk ck : Nat) (K : List (List Int)) (Av : Option Addr) (nv cv : Nat) (V : List Mv) (As : Option Addr) (ns cs : Nat) (S : List (List Int)) (Aw : Option Addr) (nw cw : Nat) (X : List (List Int)), CtB wx cb #[.int .i64 cl, .int .i64 cn, .slice Ar nr cr, .slice Ap np cp, .slice Ak nk ck, .slice Av nv cv, .slice As ns cs, .slice Aw nw cw] ∧ CfL wx Ar nr R Ap np P Ak nk K Av nv V As ns S Aw nw X ∧ cl = (if q then a else b) ∧ E cn ∧ AcS N cl cn R P K V S X)
theorem AcB.below {w wx w' : World} {N : Nt} {A : Option Addr} {n c cb : Nat} (h : AcB w wx N A n c cb) (hb : Below wx.heap.size wx w') : AcB w w' N A n c cb := by
 obtain ⟨h1, h2, h3, a0, a1, a2, a3, a4, a5, a6, a7, h4⟩ := h;exact ⟨below_then h1 hb, h2.below hb, h3, a0, a1, a2, a3, a4, a5, a6, a7, h4.below hb⟩
theorem nb_chg {w w2 : World} {b : Nat} {pl : Int} {A : Option Addr} {n c : Nat} {src snk : Int} (h : NB w b pl A n c src snk) {k : Nat} (hg : w.grownBy w2 (some k)) (hne : b ≠ k) : NB w2 b pl A n c src snk :=
 (hg.block b h.lt (fun e => hne (Option.some.inj e))).trans h
theorem check_ok (N : Nt) (A : Option Addr) (n c : Nat) (cl cn : Int) (Ar : Option Addr) (nr cr : Nat) (R : List Int) (Ap : Option Addr) (np cp : Nat) (P : List Int) (Ak : Option Addr) (nk ck : Nat) (K : List (List Int)) (Av : Option Addr) (nv cv : Nat) (V : List Mv) (As : Option Addr) (ns cs : Nat) (S : List (List Int)) (Aw : Option Addr) (nw cw : Nat) (X : List (List Int)) (w : World) (ht : Tb w) (h : NtIn w A N) (hn : N.tr.length = n) (hn2 : n ≤ 9223372036854775806) (hC : CfL w Ar nr R Ap np P Ak nk K Av nv V As ns S Aw nw X) (hA : AcS N cl cn R P K V S X) :
 Calls Tryz.prog 36 #[.agg #[.int .i64 N.pl, .slice A n c, .int .i64 N.src, .int .i64 N.snk], .agg #[.int .i64 cl, .int .i64 cn, .slice Ar nr cr, .slice Ap np cp, .slice Ak nk ck, .slice Av nv cv, .slice As ns cs, .slice Aw nw cw]] w fun e w' => e = .returned (.bool true) ∧ Below w.heap.size w w' := by
 obtain ⟨h1, h2, h3, h4, h5⟩ := hA;have h8 := h1;obtain ⟨_, k1, k2, k3, _⟩ := h8;have e1 := hC.rl;have e2 := hC.pl;have e3 := hC.kl;have e4 := hC.vl;have e5 := hC.sl;have e6 := hC.xl;refine (vcheck_any N A n c cl cn Ar nr cr R Ap np cp P Ak nk ck K Av nv cv V As ns cs S Aw nw cw X w ht h hn hn2 ⟨hC.r, hC.rl, by omega, hC.p, hC.pl, by omega, hC.k, hC.kl, by omega, hC.v, hC.vl, by omega, hC.s, hC.sl, by omega, hC.x, hC.xl, by omega⟩ (fun I hI ni e => by have := h5 I hI; omega)).mono fun e w' hp => ?_
 obtain ⟨⟨q, he, hq⟩, hb⟩ := hp;exact ⟨by rw [he, hq.2 h1], hb⟩
theorem chg_below {w w' w2 : World} (hb : Below w.heap.size w w') (hc : Chg w' w2) : Chg w w2 ∨ Below w.heap.size w w2 := by
 rcases hc with rfl | ⟨b, vs, hcb, hg⟩
 · exact .inr hb
 · by_cases hlt : b < w.heap.size
   · exact .inl (.inr ⟨b, vs, by unfold CtB; rw [← hb.block b hlt]; exact hcb, (grown_of hb (some b)).trans hg⟩)
   · exact .inr (hb.grown hg hb.size (fun k hk => by cases hk; omega))
theorem StC.below {w w' : World} {Ar : Option Addr} {nr : Nat} {R : List Int} {Ap : Option Addr} {np : Nat} {P : List Int} {Ak : Option Addr} {nk : Nat} {K : List (List Int)} {Av : Option Addr} {nv : Nat} {V : List Mv} {As : Option Addr} {ns : Nat} {S : List (List Int)} {Aw : Option Addr} {nw : Nat} {X : List (List Int)} (h : StC w Ar nr R Ap np P Ak nk K Av nv V As ns S Aw nw X) (hb : Below w.heap.size w w') : StC w' Ar nr R Ap np P Ak nk K Av nv V As ns S Aw nw X := by
 have z := fun w2 hc => chg_below (w2 := w2) hb hc
 refine ⟨fun w2 hc => ?_, h.rl, fun w2 hc => ?_, h.pl, fun w2 hc => ?_, h.kl, fun w2 hc => ?_, h.vl, fun w2 hc => ?_, h.sl, fun w2 hc => ?_, h.xl⟩
 · exact (z w2 hc).elim (h.r w2) (fun g => (h.r w (.inl rfl)).below g)
 · exact (z w2 hc).elim (h.p w2) (fun g => (h.p w (.inl rfl)).below g)
 · exact (z w2 hc).elim (h.k w2) (fun g => (h.k w (.inl rfl)).below g)
 · exact (z w2 hc).elim (h.v w2) (fun g => (h.v w (.inl rfl)).below g)
 · exact (z w2 hc).elim (h.s w2) (fun g => (h.s w (.inl rfl)).below g)
 · exact (z w2 hc).elim (h.x w2) (fun g => (h.x w (.inl rfl)).below g)
theorem bounded3_any (N : Nt) (A : Option Addr) (n c : Nat) (Ai : Option Addr) (ci lim : Nat) (w : World) (ht : Tb w) (h : NtIn w A N) (hn : N.tr.length = n) (hn2 : n ≤ 9223372036854775807) (hv : ntB N = true) (h1 : 1 ≤ lim) (h60 : lim ≤ 60) (hz : ZIn w Ai (iniM N)) (hz1 : (iniM N).length ≤ ci) (hz2 : ci ≤ 9223372036854775807) :
 Calls Tryz.prog 31 #[.agg #[.int .i64 N.pl, .slice A n c, .int .i64 N.src, .int .i64 N.snk], .slice Ai (iniM N).length ci, .int .i64 (lim : Int)] w fun e w' => Below w.heap.size w w' ∧ ∃ (q : Bool) (k : Int) (cl cn : Int) (Ar : Option Addr) (nr cr : Nat) (R : List Int) (Ap : Option Addr) (np cp : Nat) (P : List Int) (Ak : Option Addr) (nk ck : Nat) (K : List (List Int)) (Av : Option Addr) (nv cv : Nat) (V : List Mv) (As : Option Addr) (ns cs : Nat) (S : List (List Int)) (Aw : Option Addr) (nw cw : Nat) (X : List (List Int)), e = .returned (.tuple #[.bool q, .agg #[.int .i64 cl, .int .i64 cn, .slice Ar nr cr, .slice Ap np cp, .slice Ak nk ck, .slice Av nv cv, .slice As ns cs, .slice Aw nw cw], .int .i64 k]) ∧ (k ≠ 0 ∨ (k = 0 ∧ StC w' Ar nr R Ap np P Ak nk K Av nv V As ns S Aw nw X ∧ cl = (if q then 5 else 6) ∧ AcS N cl cn R P K V S X)) := by
 have hbe := beR_ini (most := (lim : Int)) hv (by omega) (by omega);rw [Int.toNat_natCast] at hbe;refine (bounded_any N A n c Ai (iniM N).length ci (iniM N) (lim : Int) w h hn hn2 hz rfl hz1 hz2 ht).mono fun e w' ⟨hb, hbd⟩ => ⟨hb, ?_⟩
 rw [hbe] at hbd;cases hgr : growT N (iniM N) lim with
 | none =>
  rw [hgr] at hbd;exact ⟨false, 13, _, _, _, _, _, [], _, _, _, [], _, _, _, [], _, _, _, [], _, _, _, [], _, _, _, [], hbd, .inl (by decide)⟩
 | some T =>
  rw [hgr] at hbd;have hTl : T.states.length ≤ 60 := by have := growT_le hgr; omega
  rcases hbd with ⟨v5, rfl, hO5, hno⟩ | ⟨fi, fd9, fg, fz, W1, W2, p9, v1, v2, hfo, rfl, hn8, hn9⟩
  · obtain ⟨A5, c5, rfl⟩ := hO5.slice;exact ⟨true, 0, 5, 0, _, _, _, [], _, _, _, [], _, _, _, T.states, _, _, _, [], _, _, _, [], _, _, _, [], rfl, .inr ⟨rfl, ⟨zst_nil, rfl, zst_nil, rfl, lst_oll hO5, rfl, rst_nil, rfl, lst_nil, rfl, lst_nil, rfl⟩, rfl, ⟨hv, by omega, by simp, by simp, clm_up.1.2 (bnd_cert (one_mk hv _) hgr (by omega) hno).1⟩, by simp, by simp, by simp, fun I hI => (by cases hI)⟩⟩
  · obtain ⟨A8, c8, hv1⟩ := hn8.slice;obtain ⟨A9, c9, hv2⟩ := hn9.slice;rw [List.length_map] at hv1 hv2;subst hv1 hv2;have hoc := om_cert (one_mk hv _) hgr (by omega) hfo;have hfit := hoc.2.1;have hw12 : W1.length ≤ 1000 ∧ W2.length ≤ 1000 := by unfold fitB at hfit; simp at hfit; omega
    exact ⟨false, 0, 6, (p9 : Int), _, _, _, W1.map Int.ofNat, _, _, _, W2.map Int.ofNat, _, _, _, [], _, _, _, [], _, _, _, [], _, _, _, [], rfl, .inr ⟨rfl, ⟨zst_ns hn8, by simp, zst_ns hn9, by simp, lst_nil, rfl, rst_nil, rfl, lst_nil, rfl, lst_nil, rfl⟩, rfl, ⟨hv, by simp, by rw [List.length_map]; exact hw12.1, by rw [List.length_map]; exact hw12.2, clm_up.2.1.2 hoc.1⟩, by simp, by simp, by simp, fun I hI => (by cases hI)⟩⟩
theorem verdictAccepts_walk (N : Nt) (A : Option Addr) (n c : Nat) (x y : Nat) (w : World) (ht : Tb w) (h : NtIn w A N) (hn : N.tr.length = n) (hn2 : n ≤ 9223372036854775807) (hx : x ≤ 255) (hy : y ≤ 255) :
 Calls Tryz.prog 7 #[.agg #[.int .i64 N.pl, .slice A n c, .int .i64 N.src, .int .i64 N.snk], .int .u8 (x : Int), .int .u8 (y : Int)] w fun e w' => e = .returned (.bool true) ∧ Below w.heap.size w w' := by
 have HB := hid (below_alloc w (.cells #[.int .i64 N.pl, .slice A n c, .int .i64 N.src, .int .i64 N.snk] 24));have Jd := hid (NB.new w N.pl A n c N.src N.snk);have H0 := hid h;have Js := hid ht;have Jn := hid hn;clear h hn ht;go_enter Tryz.func7, Tryz.ntmps7;go_wp2_with fail;generalize hw0 : w.alloc (.cells #[.int .i64 N.pl, .slice A n c, .int .i64 N.src, .int .i64 N.snk] 24) = w0 at *;clear hw0;have Ya := hid (awake_any w0 (Js.out.below HB.out));((with_reducible refine Ya.out.mono ?_); rintro e w1 ⟨rfl, hb1⟩)
 clear Ya;replace HB := hid (below_then HB.out hb1);replace Jd := hid (Jd.out.below hb1);clear hb1;have Yb := hid (great_any N A n c w1 (H0.out.below HB.out) Jn.out hn2);obtain ⟨b0, b1, b2, b3⟩ := Jd.out.cells;go_wp2_with fail;((with_reducible refine Yb.out.mono ?_); rintro e w2 ⟨b, rfl, hbn, hb2⟩)
 clear b0 b1 b2 b3;replace HB := hid (below_then HB.out hb2);replace Jd := hid (Jd.out.below hb2);clear Yb hb2;cases b with
 | true =>
  have Jt := hid HB.out;go_wp2_with fail;go_ret;exact ⟨rfl, Jt.out⟩
 | false =>
  have hn100 : n ≤ 100 := hbn rfl;clear hbn hn2;have Yc := hid (rvalid_any N A n c w2 (H0.out.below HB.out) Jn.out (by omega));obtain ⟨b0, b1, b2, b3⟩ := Jd.out.cells;go_wp2_with fail;((with_reducible refine Yc.out.mono ?_); rintro e w5 ⟨rfl, hb5⟩)
  clear b0 b1 b2 b3;replace HB := hid (below_then HB.out hb5);replace Jd := hid (Jd.out.below hb5);clear Yc hb5;obtain ⟨b0, b1, b2, b3⟩ := Jd.out.cells;cases hv : ntB N with
  | false =>
   clear hv;have Jt := hid HB.out;go_wp2_with fail;go_ret;exact ⟨rfl, Jt.out⟩
  | true =>
   have HV := hid hv;clear hv;by_cases hz : n = 0
   · subst hz;have Jt := hid HB.out;go_wp2_with fail;go_ret;exact ⟨rfl, Jt.out⟩
   · have qz : ((n : Int) == 0) = false := by simpa using hz
     have qz2 : (n == 0) = false := by simpa using hz
     have hnp : 0 < n := by omega
     obtain ⟨tt, htt9⟩ : ∃ tt, tt = x % n := ⟨_, rfl⟩;obtain ⟨l9, hl9⟩ : ∃ l9, l9 = y % 60 := ⟨_, rfl⟩;have htt : tt < n := by rw [htt9]; exact Nat.mod_lt _ hnp
     have Yd := hid (show (x : Int) % (n : Int) = (tt : Int) by rw [htt9]; rfl);have Ye := hid (show 1 + (y : Int) % 60 = ((1 + l9 : Nat) : Int) by omega);have hl93 : l9 < 60 := by omega
     clear htt9 hl9
     go_upto_region 6 with (fail)
     rw [Yd.out, Ye.out];obtain ⟨lim, hlim⟩ : ∃ lim : Nat, lim = 1 + l9 := ⟨_, rfl⟩;rw [← hlim];have hlim1 : 1 ≤ lim := by omega
     have hlim2 : lim ≤ 60 := by omega
     clear hlim Yd Ye hl93 qz qz2 b0 b1 b2 b3 hz
     go_cut [9, 10, 11] (fun s9 s10 s11 wx => ∃ (cb : Nat) (q : Bool) (k : Int), s9 = .bool q ∧ s10 = .pointer (some ⟨cb, 0, none⟩) ∧ s11 = .int .i64 k ∧ AcB w wx N A n c cb ∧ AcC N wx cb q 5 6 k (fun _ => True))
     case first =>
      have hb : Below w5.heap.size w5 w5.drew := (Below.refl _ _).drew;have hS0 : w5.drew.cell? ⟨w.heap.size, 0, none⟩ = some (.int .i64 N.pl) ∧ w5.drew.cell? ⟨w.heap.size, 1, none⟩ = some (.slice A n c) ∧ w5.drew.cell? ⟨w.heap.size, 2, none⟩ = some (.int .i64 N.src) ∧ w5.drew.cell? ⟨w.heap.size, 3, none⟩ = some (.int .i64 N.snk) := (Jd.out.below hb).cells;have Je := hid (H0.out.below (below_then HB.out hb));have HT := hid (Js.out.below (below_then HB.out hb));replace Jd := hid (Jd.out.below hb);replace HB := hid (below_then HB.out hb);refine rh4 hS0 (fun Ja => ?_);clear hS0 hb;generalize w5.drew = x0 at *;refine tkH 0 ?_;refine tkH 1 ?_;refine tkH 2 ?_;refine tkH 3 ?_;refine tkH 5 ?_;(try go_simp);refine wpAnyH_ready (rs := [4, 11]) (by kernel_rfl) (by simp) ?_;refine AllReadyH.cons rfl (fun K9 hK => ?_) (AllReadyH.cons rfl (fun K9 hK => ?_) AllReadyH.nil)
      · go_simp;((refine (rsrc_any N A n c HV.out x0).mono ?_); rintro e x1 ⟨vi, rfl, hSi⟩)
        obtain ⟨Ai, ci, rfl, hzi, hzi1, hzi2⟩ := hSi.zin;have hb := hSi.2;have Jm := hid hzi;have Ju := hid (And.intro hzi1 hzi2);clear hSi hzi hzi1 hzi2;replace HB := hid (below_then HB.out hb);replace Jd := hid (Jd.out.below hb);replace Je := hid (Je.out.below hb);replace HT := hid (HT.out.below hb);refine hK.out _ _ (ks4 hb Ja) (fun Ja => ?_);clear hK K9 hb;try go_simp
        refine wpAnyH_ready (rs := [6, 11]) (by kernel_rfl) (by simp) ?_;refine AllReadyH.cons rfl (fun K9 hK => ?_) (AllReadyH.cons rfl (fun K9 hK => ?_) AllReadyH.nil)
        · go_simp;((refine (bounded3_any N A n c Ai ci lim x1 HT.out Je.out Jn.out (by omega) HV.out hlim1 hlim2 Jm.out Ju.out.1 Ju.out.2).mono ?_); rintro e x2 ⟨hb, q, kz, cl, cn, Ar, nr, cr, R, Ap, np, cp, P, Ak, nk, ck, K, Av, nv, cv, V, As, ns, cs, S, Aw, nw, cw, X, rfl, hq⟩)
          have HQ := hid hq;clear hq;replace HB := hid (below_then HB.out hb);replace Jd := hid (Jd.out.below hb);replace Je := hid (Je.out.below hb);replace HT := hid (HT.out.below hb);replace Jm := hid (Jm.out.below hb);refine hK.out _ _ (ks4 hb Ja) (fun Ja => ?_);clear hK K9 hb;try go_simp
          refine tkH 7 ?_;refine tkH 8 ?_;refine tkH 9 ?_;refine tkH 10 ?_;(try go_simp);refine tkR 11 (fun K9 hK => ?_);go_simp;have hb := below_alloc x2 (.cells #[.int .i64 0, .int .i64 0, .slice none 0 0, .slice none 0 0, .slice none 0 0, .slice none 0 0, .slice none 0 0, .slice none 0 0] 31);have Jb := hid (show CtB _ x2.heap.size #[.int .i64 0, .int .i64 0, .slice none 0 0, .slice none 0 0, .slice none 0 0, .slice none 0 0, .slice none 0 0, .slice none 0 0] from heap_alloc_new x2 (.cells #[.int .i64 0, .int .i64 0, .slice none 0 0, .slice none 0 0, .slice none 0 0, .slice none 0 0, .slice none 0 0, .slice none 0 0] 31));have Jw := hid HB.out.size;have Jf := hid (show w.heap.size < x2.heap.size from Jd.out.lt);generalize hgx : x2.alloc (.cells #[.int .i64 0, .int .i64 0, .slice none 0 0, .slice none 0 0, .slice none 0 0, .slice none 0 0, .slice none 0 0, .slice none 0 0] 31) = x3 at *;clear hgx;replace HB := hid (below_then HB.out hb);replace Jd := hid (Jd.out.below hb);replace Je := hid (Je.out.below hb);replace HT := hid (HT.out.below hb);replace Jm := hid (Jm.out.below hb);replace HQ := hid (HQ.out.imp id (And.imp_right (And.imp_left fun g => StC.below g hb)));refine hK.out _ _ (ks4 hb Ja) (fun Ja => ?_);clear hK K9 hb;try go_simp
          refine tkH 12 ?_;(try go_simp);obtain ⟨r0, r1, r2, r3, r4, r5, r6, r7⟩ := Jb.out.cells;have rf0 := Jb.out.soft;have Jg := hid (ct_set Jb.out (.int .i64 cl) (.int .i64 cn) (.slice Ar nr cr) (.slice Ap np cp) (.slice Ak nk ck) (.slice Av nv cv) (.slice As ns cs) (.slice Aw nw cw));have Jc := hid (ct_grown x3 x2.heap.size (.int .i64 cl) (.int .i64 cn) (.slice Ar nr cr) (.slice Ap np cp) (.slice Ak nk ck) (.slice Av nv cv) (.slice As ns cs) (.slice Aw nw cw));have hne : some w.heap.size ≠ some x2.heap.size := fun e => by have := Option.some.inj e; have := Jf.out; omega
          refine tkR 13 (fun K9 hK => ?_);go_simp;refine hK.out _ _ ⟨Jc.out.cell Ja.1 hne, Jc.out.cell Ja.2.1 hne, Jc.out.cell Ja.2.2.1 hne, Jc.out.cell Ja.2.2.2 hne⟩ (fun Ja => ?_);clear hK K9 r0 r1 r2 r3 r4 r5 r6 r7 rf0;try go_simp
          refine tkH 14 ?_;(try go_simp);refine wpAnyH_done (by kernel_rfl) ?_ _;clear Ja;have Ji := hid (HB.out.grown Jc.out HB.out.size (fun k hk => by cases hk; exact Jw.out));have Jj := hid (nb_chg Jd.out Jc.out (fun e => hne (congrArg some e)));have Jl := hid (show Chg x3 _ from .inr ⟨_, _, Jb.out, Jc.out⟩);go_wp2_with fail;go_meet;exact ⟨_, q, kz, rfl, rfl, rfl, ⟨Ji.out, Jj.out, Jf.out, _, _, _, _, _, _, _, _, Jg.out⟩, HQ.out.imp id fun ⟨g0, g1, g2, g3⟩ => ⟨g0, _, _, _, _, _, _, _, _, _, _, _, _, _, _, _, _, _, _, _, _, _, _, _, _, _, _, Jg.out, g1.at_ Jl.out, g2, trivial, g3⟩⟩
        · go_simp;have hb := below_alloc x1 (.cells #[.int .i64 0, .int .i64 0, .slice none 0 0, .slice none 0 0, .slice none 0 0, .slice none 0 0, .slice none 0 0, .slice none 0 0] 31);have Jb := hid (show CtB _ x1.heap.size #[.int .i64 0, .int .i64 0, .slice none 0 0, .slice none 0 0, .slice none 0 0, .slice none 0 0, .slice none 0 0, .slice none 0 0] from heap_alloc_new x1 (.cells #[.int .i64 0, .int .i64 0, .slice none 0 0, .slice none 0 0, .slice none 0 0, .slice none 0 0, .slice none 0 0, .slice none 0 0] 31));have Jw := hid HB.out.size;have Jf := hid (show w.heap.size < x1.heap.size from Jd.out.lt);generalize hgx : x1.alloc (.cells #[.int .i64 0, .int .i64 0, .slice none 0 0, .slice none 0 0, .slice none 0 0, .slice none 0 0, .slice none 0 0, .slice none 0 0] 31) = x2 at *;clear hgx;replace HB := hid (below_then HB.out hb);replace Jd := hid (Jd.out.below hb);replace Je := hid (Je.out.below hb);replace HT := hid (HT.out.below hb);replace Jm := hid (Jm.out.below hb);refine hK.out _ _ (ks4 hb Ja) (fun Ja => ?_);clear hK K9 hb;try go_simp
          refine tkR 6 (fun K9 hK => ?_);go_simp;((refine (bounded3_any N A n c Ai ci lim x2 HT.out Je.out Jn.out (by omega) HV.out hlim1 hlim2 Jm.out Ju.out.1 Ju.out.2).mono ?_); rintro e x3 ⟨hb, q, kz, cl, cn, Ar, nr, cr, R, Ap, np, cp, P, Ak, nk, ck, K, Av, nv, cv, V, As, ns, cs, S, Aw, nw, cw, X, rfl, hq⟩)
          have HQ := hid hq;clear hq;replace HB := hid (below_then HB.out hb);replace Jd := hid (Jd.out.below hb);replace Je := hid (Je.out.below hb);replace HT := hid (HT.out.below hb);replace Jm := hid (Jm.out.below hb);replace Jb := hid (Jb.out.below hb);refine hK.out _ _ (ks4 hb Ja) (fun Ja => ?_);clear hK K9 hb;try go_simp
          refine tkH 7 ?_;refine tkH 8 ?_;refine tkH 9 ?_;refine tkH 10 ?_;refine tkH 12 ?_;(try go_simp);obtain ⟨r0, r1, r2, r3, r4, r5, r6, r7⟩ := Jb.out.cells;have rf0 := Jb.out.soft;have Jg := hid (ct_set Jb.out (.int .i64 cl) (.int .i64 cn) (.slice Ar nr cr) (.slice Ap np cp) (.slice Ak nk ck) (.slice Av nv cv) (.slice As ns cs) (.slice Aw nw cw));have Jc := hid (ct_grown x3 x1.heap.size (.int .i64 cl) (.int .i64 cn) (.slice Ar nr cr) (.slice Ap np cp) (.slice Ak nk ck) (.slice Av nv cv) (.slice As ns cs) (.slice Aw nw cw));have hne : some w.heap.size ≠ some x1.heap.size := fun e => by have := Option.some.inj e; have := Jf.out; omega
          refine tkR 13 (fun K9 hK => ?_);go_simp;refine hK.out _ _ ⟨Jc.out.cell Ja.1 hne, Jc.out.cell Ja.2.1 hne, Jc.out.cell Ja.2.2.1 hne, Jc.out.cell Ja.2.2.2 hne⟩ (fun Ja => ?_);clear hK K9 r0 r1 r2 r3 r4 r5 r6 r7 rf0;try go_simp
          refine tkH 14 ?_;(try go_simp);refine wpAnyH_done (by kernel_rfl) ?_ _;clear Ja;have Ji := hid (HB.out.grown Jc.out HB.out.size (fun k hk => by cases hk; exact Jw.out));have Jj := hid (nb_chg Jd.out Jc.out (fun e => hne (congrArg some e)));have Jl := hid (show Chg x3 _ from .inr ⟨_, _, Jb.out, Jc.out⟩);go_wp2_with fail;go_meet;exact ⟨_, q, kz, rfl, rfl, rfl, ⟨Ji.out, Jj.out, Jf.out, _, _, _, _, _, _, _, _, Jg.out⟩, HQ.out.imp id fun ⟨g0, g1, g2, g3⟩ => ⟨g0, _, _, _, _, _, _, _, _, _, _, _, _, _, _, _, _, _, _, _, _, _, _, _, _, _, _, Jg.out, g1.at_ Jl.out, g2, trivial, g3⟩⟩
      · go_simp;have hb := below_alloc x0 (.cells #[.int .i64 0, .int .i64 0, .slice none 0 0, .slice none 0 0, .slice none 0 0, .slice none 0 0, .slice none 0 0, .slice none 0 0] 31);have Jb := hid (show CtB _ x0.heap.size #[.int .i64 0, .int .i64 0, .slice none 0 0, .slice none 0 0, .slice none 0 0, .slice none 0 0, .slice none 0 0, .slice none 0 0] from heap_alloc_new x0 (.cells #[.int .i64 0, .int .i64 0, .slice none 0 0, .slice none 0 0, .slice none 0 0, .slice none 0 0, .slice none 0 0, .slice none 0 0] 31));have Jw := hid HB.out.size;have Jf := hid (show w.heap.size < x0.heap.size from Jd.out.lt);generalize hgx : x0.alloc (.cells #[.int .i64 0, .int .i64 0, .slice none 0 0, .slice none 0 0, .slice none 0 0, .slice none 0 0, .slice none 0 0, .slice none 0 0] 31) = x1 at *;clear hgx;replace HB := hid (below_then HB.out hb);replace Jd := hid (Jd.out.below hb);replace Je := hid (Je.out.below hb);replace HT := hid (HT.out.below hb);refine hK.out _ _ (ks4 hb Ja) (fun Ja => ?_);clear hK K9 hb;try go_simp
        refine tkR 4 (fun K9 hK => ?_);go_simp;((refine (rsrc_any N A n c HV.out x1).mono ?_); rintro e x2 ⟨vi, rfl, hSi⟩)
        obtain ⟨Ai, ci, rfl, hzi, hzi1, hzi2⟩ := hSi.zin;have hb := hSi.2;have Jm := hid hzi;have Ju := hid (And.intro hzi1 hzi2);clear hSi hzi hzi1 hzi2;replace HB := hid (below_then HB.out hb);replace Jd := hid (Jd.out.below hb);replace Je := hid (Je.out.below hb);replace HT := hid (HT.out.below hb);replace Jb := hid (Jb.out.below hb);refine hK.out _ _ (ks4 hb Ja) (fun Ja => ?_);clear hK K9 hb;try go_simp
        refine tkR 6 (fun K9 hK => ?_);go_simp;((refine (bounded3_any N A n c Ai ci lim x2 HT.out Je.out Jn.out (by omega) HV.out hlim1 hlim2 Jm.out Ju.out.1 Ju.out.2).mono ?_); rintro e x3 ⟨hb, q, kz, cl, cn, Ar, nr, cr, R, Ap, np, cp, P, Ak, nk, ck, K, Av, nv, cv, V, As, ns, cs, S, Aw, nw, cw, X, rfl, hq⟩)
        have HQ := hid hq;clear hq;replace HB := hid (below_then HB.out hb);replace Jd := hid (Jd.out.below hb);replace Je := hid (Je.out.below hb);replace HT := hid (HT.out.below hb);replace Jb := hid (Jb.out.below hb);replace Jm := hid (Jm.out.below hb);refine hK.out _ _ (ks4 hb Ja) (fun Ja => ?_);clear hK K9 hb;try go_simp
        refine tkH 7 ?_;refine tkH 8 ?_;refine tkH 9 ?_;refine tkH 10 ?_;refine tkH 12 ?_;(try go_simp);obtain ⟨r0, r1, r2, r3, r4, r5, r6, r7⟩ := Jb.out.cells;have rf0 := Jb.out.soft;have Jg := hid (ct_set Jb.out (.int .i64 cl) (.int .i64 cn) (.slice Ar nr cr) (.slice Ap np cp) (.slice Ak nk ck) (.slice Av nv cv) (.slice As ns cs) (.slice Aw nw cw));have Jc := hid (ct_grown x3 x0.heap.size (.int .i64 cl) (.int .i64 cn) (.slice Ar nr cr) (.slice Ap np cp) (.slice Ak nk ck) (.slice Av nv cv) (.slice As ns cs) (.slice Aw nw cw));have hne : some w.heap.size ≠ some x0.heap.size := fun e => by have := Option.some.inj e; have := Jf.out; omega
        refine tkR 13 (fun K9 hK => ?_);go_simp;refine hK.out _ _ ⟨Jc.out.cell Ja.1 hne, Jc.out.cell Ja.2.1 hne, Jc.out.cell Ja.2.2.1 hne, Jc.out.cell Ja.2.2.2 hne⟩ (fun Ja => ?_);clear hK K9 r0 r1 r2 r3 r4 r5 r6 r7 rf0;try go_simp
        refine tkH 14 ?_;(try go_simp);refine wpAnyH_done (by kernel_rfl) ?_ _;clear Ja;have Ji := hid (HB.out.grown Jc.out HB.out.size (fun k hk => by cases hk; exact Jw.out));have Jj := hid (nb_chg Jd.out Jc.out (fun e => hne (congrArg some e)));have Jl := hid (show Chg x3 _ from .inr ⟨_, _, Jb.out, Jc.out⟩);go_wp2_with fail;go_meet;exact ⟨_, q, kz, rfl, rfl, rfl, ⟨Ji.out, Jj.out, Jf.out, _, _, _, _, _, _, _, _, Jg.out⟩, HQ.out.imp id fun ⟨g0, g1, g2, g3⟩ => ⟨g0, _, _, _, _, _, _, _, _, _, _, _, _, _, _, _, _, _, _, _, _, _, _, _, _, _, _, Jg.out, g1.at_ Jl.out, g2, trivial, g3⟩⟩
     case rest =>
      obtain ⟨cb, q, k, rfl, rfl, rfl, hab, hac⟩ := hcut;have HA := hid hab;have Jk := hid hac;clear hab hac HB Jd
      go_upto_region 7 with (fail)
      go_cut [65] (fun s9 wx => s9 = .bool false ∧ AcB w wx N A n c cb)
      case first =>
       rcases Jk.out with hk0 | ⟨hk0, cl, cn, Ar, nr, cr, R, Ap, np, cp, P, Ak, nk, ck, K, Av, nv, cv, V, As, ns, cs, S, Aw, nw, cw, X, hcb, hcf, hcl, hcn, hcs⟩
       · have q0 : (k == 0) = false := by simpa using hk0
         clear Jk hk0;refine wp_region_quiet_below (by kernel_rfl) (by kernel_rfl) ?_;repeat (first | go_big_quiet_step (fail) | quiet_step (fail))
         refine wpQuiet_nil ?_;intro _ hw';obtain ⟨⟨dq, osq⟩, hw''⟩ := hw';subst hw'';have hbq := below_regrown wc dq osq;have Jq := hid (HA.out.below hbq);go_wp2_with fail;go_meet;exact ⟨rfl, Jq.out⟩
       · subst hk0;have Je := hid (H0.out.below HA.out.1);have HT := hid (Js.out.below HA.out.1);have Jr := hid (fun d o => check_ok N A n c cl cn Ar nr cr R Ap np cp P Ak nk ck K Av nv cv V As ns cs S Aw nw cw X (Sort.grow (redrawn wc d) o) (HT.out.below (below_regrown wc d o)) (Je.out.below (below_regrown wc d o)) Jn.out (by omega) (hcf.below (below_regrown wc d o)) hcs);have Jh := hid (fun d o => claim_any q 5 6 (Sort.grow (redrawn wc d) o));rw [← hcl] at Jh;obtain ⟨b0, b1, b2, b3⟩ := HA.out.2.1.cells;obtain ⟨d0, d1, d2, d3, d4, d5, d6, d7⟩ := hcb.cells;have qc : (cl == cl) = true := by simp
         have qc2 : (cl != cl) = false := by simp
         skip;clear Jk hcf hcs hcb hcl hcn Je HT;have a0 := fun d o => cell_regrown b0 d o
         have a1 := fun d o => cell_regrown b1 d o
         have a2 := fun d o => cell_regrown b2 d o
         have a3 := fun d o => cell_regrown b3 d o
         have e0 := fun d o => cell_regrown d0 d o
         have e1 := fun d o => cell_regrown d1 d o
         have e2 := fun d o => cell_regrown d2 d o
         have e3 := fun d o => cell_regrown d3 d o
         have e4 := fun d o => cell_regrown d4 d o
         have e5 := fun d o => cell_regrown d5 d o
         have e6 := fun d o => cell_regrown d6 d o
         have e7 := fun d o => cell_regrown d7 d o
         refine wp_region_quiet_below (by kernel_rfl) (by kernel_rfl) ?_;repeat (first | go_big_quiet_step (first | exact Calls.regrown_of (Jr.out _ _) | exact Calls.regrown_of (Jh.out _ _)) | quiet_step (first | exact Calls.regrown_of (Jr.out _ _) | exact Calls.regrown_of (Jh.out _ _)))
         refine wpQuiet_nil ?_;intro _ hw';obtain ⟨⟨dq, osq⟩, hw''⟩ := hw';subst hw'';clear a0 a1 a2 a3 e0 e1 e2 e3 e4 e5 e6 e7;have hbq := below_regrown wc dq osq;have Jq := hid (HA.out.below hbq);go_wp2_with fail;go_meet;exact ⟨rfl, Jq.out⟩
      case rest =>
       obtain ⟨rfl, hab⟩ := hcut;clear HA Jk;have HA := hid hab;clear hab
       go_upto_region 9 with (fail)
       go_cut [11, 12] (fun s9 s10 wx => ∃ (q : Bool) (k : Int), s10 = .bool q ∧ s9 = .int .i64 k ∧ AcB w wx N A n c cb ∧ AcC N wx cb q 7 8 k (fun cn => cn = (tt : Int)))
       case first =>
        have Je := hid (H0.out.below HA.out.1);have HT := hid (Js.out.below HA.out.1);obtain ⟨b0, b1, b2, b3⟩ := HA.out.2.1.cells;have HD := hid (sisdead_any N A n c tt lim wc Je.out Jn.out (by omega) HT.out HV.out htt hlim1 hlim2);go_wp2_with fail;((with_reducible refine HD.out.mono ?_); rintro e w8 ⟨hb8, ⟨k, rfl, hk0⟩ | ⟨q, v, rfl, hc⟩⟩)
        · have Jv := hid hk0;have Jo := hid hb8;clear hk0 hb8;unfold zCt;have hbn := Jo.out;have Jp := hid (HA.out.below hbn);obtain ⟨g1, g2, g3, o0, o1, o2, o3, o4, o5, o6, o7, g4⟩ := Jp.out;have Jb := hid g4;have HB := hid g1;have Jd := hid g2;have Jf := hid g3;clear g1 g2 g3 g4 hbn;obtain ⟨r0, r1, r2, r3, r4, r5, r6, r7⟩ := Jb.out.cells;have rf0 := Jb.out.soft;have Jg := hid (ct_set Jb.out (.int .i64 0) (.int .i64 0) (.slice none 0 0) (.slice none 0 0) (.slice none 0 0) (.slice none 0 0) (.slice none 0 0) (.slice none 0 0));have Jc := hid (ct_grown w8 cb (.int .i64 0) (.int .i64 0) (.slice none 0 0) (.slice none 0 0) (.slice none 0 0) (.slice none 0 0) (.slice none 0 0) (.slice none 0 0));have Ji := hid (HB.out.grown Jc.out HB.out.size (fun k hk => by cases hk; have := Jf.out; omega));have Jj := hid (nb_chg Jd.out Jc.out (fun e => by have := Jf.out; omega));have Jl := hid (show Chg w8 _ from .inr ⟨_, _, Jb.out, Jc.out⟩);go_wp2_with fail;go_meet;exact ⟨false, k, rfl, rfl, ⟨Ji.out, Jj.out, Jf.out, _, _, _, _, _, _, _, _, Jg.out⟩, .inl Jv.out⟩
        · obtain ⟨cl, cn, Ar, nr, cr, R, Ap, np, cp, P, Ak, nk, ck, K, Av, nv, cv, V, As, ns, cs, S, Aw, nw, cw, X, rfl, hst, hcl, hq9⟩ := hc;have Jx := hid hst;have Jh := hid hcl;have HQ := hid hq9;have Jo := hid hb8;clear hb8;clear hst hcl hq9;have hbn := Jo.out;have Jp := hid (HA.out.below hbn);obtain ⟨g1, g2, g3, o0, o1, o2, o3, o4, o5, o6, o7, g4⟩ := Jp.out;have Jb := hid g4;have HB := hid g1;have Jd := hid g2;have Jf := hid g3;clear g1 g2 g3 g4 hbn;obtain ⟨r0, r1, r2, r3, r4, r5, r6, r7⟩ := Jb.out.cells;have rf0 := Jb.out.soft;have Jg := hid (ct_set Jb.out (.int .i64 cl) (.int .i64 cn) (.slice Ar nr cr) (.slice Ap np cp) (.slice Ak nk ck) (.slice Av nv cv) (.slice As ns cs) (.slice Aw nw cw));have Jc := hid (ct_grown w8 cb (.int .i64 cl) (.int .i64 cn) (.slice Ar nr cr) (.slice Ap np cp) (.slice Ak nk ck) (.slice Av nv cv) (.slice As ns cs) (.slice Aw nw cw));have Ji := hid (HB.out.grown Jc.out HB.out.size (fun k hk => by cases hk; have := Jf.out; omega));have Jj := hid (nb_chg Jd.out Jc.out (fun e => by have := Jf.out; omega));have Jl := hid (show Chg w8 _ from .inr ⟨_, _, Jb.out, Jc.out⟩);go_wp2_with fail;go_meet;exact ⟨q, 0, rfl, rfl, ⟨Ji.out, Jj.out, Jf.out, _, _, _, _, _, _, _, _, Jg.out⟩, .inr ⟨rfl, _, _, _, _, _, _, _, _, _, _, _, _, _, _, _, _, _, _, _, _, _, _, _, _, _, _, Jg.out, Jx.out.at_ Jl.out, Jh.out, HQ.out.1, ⟨HV.out, by have := HQ.out.2.2.2.2.1; omega, by have := HQ.out.2.2.1; omega, by rw [HQ.out.2.2.2.1]; simp, HQ.out.2.1⟩, by rw [HQ.out.2.2.2.2.2.1]; simp, by rw [HQ.out.2.2.2.2.2.2.1]; simp, by rw [HQ.out.2.2.2.2.2.2.2.1]; simp, fun I hI => by rw [HQ.out.2.2.2.2.2.2.1] at hI; cases hI⟩⟩
       case rest =>
        obtain ⟨q, k, rfl, rfl, hab, hac⟩ := hcut;clear HA;have HA := hid hab;have Jk := hid hac;clear hab hac
        go_upto_region 10 with (fail)
        go_cut [97] (fun s9 wx => s9 = .bool false ∧ AcB w wx N A n c cb)
        case first =>
         rcases Jk.out with hk0 | ⟨hk0, cl, cn, Ar, nr, cr, R, Ap, np, cp, P, Ak, nk, ck, K, Av, nv, cv, V, As, ns, cs, S, Aw, nw, cw, X, hcb, hcf, hcl, hcn, hcs⟩
         · have q0 : (k == 0) = false := by simpa using hk0
           clear Jk hk0;refine wp_region_quiet_below (by kernel_rfl) (by kernel_rfl) ?_;repeat (first | go_big_quiet_step (fail) | quiet_step (fail))
           refine wpQuiet_nil ?_;intro _ hw';obtain ⟨⟨dq, osq⟩, hw''⟩ := hw';subst hw'';have hbq := below_regrown wc dq osq;have Jq := hid (HA.out.below hbq);go_wp2_with fail;go_meet;exact ⟨rfl, Jq.out⟩
         · subst hk0;have Je := hid (H0.out.below HA.out.1);have HT := hid (Js.out.below HA.out.1);have Jr := hid (fun d o => check_ok N A n c cl cn Ar nr cr R Ap np cp P Ak nk ck K Av nv cv V As ns cs S Aw nw cw X (Sort.grow (redrawn wc d) o) (HT.out.below (below_regrown wc d o)) (Je.out.below (below_regrown wc d o)) Jn.out (by omega) (hcf.below (below_regrown wc d o)) hcs);have Jh := hid (fun d o => claim_any q 7 8 (Sort.grow (redrawn wc d) o));rw [← hcl] at Jh;obtain ⟨b0, b1, b2, b3⟩ := HA.out.2.1.cells;obtain ⟨d0, d1, d2, d3, d4, d5, d6, d7⟩ := hcb.cells;have qc : (cl == cl) = true := by simp
           have qc2 : (cl != cl) = false := by simp
           have hcn9 : (cn != (tt : Int)) = false := by rw [hcn]; simp
           clear Jk hcf hcs hcb hcl hcn Je HT;have a0 := fun d o => cell_regrown b0 d o
           have a1 := fun d o => cell_regrown b1 d o
           have a2 := fun d o => cell_regrown b2 d o
           have a3 := fun d o => cell_regrown b3 d o
           have e0 := fun d o => cell_regrown d0 d o
           have e1 := fun d o => cell_regrown d1 d o
           have e2 := fun d o => cell_regrown d2 d o
           have e3 := fun d o => cell_regrown d3 d o
           have e4 := fun d o => cell_regrown d4 d o
           have e5 := fun d o => cell_regrown d5 d o
           have e6 := fun d o => cell_regrown d6 d o
           have e7 := fun d o => cell_regrown d7 d o
           refine wp_region_quiet_below (by kernel_rfl) (by kernel_rfl) ?_;repeat (first | go_big_quiet_step (first | exact Calls.regrown_of (Jr.out _ _) | exact Calls.regrown_of (Jh.out _ _)) | quiet_step (first | exact Calls.regrown_of (Jr.out _ _) | exact Calls.regrown_of (Jh.out _ _)))
           refine wpQuiet_nil ?_;intro _ hw';obtain ⟨⟨dq, osq⟩, hw''⟩ := hw';subst hw'';clear a0 a1 a2 a3 e0 e1 e2 e3 e4 e5 e6 e7;have hbq := below_regrown wc dq osq;have Jq := hid (HA.out.below hbq);go_wp2_with fail;go_meet;exact ⟨rfl, Jq.out⟩
        case rest =>
         obtain ⟨rfl, hab⟩ := hcut;clear HA Jk;have HA := hid hab;clear hab
         go_upto_region 12 with (fail)
         go_cut [11, 13] (fun s9 s10 wx => ∃ (q : Bool) (k : Int), s10 = .bool q ∧ s9 = .int .i64 k ∧ AcB w wx N A n c cb ∧ AcC N wx cb q 1 2 k (fun _ => True))
         case first =>
          have Je := hid (H0.out.below HA.out.1);have HT := hid (Js.out.below HA.out.1);obtain ⟨b0, b1, b2, b3⟩ := HA.out.2.1.cells;have HD := hid (sound2_any N A n c (lim : Int) wc Je.out Jn.out (by omega) HT.out);go_wp2_with fail;((with_reducible refine HD.out.mono ?_); rintro e w8 ⟨hb8, ⟨k, rfl, hk⟩ | ⟨T, r, v, rfl, hT, hr, hc⟩⟩)
          · have Jv := hid hk.1;have Jo := hid hb8;clear hk hb8;unfold zCt;have hbn := Jo.out;have Jp := hid (HA.out.below hbn);obtain ⟨g1, g2, g3, o0, o1, o2, o3, o4, o5, o6, o7, g4⟩ := Jp.out;have Jb := hid g4;have HB := hid g1;have Jd := hid g2;have Jf := hid g3;clear g1 g2 g3 g4 hbn;obtain ⟨r0, r1, r2, r3, r4, r5, r6, r7⟩ := Jb.out.cells;have rf0 := Jb.out.soft;have Jg := hid (ct_set Jb.out (.int .i64 0) (.int .i64 0) (.slice none 0 0) (.slice none 0 0) (.slice none 0 0) (.slice none 0 0) (.slice none 0 0) (.slice none 0 0));have Jc := hid (ct_grown w8 cb (.int .i64 0) (.int .i64 0) (.slice none 0 0) (.slice none 0 0) (.slice none 0 0) (.slice none 0 0) (.slice none 0 0) (.slice none 0 0));have Ji := hid (HB.out.grown Jc.out HB.out.size (fun k hk => by cases hk; have := Jf.out; omega));have Jj := hid (nb_chg Jd.out Jc.out (fun e => by have := Jf.out; omega));have Jl := hid (show Chg w8 _ from .inr ⟨_, _, Jb.out, Jc.out⟩);go_wp2_with fail;go_meet;exact ⟨false, k, rfl, rfl, ⟨Ji.out, Jj.out, Jf.out, _, _, _, _, _, _, _, _, Jg.out⟩, .inl Jv.out⟩
          · obtain ⟨cl, cn, Ar, nr, cr, R, Ap, np, cp, P, Ak, nk, ck, K, Av, nv, cv, V, As, ns, cs, S, Aw, nw, cw, X, rfl, hst, hcl, hq9⟩ := hc;have Jx := hid hst;have Jh := hid hcl;have HQ := hid hq9;have Jo := hid hb8;have Jy := hid hT.small.1;have Jz := hid (show cl = (if decide (r = 0) = true then 1 else 2) by simpa using Jh.out);clear hb8 hT hr;clear hst hcl hq9;have hbn := Jo.out;have Jp := hid (HA.out.below hbn);obtain ⟨g1, g2, g3, o0, o1, o2, o3, o4, o5, o6, o7, g4⟩ := Jp.out;have Jb := hid g4;have HB := hid g1;have Jd := hid g2;have Jf := hid g3;clear g1 g2 g3 g4 hbn;obtain ⟨r0, r1, r2, r3, r4, r5, r6, r7⟩ := Jb.out.cells;have rf0 := Jb.out.soft;have Jg := hid (ct_set Jb.out (.int .i64 cl) (.int .i64 cn) (.slice Ar nr cr) (.slice Ap np cp) (.slice Ak nk ck) (.slice Av nv cv) (.slice As ns cs) (.slice Aw nw cw));have Jc := hid (ct_grown w8 cb (.int .i64 cl) (.int .i64 cn) (.slice Ar nr cr) (.slice Ap np cp) (.slice Ak nk ck) (.slice Av nv cv) (.slice As ns cs) (.slice Aw nw cw));have Ji := hid (HB.out.grown Jc.out HB.out.size (fun k hk => by cases hk; have := Jf.out; omega));have Jj := hid (nb_chg Jd.out Jc.out (fun e => by have := Jf.out; omega));have Jl := hid (show Chg w8 _ from .inr ⟨_, _, Jb.out, Jc.out⟩);go_wp2_with fail;go_meet;exact ⟨_, 0, rfl, rfl, ⟨Ji.out, Jj.out, Jf.out, _, _, _, _, _, _, _, _, Jg.out⟩, .inr ⟨rfl, _, _, _, _, _, _, _, _, _, _, _, _, _, _, _, _, _, _, _, _, _, _, _, _, _, _, Jg.out, Jx.out.at_ Jl.out, Jz.out, trivial, ⟨HV.out, by have := HQ.out.2.2.2.1; have := Jy.out; omega, by have := HQ.out.2.1; omega, by have := HQ.out.2.2.1; omega, HQ.out.1⟩, by have := HQ.out.2.2.2.2.1; have := Jy.out; omega, by rw [HQ.out.2.2.2.2.2.1]; simp, by have := HQ.out.2.2.2.2.2.2.1; omega, fun I hI => by rw [HQ.out.2.2.2.2.2.1] at hI; cases hI⟩⟩
         case rest =>
          obtain ⟨q, k, rfl, rfl, hab, hac⟩ := hcut;clear HA;have HA := hid hab;have Jk := hid hac;clear hab hac
          go_upto_region 13 with (fail)
          go_cut [119] (fun s9 wx => s9 = .bool false ∧ AcB w wx N A n c cb)
          case first =>
           rcases Jk.out with hk0 | ⟨hk0, cl, cn, Ar, nr, cr, R, Ap, np, cp, P, Ak, nk, ck, K, Av, nv, cv, V, As, ns, cs, S, Aw, nw, cw, X, hcb, hcf, hcl, hcn, hcs⟩
           · have q0 : (k == 0) = false := by simpa using hk0
             clear Jk hk0;refine wp_region_quiet_below (by kernel_rfl) (by kernel_rfl) ?_;repeat (first | go_big_quiet_step (fail) | quiet_step (fail))
             refine wpQuiet_nil ?_;intro _ hw';obtain ⟨⟨dq, osq⟩, hw''⟩ := hw';subst hw'';have hbq := below_regrown wc dq osq;have Jq := hid (HA.out.below hbq);go_wp2_with fail;go_meet;exact ⟨rfl, Jq.out⟩
           · subst hk0;have Je := hid (H0.out.below HA.out.1);have HT := hid (Js.out.below HA.out.1);have Jr := hid (fun d o => check_ok N A n c cl cn Ar nr cr R Ap np cp P Ak nk ck K Av nv cv V As ns cs S Aw nw cw X (Sort.grow (redrawn wc d) o) (HT.out.below (below_regrown wc d o)) (Je.out.below (below_regrown wc d o)) Jn.out (by omega) (hcf.below (below_regrown wc d o)) hcs);have Jh := hid (fun d o => claim_any q 1 2 (Sort.grow (redrawn wc d) o));rw [← hcl] at Jh;obtain ⟨b0, b1, b2, b3⟩ := HA.out.2.1.cells;obtain ⟨d0, d1, d2, d3, d4, d5, d6, d7⟩ := hcb.cells;have qc : (cl == cl) = true := by simp
             have qc2 : (cl != cl) = false := by simp
             skip;clear Jk hcf hcs hcb hcl hcn Je HT;have a0 := fun d o => cell_regrown b0 d o
             have a1 := fun d o => cell_regrown b1 d o
             have a2 := fun d o => cell_regrown b2 d o
             have a3 := fun d o => cell_regrown b3 d o
             have e0 := fun d o => cell_regrown d0 d o
             have e1 := fun d o => cell_regrown d1 d o
             have e2 := fun d o => cell_regrown d2 d o
             have e3 := fun d o => cell_regrown d3 d o
             have e4 := fun d o => cell_regrown d4 d o
             have e5 := fun d o => cell_regrown d5 d o
             have e6 := fun d o => cell_regrown d6 d o
             have e7 := fun d o => cell_regrown d7 d o
             refine wp_region_quiet_below (by kernel_rfl) (by kernel_rfl) ?_;repeat (first | go_big_quiet_step (first | exact Calls.regrown_of (Jr.out _ _) | exact Calls.regrown_of (Jh.out _ _)) | quiet_step (first | exact Calls.regrown_of (Jr.out _ _) | exact Calls.regrown_of (Jh.out _ _)))
             refine wpQuiet_nil ?_;intro _ hw';obtain ⟨⟨dq, osq⟩, hw''⟩ := hw';subst hw'';clear a0 a1 a2 a3 e0 e1 e2 e3 e4 e5 e6 e7;have hbq := below_regrown wc dq osq;have Jq := hid (HA.out.below hbq);go_wp2_with fail;go_meet;exact ⟨rfl, Jq.out⟩
          case rest =>
           obtain ⟨rfl, hab⟩ := hcut;clear HA Jk;have HA := hid hab;clear hab
           go_upto_region 15 with (fail)
           go_cut [11, 14] (fun s9 s10 wx => ∃ (q : Bool) (k : Int), s10 = .bool q ∧ s9 = .int .i64 k ∧ AcB w wx N A n c cb ∧ AcC N wx cb q 3 4 k (fun _ => True))
           case first =>
            have Je := hid (H0.out.below HA.out.1);have HT := hid (Js.out.below HA.out.1);obtain ⟨b0, b1, b2, b3⟩ := HA.out.2.1.cells;have HD := hid (srelaxed2_any N A n c (lim : Int) wc Je.out Jn.out (by omega));go_wp2_with fail;((with_reducible refine HD.out.mono ?_); rintro e w8 ⟨hb8, ⟨k, rfl, hk, hk0⟩ | ⟨hF, rfl, hno⟩ | ⟨hF, E, q, v, hE, hfl, rfl, hq, hc⟩⟩)
            · have Jv := hid hk0;have Jo := hid hb8;clear hk hk0 hb8;unfold zCt;have hbn := Jo.out;have Jp := hid (HA.out.below hbn);obtain ⟨g1, g2, g3, o0, o1, o2, o3, o4, o5, o6, o7, g4⟩ := Jp.out;have Jb := hid g4;have HB := hid g1;have Jd := hid g2;have Jf := hid g3;clear g1 g2 g3 g4 hbn;obtain ⟨r0, r1, r2, r3, r4, r5, r6, r7⟩ := Jb.out.cells;have rf0 := Jb.out.soft;have Jg := hid (ct_set Jb.out (.int .i64 0) (.int .i64 0) (.slice none 0 0) (.slice none 0 0) (.slice none 0 0) (.slice none 0 0) (.slice none 0 0) (.slice none 0 0));have Jc := hid (ct_grown w8 cb (.int .i64 0) (.int .i64 0) (.slice none 0 0) (.slice none 0 0) (.slice none 0 0) (.slice none 0 0) (.slice none 0 0) (.slice none 0 0));have Ji := hid (HB.out.grown Jc.out HB.out.size (fun k hk => by cases hk; have := Jf.out; omega));have Jj := hid (nb_chg Jd.out Jc.out (fun e => by have := Jf.out; omega));have Jl := hid (show Chg w8 _ from .inr ⟨_, _, Jb.out, Jc.out⟩);go_wp2_with fail;go_meet;exact ⟨false, k, rfl, rfl, ⟨Ji.out, Jj.out, Jf.out, _, _, _, _, _, _, _, _, Jg.out⟩, .inl Jv.out⟩
            · obtain ⟨k, hk⟩ : ∃ k : Int, k = 13 := ⟨_, rfl⟩;rw [← hk];have Jv := hid (show k ≠ 0 by omega);have Jo := hid hb8;clear hk hb8 hno;unfold zCt;have hbn := Jo.out;have Jp := hid (HA.out.below hbn);obtain ⟨g1, g2, g3, o0, o1, o2, o3, o4, o5, o6, o7, g4⟩ := Jp.out;have Jb := hid g4;have HB := hid g1;have Jd := hid g2;have Jf := hid g3;clear g1 g2 g3 g4 hbn;obtain ⟨r0, r1, r2, r3, r4, r5, r6, r7⟩ := Jb.out.cells;have rf0 := Jb.out.soft;have Jg := hid (ct_set Jb.out (.int .i64 0) (.int .i64 0) (.slice none 0 0) (.slice none 0 0) (.slice none 0 0) (.slice none 0 0) (.slice none 0 0) (.slice none 0 0));have Jc := hid (ct_grown w8 cb (.int .i64 0) (.int .i64 0) (.slice none 0 0) (.slice none 0 0) (.slice none 0 0) (.slice none 0 0) (.slice none 0 0) (.slice none 0 0));have Ji := hid (HB.out.grown Jc.out HB.out.size (fun k hk => by cases hk; have := Jf.out; omega));have Jj := hid (nb_chg Jd.out Jc.out (fun e => by have := Jf.out; omega));have Jl := hid (show Chg w8 _ from .inr ⟨_, _, Jb.out, Jc.out⟩);go_wp2_with fail;go_meet;exact ⟨false, k, rfl, rfl, ⟨Ji.out, Jj.out, Jf.out, _, _, _, _, _, _, _, _, Jg.out⟩, .inl Jv.out⟩
            · obtain ⟨cl, cn, Ar, nr, cr, R, Ap, np, cp, P, Ak, nk, ck, K, Av, nv, cv, V, As, ns, cs, S, Aw, nw, cw, X, rfl, hst, hcl, hq9⟩ := hc;have Jx := hid hst;have Jh := hid hcl;have HQ := hid hq9;have Jo := hid hb8;have Jy := hid (show E.SL.length ≤ lim by have := (exT_spc (one_mk HV.out _) (by omega) hE).le; omega);clear hb8 hF hE hfl hq;clear hst hcl hq9;have hbn := Jo.out;have Jp := hid (HA.out.below hbn);obtain ⟨g1, g2, g3, o0, o1, o2, o3, o4, o5, o6, o7, g4⟩ := Jp.out;have Jb := hid g4;have HB := hid g1;have Jd := hid g2;have Jf := hid g3;clear g1 g2 g3 g4 hbn;obtain ⟨r0, r1, r2, r3, r4, r5, r6, r7⟩ := Jb.out.cells;have rf0 := Jb.out.soft;have Jg := hid (ct_set Jb.out (.int .i64 cl) (.int .i64 cn) (.slice Ar nr cr) (.slice Ap np cp) (.slice Ak nk ck) (.slice Av nv cv) (.slice As ns cs) (.slice Aw nw cw));have Jc := hid (ct_grown w8 cb (.int .i64 cl) (.int .i64 cn) (.slice Ar nr cr) (.slice Ap np cp) (.slice Ak nk ck) (.slice Av nv cv) (.slice As ns cs) (.slice Aw nw cw));have Ji := hid (HB.out.grown Jc.out HB.out.size (fun k hk => by cases hk; have := Jf.out; omega));have Jj := hid (nb_chg Jd.out Jc.out (fun e => by have := Jf.out; omega));have Jl := hid (show Chg w8 _ from .inr ⟨_, _, Jb.out, Jc.out⟩);go_wp2_with fail;go_meet;exact ⟨q, 0, rfl, rfl, ⟨Ji.out, Jj.out, Jf.out, _, _, _, _, _, _, _, _, Jg.out⟩, .inr ⟨rfl, _, _, _, _, _, _, _, _, _, _, _, _, _, _, _, _, _, _, _, _, _, _, _, _, _, _, Jg.out, Jx.out.at_ Jl.out, Jh.out, trivial, ⟨HV.out, by have := HQ.out.2.2.2.1; have := Jy.out; omega, by rw [HQ.out.2.1]; simp, by rw [HQ.out.2.2.1]; simp, HQ.out.1⟩, by rw [HQ.out.2.2.2.2.1]; simp, by have h8 := HQ.out.2.2.2.2.2.1; have := Jn.out; omega, by rw [HQ.out.2.2.2.2.2.2.1]; simp, fun I hI => by have h8 := HQ.out.2.2.2.2.2.2.2.2 I hI; have := Jy.out; omega⟩⟩
           case rest =>
            obtain ⟨q, k, rfl, rfl, hab, hac⟩ := hcut;clear HA;have HA := hid hab;have Jk := hid hac;clear hab hac
            go_upto_region 16 with (fail)
            rcases Jk.out with hk0 | ⟨hk0, cl, cn, Ar, nr, cr, R, Ap, np, cp, P, Ak, nk, ck, K, Av, nv, cv, V, As, ns, cs, S, Aw, nw, cw, X, hcb, hcf, hcl, hcn, hcs⟩
            · have q0 : (k != 0) = true := by simpa using hk0
              clear Jk hk0;refine wp_region_quiet_below (by kernel_rfl) (by kernel_rfl) ?_;repeat (first | go_big_quiet_step (fail) | quiet_step (fail))
              refine wpQuiet_nil ?_;intro _ hw';obtain ⟨⟨dq, osq⟩, hw''⟩ := hw';subst hw'';have Jt := hid (below_then HA.out.1 (below_regrown wc dq osq));go_wp2_with fail;go_ret;exact ⟨rfl, Jt.out⟩
            · subst hk0;have Je := hid (H0.out.below HA.out.1);have HT := hid (Js.out.below HA.out.1);have Jr := hid (fun d o => check_ok N A n c cl cn Ar nr cr R Ap np cp P Ak nk ck K Av nv cv V As ns cs S Aw nw cw X (Sort.grow (redrawn wc d) o) (HT.out.below (below_regrown wc d o)) (Je.out.below (below_regrown wc d o)) Jn.out (by omega) (hcf.below (below_regrown wc d o)) hcs);have Jh := hid (fun d o => claim_any q 3 4 (Sort.grow (redrawn wc d) o));rw [← hcl] at Jh;obtain ⟨b0, b1, b2, b3⟩ := HA.out.2.1.cells;obtain ⟨d0, d1, d2, d3, d4, d5, d6, d7⟩ := hcb.cells;have qc : (cl == cl) = true := by simp
              have qc2 : (cl != cl) = false := by simp
              skip;clear Jk hcf hcs hcb hcl hcn Je HT;have a0 := fun d o => cell_regrown b0 d o
              have a1 := fun d o => cell_regrown b1 d o
              have a2 := fun d o => cell_regrown b2 d o
              have a3 := fun d o => cell_regrown b3 d o
              have e0 := fun d o => cell_regrown d0 d o
              have e1 := fun d o => cell_regrown d1 d o
              have e2 := fun d o => cell_regrown d2 d o
              have e3 := fun d o => cell_regrown d3 d o
              have e4 := fun d o => cell_regrown d4 d o
              have e5 := fun d o => cell_regrown d5 d o
              have e6 := fun d o => cell_regrown d6 d o
              have e7 := fun d o => cell_regrown d7 d o
              refine wp_region_quiet_below (by kernel_rfl) (by kernel_rfl) ?_;repeat (first | go_big_quiet_step (first | exact Calls.regrown_of (Jr.out _ _) | exact Calls.regrown_of (Jh.out _ _)) | quiet_step (first | exact Calls.regrown_of (Jr.out _ _) | exact Calls.regrown_of (Jh.out _ _)))
              refine wpQuiet_nil ?_;intro _ hw';obtain ⟨⟨dq, osq⟩, hw''⟩ := hw';subst hw'';clear a0 a1 a2 a3 e0 e1 e2 e3 e4 e5 e6 e7;have Jt := hid (below_then HA.out.1 (below_regrown wc dq osq));go_wp2_with fail;go_ret;exact ⟨rfl, Jt.out⟩
end Go.Proofs.YtkhmngljpfibcaaGreatDoor
