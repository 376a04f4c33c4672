/- verdict: notRelaxed: what a call returns. -/
import Derived.Test.YtpnhcimmlnjfaaaDoorUt
import Derived.Test.YtpnhcimmlnjfaaaDoorQi
namespace Go.Proofs.YtpnhcimmlnjfaaaDoor
open Go.Lib (hid)
open Go.RowKit

/-- a transition at a marking does not lead into a part -/
def nrbB (L : List (List Int)) (T : Tr) (m : List Int) : Bool := canT T m && !(memB L (fireT T m))
/-- the markings with some numbers -/
def lostL (K : List (List Int)) (I : List Int) : List (List Int) := I.map fun i => K.getD i.toNat []
def okIx (K : List (List Int)) (i : Int) : Bool := decide (0 ≤ i) && decide (i < (K.length : Int))
def trAtN (N : Nt) (k : Int) : Tr := N.tr.getD k.toNat ⟨⟨#[]⟩, [], []⟩
def nrlB (N : Nt) (cn : Int) (K S : List (List Int)) : Bool :=
 trnB N cn && (mksX N.pl false K && (memB K (iniM N) && (decide (S.length = 1) && (closX N K && ((S.headD []).all (okIx K) && (closX N (lostL K (S.headD [])) && (!(memB (lostL K (S.headD [])) (finM N)) && !(K.any (nrbB (lostL K (S.headD [])) (trAtN N cn)))))))))) 
theorem lost_step (K : List (List Int)) (I : List Int) (k i : Nat) (h : k < I.length) (hi : I[k] = (i : Int)) (hik : i < K.length) : lostL K (I.take (k + 1)) = lostL K (I.take k) ++ [K[i]] := by
 unfold lostL
 rw [List.take_succ_eq_append_getElem h, List.map_append, hi]
 simp [hik]
theorem lost_len (K : List (List Int)) (I : List Int) : (lostL K I).length = I.length := by simp [lostL]
theorem lost_mem {K : List (List Int)} {I : List Int} (h : I.all (okIx K) = true) : ∀ s ∈ lostL K I, s ∈ K := by
 intro s hs
 unfold lostL at hs
 obtain ⟨i, hi, rfl⟩ := List.mem_map.1 hs
 have := List.all_eq_true.1 h i hi
 unfold okIx at this
 simp only [Bool.and_eq_true, decide_eq_true_eq] at this
 have h2 : i.toNat < K.length := by omega
 rw [List.getD_eq_getElem?_getD, List.getElem?_eq_getElem h2]
 exact List.getElem_mem h2
/-- a row of one's own, of rows that came in -/
def RwL (w0 wr : World) (B : Nat) (v : Value) (L : List (List Int)) : Prop := ∃ SL : List Value, wr.ownsRow B 25 1 v L.length SL ∧ SL.length = L.length ∧ ∀ (j : Nat) (u : Value) (s : List Int), SL[j]? = some u → L[j]? = some s → SlIn w0 u s
theorem RwL.start (w0 wr : World) (B : Nat) : RwL w0 wr B (.slice none 0 0) [] := ⟨[], World.ownsRow_nil _ _ _ _, rfl, fun j u s h => by simp at h⟩
theorem RwL.below {w0 wr w' : World} {B : Nat} {v : Value} {L : List (List Int)} (h : RwL w0 wr B v L) (hb : Below wr.heap.size wr w') : RwL w0 w' B v L := by
 obtain ⟨SL, h1, h2⟩ := h
 exact ⟨SL, own_stays h1 hb, h2⟩
theorem RwL.box {w0 wr : World} {B b o : Nat} {v : Value} {L : List (List Int)} (h : RwL w0 wr B v L) {cs : Array Value} {T : TypeId} (hb : wr.heap[b]? = some (.cells cs T (0, 0))) (h1 : 25 ≠ T) (u : Value) : RwL w0 (wr.setCell ⟨b, o, none⟩ u) B v L := by
 obtain ⟨SL, a1, a2⟩ := h
 exact ⟨SL, a1.kept (Lib.grownBy_setB (grown_refl wr (some b)) o u) (own_other a1 hb h1), a2⟩
theorem RwL.push {w0 w' : World} {B : Nat} {v' : Value} {L : List (List Int)} {SL : List Value} {u : Value} {s : List Int} (h2 : SL.length = L.length) (h3 : ∀ (j : Nat) (u : Value) (s : List Int), SL[j]? = some u → L[j]? = some s → SlIn w0 u s) (ho : w'.ownsRow B 25 1 v' (L.length + 1) (SL ++ [u])) (hu : SlIn w0 u s) : RwL w0 w' B v' (L ++ [s]) := by
 refine ⟨SL ++ [u], by rw [List.length_append]; exact ho, by simp [h2], fun j x t hx ht => ?_⟩
 rcases Nat.lt_or_ge j SL.length with hl | hl
 · rw [List.getElem?_append_left hl] at hx
   rw [List.getElem?_append_left (by omega)] at ht
   exact h3 j x t hx ht
 · rw [List.getElem?_append_right hl] at hx
   rw [List.getElem?_append_right (by omega)] at ht
   rcases Nat.eq_zero_or_pos (j - SL.length) with h0 | h0
   · rw [h0] at hx
     rw [← h2, h0] at ht
     simp at hx ht
     subst hx ht
     exact hu
   · rw [List.getElem?_eq_none (by simp; omega)] at hx; cases hx
theorem RwL.lin {w0 wr : World} {B : Nat} {v : Value} {L : List (List Int)} (h : RwL w0 wr B v L) (hb : Below w0.heap.size w0 wr) : ∃ A c, v = .slice A L.length c ∧ LIn wr A L ∧ L.length ≤ c ∧ c ≤ 9223372036854775807 := by
 obtain ⟨SL, h1, h2, h3⟩ := h
 rcases h1.2 with ⟨hv, hn⟩ | ⟨g, cap, cur, hv, hg, hh, hnc, hc, _⟩
 · exact ⟨none, 0, by rw [hv, hn], fun i hi => by omega, by omega, by omega⟩
 · subst hv
   have hgl : g < wr.heap.size := (Array.getElem?_eq_some_iff.1 hh).1
   refine ⟨some ⟨g, 0, none⟩, cap, rfl, fun i hi => ⟨_, rfl, by rw [add_block]; exact hgl, ?_⟩, hnc, hc⟩
   have hi2 : i < SL.length := by omega
   exact ⟨SL[i], h1.cells (g := g) rfl i _ (List.getElem?_eq_getElem hi2), (h3 i _ _ (List.getElem?_eq_getElem hi2) (List.getElem?_eq_getElem hi)).below hb⟩
theorem rowInfo2 : (Tryd.prog.info? 25).map (fun i => (i.zero, i.size, i.bytes)) = some (some (.slice none 0 0), 1, 24) := by kernel_rfl
/-- the loop that gathers -/
def LsI (w6 : World) (K : List (List Int)) (I : List Int) (ni tb g : Nat) (iv : Value) (wr : World) : Prop := ∃ (k : Nat) (v : Value), k + g = ni ∧ iv = .int .i64 (k : Int) ∧ (I.take k).all (okIx K) = true ∧ wr.heap[tb]? = some (.cells #[v] 26 (0, 0)) ∧ RwL w6 wr tb v (lostL K (I.take k)) ∧ Below w6.heap.size w6 wr
/-- what notRelaxed$1 has captured -/
def NrS (w : World) (tb lb : Nat) (T : Tr) (Ai : Option Addr) (ni ci : Nat) (Ao : Option Addr) (no co : Nat) (Al : Option Addr) (nl cl : Nat) (LL : List (List Int)) : Prop := TB w tb T.lb Ai ni ci Ao no co ∧ (ZIn w Ai T.i ∧ ZIn w Ao T.o) ∧ LLB w lb Al nl cl LL
theorem NrS.below {w w' : World} {tb lb : Nat} {T : Tr} {Ai : Option Addr} {ni ci : Nat} {Ao : Option Addr} {no co : Nat} {Al : Option Addr} {nl cl : Nat} {LL : List (List Int)} (h : NrS w tb lb T Ai ni ci Ao no co Al nl cl LL) (hb : Below w.heap.size w w') : NrS w' tb lb T Ai ni ci Ao no co Al nl cl LL :=
 ⟨h.1.below hb, ⟨h.2.1.1.below hb, h.2.1.2.below hb⟩, h.2.2.below hb⟩
set_option maxHeartbeats 3200000 in
set_option maxRecDepth 100000 in
theorem vnr1_any (Ax : Option Addr) (nx cx : Nat) (X : List Int) (tb lb : Nat) (T : Tr) (Ai : Option Addr) (ni ci : Nat) (Ao : Option Addr) (no co : Nat) (Al : Option Addr) (nl cl : Nat) (LL : List (List Int)) (w : World) (hx : ZIn w Ax X) (hl : X.length = nx) (h : NrS w tb lb T Ai ni ci Ao no co Al nl cl LL) (hi1 : T.i.length = ni) (ho1 : T.o.length = no) (hi2 : ni ≤ 1000) (ho2 : no ≤ 1000) (hn0 : 0 < nx) (hn2 : nx ≤ 1000) (hin : inM T.i nx ∧ inM T.o nx) (hnl : nl ≤ 9223372036854775806) (hbd : bnd 1000 X) :
 Calls Tryd.prog 55 #[.slice Ax nx cx, .pointer (some ⟨tb, 0, none⟩), .pointer (some ⟨lb, 0, none⟩)] w fun e w' => e = .returned (.bool (nrbB LL T X)) ∧ Below w.heap.size w w' := by
 have HS0 := hid h
 have HX0 := hid hx
 have HXl := hid hl
 have HQ := hid (show nrbB LL T X = (canT T X && !(memB LL (fireT T X))) from rfl)
 have HEn := enabled_verdict T.lb Ai Ao Ax ni ci no co nx cx T.i T.o X w h.2.1.1 hi1 (by omega) hx hl hin.1
 rw [show (⟨T.lb, T.i, T.o⟩ : Tr) = T from rfl] at HEn
 replace HEn := hid HEn
 have HFi := hid (fun w' (hb : Below w.heap.size w w') => vfire_any T.lb Ai Ao Ax ni ci no co nx cx T.i T.o X w' (h.2.1.1.below hb) hi1 hi2 (h.2.1.2.below hb) ho1 ho2 (hx.below hb) hl hn0 (by omega) hin.1 hin.2 hbd)
 rw [show (⟨T.lb, T.i, T.o⟩ : Tr) = T from rfl] at HFi
 have HFl := hid (show (fireT T X).length = nx by rw [fireT_len]; exact hl)
 obtain ⟨t0, t1, t2⟩ := h.1
 clear h hx hl hi1 ho1 hi2 ho2 hin hbd
 go_enter Tryd.func55, Tryd.ntmps55
 cases hcan : canT T X with
 | false =>
  rw [hcan] at HQ HEn
  go_wp2_with fail
  ((with_reducible refine HEn.out.mono ?_); rintro e w1 ⟨rfl, hb1⟩)
  have HB1 := hid hb1
  clear hb1
  go_wp2_with fail
  go_ret
  exact ⟨ret_bool (by rw [HQ.out]; rfl), HB1.out⟩
 | true =>
  rw [hcan] at HQ HEn
  go_wp2_with fail
  ((with_reducible refine HEn.out.mono ?_); rintro e w1 ⟨rfl, hb1⟩)
  have HB1 := hid hb1
  have HS1 := hid (HS0.out.below hb1)
  have HF1 := hid (HFi.out w1 hb1)
  clear hb1 HFi t0 t1 t2 hcan
  obtain ⟨t0, t1, t2⟩ := HS1.out.1
  generalize bigM (fireT T X) = bg at *
  generalize fireT T X = Y at *
  go_wp2_with fail
  ((with_reducible refine HF1.out.mono ?_); rintro e w2 ⟨v2, rfl, hS2⟩)
  obtain ⟨A2, c2, rfl⟩ := hS2.slice
  have HB2 := hid (HB1.out.trans (hS2.2.mono HB1.out.size))
  have HS2 := hid (HS1.out.below hS2.2)
  have HZ2 := hid (show ZIn w2 A2 Y by obtain ⟨A', c', e, hz, _⟩ := hS2.zin; cases e; exact hz)
  rw [HFl.out]
  have lc := HS2.out.2.2.cell
  have HIx := hid (vindex_any Al nl cl LL A2 nx c2 Y w2 HS2.out.2.2.2.1 HS2.out.2.2.2.2 hnl HZ2.out HFl.out (by omega))
  have HLe := hid (lidx_mem' Y LL)
  generalize lidx (isL Y) LL = ix at *
  clear hS2 HF1 t0 t1 t2
  go_wp2_with fail
  ((with_reducible refine HIx.out.mono ?_); rintro e w3 ⟨rfl, hb3⟩)
  have HB3 := hid (HB2.out.trans (hb3.mono HB2.out.size))
  clear hb3 lc
  go_wp2_with fail
  go_ret
  exact ⟨ret_bool (by rw [HQ.out, ← HLe.out]; rfl), HB3.out⟩
set_option maxHeartbeats 3200000 in
set_option maxRecDepth 100000 in
theorem lindex_vn (A : Option Addr) (n cap : Nat) (L : List (List Int)) (w : World) (h : LIn w A L) (hn : L.length = n) (hn4 : n ≤ 9223372036854775806) (tb lb : Nat) (T : Tr) (Ai : Option Addr) (ni ci : Nat) (Ao : Option Addr) (no co : Nat) (Al : Option Addr) (nl cl : Nat) (LL : List (List Int)) (hi1 : T.i.length = ni) (ho1 : T.o.length = no) (hi2 : ni ≤ 1000) (ho2 : no ≤ 1000) (hnl : nl ≤ 9223372036854775806) (hS : NrS w tb lb T Ai ni ci Ao no co Al nl cl LL ∧ ∀ s ∈ L, (0 < s.length ∧ s.length ≤ 1000) ∧ (inM T.i s.length ∧ inM T.o s.length) ∧ bnd 1000 s) :
 Calls Tryd.prog 33 #[.slice A n cap, .func (.func 55) #[] #[.pointer (some ⟨tb, 0, none⟩), .pointer (some ⟨lb, 0, none⟩)]] w fun e w' => e = .returned (.int .i64 (lidx (nrbB LL T) L)) ∧ Below w.heap.size w w' := by
 have H0 := hid h; clear h
 have HN := hid hn; clear hn
 have HSt := hid hS; clear hS
 go_enter Tryd.func33, Tryd.ntmps33
 go_wp2_with fail
 go_loopg [8] (n) (fun g i wr => ∃ k : Nat, k + g = n ∧ i = .int .i64 k ∧ (∀ s ∈ L.take k, (nrbB LL T) s = false) ∧ Below w.heap.size w wr)
 case atStart => exact ⟨0, by omega, rfl, by simp, Below.refl _ _⟩
 case round =>
  obtain ⟨k, hk, rfl, hno, hB⟩ := hrel
  have HK := hid hk
  have HNo := hid hno
  have HB := hid hB
  have HT := hid (H0.out.below hB)
  have hle : k ≤ n := by omega
  clear hk hno hB
  by_cases hlt : k < n
  · have hlt' : k < L.length := by rw [HN.out]; exact hlt
    obtain ⟨ad, rfl, hp, u, c0, Ax, nx, cx, rfl, zx, hxl, hxc, hxd⟩ := HT.out k hlt'
    have HTk := hid (List.take_succ_eq_append_getElem hlt')
    have HAt := hid (lidx_at (p := (nrbB LL T)) hlt')
    have hXm := List.getElem_mem hlt'
    generalize L[k] = X at *
    have HX := hid (vnr1_any Ax nx cx X tb lb T Ai ni ci Ao no co Al nl cl LL wr zx hxl (HSt.out.1.below HB.out) hi1 ho1 hi2 ho2 (by have := (HSt.out.2 X hXm).1; omega) (by have := (HSt.out.2 X hXm).1; omega) (by rw [← hxl]; exact (HSt.out.2 X hXm).2.1) hnl (HSt.out.2 X hXm).2.2)
    clear hlt' zx hxl hXm
    cases hv : (nrbB LL T) X with
    | true =>
     rw [hv] at HX
     have HV := hid (HAt.out hv HNo.out); clear hv
     go_wp2_with fail
     ((with_reducible refine HX.out.mono ?_); rintro e w1 ⟨rfl, hb1⟩)
     have HB1 := hid (below_then HB.out hb1)
     go_wp2_with fail
     go_ret
     exact ⟨ret_int HV.out.symm, HB1.out⟩
    | false =>
     rw [hv] at HX
     have HV := hid hv; clear hv HAt
     go_wp2_with fail
     ((with_reducible refine HX.out.mono ?_); rintro e w1 ⟨rfl, hb1⟩)
     have HB1 := hid (below_then HB.out hb1)
     clear hb1
     go_wp2_with fail
     go_roundg (gk - 1)
     case measure => have := HK.out; omega
     case rel => exact ⟨k + 1, by have := HK.out; omega, by go_num, by
      rw [HTk.out]; intro s hs
      rcases List.mem_append.1 hs with h1 | h1
      · exact HNo.out s h1
      · have : s = X := by simpa using h1
        rw [this]; exact HV.out, HB1.out⟩
  · have HV := hid (show lidx (nrbB LL T) L = -1 from lidx_no (by have := HNo.out; rwa [List.take_of_length_le (by rw [HN.out]; omega)] at this))
    go_wp2_with fail
    go_ret
    exact ⟨ret_int HV.out.symm, HB.out⟩
set_option maxHeartbeats 800000 in
theorem lcont_vn (A : Option Addr) (n cap : Nat) (L : List (List Int)) (w : World) (h : LIn w A L) (hn : L.length = n) (hn4 : n ≤ 9223372036854775806) (tb lb : Nat) (T : Tr) (Ai : Option Addr) (ni ci : Nat) (Ao : Option Addr) (no co : Nat) (Al : Option Addr) (nl cl : Nat) (LL : List (List Int)) (hi1 : T.i.length = ni) (ho1 : T.o.length = no) (hi2 : ni ≤ 1000) (ho2 : no ≤ 1000) (hnl : nl ≤ 9223372036854775806) (hS : NrS w tb lb T Ai ni ci Ao no co Al nl cl LL ∧ ∀ s ∈ L, (0 < s.length ∧ s.length ≤ 1000) ∧ (inM T.i s.length ∧ inM T.o s.length) ∧ bnd 1000 s) :
 Calls Tryd.prog 11 #[.slice A n cap, .func (.func 55) #[] #[.pointer (some ⟨tb, 0, none⟩), .pointer (some ⟨lb, 0, none⟩)]] w fun e w' => e = .returned (.bool (L.any (nrbB LL T))) ∧ Below w.heap.size w w' := by
 have HI := hid (lindex_vn A n cap L w h hn hn4 tb lb T Ai ni ci Ao no co Al nl cl LL hi1 ho1 hi2 ho2 hnl hS)
 have HE := hid (lidx_any (nrbB LL T) L)
 clear h hn hS
 generalize lidx (nrbB LL T) L = r at HI HE
 go_enter Tryd.func11, Tryd.ntmps11
 go_wp2_with fail
 ((with_reducible refine HI.out.mono ?_); rintro e w1 ⟨rfl, hb1⟩)
 have HB1 := hid hb1
 go_wp2_with fail
 go_ret
 exact ⟨ret_bool HE.out, HB1.out⟩
set_option maxHeartbeats 25600000 in
set_option maxRecDepth 100000 in
theorem vnotRelaxed_any (N : Nt) (A : Option Addr) (n c : Nat) (cl cn : Int) (Ar : Option Addr) (nr cr : Nat) (R : List Int) (Ap : Option Addr) (np cp : Nat) (P : List Int) (Ak : Option Addr) (nk ck : Nat) (K : List (List Int)) (Av : Option Addr) (nv cv : Nat) (V : List Mv) (As : Option Addr) (ns cs : Nat) (S : List (List Int)) (Aw : Option Addr) (nw cw : Nat) (X : List (List Int)) (w : World) (h : NtIn w A N) (hn : N.tr.length = n) (hv : ntB N = true) (hC : CfM w Ar nr R Ap np P Ak nk K Av nv V As ns S Aw nw X) (hI6 : ∀ I ∈ S, ∀ ni : Nat, I.length = ni → ni ≤ 1000000) :
 Calls Tryd.prog 28 #[.agg #[.int .i64 N.pl, .slice A n c, .int .i64 N.src, .int .i64 N.snk], .agg #[.int .i64 cl, .int .i64 cn, .slice Ar nr cr, .slice Ap np cp, .slice Ak nk ck, .slice Av nv cv, .slice As ns cs, .slice Aw nw cw]] w fun e w' => e = .returned (.bool (nrlB N cn K S)) ∧ Below w.heap.size w w' := by
 have HB0 := hid (two_boxes w (.cells #[.int .i64 N.pl, .slice A n c, .int .i64 N.src, .int .i64 N.snk] 24) (.cells #[.int .i64 cl, .int .i64 cn, .slice Ar nr cr, .slice Ap np cp, .slice Ak nk ck, .slice Av nv cv, .slice As ns cs, .slice Aw nw cw] 29))
 have HNb0 := hid ((NB.new w N.pl A n c N.src N.snk).below (below_alloc _ (.cells #[.int .i64 cl, .int .i64 cn, .slice Ar nr cr, .slice Ap np cp, .slice Ak nk ck, .slice Av nv cv, .slice As ns cs, .slice Aw nw cw] 29)))
 have hcb := heap_alloc_new (w.alloc (.cells #[.int .i64 N.pl, .slice A n c, .int .i64 N.src, .int .i64 N.snk] 24)) (.cells #[.int .i64 cl, .int .i64 cn, .slice Ar nr cr, .slice Ap np cp, .slice Ak nk ck, .slice Av nv cv, .slice As ns cs, .slice Aw nw cw] 29)
 rw [World.size_alloc] at hcb
 have HCb0 := hid (show CtB _ (w.heap.size + 1) #[.int .i64 cl, .int .i64 cn, .slice Ar nr cr, .slice Ap np cp, .slice Ak nk ck, .slice Av nv cv, .slice As ns cs, .slice Aw nw cw] from hcb)
 have HIn0 := hid (h.below HB0.out)
 have HC0 := hid (hC.below HB0.out)
 have HNl := hid hn
 have HV := hid hv
 have hps := nt_small hv
 have hn60 : n ≤ 60 := by omega
 obtain ⟨Q, hQ⟩ : ∃ Q, Q = nrlB N cn K S := ⟨_, rfl⟩
 rw [← hQ]
 unfold nrlB at hQ
 have HQ := hid hQ
 clear hQ
 have hpls := nt_src hv
 have hpl40 : N.pl ≤ 40 := hps.2.1
 replace hI6 := hid hI6
 clear h hn hv hC hps hcb
 go_enter Tryd.func28, Tryd.ntmps28
 go_wp2_with fail
 generalize (w.alloc (.cells #[.int .i64 N.pl, .slice A n c, .int .i64 N.src, .int .i64 N.snk] 24)).alloc (.cells #[.int .i64 cl, .int .i64 cn, .slice Ar nr cr, .slice Ap np cp, .slice Ak nk ck, .slice Av nv cv, .slice As ns cs, .slice Aw nw cw] 29) = w0 at *
 generalize w.heap.size + 1 = cb at *
 cases ht : trnB N cn with
 | false =>
  rw [ht] at HQ
  have HT0 := hid ht
  clear ht
  have hbd : Below w0.heap.size w0 w0.drew := (Below.refl _ _).drew
  have HB1 := hid (HB0.out.trans (hbd.mono HB0.out.size))
  have HNb1 := hid (HNb0.out.below hbd)
  have HCb1 := hid (HCb0.out.below hbd)
  have HIn1 := hid (HIn0.out.below hbd)
  have HC1 := hid (HC0.out.below hbd)
  obtain ⟨b0, b1, b2, b3⟩ := HNb1.out.cells
  obtain ⟨d0, d1, d2, d3, d4, d5, d6, d7⟩ := HCb1.out.cells
  have hS0 := And.intro b0 (And.intro b1 (And.intro b2 (And.intro b3 (And.intro d0 (And.intro d1 (And.intro d2 (And.intro d3 (And.intro d4 (And.intro d5 (And.intro d6 (d7)))))))))))
  refine wp_region_held_drew (S := fun w' => w'.cell? ⟨w.heap.size, 0, none⟩ = some (.int .i64 N.pl) ∧ w'.cell? ⟨w.heap.size, 1, none⟩ = some (.slice A n c) ∧ w'.cell? ⟨w.heap.size, 2, none⟩ = some (.int .i64 N.src) ∧ w'.cell? ⟨w.heap.size, 3, none⟩ = some (.int .i64 N.snk) ∧ w'.cell? ⟨cb, 0, none⟩ = some (.int .i64 cl) ∧ w'.cell? ⟨cb, 1, none⟩ = some (.int .i64 cn) ∧ w'.cell? ⟨cb, 2, none⟩ = some (.slice Ar nr cr) ∧ w'.cell? ⟨cb, 3, none⟩ = some (.slice Ap np cp) ∧ w'.cell? ⟨cb, 4, none⟩ = some (.slice Ak nk ck) ∧ w'.cell? ⟨cb, 5, none⟩ = some (.slice Av nv cv) ∧ w'.cell? ⟨cb, 6, none⟩ = some (.slice As ns cs) ∧ w'.cell? ⟨cb, 7, none⟩ = some (.slice Aw nw cw)) (by kernel_rfl) hS0 (fun hHeld => ?_)
  clear hS0 hbd b0 b1 b2 b3 d0 d1 d2 d3 d4 d5 d6 d7
  clear HB0 HNb0 HCb0 HIn0 HC0
  generalize w0.drew = w1 at *
  refine tkH 0 ?_; try go_simp
  refine tkH 1 ?_; try go_simp
  refine tkH 2 ?_; try go_simp
  refine tkR 3 (fun K9 hK => ?_)
  go_simp
  have HTr := hid (vtrans_any N A n c cn w1 HNl.out)
  rw [HT0.out] at HTr
  ((refine HTr.out.mono ?_); rintro e w2 ⟨rfl, hb2⟩)
  have hS9 := hHeld
  refine hK.out _ _ ⟨cell_stays hb2 hS9.1, cell_stays hb2 hS9.2.1, cell_stays hb2 hS9.2.2.1, cell_stays hb2 hS9.2.2.2.1, cell_stays hb2 hS9.2.2.2.2.1, cell_stays hb2 hS9.2.2.2.2.2.1, cell_stays hb2 hS9.2.2.2.2.2.2.1, cell_stays hb2 hS9.2.2.2.2.2.2.2.1, cell_stays hb2 hS9.2.2.2.2.2.2.2.2.1, cell_stays hb2 hS9.2.2.2.2.2.2.2.2.2.1, cell_stays hb2 hS9.2.2.2.2.2.2.2.2.2.2.1, cell_stays hb2 hS9.2.2.2.2.2.2.2.2.2.2.2⟩ (fun hHeld => ?_)
  clear hK K9 hS9
  try go_simp
  have HB2 := hid (HB1.out.trans (hb2.mono HB1.out.size))
  have HNb2 := hid (HNb1.out.below hb2)
  have HCb2 := hid (HCb1.out.below hb2)
  have HIn2 := hid (HIn1.out.below hb2)
  have HC2 := hid (HC1.out.below hb2)
  clear HB1 HNb1 HCb1 HIn1 HC1
  clear hb2
  refine tkH 4 ?_; try go_simp
  refine tkH 5 ?_; try go_simp
  refine tkU 6 ?_; try go_simp
  refine tkU 7 ?_; try go_simp
  refine tkU 8 ?_; try go_simp
  refine tkU 9 ?_; try go_simp
  refine tkU 10 ?_; try go_simp
  refine tkH 11 ?_; try go_simp
  refine tkH 12 ?_; try go_simp
  refine tkU 13 ?_; try go_simp
  refine tkU 14 ?_; try go_simp
  refine tkU 15 ?_; try go_simp
  refine tkU 16 ?_; try go_simp
  refine tkU 17 ?_; try go_simp
  refine tkU 18 ?_; try go_simp
  refine tkU 19 ?_; try go_simp
  refine tkU 20 ?_; try go_simp
  refine tkH 21 ?_; try go_simp
  refine tkH 22 ?_; try go_simp
  refine tkU 23 ?_; try go_simp
  refine tkU 24 ?_; try go_simp
  refine tkU 25 ?_; try go_simp
  refine tkU 26 ?_; try go_simp
  refine tkH 27 ?_; try go_simp
  refine tkH 28 ?_; try go_simp
  refine tkU 29 ?_; try go_simp
  refine tkU 30 ?_; try go_simp
  refine tkU 31 ?_; try go_simp
  refine tkU 32 ?_; try go_simp
  refine tkU 33 ?_; try go_simp
  refine tkH 34 ?_; try go_simp
  refine wpAnyH_done (by kernel_rfl) ?_ _
  clear hHeld
  go_wp2_with fail
  go_ret
  exact ⟨ret_bool (by rw [HQ.out]; rfl), HB2.out⟩
 | true =>
  rw [ht] at HQ
  have HT0 := hid ht
  clear ht
  cases hm : mksX N.pl false K with
  | false =>
   rw [hm] at HQ
   have HM0 := hid hm
   clear hm
   have hbd : Below w0.heap.size w0 w0.drew := (Below.refl _ _).drew
   have HB1 := hid (HB0.out.trans (hbd.mono HB0.out.size))
   have HNb1 := hid (HNb0.out.below hbd)
   have HCb1 := hid (HCb0.out.below hbd)
   have HIn1 := hid (HIn0.out.below hbd)
   have HC1 := hid (HC0.out.below hbd)
   obtain ⟨b0, b1, b2, b3⟩ := HNb1.out.cells
   obtain ⟨d0, d1, d2, d3, d4, d5, d6, d7⟩ := HCb1.out.cells
   have hS0 := And.intro b0 (And.intro b1 (And.intro b2 (And.intro b3 (And.intro d0 (And.intro d1 (And.intro d2 (And.intro d3 (And.intro d4 (And.intro d5 (And.intro d6 (d7)))))))))))
   refine wp_region_held_drew (S := fun w' => w'.cell? ⟨w.heap.size, 0, none⟩ = some (.int .i64 N.pl) ∧ w'.cell? ⟨w.heap.size, 1, none⟩ = some (.slice A n c) ∧ w'.cell? ⟨w.heap.size, 2, none⟩ = some (.int .i64 N.src) ∧ w'.cell? ⟨w.heap.size, 3, none⟩ = some (.int .i64 N.snk) ∧ w'.cell? ⟨cb, 0, none⟩ = some (.int .i64 cl) ∧ w'.cell? ⟨cb, 1, none⟩ = some (.int .i64 cn) ∧ w'.cell? ⟨cb, 2, none⟩ = some (.slice Ar nr cr) ∧ w'.cell? ⟨cb, 3, none⟩ = some (.slice Ap np cp) ∧ w'.cell? ⟨cb, 4, none⟩ = some (.slice Ak nk ck) ∧ w'.cell? ⟨cb, 5, none⟩ = some (.slice Av nv cv) ∧ w'.cell? ⟨cb, 6, none⟩ = some (.slice As ns cs) ∧ w'.cell? ⟨cb, 7, none⟩ = some (.slice Aw nw cw)) (by kernel_rfl) hS0 (fun hHeld => ?_)
   clear hS0 hbd b0 b1 b2 b3 d0 d1 d2 d3 d4 d5 d6 d7
   clear HB0 HNb0 HCb0 HIn0 HC0
   generalize w0.drew = w1 at *
   refine tkH 0 ?_; try go_simp
   refine tkH 1 ?_; try go_simp
   refine tkH 2 ?_; try go_simp
   refine tkR 3 (fun K9 hK => ?_)
   go_simp
   have HTr := hid (vtrans_any N A n c cn w1 HNl.out)
   rw [HT0.out] at HTr
   ((refine HTr.out.mono ?_); rintro e w2 ⟨rfl, hb2⟩)
   have hS9 := hHeld
   refine hK.out _ _ ⟨cell_stays hb2 hS9.1, cell_stays hb2 hS9.2.1, cell_stays hb2 hS9.2.2.1, cell_stays hb2 hS9.2.2.2.1, cell_stays hb2 hS9.2.2.2.2.1, cell_stays hb2 hS9.2.2.2.2.2.1, cell_stays hb2 hS9.2.2.2.2.2.2.1, cell_stays hb2 hS9.2.2.2.2.2.2.2.1, cell_stays hb2 hS9.2.2.2.2.2.2.2.2.1, cell_stays hb2 hS9.2.2.2.2.2.2.2.2.2.1, cell_stays hb2 hS9.2.2.2.2.2.2.2.2.2.2.1, cell_stays hb2 hS9.2.2.2.2.2.2.2.2.2.2.2⟩ (fun hHeld => ?_)
   clear hK K9 hS9
   try go_simp
   have HB2 := hid (HB1.out.trans (hb2.mono HB1.out.size))
   have HNb2 := hid (HNb1.out.below hb2)
   have HCb2 := hid (HCb1.out.below hb2)
   have HIn2 := hid (HIn1.out.below hb2)
   have HC2 := hid (HC1.out.below hb2)
   clear HB1 HNb1 HCb1 HIn1 HC1
   clear hb2
   refine tkH 4 ?_; try go_simp
   refine tkH 5 ?_; try go_simp
   refine tkH 6 ?_; try go_simp
   refine tkH 7 ?_; try go_simp
   refine tkH 8 ?_; try go_simp
   refine tkR 9 (fun K9 hK => ?_)
   go_simp
   have HMs := hid (vmarkings_any N.pl A n c N.src N.snk Ak nk ck K false w2 HC2.out.k HC2.out.kl HC2.out.kb)
   rw [HM0.out] at HMs
   ((refine (HMs.out).mono ?_); rintro e w3 ⟨rfl, hb3⟩)
   have hS9 := hHeld
   refine hK.out _ _ ⟨cell_stays hb3 hS9.1, cell_stays hb3 hS9.2.1, cell_stays hb3 hS9.2.2.1, cell_stays hb3 hS9.2.2.2.1, cell_stays hb3 hS9.2.2.2.2.1, cell_stays hb3 hS9.2.2.2.2.2.1, cell_stays hb3 hS9.2.2.2.2.2.2.1, cell_stays hb3 hS9.2.2.2.2.2.2.2.1, cell_stays hb3 hS9.2.2.2.2.2.2.2.2.1, cell_stays hb3 hS9.2.2.2.2.2.2.2.2.2.1, cell_stays hb3 hS9.2.2.2.2.2.2.2.2.2.2.1, cell_stays hb3 hS9.2.2.2.2.2.2.2.2.2.2.2⟩ (fun hHeld => ?_)
   clear hK K9 hS9
   try go_simp
   have HB3 := hid (HB2.out.trans (hb3.mono HB2.out.size))
   have HNb3 := hid (HNb2.out.below hb3)
   have HCb3 := hid (HCb2.out.below hb3)
   have HIn3 := hid (HIn2.out.below hb3)
   have HC3 := hid (HC2.out.below hb3)
   clear HB2 HNb2 HCb2 HIn2 HC2
   clear hb3
   refine tkH 10 ?_; try go_simp
   refine tkH 11 ?_; try go_simp
   refine tkH 12 ?_; try go_simp
   refine tkU 13 ?_; try go_simp
   refine tkU 14 ?_; try go_simp
   refine tkU 15 ?_; try go_simp
   refine tkU 16 ?_; try go_simp
   refine tkU 17 ?_; try go_simp
   refine tkU 18 ?_; try go_simp
   refine tkU 19 ?_; try go_simp
   refine tkU 20 ?_; try go_simp
   refine tkH 21 ?_; try go_simp
   refine tkH 22 ?_; try go_simp
   refine tkU 23 ?_; try go_simp
   refine tkU 24 ?_; try go_simp
   refine tkU 25 ?_; try go_simp
   refine tkU 26 ?_; try go_simp
   refine tkH 27 ?_; try go_simp
   refine tkH 28 ?_; try go_simp
   refine tkU 29 ?_; try go_simp
   refine tkU 30 ?_; try go_simp
   refine tkU 31 ?_; try go_simp
   refine tkU 32 ?_; try go_simp
   refine tkU 33 ?_; try go_simp
   refine tkH 34 ?_; try go_simp
   refine wpAnyH_done (by kernel_rfl) ?_ _
   clear hHeld
   go_wp2_with fail
   go_ret
   exact ⟨ret_bool (by rw [HQ.out]; rfl), HB3.out⟩
  | true =>
   rw [hm] at HQ
   have HAll := hid (show ∀ s ∈ K, mkX N.pl false s = true from List.all_eq_true.1 hm)
   have HM0 := hid hm
   clear hm
   have HLe := hid (lidx_mem' (iniM N) K)
   cases hi : memB K (iniM N) with
   | false =>
    rw [hi] at HQ HLe
    clear hi
    have q3 : decide (lidx (isL (iniM N)) K < 0) = true := HLe.out
    have hbd : Below w0.heap.size w0 w0.drew := (Below.refl _ _).drew
    have HB1 := hid (HB0.out.trans (hbd.mono HB0.out.size))
    have HNb1 := hid (HNb0.out.below hbd)
    have HCb1 := hid (HCb0.out.below hbd)
    have HIn1 := hid (HIn0.out.below hbd)
    have HC1 := hid (HC0.out.below hbd)
    obtain ⟨b0, b1, b2, b3⟩ := HNb1.out.cells
    obtain ⟨d0, d1, d2, d3, d4, d5, d6, d7⟩ := HCb1.out.cells
    have hS0 := And.intro b0 (And.intro b1 (And.intro b2 (And.intro b3 (And.intro d0 (And.intro d1 (And.intro d2 (And.intro d3 (And.intro d4 (And.intro d5 (And.intro d6 (d7)))))))))))
    refine wp_region_held_drew (S := fun w' => w'.cell? ⟨w.heap.size, 0, none⟩ = some (.int .i64 N.pl) ∧ w'.cell? ⟨w.heap.size, 1, none⟩ = some (.slice A n c) ∧ w'.cell? ⟨w.heap.size, 2, none⟩ = some (.int .i64 N.src) ∧ w'.cell? ⟨w.heap.size, 3, none⟩ = some (.int .i64 N.snk) ∧ w'.cell? ⟨cb, 0, none⟩ = some (.int .i64 cl) ∧ w'.cell? ⟨cb, 1, none⟩ = some (.int .i64 cn) ∧ w'.cell? ⟨cb, 2, none⟩ = some (.slice Ar nr cr) ∧ w'.cell? ⟨cb, 3, none⟩ = some (.slice Ap np cp) ∧ w'.cell? ⟨cb, 4, none⟩ = some (.slice Ak nk ck) ∧ w'.cell? ⟨cb, 5, none⟩ = some (.slice Av nv cv) ∧ w'.cell? ⟨cb, 6, none⟩ = some (.slice As ns cs) ∧ w'.cell? ⟨cb, 7, none⟩ = some (.slice Aw nw cw)) (by kernel_rfl) hS0 (fun hHeld => ?_)
    clear hS0 hbd b0 b1 b2 b3 d0 d1 d2 d3 d4 d5 d6 d7
    clear HB0 HNb0 HCb0 HIn0 HC0
    generalize w0.drew = w1 at *
    refine tkH 0 ?_; try go_simp
    refine tkH 1 ?_; try go_simp
    refine tkH 2 ?_; try go_simp
    refine tkR 3 (fun K9 hK => ?_)
    go_simp
    have HTr := hid (vtrans_any N A n c cn w1 HNl.out)
    rw [HT0.out] at HTr
    ((refine HTr.out.mono ?_); rintro e w2 ⟨rfl, hb2⟩)
    have hS9 := hHeld
    refine hK.out _ _ ⟨cell_stays hb2 hS9.1, cell_stays hb2 hS9.2.1, cell_stays hb2 hS9.2.2.1, cell_stays hb2 hS9.2.2.2.1, cell_stays hb2 hS9.2.2.2.2.1, cell_stays hb2 hS9.2.2.2.2.2.1, cell_stays hb2 hS9.2.2.2.2.2.2.1, cell_stays hb2 hS9.2.2.2.2.2.2.2.1, cell_stays hb2 hS9.2.2.2.2.2.2.2.2.1, cell_stays hb2 hS9.2.2.2.2.2.2.2.2.2.1, cell_stays hb2 hS9.2.2.2.2.2.2.2.2.2.2.1, cell_stays hb2 hS9.2.2.2.2.2.2.2.2.2.2.2⟩ (fun hHeld => ?_)
    clear hK K9 hS9
    try go_simp
    have HB2 := hid (HB1.out.trans (hb2.mono HB1.out.size))
    have HNb2 := hid (HNb1.out.below hb2)
    have HCb2 := hid (HCb1.out.below hb2)
    have HIn2 := hid (HIn1.out.below hb2)
    have HC2 := hid (HC1.out.below hb2)
    clear HB1 HNb1 HCb1 HIn1 HC1
    clear hb2
    refine tkH 4 ?_; try go_simp
    refine tkH 5 ?_; try go_simp
    refine tkH 6 ?_; try go_simp
    refine tkH 7 ?_; try go_simp
    refine tkH 8 ?_; try go_simp
    refine tkR 9 (fun K9 hK => ?_)
    go_simp
    have HMs := hid (vmarkings_any N.pl A n c N.src N.snk Ak nk ck K false w2 HC2.out.k HC2.out.kl HC2.out.kb)
    rw [HM0.out] at HMs
    ((refine (HMs.out).mono ?_); rintro e w3 ⟨rfl, hb3⟩)
    have hS9 := hHeld
    refine hK.out _ _ ⟨cell_stays hb3 hS9.1, cell_stays hb3 hS9.2.1, cell_stays hb3 hS9.2.2.1, cell_stays hb3 hS9.2.2.2.1, cell_stays hb3 hS9.2.2.2.2.1, cell_stays hb3 hS9.2.2.2.2.2.1, cell_stays hb3 hS9.2.2.2.2.2.2.1, cell_stays hb3 hS9.2.2.2.2.2.2.2.1, cell_stays hb3 hS9.2.2.2.2.2.2.2.2.1, cell_stays hb3 hS9.2.2.2.2.2.2.2.2.2.1, cell_stays hb3 hS9.2.2.2.2.2.2.2.2.2.2.1, cell_stays hb3 hS9.2.2.2.2.2.2.2.2.2.2.2⟩ (fun hHeld => ?_)
    clear hK K9 hS9
    try go_simp
    have HB3 := hid (HB2.out.trans (hb3.mono HB2.out.size))
    have HNb3 := hid (HNb2.out.below hb3)
    have HCb3 := hid (HCb2.out.below hb3)
    have HIn3 := hid (HIn2.out.below hb3)
    have HC3 := hid (HC2.out.below hb3)
    clear HB2 HNb2 HCb2 HIn2 HC2
    clear hb3
    refine tkH 10 ?_; try go_simp
    refine tkH 11 ?_; try go_simp
    refine tkH 12 ?_; try go_simp
    refine tkH 13 ?_; try go_simp
    refine tkH 14 ?_; try go_simp
    refine tkH 15 ?_; try go_simp
    refine tkH 16 ?_; try go_simp
    refine tkH 17 ?_; try go_simp
    refine tkR 18 (fun K9 hK => ?_)
    go_simp
    ((refine (vsrc_any N A n c HV.out w3).mono ?_); rintro e w4 ⟨v4, rfl, hS4⟩); (obtain ⟨A4, c4, rfl⟩ := hS4.slice); (have hb4 := hS4.2)
    have hS9 := hHeld
    refine hK.out _ _ ⟨cell_stays hb4 hS9.1, cell_stays hb4 hS9.2.1, cell_stays hb4 hS9.2.2.1, cell_stays hb4 hS9.2.2.2.1, cell_stays hb4 hS9.2.2.2.2.1, cell_stays hb4 hS9.2.2.2.2.2.1, cell_stays hb4 hS9.2.2.2.2.2.2.1, cell_stays hb4 hS9.2.2.2.2.2.2.2.1, cell_stays hb4 hS9.2.2.2.2.2.2.2.2.1, cell_stays hb4 hS9.2.2.2.2.2.2.2.2.2.1, cell_stays hb4 hS9.2.2.2.2.2.2.2.2.2.2.1, cell_stays hb4 hS9.2.2.2.2.2.2.2.2.2.2.2⟩ (fun hHeld => ?_)
    clear hK K9 hS9
    try go_simp
    have HB4 := hid (HB3.out.trans (hb4.mono HB3.out.size))
    have HNb4 := hid (HNb3.out.below hb4)
    have HCb4 := hid (HCb3.out.below hb4)
    have HIn4 := hid (HIn3.out.below hb4)
    have HC4 := hid (HC3.out.below hb4)
    clear HB3 HNb3 HCb3 HIn3 HC3
    clear hb4
    have HI4 := hid (show ZIn w4 A4 (iniM N) by obtain ⟨A', c', e, hz, _⟩ := hS4.zin; cases e; exact hz)
    clear hS4
    refine tkR 19 (fun K9 hK => ?_)
    go_simp
    have HIx := hid (vindex_any Ak nk ck K A4 (iniM N).length c4 (iniM N) w4 HC4.out.k HC4.out.kl HC4.out.kb HI4.out rfl (by have := ini_len HV.out; omega))
    ((refine (HIx.out).mono ?_); rintro e w5 ⟨rfl, hb5⟩)
    have hS9 := hHeld
    refine hK.out _ _ ⟨cell_stays hb5 hS9.1, cell_stays hb5 hS9.2.1, cell_stays hb5 hS9.2.2.1, cell_stays hb5 hS9.2.2.2.1, cell_stays hb5 hS9.2.2.2.2.1, cell_stays hb5 hS9.2.2.2.2.2.1, cell_stays hb5 hS9.2.2.2.2.2.2.1, cell_stays hb5 hS9.2.2.2.2.2.2.2.1, cell_stays hb5 hS9.2.2.2.2.2.2.2.2.1, cell_stays hb5 hS9.2.2.2.2.2.2.2.2.2.1, cell_stays hb5 hS9.2.2.2.2.2.2.2.2.2.2.1, cell_stays hb5 hS9.2.2.2.2.2.2.2.2.2.2.2⟩ (fun hHeld => ?_)
    clear hK K9 hS9
    try go_simp
    have HB5 := hid (HB4.out.trans (hb5.mono HB4.out.size))
    have HNb5 := hid (HNb4.out.below hb5)
    have HCb5 := hid (HCb4.out.below hb5)
    have HIn5 := hid (HIn4.out.below hb5)
    have HC5 := hid (HC4.out.below hb5)
    clear HB4 HNb4 HCb4 HIn4 HC4
    clear hb5
    refine tkH 20 ?_; try go_simp
    refine tkH 21 ?_; try go_simp
    refine tkH 22 ?_; try go_simp
    refine tkU 23 ?_; try go_simp
    refine tkU 24 ?_; try go_simp
    refine tkU 25 ?_; try go_simp
    refine tkU 26 ?_; try go_simp
    refine tkH 27 ?_; try go_simp
    refine tkH 28 ?_; try go_simp
    refine tkU 29 ?_; try go_simp
    refine tkU 30 ?_; try go_simp
    refine tkU 31 ?_; try go_simp
    refine tkU 32 ?_; try go_simp
    refine tkU 33 ?_; try go_simp
    refine tkH 34 ?_; try go_simp
    refine wpAnyH_done (by kernel_rfl) ?_ _
    clear hHeld
    go_wp2_with fail
    go_ret
    exact ⟨ret_bool (by rw [HQ.out]; rfl), HB5.out⟩
   | true =>
    rw [hi] at HQ HLe
    clear hi
    have q3 : decide (lidx (isL (iniM N)) K < 0) = false := HLe.out
    by_cases hs1 : ns = 1
    rotate_left
    · have q4 : ((ns : Int) != 1) = true := by rw [bne_iff_ne]; omega
      rw [HC0.out.sl, decide_eq_false hs1] at HQ
      clear hs1
      have hbd : Below w0.heap.size w0 w0.drew := (Below.refl _ _).drew
      have HB1 := hid (HB0.out.trans (hbd.mono HB0.out.size))
      have HNb1 := hid (HNb0.out.below hbd)
      have HCb1 := hid (HCb0.out.below hbd)
      have HIn1 := hid (HIn0.out.below hbd)
      have HC1 := hid (HC0.out.below hbd)
      obtain ⟨b0, b1, b2, b3⟩ := HNb1.out.cells
      obtain ⟨d0, d1, d2, d3, d4, d5, d6, d7⟩ := HCb1.out.cells
      have hS0 := And.intro b0 (And.intro b1 (And.intro b2 (And.intro b3 (And.intro d0 (And.intro d1 (And.intro d2 (And.intro d3 (And.intro d4 (And.intro d5 (And.intro d6 (d7)))))))))))
      refine wp_region_held_drew (S := fun w' => w'.cell? ⟨w.heap.size, 0, none⟩ = some (.int .i64 N.pl) ∧ w'.cell? ⟨w.heap.size, 1, none⟩ = some (.slice A n c) ∧ w'.cell? ⟨w.heap.size, 2, none⟩ = some (.int .i64 N.src) ∧ w'.cell? ⟨w.heap.size, 3, none⟩ = some (.int .i64 N.snk) ∧ w'.cell? ⟨cb, 0, none⟩ = some (.int .i64 cl) ∧ w'.cell? ⟨cb, 1, none⟩ = some (.int .i64 cn) ∧ w'.cell? ⟨cb, 2, none⟩ = some (.slice Ar nr cr) ∧ w'.cell? ⟨cb, 3, none⟩ = some (.slice Ap np cp) ∧ w'.cell? ⟨cb, 4, none⟩ = some (.slice Ak nk ck) ∧ w'.cell? ⟨cb, 5, none⟩ = some (.slice Av nv cv) ∧ w'.cell? ⟨cb, 6, none⟩ = some (.slice As ns cs) ∧ w'.cell? ⟨cb, 7, none⟩ = some (.slice Aw nw cw)) (by kernel_rfl) hS0 (fun hHeld => ?_)
      clear hS0 hbd b0 b1 b2 b3 d0 d1 d2 d3 d4 d5 d6 d7
      clear HB0 HNb0 HCb0 HIn0 HC0
      generalize w0.drew = w1 at *
      refine tkH 0 ?_; try go_simp
      refine tkH 1 ?_; try go_simp
      refine tkH 2 ?_; try go_simp
      refine tkR 3 (fun K9 hK => ?_)
      go_simp
      have HTr := hid (vtrans_any N A n c cn w1 HNl.out)
      rw [HT0.out] at HTr
      ((refine HTr.out.mono ?_); rintro e w2 ⟨rfl, hb2⟩)
      have hS9 := hHeld
      refine hK.out _ _ ⟨cell_stays hb2 hS9.1, cell_stays hb2 hS9.2.1, cell_stays hb2 hS9.2.2.1, cell_stays hb2 hS9.2.2.2.1, cell_stays hb2 hS9.2.2.2.2.1, cell_stays hb2 hS9.2.2.2.2.2.1, cell_stays hb2 hS9.2.2.2.2.2.2.1, cell_stays hb2 hS9.2.2.2.2.2.2.2.1, cell_stays hb2 hS9.2.2.2.2.2.2.2.2.1, cell_stays hb2 hS9.2.2.2.2.2.2.2.2.2.1, cell_stays hb2 hS9.2.2.2.2.2.2.2.2.2.2.1, cell_stays hb2 hS9.2.2.2.2.2.2.2.2.2.2.2⟩ (fun hHeld => ?_)
      clear hK K9 hS9
      try go_simp
      have HB2 := hid (HB1.out.trans (hb2.mono HB1.out.size))
      have HNb2 := hid (HNb1.out.below hb2)
      have HCb2 := hid (HCb1.out.below hb2)
      have HIn2 := hid (HIn1.out.below hb2)
      have HC2 := hid (HC1.out.below hb2)
      clear HB1 HNb1 HCb1 HIn1 HC1
      clear hb2
      refine tkH 4 ?_; try go_simp
      refine tkH 5 ?_; try go_simp
      refine tkH 6 ?_; try go_simp
      refine tkH 7 ?_; try go_simp
      refine tkH 8 ?_; try go_simp
      refine tkR 9 (fun K9 hK => ?_)
      go_simp
      have HMs := hid (vmarkings_any N.pl A n c N.src N.snk Ak nk ck K false w2 HC2.out.k HC2.out.kl HC2.out.kb)
      rw [HM0.out] at HMs
      ((refine (HMs.out).mono ?_); rintro e w3 ⟨rfl, hb3⟩)
      have hS9 := hHeld
      refine hK.out _ _ ⟨cell_stays hb3 hS9.1, cell_stays hb3 hS9.2.1, cell_stays hb3 hS9.2.2.1, cell_stays hb3 hS9.2.2.2.1, cell_stays hb3 hS9.2.2.2.2.1, cell_stays hb3 hS9.2.2.2.2.2.1, cell_stays hb3 hS9.2.2.2.2.2.2.1, cell_stays hb3 hS9.2.2.2.2.2.2.2.1, cell_stays hb3 hS9.2.2.2.2.2.2.2.2.1, cell_stays hb3 hS9.2.2.2.2.2.2.2.2.2.1, cell_stays hb3 hS9.2.2.2.2.2.2.2.2.2.2.1, cell_stays hb3 hS9.2.2.2.2.2.2.2.2.2.2.2⟩ (fun hHeld => ?_)
      clear hK K9 hS9
      try go_simp
      have HB3 := hid (HB2.out.trans (hb3.mono HB2.out.size))
      have HNb3 := hid (HNb2.out.below hb3)
      have HCb3 := hid (HCb2.out.below hb3)
      have HIn3 := hid (HIn2.out.below hb3)
      have HC3 := hid (HC2.out.below hb3)
      clear HB2 HNb2 HCb2 HIn2 HC2
      clear hb3
      refine tkH 10 ?_; try go_simp
      refine tkH 11 ?_; try go_simp
      refine tkH 12 ?_; try go_simp
      refine tkH 13 ?_; try go_simp
      refine tkH 14 ?_; try go_simp
      refine tkH 15 ?_; try go_simp
      refine tkH 16 ?_; try go_simp
      refine tkH 17 ?_; try go_simp
      refine tkR 18 (fun K9 hK => ?_)
      go_simp
      ((refine (vsrc_any N A n c HV.out w3).mono ?_); rintro e w4 ⟨v4, rfl, hS4⟩); (obtain ⟨A4, c4, rfl⟩ := hS4.slice); (have hb4 := hS4.2)
      have hS9 := hHeld
      refine hK.out _ _ ⟨cell_stays hb4 hS9.1, cell_stays hb4 hS9.2.1, cell_stays hb4 hS9.2.2.1, cell_stays hb4 hS9.2.2.2.1, cell_stays hb4 hS9.2.2.2.2.1, cell_stays hb4 hS9.2.2.2.2.2.1, cell_stays hb4 hS9.2.2.2.2.2.2.1, cell_stays hb4 hS9.2.2.2.2.2.2.2.1, cell_stays hb4 hS9.2.2.2.2.2.2.2.2.1, cell_stays hb4 hS9.2.2.2.2.2.2.2.2.2.1, cell_stays hb4 hS9.2.2.2.2.2.2.2.2.2.2.1, cell_stays hb4 hS9.2.2.2.2.2.2.2.2.2.2.2⟩ (fun hHeld => ?_)
      clear hK K9 hS9
      try go_simp
      have HB4 := hid (HB3.out.trans (hb4.mono HB3.out.size))
      have HNb4 := hid (HNb3.out.below hb4)
      have HCb4 := hid (HCb3.out.below hb4)
      have HIn4 := hid (HIn3.out.below hb4)
      have HC4 := hid (HC3.out.below hb4)
      clear HB3 HNb3 HCb3 HIn3 HC3
      clear hb4
      have HI4 := hid (show ZIn w4 A4 (iniM N) by obtain ⟨A', c', e, hz, _⟩ := hS4.zin; cases e; exact hz)
      clear hS4
      refine tkR 19 (fun K9 hK => ?_)
      go_simp
      have HIx := hid (vindex_any Ak nk ck K A4 (iniM N).length c4 (iniM N) w4 HC4.out.k HC4.out.kl HC4.out.kb HI4.out rfl (by have := ini_len HV.out; omega))
      ((refine (HIx.out).mono ?_); rintro e w5 ⟨rfl, hb5⟩)
      have hS9 := hHeld
      refine hK.out _ _ ⟨cell_stays hb5 hS9.1, cell_stays hb5 hS9.2.1, cell_stays hb5 hS9.2.2.1, cell_stays hb5 hS9.2.2.2.1, cell_stays hb5 hS9.2.2.2.2.1, cell_stays hb5 hS9.2.2.2.2.2.1, cell_stays hb5 hS9.2.2.2.2.2.2.1, cell_stays hb5 hS9.2.2.2.2.2.2.2.1, cell_stays hb5 hS9.2.2.2.2.2.2.2.2.1, cell_stays hb5 hS9.2.2.2.2.2.2.2.2.2.1, cell_stays hb5 hS9.2.2.2.2.2.2.2.2.2.2.1, cell_stays hb5 hS9.2.2.2.2.2.2.2.2.2.2.2⟩ (fun hHeld => ?_)
      clear hK K9 hS9
      try go_simp
      have HB5 := hid (HB4.out.trans (hb5.mono HB4.out.size))
      have HNb5 := hid (HNb4.out.below hb5)
      have HCb5 := hid (HCb4.out.below hb5)
      have HIn5 := hid (HIn4.out.below hb5)
      have HC5 := hid (HC4.out.below hb5)
      clear HB4 HNb4 HCb4 HIn4 HC4
      clear hb5
      refine tkH 20 ?_; try go_simp
      refine tkH 21 ?_; try go_simp
      refine tkH 22 ?_; try go_simp
      refine tkH 23 ?_; try go_simp
      refine tkH 24 ?_; try go_simp
      refine tkH 25 ?_; try go_simp
      refine tkH 26 ?_; try go_simp
      refine tkH 27 ?_; try go_simp
      refine tkH 28 ?_; try go_simp
      refine tkU 29 ?_; try go_simp
      refine tkU 30 ?_; try go_simp
      refine tkU 31 ?_; try go_simp
      refine tkU 32 ?_; try go_simp
      refine tkU 33 ?_; try go_simp
      refine tkH 34 ?_; try go_simp
      refine wpAnyH_done (by kernel_rfl) ?_ _
      clear hHeld
      go_wp2_with fail
      go_ret
      exact ⟨ret_bool (by rw [HQ.out]; rfl), HB5.out⟩
    have q4 : ((ns : Int) != 1) = false := by simp; omega
    have HS1 := hid hs1
    rw [HC0.out.sl, decide_eq_true hs1] at HQ
    clear hs1
    cases hx : closX N K with
    | false =>
     rw [hx] at HQ
     have HX0 := hid hx
     clear hx
     have hbd : Below w0.heap.size w0 w0.drew := (Below.refl _ _).drew
     have HB1 := hid (HB0.out.trans (hbd.mono HB0.out.size))
     have HNb1 := hid (HNb0.out.below hbd)
     have HCb1 := hid (HCb0.out.below hbd)
     have HIn1 := hid (HIn0.out.below hbd)
     have HC1 := hid (HC0.out.below hbd)
     obtain ⟨b0, b1, b2, b3⟩ := HNb1.out.cells
     obtain ⟨d0, d1, d2, d3, d4, d5, d6, d7⟩ := HCb1.out.cells
     have hS0 := And.intro b0 (And.intro b1 (And.intro b2 (And.intro b3 (And.intro d0 (And.intro d1 (And.intro d2 (And.intro d3 (And.intro d4 (And.intro d5 (And.intro d6 (d7)))))))))))
     refine wp_region_held_drew (S := fun w' => w'.cell? ⟨w.heap.size, 0, none⟩ = some (.int .i64 N.pl) ∧ w'.cell? ⟨w.heap.size, 1, none⟩ = some (.slice A n c) ∧ w'.cell? ⟨w.heap.size, 2, none⟩ = some (.int .i64 N.src) ∧ w'.cell? ⟨w.heap.size, 3, none⟩ = some (.int .i64 N.snk) ∧ w'.cell? ⟨cb, 0, none⟩ = some (.int .i64 cl) ∧ w'.cell? ⟨cb, 1, none⟩ = some (.int .i64 cn) ∧ w'.cell? ⟨cb, 2, none⟩ = some (.slice Ar nr cr) ∧ w'.cell? ⟨cb, 3, none⟩ = some (.slice Ap np cp) ∧ w'.cell? ⟨cb, 4, none⟩ = some (.slice Ak nk ck) ∧ w'.cell? ⟨cb, 5, none⟩ = some (.slice Av nv cv) ∧ w'.cell? ⟨cb, 6, none⟩ = some (.slice As ns cs) ∧ w'.cell? ⟨cb, 7, none⟩ = some (.slice Aw nw cw)) (by kernel_rfl) hS0 (fun hHeld => ?_)
     clear hS0 hbd b0 b1 b2 b3 d0 d1 d2 d3 d4 d5 d6 d7
     clear HB0 HNb0 HCb0 HIn0 HC0
     generalize w0.drew = w1 at *
     refine tkH 0 ?_; try go_simp
     refine tkH 1 ?_; try go_simp
     refine tkH 2 ?_; try go_simp
     refine tkR 3 (fun K9 hK => ?_)
     go_simp
     have HTr := hid (vtrans_any N A n c cn w1 HNl.out)
     rw [HT0.out] at HTr
     ((refine HTr.out.mono ?_); rintro e w2 ⟨rfl, hb2⟩)
     have hS9 := hHeld
     refine hK.out _ _ ⟨cell_stays hb2 hS9.1, cell_stays hb2 hS9.2.1, cell_stays hb2 hS9.2.2.1, cell_stays hb2 hS9.2.2.2.1, cell_stays hb2 hS9.2.2.2.2.1, cell_stays hb2 hS9.2.2.2.2.2.1, cell_stays hb2 hS9.2.2.2.2.2.2.1, cell_stays hb2 hS9.2.2.2.2.2.2.2.1, cell_stays hb2 hS9.2.2.2.2.2.2.2.2.1, cell_stays hb2 hS9.2.2.2.2.2.2.2.2.2.1, cell_stays hb2 hS9.2.2.2.2.2.2.2.2.2.2.1, cell_stays hb2 hS9.2.2.2.2.2.2.2.2.2.2.2⟩ (fun hHeld => ?_)
     clear hK K9 hS9
     try go_simp
     have HB2 := hid (HB1.out.trans (hb2.mono HB1.out.size))
     have HNb2 := hid (HNb1.out.below hb2)
     have HCb2 := hid (HCb1.out.below hb2)
     have HIn2 := hid (HIn1.out.below hb2)
     have HC2 := hid (HC1.out.below hb2)
     clear HB1 HNb1 HCb1 HIn1 HC1
     clear hb2
     refine tkH 4 ?_; try go_simp
     refine tkH 5 ?_; try go_simp
     refine tkH 6 ?_; try go_simp
     refine tkH 7 ?_; try go_simp
     refine tkH 8 ?_; try go_simp
     refine tkR 9 (fun K9 hK => ?_)
     go_simp
     have HMs := hid (vmarkings_any N.pl A n c N.src N.snk Ak nk ck K false w2 HC2.out.k HC2.out.kl HC2.out.kb)
     rw [HM0.out] at HMs
     ((refine (HMs.out).mono ?_); rintro e w3 ⟨rfl, hb3⟩)
     have hS9 := hHeld
     refine hK.out _ _ ⟨cell_stays hb3 hS9.1, cell_stays hb3 hS9.2.1, cell_stays hb3 hS9.2.2.1, cell_stays hb3 hS9.2.2.2.1, cell_stays hb3 hS9.2.2.2.2.1, cell_stays hb3 hS9.2.2.2.2.2.1, cell_stays hb3 hS9.2.2.2.2.2.2.1, cell_stays hb3 hS9.2.2.2.2.2.2.2.1, cell_stays hb3 hS9.2.2.2.2.2.2.2.2.1, cell_stays hb3 hS9.2.2.2.2.2.2.2.2.2.1, cell_stays hb3 hS9.2.2.2.2.2.2.2.2.2.2.1, cell_stays hb3 hS9.2.2.2.2.2.2.2.2.2.2.2⟩ (fun hHeld => ?_)
     clear hK K9 hS9
     try go_simp
     have HB3 := hid (HB2.out.trans (hb3.mono HB2.out.size))
     have HNb3 := hid (HNb2.out.below hb3)
     have HCb3 := hid (HCb2.out.below hb3)
     have HIn3 := hid (HIn2.out.below hb3)
     have HC3 := hid (HC2.out.below hb3)
     clear HB2 HNb2 HCb2 HIn2 HC2
     clear hb3
     refine tkH 10 ?_; try go_simp
     refine tkH 11 ?_; try go_simp
     refine tkH 12 ?_; try go_simp
     refine tkH 13 ?_; try go_simp
     refine tkH 14 ?_; try go_simp
     refine tkH 15 ?_; try go_simp
     refine tkH 16 ?_; try go_simp
     refine tkH 17 ?_; try go_simp
     refine tkR 18 (fun K9 hK => ?_)
     go_simp
     ((refine (vsrc_any N A n c HV.out w3).mono ?_); rintro e w4 ⟨v4, rfl, hS4⟩); (obtain ⟨A4, c4, rfl⟩ := hS4.slice); (have hb4 := hS4.2)
     have hS9 := hHeld
     refine hK.out _ _ ⟨cell_stays hb4 hS9.1, cell_stays hb4 hS9.2.1, cell_stays hb4 hS9.2.2.1, cell_stays hb4 hS9.2.2.2.1, cell_stays hb4 hS9.2.2.2.2.1, cell_stays hb4 hS9.2.2.2.2.2.1, cell_stays hb4 hS9.2.2.2.2.2.2.1, cell_stays hb4 hS9.2.2.2.2.2.2.2.1, cell_stays hb4 hS9.2.2.2.2.2.2.2.2.1, cell_stays hb4 hS9.2.2.2.2.2.2.2.2.2.1, cell_stays hb4 hS9.2.2.2.2.2.2.2.2.2.2.1, cell_stays hb4 hS9.2.2.2.2.2.2.2.2.2.2.2⟩ (fun hHeld => ?_)
     clear hK K9 hS9
     try go_simp
     have HB4 := hid (HB3.out.trans (hb4.mono HB3.out.size))
     have HNb4 := hid (HNb3.out.below hb4)
     have HCb4 := hid (HCb3.out.below hb4)
     have HIn4 := hid (HIn3.out.below hb4)
     have HC4 := hid (HC3.out.below hb4)
     clear HB3 HNb3 HCb3 HIn3 HC3
     clear hb4
     have HI4 := hid (show ZIn w4 A4 (iniM N) by obtain ⟨A', c', e, hz, _⟩ := hS4.zin; cases e; exact hz)
     clear hS4
     refine tkR 19 (fun K9 hK => ?_)
     go_simp
     have HIx := hid (vindex_any Ak nk ck K A4 (iniM N).length c4 (iniM N) w4 HC4.out.k HC4.out.kl HC4.out.kb HI4.out rfl (by have := ini_len HV.out; omega))
     ((refine (HIx.out).mono ?_); rintro e w5 ⟨rfl, hb5⟩)
     have hS9 := hHeld
     refine hK.out _ _ ⟨cell_stays hb5 hS9.1, cell_stays hb5 hS9.2.1, cell_stays hb5 hS9.2.2.1, cell_stays hb5 hS9.2.2.2.1, cell_stays hb5 hS9.2.2.2.2.1, cell_stays hb5 hS9.2.2.2.2.2.1, cell_stays hb5 hS9.2.2.2.2.2.2.1, cell_stays hb5 hS9.2.2.2.2.2.2.2.1, cell_stays hb5 hS9.2.2.2.2.2.2.2.2.1, cell_stays hb5 hS9.2.2.2.2.2.2.2.2.2.1, cell_stays hb5 hS9.2.2.2.2.2.2.2.2.2.2.1, cell_stays hb5 hS9.2.2.2.2.2.2.2.2.2.2.2⟩ (fun hHeld => ?_)
     clear hK K9 hS9
     try go_simp
     have HB5 := hid (HB4.out.trans (hb5.mono HB4.out.size))
     have HNb5 := hid (HNb4.out.below hb5)
     have HCb5 := hid (HCb4.out.below hb5)
     have HIn5 := hid (HIn4.out.below hb5)
     have HC5 := hid (HC4.out.below hb5)
     clear HB4 HNb4 HCb4 HIn4 HC4
     clear hb5
     refine tkH 20 ?_; try go_simp
     refine tkH 21 ?_; try go_simp
     refine tkH 22 ?_; try go_simp
     refine tkH 23 ?_; try go_simp
     refine tkH 24 ?_; try go_simp
     refine tkH 25 ?_; try go_simp
     refine tkH 26 ?_; try go_simp
     refine tkH 27 ?_; try go_simp
     refine tkH 28 ?_; try go_simp
     refine tkH 29 ?_; try go_simp
     refine tkH 30 ?_; try go_simp
     refine tkH 31 ?_; try go_simp
     refine tkR 32 (fun K9 hK => ?_)
     go_simp
     have HCl := hid (vclosed_any N A n c Ak nk ck K w5 HIn5.out HNl.out HV.out HC5.out.k HC5.out.kl HC5.out.kb HAll.out)
     rw [HX0.out] at HCl
     ((refine (HCl.out).mono ?_); rintro e w6 ⟨rfl, hb6⟩)
     have hS9 := hHeld
     refine hK.out _ _ ⟨cell_stays hb6 hS9.1, cell_stays hb6 hS9.2.1, cell_stays hb6 hS9.2.2.1, cell_stays hb6 hS9.2.2.2.1, cell_stays hb6 hS9.2.2.2.2.1, cell_stays hb6 hS9.2.2.2.2.2.1, cell_stays hb6 hS9.2.2.2.2.2.2.1, cell_stays hb6 hS9.2.2.2.2.2.2.2.1, cell_stays hb6 hS9.2.2.2.2.2.2.2.2.1, cell_stays hb6 hS9.2.2.2.2.2.2.2.2.2.1, cell_stays hb6 hS9.2.2.2.2.2.2.2.2.2.2.1, cell_stays hb6 hS9.2.2.2.2.2.2.2.2.2.2.2⟩ (fun hHeld => ?_)
     clear hK K9 hS9
     try go_simp
     have HB6 := hid (HB5.out.trans (hb6.mono HB5.out.size))
     have HNb6 := hid (HNb5.out.below hb6)
     have HCb6 := hid (HCb5.out.below hb6)
     have HIn6 := hid (HIn5.out.below hb6)
     have HC6 := hid (HC5.out.below hb6)
     clear HB5 HNb5 HCb5 HIn5 HC5
     clear hb6
     refine tkH 33 ?_; try go_simp
     refine tkH 34 ?_; try go_simp
     refine wpAnyH_done (by kernel_rfl) ?_ _
     clear hHeld
     go_wp2_with fail
     go_ret
     exact ⟨ret_bool (by rw [HQ.out]; rfl), HB6.out⟩
    | true =>
     rw [hx] at HQ
     have HX0 := hid hx
     clear hx
     have hbd : Below w0.heap.size w0 w0.drew := (Below.refl _ _).drew
     have HB1 := hid (HB0.out.trans (hbd.mono HB0.out.size))
     have HNb1 := hid (HNb0.out.below hbd)
     have HCb1 := hid (HCb0.out.below hbd)
     have HIn1 := hid (HIn0.out.below hbd)
     have HC1 := hid (HC0.out.below hbd)
     obtain ⟨b0, b1, b2, b3⟩ := HNb1.out.cells
     obtain ⟨d0, d1, d2, d3, d4, d5, d6, d7⟩ := HCb1.out.cells
     have hS0 := And.intro b0 (And.intro b1 (And.intro b2 (And.intro b3 (And.intro d0 (And.intro d1 (And.intro d2 (And.intro d3 (And.intro d4 (And.intro d5 (And.intro d6 (d7)))))))))))
     refine wp_region_held_drew (S := fun w' => w'.cell? ⟨w.heap.size, 0, none⟩ = some (.int .i64 N.pl) ∧ w'.cell? ⟨w.heap.size, 1, none⟩ = some (.slice A n c) ∧ w'.cell? ⟨w.heap.size, 2, none⟩ = some (.int .i64 N.src) ∧ w'.cell? ⟨w.heap.size, 3, none⟩ = some (.int .i64 N.snk) ∧ w'.cell? ⟨cb, 0, none⟩ = some (.int .i64 cl) ∧ w'.cell? ⟨cb, 1, none⟩ = some (.int .i64 cn) ∧ w'.cell? ⟨cb, 2, none⟩ = some (.slice Ar nr cr) ∧ w'.cell? ⟨cb, 3, none⟩ = some (.slice Ap np cp) ∧ w'.cell? ⟨cb, 4, none⟩ = some (.slice Ak nk ck) ∧ w'.cell? ⟨cb, 5, none⟩ = some (.slice Av nv cv) ∧ w'.cell? ⟨cb, 6, none⟩ = some (.slice As ns cs) ∧ w'.cell? ⟨cb, 7, none⟩ = some (.slice Aw nw cw)) (by kernel_rfl) hS0 (fun hHeld => ?_)
     clear hS0 hbd b0 b1 b2 b3 d0 d1 d2 d3 d4 d5 d6 d7
     clear HB0 HNb0 HCb0 HIn0 HC0
     generalize w0.drew = w1 at *
     refine tkH 0 ?_; try go_simp
     refine tkH 1 ?_; try go_simp
     refine tkH 2 ?_; try go_simp
     refine tkR 3 (fun K9 hK => ?_)
     go_simp
     have HTr := hid (vtrans_any N A n c cn w1 HNl.out)
     rw [HT0.out] at HTr
     ((refine HTr.out.mono ?_); rintro e w2 ⟨rfl, hb2⟩)
     have hS9 := hHeld
     refine hK.out _ _ ⟨cell_stays hb2 hS9.1, cell_stays hb2 hS9.2.1, cell_stays hb2 hS9.2.2.1, cell_stays hb2 hS9.2.2.2.1, cell_stays hb2 hS9.2.2.2.2.1, cell_stays hb2 hS9.2.2.2.2.2.1, cell_stays hb2 hS9.2.2.2.2.2.2.1, cell_stays hb2 hS9.2.2.2.2.2.2.2.1, cell_stays hb2 hS9.2.2.2.2.2.2.2.2.1, cell_stays hb2 hS9.2.2.2.2.2.2.2.2.2.1, cell_stays hb2 hS9.2.2.2.2.2.2.2.2.2.2.1, cell_stays hb2 hS9.2.2.2.2.2.2.2.2.2.2.2⟩ (fun hHeld => ?_)
     clear hK K9 hS9
     try go_simp
     have HB2 := hid (HB1.out.trans (hb2.mono HB1.out.size))
     have HNb2 := hid (HNb1.out.below hb2)
     have HCb2 := hid (HCb1.out.below hb2)
     have HIn2 := hid (HIn1.out.below hb2)
     have HC2 := hid (HC1.out.below hb2)
     clear HB1 HNb1 HCb1 HIn1 HC1
     clear hb2
     refine tkH 4 ?_; try go_simp
     refine tkH 5 ?_; try go_simp
     refine tkH 6 ?_; try go_simp
     refine tkH 7 ?_; try go_simp
     refine tkH 8 ?_; try go_simp
     refine tkR 9 (fun K9 hK => ?_)
     go_simp
     have HMs := hid (vmarkings_any N.pl A n c N.src N.snk Ak nk ck K false w2 HC2.out.k HC2.out.kl HC2.out.kb)
     rw [HM0.out] at HMs
     ((refine (HMs.out).mono ?_); rintro e w3 ⟨rfl, hb3⟩)
     have hS9 := hHeld
     refine hK.out _ _ ⟨cell_stays hb3 hS9.1, cell_stays hb3 hS9.2.1, cell_stays hb3 hS9.2.2.1, cell_stays hb3 hS9.2.2.2.1, cell_stays hb3 hS9.2.2.2.2.1, cell_stays hb3 hS9.2.2.2.2.2.1, cell_stays hb3 hS9.2.2.2.2.2.2.1, cell_stays hb3 hS9.2.2.2.2.2.2.2.1, cell_stays hb3 hS9.2.2.2.2.2.2.2.2.1, cell_stays hb3 hS9.2.2.2.2.2.2.2.2.2.1, cell_stays hb3 hS9.2.2.2.2.2.2.2.2.2.2.1, cell_stays hb3 hS9.2.2.2.2.2.2.2.2.2.2.2⟩ (fun hHeld => ?_)
     clear hK K9 hS9
     try go_simp
     have HB3 := hid (HB2.out.trans (hb3.mono HB2.out.size))
     have HNb3 := hid (HNb2.out.below hb3)
     have HCb3 := hid (HCb2.out.below hb3)
     have HIn3 := hid (HIn2.out.below hb3)
     have HC3 := hid (HC2.out.below hb3)
     clear HB2 HNb2 HCb2 HIn2 HC2
     clear hb3
     refine tkH 10 ?_; try go_simp
     refine tkH 11 ?_; try go_simp
     refine tkH 12 ?_; try go_simp
     refine tkH 13 ?_; try go_simp
     refine tkH 14 ?_; try go_simp
     refine tkH 15 ?_; try go_simp
     refine tkH 16 ?_; try go_simp
     refine tkH 17 ?_; try go_simp
     refine tkR 18 (fun K9 hK => ?_)
     go_simp
     ((refine (vsrc_any N A n c HV.out w3).mono ?_); rintro e w4 ⟨v4, rfl, hS4⟩); (obtain ⟨A4, c4, rfl⟩ := hS4.slice); (have hb4 := hS4.2)
     have hS9 := hHeld
     refine hK.out _ _ ⟨cell_stays hb4 hS9.1, cell_stays hb4 hS9.2.1, cell_stays hb4 hS9.2.2.1, cell_stays hb4 hS9.2.2.2.1, cell_stays hb4 hS9.2.2.2.2.1, cell_stays hb4 hS9.2.2.2.2.2.1, cell_stays hb4 hS9.2.2.2.2.2.2.1, cell_stays hb4 hS9.2.2.2.2.2.2.2.1, cell_stays hb4 hS9.2.2.2.2.2.2.2.2.1, cell_stays hb4 hS9.2.2.2.2.2.2.2.2.2.1, cell_stays hb4 hS9.2.2.2.2.2.2.2.2.2.2.1, cell_stays hb4 hS9.2.2.2.2.2.2.2.2.2.2.2⟩ (fun hHeld => ?_)
     clear hK K9 hS9
     try go_simp
     have HB4 := hid (HB3.out.trans (hb4.mono HB3.out.size))
     have HNb4 := hid (HNb3.out.below hb4)
     have HCb4 := hid (HCb3.out.below hb4)
     have HIn4 := hid (HIn3.out.below hb4)
     have HC4 := hid (HC3.out.below hb4)
     clear HB3 HNb3 HCb3 HIn3 HC3
     clear hb4
     have HI4 := hid (show ZIn w4 A4 (iniM N) by obtain ⟨A', c', e, hz, _⟩ := hS4.zin; cases e; exact hz)
     clear hS4
     refine tkR 19 (fun K9 hK => ?_)
     go_simp
     have HIx := hid (vindex_any Ak nk ck K A4 (iniM N).length c4 (iniM N) w4 HC4.out.k HC4.out.kl HC4.out.kb HI4.out rfl (by have := ini_len HV.out; omega))
     ((refine (HIx.out).mono ?_); rintro e w5 ⟨rfl, hb5⟩)
     have hS9 := hHeld
     refine hK.out _ _ ⟨cell_stays hb5 hS9.1, cell_stays hb5 hS9.2.1, cell_stays hb5 hS9.2.2.1, cell_stays hb5 hS9.2.2.2.1, cell_stays hb5 hS9.2.2.2.2.1, cell_stays hb5 hS9.2.2.2.2.2.1, cell_stays hb5 hS9.2.2.2.2.2.2.1, cell_stays hb5 hS9.2.2.2.2.2.2.2.1, cell_stays hb5 hS9.2.2.2.2.2.2.2.2.1, cell_stays hb5 hS9.2.2.2.2.2.2.2.2.2.1, cell_stays hb5 hS9.2.2.2.2.2.2.2.2.2.2.1, cell_stays hb5 hS9.2.2.2.2.2.2.2.2.2.2.2⟩ (fun hHeld => ?_)
     clear hK K9 hS9
     try go_simp
     have HB5 := hid (HB4.out.trans (hb5.mono HB4.out.size))
     have HNb5 := hid (HNb4.out.below hb5)
     have HCb5 := hid (HCb4.out.below hb5)
     have HIn5 := hid (HIn4.out.below hb5)
     have HC5 := hid (HC4.out.below hb5)
     clear HB4 HNb4 HCb4 HIn4 HC4
     clear hb5
     refine tkH 20 ?_; try go_simp
     refine tkH 21 ?_; try go_simp
     refine tkH 22 ?_; try go_simp
     refine tkH 23 ?_; try go_simp
     refine tkH 24 ?_; try go_simp
     refine tkH 25 ?_; try go_simp
     refine tkH 26 ?_; try go_simp
     refine tkH 27 ?_; try go_simp
     refine tkH 28 ?_; try go_simp
     refine tkH 29 ?_; try go_simp
     refine tkH 30 ?_; try go_simp
     refine tkH 31 ?_; try go_simp
     refine tkR 32 (fun K9 hK => ?_)
     go_simp
     have HCl := hid (vclosed_any N A n c Ak nk ck K w5 HIn5.out HNl.out HV.out HC5.out.k HC5.out.kl HC5.out.kb HAll.out)
     rw [HX0.out] at HCl
     ((refine (HCl.out).mono ?_); rintro e w6 ⟨rfl, hb6⟩)
     have hS9 := hHeld
     refine hK.out _ _ ⟨cell_stays hb6 hS9.1, cell_stays hb6 hS9.2.1, cell_stays hb6 hS9.2.2.1, cell_stays hb6 hS9.2.2.2.1, cell_stays hb6 hS9.2.2.2.2.1, cell_stays hb6 hS9.2.2.2.2.2.1, cell_stays hb6 hS9.2.2.2.2.2.2.1, cell_stays hb6 hS9.2.2.2.2.2.2.2.1, cell_stays hb6 hS9.2.2.2.2.2.2.2.2.1, cell_stays hb6 hS9.2.2.2.2.2.2.2.2.2.1, cell_stays hb6 hS9.2.2.2.2.2.2.2.2.2.2.1, cell_stays hb6 hS9.2.2.2.2.2.2.2.2.2.2.2⟩ (fun hHeld => ?_)
     clear hK K9 hS9
     try go_simp
     have HB6 := hid (HB5.out.trans (hb6.mono HB5.out.size))
     have HNb6 := hid (HNb5.out.below hb6)
     have HCb6 := hid (HCb5.out.below hb6)
     have HIn6 := hid (HIn5.out.below hb6)
     have HC6 := hid (HC5.out.below hb6)
     clear HB5 HNb5 HCb5 HIn5 HC5
     clear hb6
     refine tkH 33 ?_; try go_simp
     refine tkH 34 ?_; try go_simp
     refine wpAnyH_done (by kernel_rfl) ?_ _
     clear hHeld
     obtain ⟨I, hI⟩ : ∃ I, S = [I] := by
      have := HC6.out.sl
      rw [HS1.out] at this
      match S, this with
      | [x], _ => exact ⟨x, rfl⟩
     subst hI
     rw [show ([I] : List (List Int)).headD [] = I from rfl] at HQ
     obtain ⟨as_, rfl, hpas, us, e0, Ai0, ni, ci0, rfl, zi0, hi1, hi2, hi3⟩ := HC6.out.s 0 (by simp)
     replace zi0 : ZIn w6 Ai0 I := zi0
     replace hi1 : I.length = ni := hi1
     have e0' : w6.cell? as_ = some (.slice Ai0 ni ci0) := by simpa [Addr.add] using e0
     have HZi := hid zi0
     have HIl := hid hi1
     have hni6' : ni ≤ 1000000 := hI6.out I (by simp) ni hi1
     have hni6 : ni ≤ 9223372036854775806 := by omega
     have hnk := HC6.out.kb
     have hns0 : 0 < ns := by have := HS1.out; omega
     have hns1 : (0 : Int) < (ns : Int) := by omega
     clear zi0 hi1
     obtain ⟨b0, b1, b2, b3⟩ := HNb6.out.cells
     obtain ⟨d0, d1, d2, d3, d4, d5, d6, d7⟩ := HCb6.out.cells
     have HA6 := hid (below_alloc w6 (.cells #[.slice none 0 0] 26))
     have HAt := hid (heap_alloc_new w6 (.cells #[.slice none 0 0] 26))
     have hcbl : cb < w6.heap.size := HCb6.out.lt
     have hnbl : w.heap.size < w6.heap.size := HNb6.out.lt
     have hasl : as_.block < w6.heap.size := by rw [add_block] at hpas; exact hpas
     go_wp2_with fail
     clear b0 b1 b2 b3 d0 d1 d2 d3 d4 d5 d6 d7 e0 e0'
     have HAl6 := hid (show Below w6.heap.size w6 (w6.alloc (.cells #[.slice none 0 0] 26)) from HA6.out)
     have HAt6 := hid HAt.out
     clear HA6 HAt
     obtain ⟨tb, htb⟩ : ∃ tb, w6.heap.size = tb := ⟨_, rfl⟩
     have HTb := hid htb
     rw [htb] at HAt6 hcbl hasl hnbl ⊢
     generalize w6.alloc _ = wt at *
     go_loopg [49] (ni) (fun g iv wr => LsI w6 K I ni tb g iv wr)
     case atStart => exact ⟨0, .slice none 0 0, by omega, rfl, rfl, HAt6.out, RwL.start _ _ _, HAl6.out⟩
     case round =>
      clear HAl6 HAt6
      obtain ⟨k, v, hk, rfl, hok, hcur, hR, hB⟩ := hrel
      have HK := hid hk
      have HOk := hid hok
      have HCu := hid hcur
      have HR := hid hR
      have HBr := hid hB
      have hle : k ≤ ni := by omega
      have hlk : (lostL K (I.take k)).length = k := by rw [lost_len, List.length_take, HIl.out]; omega
      have HLk := hid hlk
      have HZr := hid (HZi.out.below hB)
      clear hk hok hcur hR hB hlk
      by_cases hlt : k < ni
      · have hlt' : k < I.length := by rw [HIl.out]; exact hlt
        obtain ⟨ai, rfl, hpi, q0⟩ := HZr.out k hlt'
        have HLs := hid (fun i hi hik => lost_step K I k i hlt' hi hik)
        have HAs := hid (all_step (okIx K) hlt')
        have HNo := hid (fun hh => all_false (f := okIx K) (List.getElem_mem hlt') hh)
        generalize I[k] = x at *
        clear hlt'
        obtain ⟨d0, d1, d2, d3, d4, d5, d6, d7⟩ := (HCb6.out.below HBr.out).cells
        by_cases hx0 : x < 0
        · have q1 : decide (x < 0) = true := by simpa using hx0
          rw [HNo.out (by unfold okIx; rw [decide_eq_false (by omega)]; rfl)] at HQ
          have HBf := hid (HB6.out.trans (HBr.out.mono HB6.out.size))
          clear hx0
          go_wp2_with fail
          go_ret
          exact ⟨ret_bool (by rw [HQ.out]; rfl), HBf.out⟩
        have q1 : decide (x < 0) = false := by simpa using hx0
        obtain ⟨i, rfl⟩ := Int.eq_ofNat_of_zero_le (show 0 ≤ x by omega)
        by_cases hx1 : nk ≤ i
        · have q2 : decide ((nk : Int) ≤ (i : Int)) = true := by simp; omega
          have q3 : decide (nk ≤ i) = true := by simpa using hx1
          rw [HNo.out (by unfold okIx; rw [HC6.out.kl, decide_eq_false (show ¬ (i : Int) < (nk : Int) by omega), Bool.and_false])] at HQ
          have HBf := hid (HB6.out.trans (HBr.out.mono HB6.out.size))
          clear hx0 hx1
          go_wp2_with fail
          go_ret
          exact ⟨ret_bool (by rw [HQ.out]; rfl), HBf.out⟩
        have q2 : decide ((nk : Int) ≤ (i : Int)) = false := by simp; omega
        have q3 : decide (nk ≤ i) = false := by simpa using hx1
        have hik : i < K.length := by rw [HC6.out.kl]; omega
        have hik1 : (i : Int) < (nk : Int) := by omega
        have hik0 : (0 : Int) ≤ (i : Int) := by omega
        obtain ⟨ak, rfl, hpk, u, c0, Ax, nx, cx, hu, hsl⟩ := HC6.out.k i hik
        have HSl := hid (show SlIn w6 u K[i] from ⟨Ax, nx, cx, hu, hsl⟩)
        have HV2 := hid (show (I.take (k + 1)).all (okIx K) = true by rw [HAs.out, HOk.out]; unfold okIx; rw [HC6.out.kl, decide_eq_true hik0, decide_eq_true hik1]; rfl)
        have HLn := hid (HLs.out i rfl hik)
        have hpk2 : (ak.add i).block < tb := by rw [← HTb.out]; exact hpk
        generalize K[i] = Z at *
        have c1 : wr.cell? (ak.add i) = some u := cell_stays HBr.out c0
        clear hsl hik hx0 hx1 HLs HAs HNo c0 hpk
        subst hu
        go_wp2_with fail
        have HDr := hid (Below.refl wr.heap.size wr).drew
        clear d0 d1 d2 d3 d5 d6 d7 q0
        have HCud := hid (show wr.drew.heap[tb]? = some (.cells #[v] 26 (0, 0)) by rw [HDr.out.block tb (Array.getElem?_eq_some_iff.1 HCu.out).1]; exact HCu.out)
        have HRd := hid (HR.out.below HDr.out)
        have HBd := hid (HBr.out.trans (HDr.out.mono HBr.out.size))
        have c0 : wr.drew.cell? ⟨tb, 0, none⟩ = some v := by have := HCud.out; simp only [World.cell?, this]; rfl
        have c1' := cell_stays HDr.out c1
        have d4' := cell_stays HDr.out d4
        have hS0 := And.intro c0 (And.intro d4' c1')
        obtain ⟨SL, hown, hsl2, hsl3⟩ := HRd.out
        rw [HLk.out] at hown
        obtain ⟨Al, cl0, rfl, _⟩ := row_slice hown
        have HOw := hid hown
        have HSL := hid (And.intro hsl2 hsl3)
        obtain ⟨i1, hj, hz0, hz1, hz2⟩ := info_parts rowInfo2
        have HI := hid (And.intro hj (And.intro hz0 (And.intro hz1 hz2)))
        clear hj hz0 hz1 hz2 hown hsl2 hsl3 c0 c1 c1' d4 d4' HRd HR HCu
        refine wp_region_e_drew 8 (S := fun w' => w'.cell? ⟨tb, 0, none⟩ = some (.slice Al k cl0) ∧ w'.cell? ⟨cb, 4, none⟩ = some (.slice (some ak) nk ck) ∧ w'.cell? (ak.add i) = some (.slice Ax nx cx)) (by kernel_rfl) hS0 (fun hHeld => ?_)
        clear hS0
        generalize wr.drew = wd at *
        refine wpAnyE_take (i := 0) (v := ?_) [7, 8] rfl (by kernel_rfl) (by kernel_rfl) (by kernel_rfl) (by kernel_rfl) (by kernel_rfl) (by kernel_rfl) (fun _ _ _ h => h) (Or.inl ⟨by rfl, ?_⟩) (by assumption) ?_
        rotate_left
        · intro w hSw; (try dsimp only at hSw); go_simp; try (with_reducible rfl)
        try go_simp
        refine wpAnyE_take (i := 1) (v := ?_) [2, 4, 5, 6, 7, 8] rfl (by kernel_rfl) (by kernel_rfl) (by kernel_rfl) (by kernel_rfl) (by kernel_rfl) (by kernel_rfl) (fun _ _ _ h => h) (Or.inl ⟨by rfl, ?_⟩) (by assumption) ?_
        rotate_left
        · intro w hSw; (try dsimp only at hSw); go_simp; try (with_reducible rfl)
        try go_simp
        refine wpAnyE_take (i := 2) (v := ?_) [4, 5, 6, 7, 8] rfl (by kernel_rfl) (by kernel_rfl) (by kernel_rfl) (by kernel_rfl) (by kernel_rfl) (by kernel_rfl) (fun _ _ _ h => h) (Or.inl ⟨by rfl, ?_⟩) (by assumption) ?_
        rotate_left
        · intro w hSw; (try dsimp only at hSw); go_simp; try (with_reducible rfl)
        try go_simp
        refine wpAnyE_take (i := 3) (v := ?_) [4, 5, 6, 7, 8] rfl (by kernel_rfl) (by kernel_rfl) (by kernel_rfl) (by kernel_rfl) (by kernel_rfl) (by kernel_rfl) (fun _ _ _ h => h) (Or.inl ⟨by rfl, ?_⟩) (by assumption) ?_
        rotate_left
        · intro w hSw; (try dsimp only at hSw); go_simp; try (with_reducible rfl)
        try go_simp
        refine wpAnyE_take (i := 4) (v := ?_) [5, 6, 7, 8] rfl (by kernel_rfl) (by kernel_rfl) (by kernel_rfl) (by kernel_rfl) (by kernel_rfl) (by kernel_rfl) (fun _ _ _ h => h) (Or.inl ⟨by rfl, ?_⟩) (by assumption) ?_
        rotate_left
        · intro w hSw; (try dsimp only at hSw); go_simp; try (with_reducible rfl)
        try go_simp
        refine wpAnyE_take (i := 5) (v := ?_) [6, 7, 8] rfl (by kernel_rfl) (by kernel_rfl) (by kernel_rfl) (by kernel_rfl) (by kernel_rfl) (by kernel_rfl) (fun _ _ _ h => h) (Or.inl ⟨by rfl, ?_⟩) (by assumption) ?_
        rotate_left
        · intro w hSw; (try dsimp only at hSw); go_simp; try (with_reducible rfl)
        try go_simp
        have hS0 := hHeld
        refine wpAnyE_one (i := 6) (by kernel_rfl) rfl (fun K hK => ?_)
        go_simp
        skip
        refine hK.out _ _ (fun _ => ⟨cell_stays (below_alloc _ _) hS0.1, cell_stays (below_alloc _ _) hS0.2.1, cell_stays (below_alloc _ _) hS0.2.2⟩) (fun hH => ?_)
        have hHeld := hH (by decide)
        clear hH hK K
        try go_simp
        refine wpAnyE_one (i := 7) (by kernel_rfl) rfl (fun K9 hK => ?_)
        refine step_append_own rfl _ _ 26 rfl tb 25 i1 (.slice none 0 0) 1 24 Tryd.underlying26 HI.out.1 HI.out.2.1 HI.out.2.2.1 HI.out.2.2.2 rfl (by decide) (.slice Al k cl0) k SL rfl (HOw.out.alloc _) ⟨wd.heap.size, 0, none⟩ 1 1 [.slice Ax nx cx] rfl rfl ?c1 ?c2 ?c3 ?c4 ?c5 ?_
        case c1 => exact news_blk (heap_alloc_new wd (.cells #[.slice Ax nx cx] 25))
        case c2 => intro u hu; simp at hu; subst hu; rfl
        case c3 => unfold maxLen; omega
        case c4 => omega
        case c5 => have := HBd.out.size; rw [HTb.out] at this; simp; omega
        intro v5 w7 hown7 hgrow7
        obtain ⟨A5, c5, rfl, _⟩ := row_slice hown7
        have hal := below_alloc wd (.cells #[.slice Ax nx cx] 25)
        have hcur2 : (wd.alloc (.cells #[.slice Ax nx cx] 25)).heap[tb]? = some (.cells #[.slice Al k cl0] 26 (0, 0)) := by rw [hal.block tb (Array.getElem?_eq_some_iff.1 HCud.out).1]; exact HCud.out
        have hng := row_block (HOw.out.alloc (.cells #[.slice Ax nx cx] 25)) hcur2 (by decide)
        have hlow : ∀ b : Nat, b < tb → some b ≠ (Value.slice Al k cl0).ownBlock := fun b hb e => by have := (HOw.out.lt b e.symm).1; omega
        have hcur3 : w7.heap[tb]? = some (.cells #[.slice Al k cl0] 26 (0, 0)) := by rw [hgrow7.block tb (Array.getElem?_eq_some_iff.1 hcur2).1 hng]; exact hcur2
        have y0 := hgrow7.cell (cell_stays hal hS0.1) hng
        have y1 := hgrow7.cell (cell_stays hal hS0.2.1) (hlow cb (by omega))
        have y2 := hgrow7.cell (cell_stays hal hS0.2.2) (hlow _ hpk2)
        have xf : w7.frozen? ⟨tb, 0, none⟩ = false := by simp [World.frozen?, hcur3]
        have HR7 := hid (RwL.push (w0 := w6) (s := Z) HSL.out.1 HSL.out.2 (by rw [HLk.out]; exact hown7) HSl.out)
        have HBe := hid (((HBd.out.alloc HBd.out.size (.cells #[.slice Ax nx cx] 25)).grown hgrow7 (by have := HBd.out.size; simp; omega) (fun k hk => by have := (HOw.out.lt k hk).1; rw [HTb.out]; exact this)).setCell (p := ⟨tb, 0, none⟩) (by rw [HTb.out]; exact Nat.le_refl _) (.slice A5 (k + 1) c5))
        have HCu8 := hid (show (w7.setCell ⟨tb, 0, none⟩ (.slice A5 (k + 1) c5)).heap[tb]? = some (.cells #[.slice A5 (k + 1) c5] 26 (0, 0)) by rw [heap_set2 hcur3]; rfl)
        have HR8 := hid (HR7.out.box (o := 0) hcur3 (by decide) (.slice A5 (k + 1) c5))
        rw [← HLn.out] at HR8
        refine hK.out _ _ (fun _ => ⟨y0, y1, y2⟩) (fun hH => ?_)
        have hHeld := hH (by decide)
        clear hH hK K9 y0 y1 y2 hcur2 hcur3 hng hal hown7 hgrow7 hlow
        try go_simp
        refine wpAnyE_one (i := 8) (by kernel_rfl) rfl (fun K hK => ?_)
        go_simp
        skip
        refine hK.out _ _ (fun h => absurd rfl h) (fun _ => ?_)
        clear hK K
        try go_simp
        refine wpAnyE_done (by kernel_rfl) ?_ _
        clear hHeld hS0 xf HBd HOw HSL HR7
        generalize w7.setCell ⟨tb, 0, none⟩ _ = w8 at *
        go_wp2_with fail
        go_roundg (gk - 1)
        case measure => have := HK.out; omega
        case rel => exact ⟨k + 1, .slice A5 (k + 1) c5, by have := HK.out; omega, by go_num, HV2.out, HCu8.out, HR8.out, HBe.out⟩
      · have hE : I.take k = I := List.take_of_length_le (by rw [HIl.out]; omega)
        rw [hE] at HOk HR
        rw [HOk.out] at HQ
        obtain ⟨Al, cl0, rfl, hLi, hc1, hc2⟩ := HR.out.lin HBr.out
        have HLl := hid (show (lostL K I).length = ni by rw [lost_len]; exact HIl.out)
        have HMem := hid (lost_mem HOk.out)
        have HAlL := hid (show ∀ s ∈ lostL K I, mkX N.pl false s = true from fun s hs => HAll.out s (HMem.out s hs))
        have HLb20 := hid (show LLB wr tb Al ni cl0 (lostL K I) from ⟨by have := HCu.out; rw [HLl.out] at this; exact this, hLi, HLl.out⟩)
        obtain ⟨w20, rfl⟩ : ∃ w20, w20 = wr := ⟨_, rfl⟩
        have HB20 := hid (HB6.out.trans (HBr.out.mono HB6.out.size))
        have HNb20 := hid (HNb6.out.below HBr.out)
        have HCb20 := hid (HCb6.out.below HBr.out)
        have HIn20 := hid (HIn6.out.below HBr.out)
        have HC20 := hid (HC6.out.below HBr.out)
        clear HB6 HNb6 HCb6 HIn6 HC6
        clear hE HOk HR hLi hc1 hc2 HCu HMem HZr HLk
        generalize lostL K I = L at *
        have d9 : decide (k < ni) = false := by simpa using hlt
        go_wp2_with fail
        cases hx : closX N L with
        | false =>
         rw [hx] at HQ
         have HX1 := hid hx
         clear hx
         have hbd : Below w20.heap.size w20 w20.drew := (Below.refl _ _).drew
         have HB21 := hid (HB20.out.trans (hbd.mono HB20.out.size))
         have HNb21 := hid (HNb20.out.below hbd)
         have HCb21 := hid (HCb20.out.below hbd)
         have HIn21 := hid (HIn20.out.below hbd)
         have HC21 := hid (HC20.out.below hbd)
         have HLb21 := hid (HLb20.out.below hbd)
         obtain ⟨b0, b1, b2, b3⟩ := HNb21.out.cells
         have t0 := HLb21.out.cell
         have hS0 := And.intro b0 (And.intro b1 (And.intro b2 (And.intro b3 (t0))))
         refine wp_region_held_drew (S := fun w' => w'.cell? ⟨w.heap.size, 0, none⟩ = some (.int .i64 N.pl) ∧ w'.cell? ⟨w.heap.size, 1, none⟩ = some (.slice A n c) ∧ w'.cell? ⟨w.heap.size, 2, none⟩ = some (.int .i64 N.src) ∧ w'.cell? ⟨w.heap.size, 3, none⟩ = some (.int .i64 N.snk) ∧ w'.cell? ⟨tb, 0, none⟩ = some (.slice Al ni cl0)) (by kernel_rfl) hS0 (fun hHeld => ?_)
         clear hS0 hbd b0 b1 b2 b3 t0
         clear HB20 HNb20 HCb20 HIn20 HC20 HLb20
         generalize w20.drew = w21 at *
         refine tkH 0 ?_; try go_simp
         refine tkH 1 ?_; try go_simp
         refine tkR 2 (fun K9 hK => ?_)
         go_simp
         have HCl := hid (vclosed_any N A n c Al ni cl0 L w21 HIn21.out HNl.out HV.out HLb21.out.2.1 HLb21.out.2.2 hni6 HAlL.out)
         rw [HX1.out] at HCl
         ((refine (HCl.out).mono ?_); rintro e w22 ⟨rfl, hb22⟩)
         have hS9 := hHeld
         refine hK.out _ _ ⟨cell_stays hb22 hS9.1, cell_stays hb22 hS9.2.1, cell_stays hb22 hS9.2.2.1, cell_stays hb22 hS9.2.2.2.1, cell_stays hb22 hS9.2.2.2.2⟩ (fun hHeld => ?_)
         clear hK K9 hS9
         try go_simp
         have HB22 := hid (HB21.out.trans (hb22.mono HB21.out.size))
         have HNb22 := hid (HNb21.out.below hb22)
         have HCb22 := hid (HCb21.out.below hb22)
         have HIn22 := hid (HIn21.out.below hb22)
         have HC22 := hid (HC21.out.below hb22)
         have HLb22 := hid (HLb21.out.below hb22)
         clear HB21 HNb21 HCb21 HIn21 HC21 HLb21
         clear hb22
         refine tkH 3 ?_; try go_simp
         refine tkH 4 ?_; try go_simp
         refine tkU 5 ?_; try go_simp
         refine tkU 6 ?_; try go_simp
         refine tkU 7 ?_; try go_simp
         refine tkU 8 ?_; try go_simp
         refine tkU 9 ?_; try go_simp
         refine tkU 10 ?_; try go_simp
         refine tkU 11 ?_; try go_simp
         refine tkH 12 ?_; try go_simp
         refine wpAnyH_done (by kernel_rfl) ?_ _
         clear hHeld
         go_wp2_with fail
         go_ret
         exact ⟨ret_bool (by rw [HQ.out]; rfl), HB22.out⟩
        | true =>
         rw [hx] at HQ
         have HX1 := hid hx
         clear hx
         have HLf := hid (lidx_mem (finM N) L)
         cases hf : memB L (finM N) with
         | true =>
          rw [hf] at HQ HLf
          clear hf
          have q6 : decide (0 ≤ lidx (isL (finM N)) L) = true := HLf.out
          have hbd : Below w20.heap.size w20 w20.drew := (Below.refl _ _).drew
          have HB21 := hid (HB20.out.trans (hbd.mono HB20.out.size))
          have HNb21 := hid (HNb20.out.below hbd)
          have HCb21 := hid (HCb20.out.below hbd)
          have HIn21 := hid (HIn20.out.below hbd)
          have HC21 := hid (HC20.out.below hbd)
          have HLb21 := hid (HLb20.out.below hbd)
          obtain ⟨b0, b1, b2, b3⟩ := HNb21.out.cells
          have t0 := HLb21.out.cell
          have hS0 := And.intro b0 (And.intro b1 (And.intro b2 (And.intro b3 (t0))))
          refine wp_region_held_drew (S := fun w' => w'.cell? ⟨w.heap.size, 0, none⟩ = some (.int .i64 N.pl) ∧ w'.cell? ⟨w.heap.size, 1, none⟩ = some (.slice A n c) ∧ w'.cell? ⟨w.heap.size, 2, none⟩ = some (.int .i64 N.src) ∧ w'.cell? ⟨w.heap.size, 3, none⟩ = some (.int .i64 N.snk) ∧ w'.cell? ⟨tb, 0, none⟩ = some (.slice Al ni cl0)) (by kernel_rfl) hS0 (fun hHeld => ?_)
          clear hS0 hbd b0 b1 b2 b3 t0
          clear HB20 HNb20 HCb20 HIn20 HC20 HLb20
          generalize w20.drew = w21 at *
          refine tkH 0 ?_; try go_simp
          refine tkH 1 ?_; try go_simp
          refine tkR 2 (fun K9 hK => ?_)
          go_simp
          have HCl := hid (vclosed_any N A n c Al ni cl0 L w21 HIn21.out HNl.out HV.out HLb21.out.2.1 HLb21.out.2.2 hni6 HAlL.out)
          rw [HX1.out] at HCl
          ((refine (HCl.out).mono ?_); rintro e w22 ⟨rfl, hb22⟩)
          have hS9 := hHeld
          refine hK.out _ _ ⟨cell_stays hb22 hS9.1, cell_stays hb22 hS9.2.1, cell_stays hb22 hS9.2.2.1, cell_stays hb22 hS9.2.2.2.1, cell_stays hb22 hS9.2.2.2.2⟩ (fun hHeld => ?_)
          clear hK K9 hS9
          try go_simp
          have HB22 := hid (HB21.out.trans (hb22.mono HB21.out.size))
          have HNb22 := hid (HNb21.out.below hb22)
          have HCb22 := hid (HCb21.out.below hb22)
          have HIn22 := hid (HIn21.out.below hb22)
          have HC22 := hid (HC21.out.below hb22)
          have HLb22 := hid (HLb21.out.below hb22)
          clear HB21 HNb21 HCb21 HIn21 HC21 HLb21
          clear hb22
          refine tkH 3 ?_; try go_simp
          refine tkH 4 ?_; try go_simp
          refine tkH 5 ?_; try go_simp
          refine tkH 6 ?_; try go_simp
          refine tkH 7 ?_; try go_simp
          refine tkH 8 ?_; try go_simp
          refine tkR 9 (fun K9 hK => ?_)
          go_simp
          ((refine (vsnk_any N A n c HV.out w22).mono ?_); rintro e w23 ⟨v23, rfl, hS23⟩); (obtain ⟨A23, c23, rfl⟩ := hS23.slice); (have hb23 := hS23.2)
          have hS9 := hHeld
          refine hK.out _ _ ⟨cell_stays hb23 hS9.1, cell_stays hb23 hS9.2.1, cell_stays hb23 hS9.2.2.1, cell_stays hb23 hS9.2.2.2.1, cell_stays hb23 hS9.2.2.2.2⟩ (fun hHeld => ?_)
          clear hK K9 hS9
          try go_simp
          have HB23 := hid (HB22.out.trans (hb23.mono HB22.out.size))
          have HNb23 := hid (HNb22.out.below hb23)
          have HCb23 := hid (HCb22.out.below hb23)
          have HIn23 := hid (HIn22.out.below hb23)
          have HC23 := hid (HC22.out.below hb23)
          have HLb23 := hid (HLb22.out.below hb23)
          clear HB22 HNb22 HCb22 HIn22 HC22 HLb22
          clear hb23
          have HF23 := hid (show ZIn w23 A23 (finM N) by obtain ⟨A', c', e, hz, _⟩ := hS23.zin; cases e; exact hz)
          clear hS23
          refine tkR 10 (fun K9 hK => ?_)
          go_simp
          have HIx := hid (vindex_any Al ni cl0 L A23 (finM N).length c23 (finM N) w23 HLb23.out.2.1 HLb23.out.2.2 hni6 HF23.out rfl (by have := fin_len HV.out; omega))
          ((refine (HIx.out).mono ?_); rintro e w24 ⟨rfl, hb24⟩)
          have hS9 := hHeld
          refine hK.out _ _ ⟨cell_stays hb24 hS9.1, cell_stays hb24 hS9.2.1, cell_stays hb24 hS9.2.2.1, cell_stays hb24 hS9.2.2.2.1, cell_stays hb24 hS9.2.2.2.2⟩ (fun hHeld => ?_)
          clear hK K9 hS9
          try go_simp
          have HB24 := hid (HB23.out.trans (hb24.mono HB23.out.size))
          have HNb24 := hid (HNb23.out.below hb24)
          have HCb24 := hid (HCb23.out.below hb24)
          have HIn24 := hid (HIn23.out.below hb24)
          have HC24 := hid (HC23.out.below hb24)
          have HLb24 := hid (HLb23.out.below hb24)
          clear HB23 HNb23 HCb23 HIn23 HC23 HLb23
          clear hb24
          refine tkH 11 ?_; try go_simp
          refine tkH 12 ?_; try go_simp
          refine wpAnyH_done (by kernel_rfl) ?_ _
          clear hHeld
          go_wp2_with fail
          go_ret
          exact ⟨ret_bool (by rw [HQ.out]; rfl), HB24.out⟩
         | false =>
          rw [hf] at HQ HLf
          clear hf
          have q6 : decide (0 ≤ lidx (isL (finM N)) L) = false := HLf.out
          have hbd : Below w20.heap.size w20 w20.drew := (Below.refl _ _).drew
          have HB21 := hid (HB20.out.trans (hbd.mono HB20.out.size))
          have HNb21 := hid (HNb20.out.below hbd)
          have HCb21 := hid (HCb20.out.below hbd)
          have HIn21 := hid (HIn20.out.below hbd)
          have HC21 := hid (HC20.out.below hbd)
          have HLb21 := hid (HLb20.out.below hbd)
          obtain ⟨b0, b1, b2, b3⟩ := HNb21.out.cells
          have t0 := HLb21.out.cell
          have hS0 := And.intro b0 (And.intro b1 (And.intro b2 (And.intro b3 (t0))))
          refine wp_region_held_drew (S := fun w' => w'.cell? ⟨w.heap.size, 0, none⟩ = some (.int .i64 N.pl) ∧ w'.cell? ⟨w.heap.size, 1, none⟩ = some (.slice A n c) ∧ w'.cell? ⟨w.heap.size, 2, none⟩ = some (.int .i64 N.src) ∧ w'.cell? ⟨w.heap.size, 3, none⟩ = some (.int .i64 N.snk) ∧ w'.cell? ⟨tb, 0, none⟩ = some (.slice Al ni cl0)) (by kernel_rfl) hS0 (fun hHeld => ?_)
          clear hS0 hbd b0 b1 b2 b3 t0
          clear HB20 HNb20 HCb20 HIn20 HC20 HLb20
          generalize w20.drew = w21 at *
          refine tkH 0 ?_; try go_simp
          refine tkH 1 ?_; try go_simp
          refine tkR 2 (fun K9 hK => ?_)
          go_simp
          have HCl := hid (vclosed_any N A n c Al ni cl0 L w21 HIn21.out HNl.out HV.out HLb21.out.2.1 HLb21.out.2.2 hni6 HAlL.out)
          rw [HX1.out] at HCl
          ((refine (HCl.out).mono ?_); rintro e w22 ⟨rfl, hb22⟩)
          have hS9 := hHeld
          refine hK.out _ _ ⟨cell_stays hb22 hS9.1, cell_stays hb22 hS9.2.1, cell_stays hb22 hS9.2.2.1, cell_stays hb22 hS9.2.2.2.1, cell_stays hb22 hS9.2.2.2.2⟩ (fun hHeld => ?_)
          clear hK K9 hS9
          try go_simp
          have HB22 := hid (HB21.out.trans (hb22.mono HB21.out.size))
          have HNb22 := hid (HNb21.out.below hb22)
          have HCb22 := hid (HCb21.out.below hb22)
          have HIn22 := hid (HIn21.out.below hb22)
          have HC22 := hid (HC21.out.below hb22)
          have HLb22 := hid (HLb21.out.below hb22)
          clear HB21 HNb21 HCb21 HIn21 HC21 HLb21
          clear hb22
          refine tkH 3 ?_; try go_simp
          refine tkH 4 ?_; try go_simp
          refine tkH 5 ?_; try go_simp
          refine tkH 6 ?_; try go_simp
          refine tkH 7 ?_; try go_simp
          refine tkH 8 ?_; try go_simp
          refine tkR 9 (fun K9 hK => ?_)
          go_simp
          ((refine (vsnk_any N A n c HV.out w22).mono ?_); rintro e w23 ⟨v23, rfl, hS23⟩); (obtain ⟨A23, c23, rfl⟩ := hS23.slice); (have hb23 := hS23.2)
          have hS9 := hHeld
          refine hK.out _ _ ⟨cell_stays hb23 hS9.1, cell_stays hb23 hS9.2.1, cell_stays hb23 hS9.2.2.1, cell_stays hb23 hS9.2.2.2.1, cell_stays hb23 hS9.2.2.2.2⟩ (fun hHeld => ?_)
          clear hK K9 hS9
          try go_simp
          have HB23 := hid (HB22.out.trans (hb23.mono HB22.out.size))
          have HNb23 := hid (HNb22.out.below hb23)
          have HCb23 := hid (HCb22.out.below hb23)
          have HIn23 := hid (HIn22.out.below hb23)
          have HC23 := hid (HC22.out.below hb23)
          have HLb23 := hid (HLb22.out.below hb23)
          clear HB22 HNb22 HCb22 HIn22 HC22 HLb22
          clear hb23
          have HF23 := hid (show ZIn w23 A23 (finM N) by obtain ⟨A', c', e, hz, _⟩ := hS23.zin; cases e; exact hz)
          clear hS23
          refine tkR 10 (fun K9 hK => ?_)
          go_simp
          have HIx := hid (vindex_any Al ni cl0 L A23 (finM N).length c23 (finM N) w23 HLb23.out.2.1 HLb23.out.2.2 hni6 HF23.out rfl (by have := fin_len HV.out; omega))
          ((refine (HIx.out).mono ?_); rintro e w24 ⟨rfl, hb24⟩)
          have hS9 := hHeld
          refine hK.out _ _ ⟨cell_stays hb24 hS9.1, cell_stays hb24 hS9.2.1, cell_stays hb24 hS9.2.2.1, cell_stays hb24 hS9.2.2.2.1, cell_stays hb24 hS9.2.2.2.2⟩ (fun hHeld => ?_)
          clear hK K9 hS9
          try go_simp
          have HB24 := hid (HB23.out.trans (hb24.mono HB23.out.size))
          have HNb24 := hid (HNb23.out.below hb24)
          have HCb24 := hid (HCb23.out.below hb24)
          have HIn24 := hid (HIn23.out.below hb24)
          have HC24 := hid (HC23.out.below hb24)
          have HLb24 := hid (HLb23.out.below hb24)
          clear HB23 HNb23 HCb23 HIn23 HC23 HLb23
          clear hb24
          refine tkH 11 ?_; try go_simp
          refine tkH 12 ?_; try go_simp
          refine wpAnyH_done (by kernel_rfl) ?_ _
          clear hHeld
          obtain ⟨kn, hkn⟩ : ∃ kn : Nat, cn = (kn : Int) := by
           have := HT0.out
           unfold trnB at this
           simp only [Bool.and_eq_true, decide_eq_true_eq] at this
           exact Int.eq_ofNat_of_zero_le this.1
          subst hkn
          have hkt : kn < N.tr.length := by
           have := HT0.out
           unfold trnB at this
           simp only [Bool.and_eq_true, decide_eq_true_eq] at this
           omega
          have HTe := hid (show trAtN N (kn : Int) = N.tr[kn] by unfold trAtN; rw [Int.toNat_natCast]; simp [hkt])
          rw [HTe.out] at HQ
          clear HTe
          have HInK := hid (fun (m : Nat) (hm : (m : Int) = N.pl) => nt_inM HV.out hm _ (List.getElem_mem hkt))
          have HTm := hid (List.getElem_mem hkt)
          obtain ⟨ad, rfl, hpt, t0, ⟨u1, t1, s1⟩, u2, t2, s2⟩ := HIn24.out.1 kn hkt
          have hkn : kn < n := by have := HNl.out; omega
          have hkn0 : (0 : Int) ≤ (kn : Int) := by omega
          have hkn1 : (kn : Int) < (n : Int) := by omega
          generalize N.tr[kn] = T at *
          obtain ⟨Ai, nti, ci, rfl, zi, hti1, hti2, hti3⟩ := s1
          obtain ⟨Ao, nto, co, rfl, zo, hto1, hto2, hto3⟩ := s2
          have hli : T.i.length ≤ 1000 := by have := pls_len (trOk_mem (netOk_of HV.out (m := N.pl.toNat) (by omega)) HTm.out).1; omega
          have hlo : T.o.length ≤ 1000 := by have := pls_len (trOk_mem (netOk_of HV.out (m := N.pl.toNat) (by omega)) HTm.out).2; omega
          have HA := hid (below_alloc w24 (.cells #[.string T.lb, .slice Ai nti ci, .slice Ao nto co] 48))
          have HTB := hid (TB.new w24 T.lb Ai nti ci Ao nto co)
          have HCt := hid (lcont_vn Ak nk ck K _ (HC24.out.below HA.out).k HC24.out.kl HC24.out.kb w24.heap.size tb T Ai nti ci Ao nto co Al ni cl0 L hti1 hto1 (by omega) (by omega) hni6 ⟨⟨HTB.out, ⟨zi.below HA.out, zo.below HA.out⟩, HLb24.out.below HA.out⟩, fun s hs => ⟨by have := mkX_len (HAll.out s hs); omega, HInK.out _ (mkX_len (HAll.out s hs)), mkX_bnd (HAll.out s hs)⟩⟩)
          generalize K.any (nrbB L T) = an at *
          have HBa := hid (HB24.out.trans (HA.out.mono HB24.out.size))
          obtain ⟨b0, b1, b2, b3⟩ := HNb24.out.cells
          obtain ⟨d0, d1, d2, d3, d4, d5, d6, d7⟩ := HCb24.out.cells
          have hcbl := HCb24.out.lt
          clear zi zo hti1 hto1 hkt
          go_wp2_with fail
          ((with_reducible refine HCt.out.mono ?_); rintro e w30 ⟨rfl, hb30⟩)
          have HB30 := hid (HBa.out.trans (hb30.mono HBa.out.size))
          clear b0 b1 b2 b3 d0 d1 d2 d3 d4 d5 d6 d7 t0 t1 t2
          go_wp2_with fail
          go_ret
          exact ⟨ret_bool (by rw [HQ.out]; rfl), HB30.out⟩
end Go.Proofs.YtpnhcimmlnjfaaaDoor
