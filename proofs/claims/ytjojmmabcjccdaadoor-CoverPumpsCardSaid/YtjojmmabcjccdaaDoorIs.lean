/- CoverPumps: the walk through the statement. -/
import Derived.Test.YtjojmmabcjccdaaDoorIk
import Derived.Test.YtjojmmabcjccdaaDoorIn
import Derived.Test.YtjojmmabcjccdaaDoorIr
namespace Go.Proofs.YtjojmmabcjccdaaDoor
open Go.RowKit

theorem limited_any (x most : Nat) (w : World) (hx : x ≤ 255) (hm : 1 + x % 60 = most) : Calls Tryd.prog 29 #[.int .u8 (x : Int)] w fun e w' => e = .returned (.int .i64 (most : Int)) ∧ Below w.heap.size w w' := by
  subst hm
  go_enter Tryd.func29, Tryd.ntmps29
  go_wp2_with fail
  go_ret
  exact ⟨ret_int (by go_num), Below.refl _ _⟩
theorem bd_no {P : Program} {f : FuncId} {args : Array Value} {N : Nt} {M : List Int} {most : Int} {w : World} (h : Calls P f args w (BdPo N M most w)) {k : Int} (hb : beR N [M] 0 most = .inl k) : Calls P f args w fun e w' => e = .returned (.tuple #[.bool false, zCt, .int .i64 k]) ∧ Below w.heap.size w w' :=
  h.mono fun e w' h1 => by unfold BdPo at h1; rw [hb] at h1; exact ⟨h1.2, h1.1⟩
theorem bd_yes {P : Program} {f : FuncId} {args : Array Value} {N : Nt} {M : List Int} {most : Int} {w : World} (h : Calls P f args w (BdPo N M most w)) {T : TS} (hb : beR N [M] 0 most = .inr T) (hno : ∀ (j : Nat) (d : Nd), T.nodes[j]? = some d → d.om = false) :
    Calls P f args w fun e w' => ∃ A c, e = .returned (.tuple #[.bool true, .agg #[.int .i64 5, .int .i64 0, .slice none 0 0, .slice none 0 0, .slice A T.states.length c, .slice none 0 0, .slice none 0 0, .slice none 0 0], .int .i64 0]) ∧ OLL w w' (.slice A T.states.length c) T.states :=
  h.mono fun e w' h1 => by
    unfold BdPo at h1; rw [hb] at h1
    rcases h1.2 with ⟨v, he, hO, _⟩ | ⟨i, d, g, z, W1, W2, p, v1, v2, hf, _⟩
    · obtain ⟨A, c, rfl⟩ := hO.slice
      exact ⟨A, c, he, hO⟩
    · have := hno i d hf.at_
      rw [hf.om] at this; cases this
theorem bd_om {P : Program} {f : FuncId} {args : Array Value} {N : Nt} {M : List Int} {most : Int} {w : World} (h : Calls P f args w (BdPo N M most w)) {T : TS} (hb : beR N [M] 0 most = .inr T) (hno : ¬ ∀ (j : Nat) (d : Nd), T.nodes[j]? = some d → d.om = false) :
    Calls P f args w fun e w' => ∃ i d g z W1 W2 p A1 c1 A2 c2, FOm N T i d g z W1 W2 p ∧ e = .returned (.tuple #[.bool false, .agg #[.int .i64 6, .int .i64 ((p : Nat) : Int), .slice A1 W1.length c1, .slice A2 W2.length c2, .slice none 0 0, .slice none 0 0, .slice none 0 0, .slice none 0 0], .int .i64 0]) ∧ NS w w' (.slice A1 W1.length c1) (W1.map Int.ofNat) ∧ NS w w' (.slice A2 W2.length c2) (W2.map Int.ofNat) :=
  h.mono fun e w' h1 => by
    unfold BdPo at h1; rw [hb] at h1
    rcases h1.2 with ⟨v, he, hO, hn⟩ | ⟨i, d, g, z, W1, W2, p, v1, v2, hf, he, s1, s2⟩
    · exact absurd hn hno
    · obtain ⟨A1, c1, hv1⟩ := s1.slice
      obtain ⟨A2, c2, hv2⟩ := s2.slice
      rw [List.length_map] at hv1 hv2
      subst hv1 hv2
      exact ⟨i, d, g, z, W1, W2, p, A1, c1, A2, c2, hf, he, s1, s2⟩
theorem ct_cells (w : World) (b : Nat) (v0 v1 v2 v3 v4 v5 v6 v7 : Value) {a : Addr} {v : Value} (h : w.cell? a = some v) (hne : a.block ≠ b) :
    ((((((((w.setCell ⟨b, 0, none⟩ v0).setCell ⟨b, 1, none⟩ v1).setCell ⟨b, 2, none⟩ v2).setCell ⟨b, 3, none⟩ v3).setCell ⟨b, 4, none⟩ v4).setCell ⟨b, 5, none⟩ v5).setCell ⟨b, 6, none⟩ v6).setCell ⟨b, 7, none⟩ v7).cell? a = some v :=
  (ct_grown w b v0 v1 v2 v3 v4 v5 v6 v7).cell h (fun e => hne (Option.some.inj e))
theorem ct_cl {w : World} {a b : Int} {v1 v2 v3 v4 v5 v6 v7 : Value} {C : Ct} (h : CtIn w (.agg #[.int .i64 a, v1, v2, v3, v4, v5, v6, v7]) C) : CtIn w (.agg #[.int .i64 b, v1, v2, v3, v4, v5, v6, v7]) ⟨b, C.n, C.run, C.pump, C.marks⟩ := by
  obtain ⟨Ar, nr, cr, Ap, np, cp, Ak, nk, ck, A5, n5, c5, A6, n6, c6, A7, n7, c7, e, h1⟩ := h
  simp only [Value.agg.injEq, Array.mk.injEq, List.cons.injEq] at e
  obtain ⟨_, rfl, rfl, rfl, rfl, rfl, rfl, rfl, _⟩ := e
  exact ⟨Ar, nr, cr, Ap, np, cp, Ak, nk, ck, A5, n5, c5, A6, n6, c6, A7, n7, c7, rfl, h1⟩
/-- the loop over the run -/
def PuI (T : TS) (nl : Nat) (wB : World) (ab g : Nat) (iv : Value) (wr : World) : Prop :=
  ∃ (k : Nat) (X : List Int) (A : Option Addr) (c : Nat), k + g = nl ∧ iv = .int .i64 (k : Int) ∧ wr.heap[ab]? = some (.cells #[.slice A X.length c] 25 (0, 0)) ∧ NS wB wr (.slice A X.length c) X ∧ X ∈ T.states
/-- the loop over the pumps -/
def PmI (N : Nt) (z : List Int) (wB : World) (g : Nat) (iv ov : Value) (wr : World) : Prop :=
  ∃ (k : Nat) (X : List Int), k + g = 3 ∧ iv = .int .i64 (k : Int) ∧ NS wB wr ov X ∧ mkB N X = true ∧ moreM z X
/-- a list is the marking -/
def isL (X s : List Int) : Bool := decide (s = X)
theorem pumps1_any (Ax : Option Addr) (nx cx : Nat) (X : List Int) (pb : Nat) (Ay : Option Addr) (ny cy : Nat) (Y : List Int) (w : World) (hx : ZIn w Ax X) (hl : X.length = nx) (hn : nx ≤ 9223372036854775807) (h : MB w pb Ay ny cy Y) (hy : ny ≤ 9223372036854775807) :
    Calls Tryd.prog 38 #[.slice Ax nx cx, .pointer (some ⟨pb, 0, none⟩)] w fun e w' => e = .returned (.bool (isL Y X)) ∧ Below w.heap.size w w' := by
  obtain ⟨h1, h2, h3⟩ := h
  have c0 : w.cell? ⟨pb, 0, none⟩ = some (.slice Ay ny cy) := by simp [World.cell?, h1]
  have HE := Lib.hid (equal_any Ax nx cx Ay ny cy X Y w hx hl h2 h3 hn hy)
  clear h1 h2 h3 hx hl
  go_enter Tryd.func38, Tryd.ntmps38
  go_wp2_with fail
  ((with_reducible refine HE.out.mono ?_); rintro e w1 ⟨rfl, hb1⟩)
  have HB1 := Lib.hid hb1
  go_wp2_with fail
  go_ret
  exact ⟨rfl, HB1.out⟩
set_option maxHeartbeats 3200000 in
set_option maxRecDepth 100000 in
theorem lindex_pp (A : Option Addr) (n cap : Nat) (L : List (List Int)) (w : World) (h : LIn w A L) (hn : L.length = n) (hn4 : n ≤ 9223372036854775806) (pb : Nat) (Ay : Option Addr) (ny cy : Nat) (Y : List Int) (hy : ny ≤ 9223372036854775807) (hS : MB w pb Ay ny cy Y) :
    Calls Tryd.prog 53 #[.slice A n cap, .func (.func 38) #[] #[.pointer (some ⟨pb, 0, none⟩)]] w fun e w' => e = .returned (.int .i64 (lidx (isL Y) L)) ∧ Below w.heap.size w w' := by
  have H0 := Lib.hid h; clear h
  have HN := Lib.hid hn; clear hn
  have HSt := Lib.hid hS; clear hS
  go_enter Tryd.func53, Tryd.ntmps53
  go_wp2_with fail
  go_loopg [8] (n) (fun g i wr => ∃ k : Nat, k + g = n ∧ i = .int .i64 k ∧ (∀ s ∈ L.take k, (isL Y) s = false) ∧ Below w.heap.size w wr)
  case atStart => exact ⟨0, by omega, rfl, by simp, Below.refl _ _⟩
  case round =>
    obtain ⟨k, hk, rfl, hno, hB⟩ := hrel
    have HK := Lib.hid hk
    have HNo := Lib.hid hno
    have HB := Lib.hid hB
    have HT := Lib.hid (H0.out.below hB)
    have hle : k ≤ n := by omega
    clear hk hno hB
    by_cases hlt : k < n
    · have hlt' : k < L.length := by rw [HN.out]; exact hlt
      obtain ⟨ad, rfl, hp, u, c0, Ax, nx, cx, rfl, zx, hxl, hxc, hxd⟩ := HT.out k hlt'
      have HTk := Lib.hid (List.take_succ_eq_append_getElem hlt')
      have HAt := Lib.hid (lidx_at (p := (isL Y)) hlt')
      have hXm := List.getElem_mem hlt'
      generalize L[k] = X at *
      have HX := Lib.hid (pumps1_any Ax nx cx X pb Ay ny cy Y wr zx hxl (by omega) (HSt.out.below HB.out) hy)
      clear hlt' zx hxl hXm
      cases hv : (isL Y) X with
      | true =>
        rw [hv] at HX
        have HV := Lib.hid (HAt.out hv HNo.out); clear hv
        go_wp2_with fail
        ((with_reducible refine HX.out.mono ?_); rintro e w1 ⟨rfl, hb1⟩)
        have HB1 := Lib.hid (below_then HB.out hb1)
        go_wp2_with fail
        go_ret
        exact ⟨ret_int HV.out.symm, HB1.out⟩
      | false =>
        rw [hv] at HX
        have HV := Lib.hid hv; clear hv HAt
        go_wp2_with fail
        ((with_reducible refine HX.out.mono ?_); rintro e w1 ⟨rfl, hb1⟩)
        have HB1 := Lib.hid (below_then HB.out hb1)
        clear hb1
        go_wp2_with fail
        go_roundg (gk - 1)
        case measure => have := HK.out; omega
        case rel => exact ⟨k + 1, by have := HK.out; omega, by go_num, by
          rw [HTk.out]; intro s hs
          rcases List.mem_append.1 hs with h1 | h1
          · exact HNo.out s h1
          · have : s = X := by simpa using h1
            rw [this]; exact HV.out, HB1.out⟩
    · have HV := Lib.hid (show lidx (isL Y) L = -1 from lidx_no (by have := HNo.out; rwa [List.take_of_length_le (by rw [HN.out]; omega)] at this))
      go_wp2_with fail
      go_ret
      exact ⟨ret_int HV.out.symm, HB.out⟩
set_option maxHeartbeats 800000 in
theorem lcont_pp (A : Option Addr) (n cap : Nat) (L : List (List Int)) (w : World) (h : LIn w A L) (hn : L.length = n) (hn4 : n ≤ 9223372036854775806) (pb : Nat) (Ay : Option Addr) (ny cy : Nat) (Y : List Int) (hy : ny ≤ 9223372036854775807) (hS : MB w pb Ay ny cy Y) :
    Calls Tryd.prog 31 #[.slice A n cap, .func (.func 38) #[] #[.pointer (some ⟨pb, 0, none⟩)]] w fun e w' => e = .returned (.bool (L.any (isL Y))) ∧ Below w.heap.size w w' := by
  have HI := Lib.hid (lindex_pp A n cap L w h hn hn4 pb Ay ny cy Y hy hS)
  have HE := Lib.hid (lidx_any (isL Y) L)
  clear h hn hS
  generalize lidx (isL Y) L = r at HI HE
  go_enter Tryd.func31, Tryd.ntmps31
  go_wp2_with fail
  ((with_reducible refine HI.out.mono ?_); rintro e w1 ⟨rfl, hb1⟩)
  have HB1 := Lib.hid hb1
  go_wp2_with fail
  go_ret
  exact ⟨ret_bool HE.out, HB1.out⟩
set_option maxHeartbeats 25600000 in
set_option maxRecDepth 100000 in
theorem coverPumps_walk (N : Nt) (A : Option Addr) (n c : Nat) (Am : Option Addr) (m cm : Nat) (M : List Int) (Al : Option Addr) (nl cl : Nat) (l : List Int) (mo : Nat) (w : World) (ht : Tb w) (h : NtIn w A N) (hn : N.tr.length = n) (hn2 : n ≤ 9223372036854775807) (hM : ZIn w Am M) (hm : M.length = m) (hm1 : m ≤ cm) (hm2 : cm ≤ 9223372036854775807) (_hz : ∀ z ∈ M, -9223372036854775808 ≤ z ∧ z ≤ 9223372036854775807) (hL : ZIn w Al l) (hl : l.length = nl) (_hl1 : nl ≤ cl) (_hl2 : cl ≤ 9223372036854775807) (_hlz : ∀ z ∈ l, -9223372036854775808 ≤ z ∧ z ≤ 9223372036854775807) (hmo : mo ≤ 255) :
    Calls Tryd.prog 9 #[.agg #[.int .i64 N.pl, .slice A n c, .int .i64 N.src, .int .i64 N.snk], .slice Am m cm, .slice Al nl cl, .int .u8 (mo : Int)] w fun e w' => e = .returned (.bool true) ∧ Below w.heap.size w w' := by
  have HLz := Lib.hid hL
  have HLl := Lib.hid hl
  clear hL hl
  have hBL := below_alloc w (.cells #[.int .i64 N.pl, .slice A n c, .int .i64 N.src, .int .i64 N.snk] 24)
  have HL0 := Lib.hid (HLz.out.below hBL)
  clear hBL
  have HB := Lib.hid (below_alloc w (.cells #[.int .i64 N.pl, .slice A n c, .int .i64 N.src, .int .i64 N.snk] 24))
  have HNb := Lib.hid (NB.new w N.pl A n c N.src N.snk)
  have HIn := Lib.hid (h.below HB.out)
  have HZ := Lib.hid (hM.below HB.out)
  have HT := Lib.hid (ht.below HB.out)
  have HM := Lib.hid hm
  have HNl := Lib.hid hn
  clear h hM ht hm hn
  go_enter Tryd.func9, Tryd.ntmps9
  go_wp2_with fail
  generalize w.alloc _ = w0 at *
  have HAw := Lib.hid (awake_any w0 HT.out)
  ((with_reducible refine HAw.out.mono ?_); rintro e w1 ⟨rfl, hb1⟩)
  have HL1 := Lib.hid (HL0.out.below hb1)
  have HB1 := Lib.hid (below_then HB.out hb1)
  have HNb1 := Lib.hid (HNb.out.below hb1)
  have HIn1 := Lib.hid (HIn.out.below hb1)
  have HZ1 := Lib.hid (HZ.out.below hb1)
  have HT1 := Lib.hid (HT.out.below hb1)
  clear HAw hb1 HB HNb HIn HZ HT
  obtain ⟨b0, b1, b2, b3⟩ := HNb1.out.cells
  have HSm := Lib.hid (small_any N A n c Am m cm w1 HIn1.out HNl.out hn2)
  go_wp2_with fail
  ((with_reducible refine HSm.out.mono ?_); rintro e w2 ⟨b, rfl, hb2⟩)
  have HL2 := Lib.hid (HL1.out.below hb2)
  have HB2 := Lib.hid (below_then HB1.out hb2)
  have HNb2 := Lib.hid (HNb1.out.below hb2)
  have HIn2 := Lib.hid (HIn1.out.below hb2)
  have HZ2 := Lib.hid (HZ1.out.below hb2)
  have HT2 := Lib.hid (HT1.out.below hb2)
  clear HSm hb2 HB1 HNb1 HIn1 HZ1 HT1 b0 b1 b2 b3
  obtain ⟨b0, b1, b2, b3⟩ := HNb2.out.cells
  have HAw := Lib.hid (awake_any w2 HT2.out)
  cases b with
  | false =>
    go_wp2_with fail
    ((with_reducible refine HAw.out.mono ?_); rintro e w3 ⟨rfl, hb3⟩)
    have HB3 := Lib.hid (below_then HB2.out hb3)
    go_wp2_with fail
    go_ret
    exact ⟨rfl, HB3.out⟩
  | true =>
    by_cases h40 : 40 < nl
    · have q6 : decide ((40 : Int) < (nl : Int)) = true := by simp; omega
      clear h40
      go_wp2_with fail
      ((with_reducible refine HAw.out.mono ?_); rintro e w3 ⟨rfl, hb3⟩)
      have HB3 := Lib.hid (below_then HB2.out hb3)
      go_wp2_with fail
      go_ret
      exact ⟨rfl, HB3.out⟩
    have q6 : decide ((40 : Int) < (nl : Int)) = false := by simp; omega
    have hnl : nl ≤ 40 := by omega
    clear h40 HAw
    obtain ⟨most, hmost⟩ : ∃ most, 1 + mo % 60 = most := ⟨_, rfl⟩
    have HLim := Lib.hid (fun w => limited_any mo most w hmo hmost)
    have hlm : most ≤ 60 := by omega
    have hlm0 : 1 ≤ most := by omega
    clear hmost
    have HBd := Lib.hid (fun w' (hb : Below w2.heap.size w2 w') => bounded_any N A n c Am m cm M (most : Int) w' (HIn2.out.below hb) HNl.out hn2 (HZ2.out.below hb) HM.out hm1 hm2 (HT2.out.below hb))
    rcases hbe : beR N [M] 0 (most : Int) with k | T
    · have HKz := Lib.hid (show k ≠ 0 by
        rcases fault_parts N M (most : Int) with ⟨f, _, hf, h⟩ | ⟨_, _, _, _, ⟨_, h⟩ | ⟨T, _, h⟩⟩
        · rw [h] at hbe; cases hbe; omega
        · rw [h] at hbe; cases hbe; omega
        · rw [h] at hbe; cases hbe)
      go_wp2_with fail
      have hbd : Below w2.heap.size w2 w2.drew := (Below.refl _ _).drew
      have HB23 := Lib.hid hbd
      have HNb3 := Lib.hid (HNb2.out.below hbd)
      have hS0 := And.intro HNb3.out.cells.1 (And.intro HNb3.out.cells.2.1 (And.intro HNb3.out.cells.2.2.1 HNb3.out.cells.2.2.2))
      refine wp_region_held_drew (S := fun w' => w'.cell? ⟨w.heap.size, 0, none⟩ = some (.int .i64 N.pl) ∧ w'.cell? ⟨w.heap.size, 1, none⟩ = some (.slice A n c) ∧ w'.cell? ⟨w.heap.size, 2, none⟩ = some (.int .i64 N.src) ∧ w'.cell? ⟨w.heap.size, 3, none⟩ = some (.int .i64 N.snk)) (by kernel_rfl) hS0 (fun hHeld => ?_)
      clear hS0 hbd b0 b1 b2 b3 HNb3
      generalize w2.drew = w3 at *
      refine wpAnyH_take (i := 0) (v := ?_) rfl (by kernel_rfl) (by kernel_rfl) (by kernel_rfl) (fun _ _ _ h => h) (Or.inl ⟨by rfl, ?_⟩) (by assumption) ?_
      rotate_left
      · intro w hSw; (try dsimp only at hSw); go_simp; try (with_reducible rfl)
      try go_simp
      refine wpAnyH_take (i := 1) (v := ?_) rfl (by kernel_rfl) (by kernel_rfl) (by kernel_rfl) (fun _ _ _ h => h) (Or.inl ⟨by rfl, ?_⟩) (by assumption) ?_
      rotate_left
      · intro w hSw; (try dsimp only at hSw); go_simp; try (with_reducible rfl)
      try go_simp
      refine wpAnyH_take (i := 2) (v := ?_) rfl (by kernel_rfl) (by kernel_rfl) (by kernel_rfl) (fun _ _ _ h => h) (Or.inl ⟨by rfl, ?_⟩) (by assumption) ?_
      rotate_left
      · intro w hSw; (try dsimp only at hSw); go_simp; try (with_reducible rfl)
      try go_simp
      refine wpAnyH_ready (rs := [3, 9]) (by kernel_rfl) (by simp) ?_
      refine AllReadyH.cons rfl (fun K hK => ?_) (AllReadyH.cons rfl (fun K hK => ?_) AllReadyH.nil)
      · go_simp
        ((refine (HLim.out w3).mono ?_); rintro e w5 ⟨rfl, hb5⟩)
        have hS9 := hHeld
        refine hK.out _ _ ⟨cell_stays hb5 hS9.1, cell_stays hb5 hS9.2.1, cell_stays hb5 hS9.2.2.1, cell_stays hb5 hS9.2.2.2⟩ (fun hHeld => ?_)
        clear hK K hS9
        try go_simp
        have HB25 := Lib.hid (below_then HB23.out hb5)

        clear hb5 HB23
        refine wpAnyH_ready (rs := [4, 9]) (by kernel_rfl) (by simp) ?_
        refine AllReadyH.cons rfl (fun K hK => ?_) (AllReadyH.cons rfl (fun K hK => ?_) AllReadyH.nil)
        · go_simp
          ((refine (bd_no (HBd.out w5 HB25.out) hbe).mono ?_); rintro e w6 ⟨rfl, hb6⟩)
          have hS9 := hHeld
          refine hK.out _ _ ⟨cell_stays hb6 hS9.1, cell_stays hb6 hS9.2.1, cell_stays hb6 hS9.2.2.1, cell_stays hb6 hS9.2.2.2⟩ (fun hHeld => ?_)
          clear hK K hS9
          try go_simp
          have HB26 := Lib.hid (below_then HB25.out hb6)

          clear hb6 HB25
          unfold zCt
          refine wpAnyH_take (i := 5) (v := ?_) rfl (by kernel_rfl) (by kernel_rfl) (by kernel_rfl) (fun _ _ _ h => h) (Or.inl ⟨by rfl, ?_⟩) (by assumption) ?_
          rotate_left
          · intro w hSw; (try dsimp only at hSw); go_simp; try (with_reducible rfl)
          try go_simp
          refine wpAnyH_take (i := 6) (v := ?_) rfl (by kernel_rfl) (by kernel_rfl) (by kernel_rfl) (fun _ _ _ h => h) (Or.inl ⟨by rfl, ?_⟩) (by assumption) ?_
          rotate_left
          · intro w hSw; (try dsimp only at hSw); go_simp; try (with_reducible rfl)
          try go_simp
          refine wpAnyH_take (i := 7) (v := ?_) rfl (by kernel_rfl) (by kernel_rfl) (by kernel_rfl) (fun _ _ _ h => h) (Or.inl ⟨by rfl, ?_⟩) (by assumption) ?_
          rotate_left
          · intro w hSw; (try dsimp only at hSw); go_simp; try (with_reducible rfl)
          try go_simp
          refine wpAnyH_take (i := 8) (v := ?_) rfl (by kernel_rfl) (by kernel_rfl) (by kernel_rfl) (fun _ _ _ h => h) (Or.inl ⟨by rfl, ?_⟩) (by assumption) ?_
          rotate_left
          · intro w hSw; (try dsimp only at hSw); go_simp; try (with_reducible rfl)
          try go_simp
          refine wpAnyH_ready (rs := [9]) (by kernel_rfl) (by simp) ?_
          refine AllReadyH.cons rfl (fun K hK => ?_) AllReadyH.nil
          go_simp
          have hS9 := hHeld
          have hal := below_alloc w6 (.cells #[.int .i64 0, .int .i64 0, .slice none 0 0, .slice none 0 0, .slice none 0 0, .slice none 0 0, .slice none 0 0, .slice none 0 0] 41)
          have HCz := Lib.hid (CtB.new w6 #[.int .i64 0, .int .i64 0, .slice none 0 0, .slice none 0 0, .slice none 0 0, .slice none 0 0, .slice none 0 0, .slice none 0 0])
          have hcb : w2.heap.size ≤ w6.heap.size := HB26.out.size
          have hcw : w.heap.size ≠ w6.heap.size := by have := HNb2.out.lt; omega
          have HBn := Lib.hid (below_then HB26.out hal)
          refine hK.out _ _ ⟨cell_stays hal hS9.1, cell_stays hal hS9.2.1, cell_stays hal hS9.2.2.1, cell_stays hal hS9.2.2.2⟩ (fun hHeld => ?_)
          have hal6 := hal
          clear hK K hS9 hal HB26
          try go_simp
          generalize hcbe : w6.heap.size = cb at *
          generalize w6.alloc _ = wn at *
          obtain ⟨w6, rfl⟩ : ∃ w6, w6 = wn := ⟨_, rfl⟩
          have HB26 := Lib.hid HBn.out
          clear HBn
          clear hcbe hal6
          refine wpAnyH_take (i := 10) (v := ?_) rfl (by kernel_rfl) (by kernel_rfl) (by kernel_rfl) (fun _ _ _ h => h) (Or.inl ⟨by rfl, ?_⟩) (by assumption) ?_
          rotate_left
          · intro w hSw; (try dsimp only at hSw); go_simp; try (with_reducible rfl)
          try go_simp
          obtain ⟨r0, r1, r2, r3, r4, r5, r6, r7⟩ := HCz.out.cells
          have rf0 := HCz.out.soft 0
          have rf1 := HCz.out.soft 1
          have rf2 := HCz.out.soft 2
          have rf3 := HCz.out.soft 3
          have rf4 := HCz.out.soft 4
          have rf5 := HCz.out.soft 5
          have rf6 := HCz.out.soft 6
          have rf7 := HCz.out.soft 7
          have HRe := Lib.hid (ct_set HCz.out (.int .i64 0) (.int .i64 0) (.slice none 0 0) (.slice none 0 0) (.slice none 0 0) (.slice none 0 0) (.slice none 0 0) (.slice none 0 0))
          have HGe := Lib.hid (ct_grown w6 cb (.int .i64 0) (.int .i64 0) (.slice none 0 0) (.slice none 0 0) (.slice none 0 0) (.slice none 0 0) (.slice none 0 0) (.slice none 0 0))
          have hS0 := hHeld
          refine wpAnyH_ready (rs := [11]) (by kernel_rfl) (by simp) ?_
          refine AllReadyH.cons rfl (fun K hK => ?_) AllReadyH.nil
          go_simp
          skip
          refine hK.out _ _ (⟨HGe.out.cell hS0.1 (fun e => hcw (Option.some.inj e)), HGe.out.cell hS0.2.1 (fun e => hcw (Option.some.inj e)), HGe.out.cell hS0.2.2.1 (fun e => hcw (Option.some.inj e)), HGe.out.cell hS0.2.2.2 (fun e => hcw (Option.some.inj e))⟩) (fun hHeld => ?_)
          clear hK K
          try go_simp
          refine wpAnyH_take (i := 12) (v := ?_) rfl (by kernel_rfl) (by kernel_rfl) (by kernel_rfl) (fun _ _ _ h => h) (Or.inl ⟨by rfl, ?_⟩) (by assumption) ?_
          rotate_left
          · intro w hSw; (try dsimp only at hSw); go_simp; try (with_reducible rfl)
          try go_simp
          refine wpAnyH_done (by kernel_rfl) ?_ _
          clear hHeld hS0 r0 r1 r2 r3 r4 r5 r6 r7 rf0 rf1 rf2 rf3 rf4 rf5 rf6 rf7
          generalize ((((((((w6.setCell ⟨cb, 0, none⟩ _).setCell ⟨cb, 1, none⟩ _).setCell ⟨cb, 2, none⟩ _).setCell ⟨cb, 3, none⟩ _).setCell ⟨cb, 4, none⟩ _).setCell ⟨cb, 5, none⟩ _).setCell ⟨cb, 6, none⟩ _).setCell ⟨cb, 7, none⟩ _) = we at *
          have HBe := Lib.hid (HB26.out.grown HGe.out HB26.out.size (fun k hk => by cases hk; exact hcb))
          have HCi := Lib.hid (ct_z we)
          have HBf := Lib.hid (below_then HB2.out HBe.out)
          have HNbf := Lib.hid (HNb2.out.below HBe.out)
          have HInf := Lib.hid (HIn2.out.below HBe.out)
          have HZf := Lib.hid (HZ2.out.below HBe.out)
          have HTf := Lib.hid (HT2.out.below HBe.out)
          have HLf := Lib.hid (HL2.out.below HBe.out)
          clear HBe HGe HCz HB26 HNb2 HIn2 HZ2 HT2 HL2 HB2
          obtain ⟨d0, d1, d2, d3, d4, d5, d6, d7⟩ := HRe.out.cells
          have HNz := none_z we
          unfold zCt at HNz
          have q7 : (k != 0) = true := by rw [bne_iff_ne]; exact HKz.out
          clear HCi
          go_wp2_with fail
          ((with_reducible refine HNz.mono ?_); rintro e w7 ⟨rfl, hb7⟩)
          have HB7 := Lib.hid (below_then HBf.out hb7)
          go_wp2_with fail
          go_ret
          exact ⟨rfl, HB7.out⟩
        · go_simp
          have hS9 := hHeld
          have hal := below_alloc w5 (.cells #[.int .i64 0, .int .i64 0, .slice none 0 0, .slice none 0 0, .slice none 0 0, .slice none 0 0, .slice none 0 0, .slice none 0 0] 41)
          have HCz := Lib.hid (CtB.new w5 #[.int .i64 0, .int .i64 0, .slice none 0 0, .slice none 0 0, .slice none 0 0, .slice none 0 0, .slice none 0 0, .slice none 0 0])
          have hcb : w2.heap.size ≤ w5.heap.size := HB25.out.size
          have hcw : w.heap.size ≠ w5.heap.size := by have := HNb2.out.lt; omega
          have HBn := Lib.hid (below_then HB25.out hal)
          refine hK.out _ _ ⟨cell_stays hal hS9.1, cell_stays hal hS9.2.1, cell_stays hal hS9.2.2.1, cell_stays hal hS9.2.2.2⟩ (fun hHeld => ?_)
          clear hK K hS9 hal HB25
          try go_simp
          generalize hcbe : w5.heap.size = cb at *
          generalize w5.alloc _ = wn at *
          clear hcbe
          obtain ⟨w5, rfl⟩ : ∃ w5, w5 = wn := ⟨_, rfl⟩
          have HB25 := Lib.hid HBn.out
          clear HBn
          refine wpAnyH_ready (rs := [4]) (by kernel_rfl) (by simp) ?_
          refine AllReadyH.cons rfl (fun K hK => ?_) AllReadyH.nil
          go_simp
          ((refine (bd_no (HBd.out w5 HB25.out) hbe).mono ?_); rintro e w6 ⟨rfl, hb6⟩)
          have hS9 := hHeld
          refine hK.out _ _ ⟨cell_stays hb6 hS9.1, cell_stays hb6 hS9.2.1, cell_stays hb6 hS9.2.2.1, cell_stays hb6 hS9.2.2.2⟩ (fun hHeld => ?_)
          clear hK K hS9
          try go_simp
          have HB26 := Lib.hid (below_then HB25.out hb6)
          replace HCz := Lib.hid (HCz.out.below hb6)
          clear hb6 HB25
          unfold zCt
          refine wpAnyH_take (i := 5) (v := ?_) rfl (by kernel_rfl) (by kernel_rfl) (by kernel_rfl) (fun _ _ _ h => h) (Or.inl ⟨by rfl, ?_⟩) (by assumption) ?_
          rotate_left
          · intro w hSw; (try dsimp only at hSw); go_simp; try (with_reducible rfl)
          try go_simp
          refine wpAnyH_take (i := 6) (v := ?_) rfl (by kernel_rfl) (by kernel_rfl) (by kernel_rfl) (fun _ _ _ h => h) (Or.inl ⟨by rfl, ?_⟩) (by assumption) ?_
          rotate_left
          · intro w hSw; (try dsimp only at hSw); go_simp; try (with_reducible rfl)
          try go_simp
          refine wpAnyH_take (i := 7) (v := ?_) rfl (by kernel_rfl) (by kernel_rfl) (by kernel_rfl) (fun _ _ _ h => h) (Or.inl ⟨by rfl, ?_⟩) (by assumption) ?_
          rotate_left
          · intro w hSw; (try dsimp only at hSw); go_simp; try (with_reducible rfl)
          try go_simp
          refine wpAnyH_take (i := 8) (v := ?_) rfl (by kernel_rfl) (by kernel_rfl) (by kernel_rfl) (fun _ _ _ h => h) (Or.inl ⟨by rfl, ?_⟩) (by assumption) ?_
          rotate_left
          · intro w hSw; (try dsimp only at hSw); go_simp; try (with_reducible rfl)
          try go_simp
          refine wpAnyH_take (i := 10) (v := ?_) rfl (by kernel_rfl) (by kernel_rfl) (by kernel_rfl) (fun _ _ _ h => h) (Or.inl ⟨by rfl, ?_⟩) (by assumption) ?_
          rotate_left
          · intro w hSw; (try dsimp only at hSw); go_simp; try (with_reducible rfl)
          try go_simp
          obtain ⟨r0, r1, r2, r3, r4, r5, r6, r7⟩ := HCz.out.cells
          have rf0 := HCz.out.soft 0
          have rf1 := HCz.out.soft 1
          have rf2 := HCz.out.soft 2
          have rf3 := HCz.out.soft 3
          have rf4 := HCz.out.soft 4
          have rf5 := HCz.out.soft 5
          have rf6 := HCz.out.soft 6
          have rf7 := HCz.out.soft 7
          have HRe := Lib.hid (ct_set HCz.out (.int .i64 0) (.int .i64 0) (.slice none 0 0) (.slice none 0 0) (.slice none 0 0) (.slice none 0 0) (.slice none 0 0) (.slice none 0 0))
          have HGe := Lib.hid (ct_grown w6 cb (.int .i64 0) (.int .i64 0) (.slice none 0 0) (.slice none 0 0) (.slice none 0 0) (.slice none 0 0) (.slice none 0 0) (.slice none 0 0))
          have hS0 := hHeld
          refine wpAnyH_ready (rs := [11]) (by kernel_rfl) (by simp) ?_
          refine AllReadyH.cons rfl (fun K hK => ?_) AllReadyH.nil
          go_simp
          skip
          refine hK.out _ _ (⟨HGe.out.cell hS0.1 (fun e => hcw (Option.some.inj e)), HGe.out.cell hS0.2.1 (fun e => hcw (Option.some.inj e)), HGe.out.cell hS0.2.2.1 (fun e => hcw (Option.some.inj e)), HGe.out.cell hS0.2.2.2 (fun e => hcw (Option.some.inj e))⟩) (fun hHeld => ?_)
          clear hK K
          try go_simp
          refine wpAnyH_take (i := 12) (v := ?_) rfl (by kernel_rfl) (by kernel_rfl) (by kernel_rfl) (fun _ _ _ h => h) (Or.inl ⟨by rfl, ?_⟩) (by assumption) ?_
          rotate_left
          · intro w hSw; (try dsimp only at hSw); go_simp; try (with_reducible rfl)
          try go_simp
          refine wpAnyH_done (by kernel_rfl) ?_ _
          clear hHeld hS0 r0 r1 r2 r3 r4 r5 r6 r7 rf0 rf1 rf2 rf3 rf4 rf5 rf6 rf7
          generalize ((((((((w6.setCell ⟨cb, 0, none⟩ _).setCell ⟨cb, 1, none⟩ _).setCell ⟨cb, 2, none⟩ _).setCell ⟨cb, 3, none⟩ _).setCell ⟨cb, 4, none⟩ _).setCell ⟨cb, 5, none⟩ _).setCell ⟨cb, 6, none⟩ _).setCell ⟨cb, 7, none⟩ _) = we at *
          have HBe := Lib.hid (HB26.out.grown HGe.out HB26.out.size (fun k hk => by cases hk; exact hcb))
          have HCi := Lib.hid (ct_z we)
          have HBf := Lib.hid (below_then HB2.out HBe.out)
          have HNbf := Lib.hid (HNb2.out.below HBe.out)
          have HInf := Lib.hid (HIn2.out.below HBe.out)
          have HZf := Lib.hid (HZ2.out.below HBe.out)
          have HTf := Lib.hid (HT2.out.below HBe.out)
          have HLf := Lib.hid (HL2.out.below HBe.out)
          clear HBe HGe HCz HB26 HNb2 HIn2 HZ2 HT2 HL2 HB2
          obtain ⟨d0, d1, d2, d3, d4, d5, d6, d7⟩ := HRe.out.cells
          have HNz := none_z we
          unfold zCt at HNz
          have q7 : (k != 0) = true := by rw [bne_iff_ne]; exact HKz.out
          clear HCi
          go_wp2_with fail
          ((with_reducible refine HNz.mono ?_); rintro e w7 ⟨rfl, hb7⟩)
          have HB7 := Lib.hid (below_then HBf.out hb7)
          go_wp2_with fail
          go_ret
          exact ⟨rfl, HB7.out⟩
      · go_simp
        have hS9 := hHeld
        have hal := below_alloc w3 (.cells #[.int .i64 0, .int .i64 0, .slice none 0 0, .slice none 0 0, .slice none 0 0, .slice none 0 0, .slice none 0 0, .slice none 0 0] 41)
        have HCz := Lib.hid (CtB.new w3 #[.int .i64 0, .int .i64 0, .slice none 0 0, .slice none 0 0, .slice none 0 0, .slice none 0 0, .slice none 0 0, .slice none 0 0])
        have hcb : w2.heap.size ≤ w3.heap.size := HB23.out.size
        have hcw : w.heap.size ≠ w3.heap.size := by have := HNb2.out.lt; omega
        have HBn := Lib.hid (below_then HB23.out hal)
        refine hK.out _ _ ⟨cell_stays hal hS9.1, cell_stays hal hS9.2.1, cell_stays hal hS9.2.2.1, cell_stays hal hS9.2.2.2⟩ (fun hHeld => ?_)
        clear hK K hS9 hal HB23
        try go_simp
        generalize hcbe : w3.heap.size = cb at *
        generalize w3.alloc _ = wn at *
        clear hcbe
        refine wpAnyH_ready (rs := [3]) (by kernel_rfl) (by simp) ?_
        refine AllReadyH.cons rfl (fun K hK => ?_) AllReadyH.nil
        go_simp
        ((refine (HLim.out wn).mono ?_); rintro e w5 ⟨rfl, hb5⟩)
        have hS9 := hHeld
        refine hK.out _ _ ⟨cell_stays hb5 hS9.1, cell_stays hb5 hS9.2.1, cell_stays hb5 hS9.2.2.1, cell_stays hb5 hS9.2.2.2⟩ (fun hHeld => ?_)
        clear hK K hS9
        try go_simp
        have HB25 := Lib.hid (below_then HBn.out hb5)
        replace HCz := Lib.hid (HCz.out.below hb5)
        clear hb5 HBn
        refine wpAnyH_ready (rs := [4]) (by kernel_rfl) (by simp) ?_
        refine AllReadyH.cons rfl (fun K hK => ?_) AllReadyH.nil
        go_simp
        ((refine (bd_no (HBd.out w5 HB25.out) hbe).mono ?_); rintro e w6 ⟨rfl, hb6⟩)
        have hS9 := hHeld
        refine hK.out _ _ ⟨cell_stays hb6 hS9.1, cell_stays hb6 hS9.2.1, cell_stays hb6 hS9.2.2.1, cell_stays hb6 hS9.2.2.2⟩ (fun hHeld => ?_)
        clear hK K hS9
        try go_simp
        have HB26 := Lib.hid (below_then HB25.out hb6)
        replace HCz := Lib.hid (HCz.out.below hb6)
        clear hb6 HB25
        unfold zCt
        refine wpAnyH_take (i := 5) (v := ?_) rfl (by kernel_rfl) (by kernel_rfl) (by kernel_rfl) (fun _ _ _ h => h) (Or.inl ⟨by rfl, ?_⟩) (by assumption) ?_
        rotate_left
        · intro w hSw; (try dsimp only at hSw); go_simp; try (with_reducible rfl)
        try go_simp
        refine wpAnyH_take (i := 6) (v := ?_) rfl (by kernel_rfl) (by kernel_rfl) (by kernel_rfl) (fun _ _ _ h => h) (Or.inl ⟨by rfl, ?_⟩) (by assumption) ?_
        rotate_left
        · intro w hSw; (try dsimp only at hSw); go_simp; try (with_reducible rfl)
        try go_simp
        refine wpAnyH_take (i := 7) (v := ?_) rfl (by kernel_rfl) (by kernel_rfl) (by kernel_rfl) (fun _ _ _ h => h) (Or.inl ⟨by rfl, ?_⟩) (by assumption) ?_
        rotate_left
        · intro w hSw; (try dsimp only at hSw); go_simp; try (with_reducible rfl)
        try go_simp
        refine wpAnyH_take (i := 8) (v := ?_) rfl (by kernel_rfl) (by kernel_rfl) (by kernel_rfl) (fun _ _ _ h => h) (Or.inl ⟨by rfl, ?_⟩) (by assumption) ?_
        rotate_left
        · intro w hSw; (try dsimp only at hSw); go_simp; try (with_reducible rfl)
        try go_simp
        refine wpAnyH_take (i := 10) (v := ?_) rfl (by kernel_rfl) (by kernel_rfl) (by kernel_rfl) (fun _ _ _ h => h) (Or.inl ⟨by rfl, ?_⟩) (by assumption) ?_
        rotate_left
        · intro w hSw; (try dsimp only at hSw); go_simp; try (with_reducible rfl)
        try go_simp
        obtain ⟨r0, r1, r2, r3, r4, r5, r6, r7⟩ := HCz.out.cells
        have rf0 := HCz.out.soft 0
        have rf1 := HCz.out.soft 1
        have rf2 := HCz.out.soft 2
        have rf3 := HCz.out.soft 3
        have rf4 := HCz.out.soft 4
        have rf5 := HCz.out.soft 5
        have rf6 := HCz.out.soft 6
        have rf7 := HCz.out.soft 7
        have HRe := Lib.hid (ct_set HCz.out (.int .i64 0) (.int .i64 0) (.slice none 0 0) (.slice none 0 0) (.slice none 0 0) (.slice none 0 0) (.slice none 0 0) (.slice none 0 0))
        have HGe := Lib.hid (ct_grown w6 cb (.int .i64 0) (.int .i64 0) (.slice none 0 0) (.slice none 0 0) (.slice none 0 0) (.slice none 0 0) (.slice none 0 0) (.slice none 0 0))
        have hS0 := hHeld
        refine wpAnyH_ready (rs := [11]) (by kernel_rfl) (by simp) ?_
        refine AllReadyH.cons rfl (fun K hK => ?_) AllReadyH.nil
        go_simp
        skip
        refine hK.out _ _ (⟨HGe.out.cell hS0.1 (fun e => hcw (Option.some.inj e)), HGe.out.cell hS0.2.1 (fun e => hcw (Option.some.inj e)), HGe.out.cell hS0.2.2.1 (fun e => hcw (Option.some.inj e)), HGe.out.cell hS0.2.2.2 (fun e => hcw (Option.some.inj e))⟩) (fun hHeld => ?_)
        clear hK K
        try go_simp
        refine wpAnyH_take (i := 12) (v := ?_) rfl (by kernel_rfl) (by kernel_rfl) (by kernel_rfl) (fun _ _ _ h => h) (Or.inl ⟨by rfl, ?_⟩) (by assumption) ?_
        rotate_left
        · intro w hSw; (try dsimp only at hSw); go_simp; try (with_reducible rfl)
        try go_simp
        refine wpAnyH_done (by kernel_rfl) ?_ _
        clear hHeld hS0 r0 r1 r2 r3 r4 r5 r6 r7 rf0 rf1 rf2 rf3 rf4 rf5 rf6 rf7
        generalize ((((((((w6.setCell ⟨cb, 0, none⟩ _).setCell ⟨cb, 1, none⟩ _).setCell ⟨cb, 2, none⟩ _).setCell ⟨cb, 3, none⟩ _).setCell ⟨cb, 4, none⟩ _).setCell ⟨cb, 5, none⟩ _).setCell ⟨cb, 6, none⟩ _).setCell ⟨cb, 7, none⟩ _) = we at *
        have HBe := Lib.hid (HB26.out.grown HGe.out HB26.out.size (fun k hk => by cases hk; exact hcb))
        have HCi := Lib.hid (ct_z we)
        have HBf := Lib.hid (below_then HB2.out HBe.out)
        have HNbf := Lib.hid (HNb2.out.below HBe.out)
        have HInf := Lib.hid (HIn2.out.below HBe.out)
        have HZf := Lib.hid (HZ2.out.below HBe.out)
        have HTf := Lib.hid (HT2.out.below HBe.out)
        have HLf := Lib.hid (HL2.out.below HBe.out)
        clear HBe HGe HCz HB26 HNb2 HIn2 HZ2 HT2 HL2 HB2
        obtain ⟨d0, d1, d2, d3, d4, d5, d6, d7⟩ := HRe.out.cells
        have HNz := none_z we
        unfold zCt at HNz
        have q7 : (k != 0) = true := by rw [bne_iff_ne]; exact HKz.out
        clear HCi
        go_wp2_with fail
        ((with_reducible refine HNz.mono ?_); rintro e w7 ⟨rfl, hb7⟩)
        have HB7 := Lib.hid (below_then HBf.out hb7)
        go_wp2_with fail
        go_ret
        exact ⟨rfl, HB7.out⟩
    · have hgv : mkB N M = true ∧ growT N M most = some T := by
        rcases fault_parts N M (most : Int) with ⟨f, _, hf, h⟩ | ⟨_, hmk, _, _, ⟨_, h⟩ | ⟨T', hg, h⟩⟩
        · rw [h] at hbe; cases hbe
        · rw [h] at hbe; cases hbe
        · rw [h] at hbe; cases hbe; exact ⟨hmk, by rw [Int.toNat_natCast] at hg; exact hg⟩
      obtain ⟨hmk, hgr⟩ := hgv
      by_cases hno : ∀ (j : Nat) (d : Nd), T.nodes[j]? = some d → d.om = false
      · skip
        go_wp2_with fail
        have hbd : Below w2.heap.size w2 w2.drew := (Below.refl _ _).drew
        have HB23 := Lib.hid hbd
        have HNb3 := Lib.hid (HNb2.out.below hbd)
        have hS0 := And.intro HNb3.out.cells.1 (And.intro HNb3.out.cells.2.1 (And.intro HNb3.out.cells.2.2.1 HNb3.out.cells.2.2.2))
        refine wp_region_held_drew (S := fun w' => w'.cell? ⟨w.heap.size, 0, none⟩ = some (.int .i64 N.pl) ∧ w'.cell? ⟨w.heap.size, 1, none⟩ = some (.slice A n c) ∧ w'.cell? ⟨w.heap.size, 2, none⟩ = some (.int .i64 N.src) ∧ w'.cell? ⟨w.heap.size, 3, none⟩ = some (.int .i64 N.snk)) (by kernel_rfl) hS0 (fun hHeld => ?_)
        clear hS0 hbd b0 b1 b2 b3 HNb3
        generalize w2.drew = w3 at *
        refine wpAnyH_take (i := 0) (v := ?_) rfl (by kernel_rfl) (by kernel_rfl) (by kernel_rfl) (fun _ _ _ h => h) (Or.inl ⟨by rfl, ?_⟩) (by assumption) ?_
        rotate_left
        · intro w hSw; (try dsimp only at hSw); go_simp; try (with_reducible rfl)
        try go_simp
        refine wpAnyH_take (i := 1) (v := ?_) rfl (by kernel_rfl) (by kernel_rfl) (by kernel_rfl) (fun _ _ _ h => h) (Or.inl ⟨by rfl, ?_⟩) (by assumption) ?_
        rotate_left
        · intro w hSw; (try dsimp only at hSw); go_simp; try (with_reducible rfl)
        try go_simp
        refine wpAnyH_take (i := 2) (v := ?_) rfl (by kernel_rfl) (by kernel_rfl) (by kernel_rfl) (fun _ _ _ h => h) (Or.inl ⟨by rfl, ?_⟩) (by assumption) ?_
        rotate_left
        · intro w hSw; (try dsimp only at hSw); go_simp; try (with_reducible rfl)
        try go_simp
        refine wpAnyH_ready (rs := [3, 9]) (by kernel_rfl) (by simp) ?_
        refine AllReadyH.cons rfl (fun K hK => ?_) (AllReadyH.cons rfl (fun K hK => ?_) AllReadyH.nil)
        · go_simp
          ((refine (HLim.out w3).mono ?_); rintro e w5 ⟨rfl, hb5⟩)
          have hS9 := hHeld
          refine hK.out _ _ ⟨cell_stays hb5 hS9.1, cell_stays hb5 hS9.2.1, cell_stays hb5 hS9.2.2.1, cell_stays hb5 hS9.2.2.2⟩ (fun hHeld => ?_)
          clear hK K hS9
          try go_simp
          have HB25 := Lib.hid (below_then HB23.out hb5)

          clear hb5 HB23
          refine wpAnyH_ready (rs := [4, 9]) (by kernel_rfl) (by simp) ?_
          refine AllReadyH.cons rfl (fun K hK => ?_) (AllReadyH.cons rfl (fun K hK => ?_) AllReadyH.nil)
          · go_simp
            ((refine (bd_yes (HBd.out w5 HB25.out) hbe hno).mono ?_); rintro e w6 ⟨Aa, ca, rfl, hO⟩; have hb6 := hO.bel)
            have hS9 := hHeld
            refine hK.out _ _ ⟨cell_stays hb6 hS9.1, cell_stays hb6 hS9.2.1, cell_stays hb6 hS9.2.2.1, cell_stays hb6 hS9.2.2.2⟩ (fun hHeld => ?_)
            clear hK K hS9
            try go_simp
            have HO6 := Lib.hid (hO.up HB25.out)
            have HB26 := Lib.hid (below_then HB25.out hb6)

            clear hb6 HB25 hO
            skip
            refine wpAnyH_take (i := 5) (v := ?_) rfl (by kernel_rfl) (by kernel_rfl) (by kernel_rfl) (fun _ _ _ h => h) (Or.inl ⟨by rfl, ?_⟩) (by assumption) ?_
            rotate_left
            · intro w hSw; (try dsimp only at hSw); go_simp; try (with_reducible rfl)
            try go_simp
            refine wpAnyH_take (i := 6) (v := ?_) rfl (by kernel_rfl) (by kernel_rfl) (by kernel_rfl) (fun _ _ _ h => h) (Or.inl ⟨by rfl, ?_⟩) (by assumption) ?_
            rotate_left
            · intro w hSw; (try dsimp only at hSw); go_simp; try (with_reducible rfl)
            try go_simp
            refine wpAnyH_take (i := 7) (v := ?_) rfl (by kernel_rfl) (by kernel_rfl) (by kernel_rfl) (fun _ _ _ h => h) (Or.inl ⟨by rfl, ?_⟩) (by assumption) ?_
            rotate_left
            · intro w hSw; (try dsimp only at hSw); go_simp; try (with_reducible rfl)
            try go_simp
            refine wpAnyH_take (i := 8) (v := ?_) rfl (by kernel_rfl) (by kernel_rfl) (by kernel_rfl) (fun _ _ _ h => h) (Or.inl ⟨by rfl, ?_⟩) (by assumption) ?_
            rotate_left
            · intro w hSw; (try dsimp only at hSw); go_simp; try (with_reducible rfl)
            try go_simp
            refine wpAnyH_ready (rs := [9]) (by kernel_rfl) (by simp) ?_
            refine AllReadyH.cons rfl (fun K hK => ?_) AllReadyH.nil
            go_simp
            have hS9 := hHeld
            have hal := below_alloc w6 (.cells #[.int .i64 0, .int .i64 0, .slice none 0 0, .slice none 0 0, .slice none 0 0, .slice none 0 0, .slice none 0 0, .slice none 0 0] 41)
            have HCz := Lib.hid (CtB.new w6 #[.int .i64 0, .int .i64 0, .slice none 0 0, .slice none 0 0, .slice none 0 0, .slice none 0 0, .slice none 0 0, .slice none 0 0])
            have hcb : w2.heap.size ≤ w6.heap.size := HB26.out.size
            have hcw : w.heap.size ≠ w6.heap.size := by have := HNb2.out.lt; omega
            have HBn := Lib.hid (below_then HB26.out hal)
            refine hK.out _ _ ⟨cell_stays hal hS9.1, cell_stays hal hS9.2.1, cell_stays hal hS9.2.2.1, cell_stays hal hS9.2.2.2⟩ (fun hHeld => ?_)
            have hal6 := hal
            clear hK K hS9 hal HB26
            try go_simp
            generalize hcbe : w6.heap.size = cb at *
            generalize w6.alloc _ = wn at *
            obtain ⟨w6, rfl⟩ : ∃ w6, w6 = wn := ⟨_, rfl⟩
            have HB26 := Lib.hid HBn.out
            clear HBn
            replace HO6 := Lib.hid (HO6.out.below (by rw [hcbe]; exact hal6))
            clear hcbe hal6
            refine wpAnyH_take (i := 10) (v := ?_) rfl (by kernel_rfl) (by kernel_rfl) (by kernel_rfl) (fun _ _ _ h => h) (Or.inl ⟨by rfl, ?_⟩) (by assumption) ?_
            rotate_left
            · intro w hSw; (try dsimp only at hSw); go_simp; try (with_reducible rfl)
            try go_simp
            obtain ⟨r0, r1, r2, r3, r4, r5, r6, r7⟩ := HCz.out.cells
            have rf0 := HCz.out.soft 0
            have rf1 := HCz.out.soft 1
            have rf2 := HCz.out.soft 2
            have rf3 := HCz.out.soft 3
            have rf4 := HCz.out.soft 4
            have rf5 := HCz.out.soft 5
            have rf6 := HCz.out.soft 6
            have rf7 := HCz.out.soft 7
            have HRe := Lib.hid (ct_set HCz.out (.int .i64 5) (.int .i64 0) (.slice none 0 0) (.slice none 0 0) (.slice Aa T.states.length ca) (.slice none 0 0) (.slice none 0 0) (.slice none 0 0))
            have HGe := Lib.hid (ct_grown w6 cb (.int .i64 5) (.int .i64 0) (.slice none 0 0) (.slice none 0 0) (.slice Aa T.states.length ca) (.slice none 0 0) (.slice none 0 0) (.slice none 0 0))
            have hS0 := hHeld
            refine wpAnyH_ready (rs := [11]) (by kernel_rfl) (by simp) ?_
            refine AllReadyH.cons rfl (fun K hK => ?_) AllReadyH.nil
            go_simp
            skip
            refine hK.out _ _ (⟨HGe.out.cell hS0.1 (fun e => hcw (Option.some.inj e)), HGe.out.cell hS0.2.1 (fun e => hcw (Option.some.inj e)), HGe.out.cell hS0.2.2.1 (fun e => hcw (Option.some.inj e)), HGe.out.cell hS0.2.2.2 (fun e => hcw (Option.some.inj e))⟩) (fun hHeld => ?_)
            clear hK K
            try go_simp
            refine wpAnyH_take (i := 12) (v := ?_) rfl (by kernel_rfl) (by kernel_rfl) (by kernel_rfl) (fun _ _ _ h => h) (Or.inl ⟨by rfl, ?_⟩) (by assumption) ?_
            rotate_left
            · intro w hSw; (try dsimp only at hSw); go_simp; try (with_reducible rfl)
            try go_simp
            refine wpAnyH_done (by kernel_rfl) ?_ _
            clear hHeld hS0 r0 r1 r2 r3 r4 r5 r6 r7 rf0 rf1 rf2 rf3 rf4 rf5 rf6 rf7
            generalize ((((((((w6.setCell ⟨cb, 0, none⟩ _).setCell ⟨cb, 1, none⟩ _).setCell ⟨cb, 2, none⟩ _).setCell ⟨cb, 3, none⟩ _).setCell ⟨cb, 4, none⟩ _).setCell ⟨cb, 5, none⟩ _).setCell ⟨cb, 6, none⟩ _).setCell ⟨cb, 7, none⟩ _) = we at *
            have HBe := Lib.hid (HB26.out.grown HGe.out HB26.out.size (fun k hk => by cases hk; exact hcb))
            have HLi := Lib.hid (show LIn we Aa T.states by obtain ⟨A', c', e, h1, _⟩ := (HO6.out.kept HCz.out (by decide) (by decide) hcb HGe.out).lin; cases e; exact h1)
            have HCi := Lib.hid (ct_bnd (HO6.out.kept HCz.out (by decide) (by decide) hcb HGe.out) (by have := growT_le hgr; omega))
            have HBf := Lib.hid (below_then HB2.out HBe.out)
            have HNbf := Lib.hid (HNb2.out.below HBe.out)
            have HInf := Lib.hid (HIn2.out.below HBe.out)
            have HZf := Lib.hid (HZ2.out.below HBe.out)
            have HTf := Lib.hid (HT2.out.below HBe.out)
            have HLf := Lib.hid (HL2.out.below HBe.out)
            clear HBe HGe HCz HB26 HNb2 HIn2 HZ2 HT2 HL2 HB2
            have HCr := Lib.hid (bnd_cert hmk hgr hlm hno)
            have HFt0 := Lib.hid HCr.out.2.1
            have HCk0 := Lib.hid HCr.out.1
            have HSt := Lib.hid (states_mk hmk hgr hno)
            have HSy := Lib.hid (show ∀ s ∈ T.states, ∀ t, (fireV N s t).2 = 0 → (fireV N s t).1 ∈ T.states from fun s hs t h0 => stays hmk hgr hno hs h0)
            have HMk := Lib.hid hmk
            clear hmk hno hbe
            obtain ⟨wb, rfl⟩ : ∃ wb, wb = we := ⟨_, rfl⟩
            have HX6 := Lib.hid HRe.out
            have HCt6 := Lib.hid HCi.out
            have HB6 := Lib.hid HBf.out
            have HNb6 := Lib.hid HNbf.out
            have HIn6 := Lib.hid HInf.out
            have HZ6 := Lib.hid HZf.out
            have HT6 := Lib.hid HTf.out
            have HL6 := Lib.hid HLf.out
            clear HRe HCi HBf HNbf HInf HZf HTf HLf HCr
            have HFt := Lib.hid (fits_any _ _ wb HCt6.out)
            rw [HFt0.out] at HFt
            obtain ⟨d0, d1, d2, d3, d4, d5, d6, d7⟩ := HX6.out.cells
            go_wp2_with fail
            ((with_reducible refine HFt.out.mono ?_); rintro e w7 ⟨rfl, hb7⟩)
            have HB7 := Lib.hid (below_then HB6.out hb7)
            have HNb7 := Lib.hid (HNb6.out.below hb7)
            have HIn7 := Lib.hid (HIn6.out.below hb7)
            have HZ7 := Lib.hid (HZ6.out.below hb7)
            have HT7 := Lib.hid (HT6.out.below hb7)
            have HL7 := Lib.hid (HL6.out.below hb7)
            have HX7 := Lib.hid (HX6.out.below hb7)
            have HCt7 := Lib.hid (HCt6.out.below hb7)
            have HB67 := Lib.hid hb7
            clear hb7 HFt d0 d1 d2 d3 d4 d5 d6 d7
            clear HB6 HNb6 HIn6 HZ6 HT6 HL6 HX6 HCt6
            have HCk := Lib.hid (ccheck_any N A n c Am m cm M _ _ w7 HT7.out HIn7.out HNl.out hn2 HZ7.out HM.out (by omega) HCt7.out)
            rw [HCk0.out] at HCk
            obtain ⟨d0, d1, d2, d3, d4, d5, d6, d7⟩ := HX7.out.cells
            obtain ⟨b0, b1, b2, b3⟩ := HNb7.out.cells
            go_wp2_with fail
            ((with_reducible refine HCk.out.mono ?_); rintro e w8 ⟨rfl, hb8⟩)
            have HB8 := Lib.hid (below_then HB7.out hb8)
            have HNb8 := Lib.hid (HNb7.out.below hb8)
            have HIn8 := Lib.hid (HIn7.out.below hb8)
            have HZ8 := Lib.hid (HZ7.out.below hb8)
            have HT8 := Lib.hid (HT7.out.below hb8)
            have HL8 := Lib.hid (HL7.out.below hb8)
            have HX8 := Lib.hid (HX7.out.below hb8)
            have HCt8 := Lib.hid (HCt7.out.below hb8)
            have HB78 := Lib.hid hb8
            clear hb8 HCk d0 d1 d2 d3 d4 d5 d6 d7 b0 b1 b2 b3
            clear HB7 HNb7 HIn7 HZ7 HT7 HL7 HX7 HCt7
            obtain ⟨d0, d1, d2, d3, d4, d5, d6, d7⟩ := HX8.out.cells
            obtain ⟨b0, b1, b2, b3⟩ := HNb8.out.cells
            have hcl := HX8.out.lt
            have hnl8 := HNb8.out.lt
            go_wp2_with fail
            have HA9 := Lib.hid (below_alloc w8 (.cells #[.int .i64 6, .int .i64 0, .slice none 0 0, .slice none 0 0, .slice Aa T.states.length ca, .slice none 0 0, .slice none 0 0, .slice none 0 0] 41))
            have HB9 := Lib.hid (below_then HB8.out HA9.out)
            have HNb9 := Lib.hid (HNb8.out.below HA9.out)
            have HIn9 := Lib.hid (HIn8.out.below HA9.out)
            have HZ9 := Lib.hid (HZ8.out.below HA9.out)
            have HT9 := Lib.hid (HT8.out.below HA9.out)
            have HL9 := Lib.hid (HL8.out.below HA9.out)
            have HX9 := Lib.hid (HX8.out.below HA9.out)
            have HCt9 := Lib.hid (HCt8.out.below HA9.out)
            have HCtw := Lib.hid (ct_cl (b := 6) HCt9.out)
            have HCw := Lib.hid (ccheck_any N A n c Am m cm M (.agg #[.int .i64 6, .int .i64 0, .slice none 0 0, .slice none 0 0, .slice Aa T.states.length ca, .slice none 0 0, .slice none 0 0, .slice none 0 0]) ⟨6, 0, [], [], T.states⟩ _ HT9.out HIn9.out HNl.out hn2 HZ9.out HM.out (by omega) HCtw.out)
            rw [wrong_bnd] at HCw
            clear d0 d1 d2 d3 d4 d5 d6 d7 b0 b1 b2 b3
            ((with_reducible refine HCw.out.mono ?_); rintro e w10 ⟨rfl, hb10⟩)
            have HB10 := Lib.hid (below_then HB9.out hb10)
            have HNb10 := Lib.hid (HNb9.out.below hb10)
            have HIn10 := Lib.hid (HIn9.out.below hb10)
            have HZ10 := Lib.hid (HZ9.out.below hb10)
            have HT10 := Lib.hid (HT9.out.below hb10)
            have HL10 := Lib.hid (HL9.out.below hb10)
            have HX10 := Lib.hid (HX9.out.below hb10)
            have HCt10 := Lib.hid (HCt9.out.below hb10)
            have HLi10 := Lib.hid ((((HLi.out.below HB67.out).below HB78.out).below HA9.out).below hb10)
            clear hb10 HCw HCtw
            clear HB8 HNb8 HIn8 HZ8 HT8 HL8 HX8 HCt8
            clear HB9 HNb9 HIn9 HZ9 HT9 HL9 HX9 HCt9
            clear HA9 HB67 HB78
            have HCl := Lib.hid (clone_any Am m cm M w10 HZ10.out HM.out (by have := mk_len HMk.out; have := nt_small (mk_nt HMk.out); have := HM.out; omega))
            go_wp2_with fail
            ((with_reducible refine HCl.out.mono ?_); rintro e w11 ⟨v11, rfl, hS11⟩)
            obtain ⟨A11, c11, rfl⟩ := hS11.slice
            have hal11 := below_alloc w11 (.cells #[.slice A11 M.length c11] 25)
            have HS12 := Lib.hid (hS11.below hal11)
            have HAb := Lib.hid (heap_alloc_new w11 (.cells #[.slice A11 M.length c11] 25))
            have hab : w10.heap.size ≤ w11.heap.size := hS11.2.size
            clear hS11 HCl hal11
            go_wp2_with fail
            generalize w11.alloc _ = w12 at *
            generalize w11.heap.size = ab at *
            go_loopg [75] (nl) (fun g iv wr => PuI T nl w10 ab g iv wr)
            case atStart => exact ⟨0, M, A11, c11, by omega, rfl, HAb.out, HS12.out, HSt.out.1⟩
            case round =>
              clear HS12 HAb
              obtain ⟨k, X, Ax, cx, hkg, rfl, hA, hS, hXm⟩ := hrel
              have HK := Lib.hid hkg
              have HAb := Lib.hid hA
              have HS := Lib.hid hS
              have HXm := Lib.hid hXm
              have HMx := Lib.hid (HSt.out.2 X hXm)
              have hkl : k ≤ nl := by omega
              have hxl : X.length ≤ 1000 := by have := mk_len HMx.out; have := nt_small (mk_nt HMx.out); omega
              have HBr := Lib.hid hS.2
              have HZx := Lib.hid (show ZIn wr Ax X by obtain ⟨A', c', e, hz, _⟩ := hS.zin; cases e; exact hz)
              have t0 : wr.cell? ⟨ab, 0, none⟩ = some (.slice Ax X.length cx) := by simp [World.cell?, hA]
              have tf : wr.frozen? ⟨ab, 0, none⟩ = false := by simp [World.frozen?, hA]
              obtain ⟨b0, b1, b2, b3⟩ := (HNb10.out.below HBr.out).cells
              have HLr := Lib.hid (HL10.out.below HBr.out)
              clear hkg hA hS hXm
              by_cases hlt : k < nl
              · have hlt' : k < l.length := by rw [HLl.out]; exact hlt
                obtain ⟨al, rfl, hpa, q0⟩ := HLr.out k hlt'
                generalize l[k] = t at *
                have hfi := pFire_any N A n c Ax X.length cx X t wr (HIn10.out.below HBr.out) HNl.out hn2 HZx.out rfl (by omega)
                rw [show fire21 N X t = fireV N X t by unfold fire21; rw [HMx.out]; rfl] at hfi
                have HFi := Lib.hid hfi
                clear hfi hlt'
                by_cases h0 : (fireV N X t).2 = 0
                · have HFy := Lib.hid (fv_yes HFi.out h0)
                  have HYm := Lib.hid (HSy.out X HXm.out t h0)
                  clear HFi h0
                  generalize (fireV N X t).1 = Y at *
                  have HMy := Lib.hid (HSt.out.2 Y HYm.out)
                  have hyl : Y.length ≤ 1000 := by have := mk_len HMy.out; have := nt_small (mk_nt HMy.out); omega
                  go_wp2_with fail
                  ((with_reducible refine HFy.out.mono ?_); rintro e w13 ⟨v13, rfl, hS13⟩)
                  obtain ⟨A13, c13, rfl⟩ := hS13.slice
                  have HAb13 := Lib.hid (show w13.heap[ab]? = some (.cells #[.slice Ax X.length cx] 25 (0, 0)) by rw [hS13.2.block ab (Array.getElem?_eq_some_iff.1 HAb.out).1]; exact HAb.out)
                  have HS13 := Lib.hid (NS.up HBr.out hS13)
                  have hset : w13.grownBy (w13.setCell ⟨ab, 0, none⟩ (.slice A13 Y.length c13)) (some ab) := Lib.grownBy_setB (grown_refl w13 (some ab)) 0 _
                  have HS14 := Lib.hid (HS13.out.kept hset (own_other HS13.out.1 HAb13.out (by decide)) (fun k hk => by cases hk; exact hab))
                  have HAb14 := Lib.hid (show (w13.setCell ⟨ab, 0, none⟩ (.slice A13 Y.length c13)).heap[ab]? = some (.cells #[.slice A13 Y.length c13] 25 (0, 0)) by rw [heap_set2 HAb13.out]; rfl)
                  have t0' : w13.cell? ⟨ab, 0, none⟩ = some (.slice Ax X.length cx) := by have := HAb13.out; simp [World.cell?, this]
                  have tf' : w13.frozen? ⟨ab, 0, none⟩ = false := by have := HAb13.out; simp [World.frozen?, this]
                  have HXc := Lib.hid (HX10.out.below HS14.out.2)
                  obtain ⟨d0, d1, d2, d3, d4, d5, d6, d7⟩ := HXc.out.cells
                  have HMb := Lib.hid (show MB _ ab A13 Y.length c13 Y from ⟨HAb14.out, (by obtain ⟨A', c', e, hz, _⟩ := HS14.out.zin; cases e; exact hz), rfl⟩)
                  have HLc := Lib.hid (lcont_pp Aa T.states.length ca T.states _ (HLi10.out.below HS14.out.2) rfl (by have := growT_le hgr; omega) ab A13 Y.length c13 Y (by omega) HMb.out)
                  have HAn := Lib.hid (show T.states.any (isL Y) = true by rw [List.any_eq_true]; exact ⟨Y, HYm.out, by simp [isL]⟩)
                  rw [HAn.out] at HLc
                  clear hS13 hset HFy t0 tf q0 b0 b1 b2 b3
                  go_wp2_with fail
                  ((with_reducible refine HLc.out.mono ?_); rintro e w15 ⟨rfl, hb15⟩)
                  have HS15 := Lib.hid (HS14.out.below hb15)
                  have HAb15 := Lib.hid (show w15.heap[ab]? = some (.cells #[.slice A13 Y.length c13] 25 (0, 0)) by rw [hb15.block ab (Array.getElem?_eq_some_iff.1 HAb14.out).1]; exact HAb14.out)
                  clear hb15
                  go_wp2_with fail
                  go_roundg (gk - 1)
                  case measure => have := HK.out; omega
                  case rel => exact ⟨k + 1, Y, A13, c13, by have := HK.out; omega, by go_num, HAb15.out, HS15.out, HYm.out⟩
                · have HFn := Lib.hid (fv_no HFi.out h0)
                  have q7 : ((fireV N X t).2 != 0) = true := by rw [bne_iff_ne]; exact h0
                  clear HFi h0
                  generalize (fireV N X t).2 = er at *
                  go_wp2_with fail
                  ((with_reducible refine HFn.out.mono ?_); rintro e w13 ⟨rfl, hb13⟩)
                  have HS13 := Lib.hid (HS.out.below hb13)
                  have HAb13 := Lib.hid (show w13.heap[ab]? = some (.cells #[.slice Ax X.length cx] 25 (0, 0)) by rw [hb13.block ab (Array.getElem?_eq_some_iff.1 HAb.out).1]; exact HAb.out)
                  clear hb13
                  go_wp2_with fail
                  go_roundg (gk - 1)
                  case measure => have := HK.out; omega
                  case rel => exact ⟨k + 1, X, Ax, cx, by have := HK.out; omega, by go_num, HAb13.out, HS13.out, HXm.out⟩
              · have HFn := Lib.hid (below_then HB10.out HBr.out)
                go_wp2_with fail
                go_ret
                exact ⟨rfl, HFn.out⟩
          · go_simp
            have hS9 := hHeld
            have hal := below_alloc w5 (.cells #[.int .i64 0, .int .i64 0, .slice none 0 0, .slice none 0 0, .slice none 0 0, .slice none 0 0, .slice none 0 0, .slice none 0 0] 41)
            have HCz := Lib.hid (CtB.new w5 #[.int .i64 0, .int .i64 0, .slice none 0 0, .slice none 0 0, .slice none 0 0, .slice none 0 0, .slice none 0 0, .slice none 0 0])
            have hcb : w2.heap.size ≤ w5.heap.size := HB25.out.size
            have hcw : w.heap.size ≠ w5.heap.size := by have := HNb2.out.lt; omega
            have HBn := Lib.hid (below_then HB25.out hal)
            refine hK.out _ _ ⟨cell_stays hal hS9.1, cell_stays hal hS9.2.1, cell_stays hal hS9.2.2.1, cell_stays hal hS9.2.2.2⟩ (fun hHeld => ?_)
            clear hK K hS9 hal HB25
            try go_simp
            generalize hcbe : w5.heap.size = cb at *
            generalize w5.alloc _ = wn at *
            clear hcbe
            obtain ⟨w5, rfl⟩ : ∃ w5, w5 = wn := ⟨_, rfl⟩
            have HB25 := Lib.hid HBn.out
            clear HBn
            refine wpAnyH_ready (rs := [4]) (by kernel_rfl) (by simp) ?_
            refine AllReadyH.cons rfl (fun K hK => ?_) AllReadyH.nil
            go_simp
            ((refine (bd_yes (HBd.out w5 HB25.out) hbe hno).mono ?_); rintro e w6 ⟨Aa, ca, rfl, hO⟩; have hb6 := hO.bel)
            have hS9 := hHeld
            refine hK.out _ _ ⟨cell_stays hb6 hS9.1, cell_stays hb6 hS9.2.1, cell_stays hb6 hS9.2.2.1, cell_stays hb6 hS9.2.2.2⟩ (fun hHeld => ?_)
            clear hK K hS9
            try go_simp
            have HO6 := Lib.hid (hO.up HB25.out)
            have HB26 := Lib.hid (below_then HB25.out hb6)
            replace HCz := Lib.hid (HCz.out.below hb6)
            clear hb6 HB25 hO
            skip
            refine wpAnyH_take (i := 5) (v := ?_) rfl (by kernel_rfl) (by kernel_rfl) (by kernel_rfl) (fun _ _ _ h => h) (Or.inl ⟨by rfl, ?_⟩) (by assumption) ?_
            rotate_left
            · intro w hSw; (try dsimp only at hSw); go_simp; try (with_reducible rfl)
            try go_simp
            refine wpAnyH_take (i := 6) (v := ?_) rfl (by kernel_rfl) (by kernel_rfl) (by kernel_rfl) (fun _ _ _ h => h) (Or.inl ⟨by rfl, ?_⟩) (by assumption) ?_
            rotate_left
            · intro w hSw; (try dsimp only at hSw); go_simp; try (with_reducible rfl)
            try go_simp
            refine wpAnyH_take (i := 7) (v := ?_) rfl (by kernel_rfl) (by kernel_rfl) (by kernel_rfl) (fun _ _ _ h => h) (Or.inl ⟨by rfl, ?_⟩) (by assumption) ?_
            rotate_left
            · intro w hSw; (try dsimp only at hSw); go_simp; try (with_reducible rfl)
            try go_simp
            refine wpAnyH_take (i := 8) (v := ?_) rfl (by kernel_rfl) (by kernel_rfl) (by kernel_rfl) (fun _ _ _ h => h) (Or.inl ⟨by rfl, ?_⟩) (by assumption) ?_
            rotate_left
            · intro w hSw; (try dsimp only at hSw); go_simp; try (with_reducible rfl)
            try go_simp
            refine wpAnyH_take (i := 10) (v := ?_) rfl (by kernel_rfl) (by kernel_rfl) (by kernel_rfl) (fun _ _ _ h => h) (Or.inl ⟨by rfl, ?_⟩) (by assumption) ?_
            rotate_left
            · intro w hSw; (try dsimp only at hSw); go_simp; try (with_reducible rfl)
            try go_simp
            obtain ⟨r0, r1, r2, r3, r4, r5, r6, r7⟩ := HCz.out.cells
            have rf0 := HCz.out.soft 0
            have rf1 := HCz.out.soft 1
            have rf2 := HCz.out.soft 2
            have rf3 := HCz.out.soft 3
            have rf4 := HCz.out.soft 4
            have rf5 := HCz.out.soft 5
            have rf6 := HCz.out.soft 6
            have rf7 := HCz.out.soft 7
            have HRe := Lib.hid (ct_set HCz.out (.int .i64 5) (.int .i64 0) (.slice none 0 0) (.slice none 0 0) (.slice Aa T.states.length ca) (.slice none 0 0) (.slice none 0 0) (.slice none 0 0))
            have HGe := Lib.hid (ct_grown w6 cb (.int .i64 5) (.int .i64 0) (.slice none 0 0) (.slice none 0 0) (.slice Aa T.states.length ca) (.slice none 0 0) (.slice none 0 0) (.slice none 0 0))
            have hS0 := hHeld
            refine wpAnyH_ready (rs := [11]) (by kernel_rfl) (by simp) ?_
            refine AllReadyH.cons rfl (fun K hK => ?_) AllReadyH.nil
            go_simp
            skip
            refine hK.out _ _ (⟨HGe.out.cell hS0.1 (fun e => hcw (Option.some.inj e)), HGe.out.cell hS0.2.1 (fun e => hcw (Option.some.inj e)), HGe.out.cell hS0.2.2.1 (fun e => hcw (Option.some.inj e)), HGe.out.cell hS0.2.2.2 (fun e => hcw (Option.some.inj e))⟩) (fun hHeld => ?_)
            clear hK K
            try go_simp
            refine wpAnyH_take (i := 12) (v := ?_) rfl (by kernel_rfl) (by kernel_rfl) (by kernel_rfl) (fun _ _ _ h => h) (Or.inl ⟨by rfl, ?_⟩) (by assumption) ?_
            rotate_left
            · intro w hSw; (try dsimp only at hSw); go_simp; try (with_reducible rfl)
            try go_simp
            refine wpAnyH_done (by kernel_rfl) ?_ _
            clear hHeld hS0 r0 r1 r2 r3 r4 r5 r6 r7 rf0 rf1 rf2 rf3 rf4 rf5 rf6 rf7
            generalize ((((((((w6.setCell ⟨cb, 0, none⟩ _).setCell ⟨cb, 1, none⟩ _).setCell ⟨cb, 2, none⟩ _).setCell ⟨cb, 3, none⟩ _).setCell ⟨cb, 4, none⟩ _).setCell ⟨cb, 5, none⟩ _).setCell ⟨cb, 6, none⟩ _).setCell ⟨cb, 7, none⟩ _) = we at *
            have HBe := Lib.hid (HB26.out.grown HGe.out HB26.out.size (fun k hk => by cases hk; exact hcb))
            have HLi := Lib.hid (show LIn we Aa T.states by obtain ⟨A', c', e, h1, _⟩ := (HO6.out.kept HCz.out (by decide) (by decide) hcb HGe.out).lin; cases e; exact h1)
            have HCi := Lib.hid (ct_bnd (HO6.out.kept HCz.out (by decide) (by decide) hcb HGe.out) (by have := growT_le hgr; omega))
            have HBf := Lib.hid (below_then HB2.out HBe.out)
            have HNbf := Lib.hid (HNb2.out.below HBe.out)
            have HInf := Lib.hid (HIn2.out.below HBe.out)
            have HZf := Lib.hid (HZ2.out.below HBe.out)
            have HTf := Lib.hid (HT2.out.below HBe.out)
            have HLf := Lib.hid (HL2.out.below HBe.out)
            clear HBe HGe HCz HB26 HNb2 HIn2 HZ2 HT2 HL2 HB2
            have HCr := Lib.hid (bnd_cert hmk hgr hlm hno)
            have HFt0 := Lib.hid HCr.out.2.1
            have HCk0 := Lib.hid HCr.out.1
            have HSt := Lib.hid (states_mk hmk hgr hno)
            have HSy := Lib.hid (show ∀ s ∈ T.states, ∀ t, (fireV N s t).2 = 0 → (fireV N s t).1 ∈ T.states from fun s hs t h0 => stays hmk hgr hno hs h0)
            have HMk := Lib.hid hmk
            clear hmk hno hbe
            obtain ⟨wb, rfl⟩ : ∃ wb, wb = we := ⟨_, rfl⟩
            have HX6 := Lib.hid HRe.out
            have HCt6 := Lib.hid HCi.out
            have HB6 := Lib.hid HBf.out
            have HNb6 := Lib.hid HNbf.out
            have HIn6 := Lib.hid HInf.out
            have HZ6 := Lib.hid HZf.out
            have HT6 := Lib.hid HTf.out
            have HL6 := Lib.hid HLf.out
            clear HRe HCi HBf HNbf HInf HZf HTf HLf HCr
            have HFt := Lib.hid (fits_any _ _ wb HCt6.out)
            rw [HFt0.out] at HFt
            obtain ⟨d0, d1, d2, d3, d4, d5, d6, d7⟩ := HX6.out.cells
            go_wp2_with fail
            ((with_reducible refine HFt.out.mono ?_); rintro e w7 ⟨rfl, hb7⟩)
            have HB7 := Lib.hid (below_then HB6.out hb7)
            have HNb7 := Lib.hid (HNb6.out.below hb7)
            have HIn7 := Lib.hid (HIn6.out.below hb7)
            have HZ7 := Lib.hid (HZ6.out.below hb7)
            have HT7 := Lib.hid (HT6.out.below hb7)
            have HL7 := Lib.hid (HL6.out.below hb7)
            have HX7 := Lib.hid (HX6.out.below hb7)
            have HCt7 := Lib.hid (HCt6.out.below hb7)
            have HB67 := Lib.hid hb7
            clear hb7 HFt d0 d1 d2 d3 d4 d5 d6 d7
            clear HB6 HNb6 HIn6 HZ6 HT6 HL6 HX6 HCt6
            have HCk := Lib.hid (ccheck_any N A n c Am m cm M _ _ w7 HT7.out HIn7.out HNl.out hn2 HZ7.out HM.out (by omega) HCt7.out)
            rw [HCk0.out] at HCk
            obtain ⟨d0, d1, d2, d3, d4, d5, d6, d7⟩ := HX7.out.cells
            obtain ⟨b0, b1, b2, b3⟩ := HNb7.out.cells
            go_wp2_with fail
            ((with_reducible refine HCk.out.mono ?_); rintro e w8 ⟨rfl, hb8⟩)
            have HB8 := Lib.hid (below_then HB7.out hb8)
            have HNb8 := Lib.hid (HNb7.out.below hb8)
            have HIn8 := Lib.hid (HIn7.out.below hb8)
            have HZ8 := Lib.hid (HZ7.out.below hb8)
            have HT8 := Lib.hid (HT7.out.below hb8)
            have HL8 := Lib.hid (HL7.out.below hb8)
            have HX8 := Lib.hid (HX7.out.below hb8)
            have HCt8 := Lib.hid (HCt7.out.below hb8)
            have HB78 := Lib.hid hb8
            clear hb8 HCk d0 d1 d2 d3 d4 d5 d6 d7 b0 b1 b2 b3
            clear HB7 HNb7 HIn7 HZ7 HT7 HL7 HX7 HCt7
            obtain ⟨d0, d1, d2, d3, d4, d5, d6, d7⟩ := HX8.out.cells
            obtain ⟨b0, b1, b2, b3⟩ := HNb8.out.cells
            have hcl := HX8.out.lt
            have hnl8 := HNb8.out.lt
            go_wp2_with fail
            have HA9 := Lib.hid (below_alloc w8 (.cells #[.int .i64 6, .int .i64 0, .slice none 0 0, .slice none 0 0, .slice Aa T.states.length ca, .slice none 0 0, .slice none 0 0, .slice none 0 0] 41))
            have HB9 := Lib.hid (below_then HB8.out HA9.out)
            have HNb9 := Lib.hid (HNb8.out.below HA9.out)
            have HIn9 := Lib.hid (HIn8.out.below HA9.out)
            have HZ9 := Lib.hid (HZ8.out.below HA9.out)
            have HT9 := Lib.hid (HT8.out.below HA9.out)
            have HL9 := Lib.hid (HL8.out.below HA9.out)
            have HX9 := Lib.hid (HX8.out.below HA9.out)
            have HCt9 := Lib.hid (HCt8.out.below HA9.out)
            have HCtw := Lib.hid (ct_cl (b := 6) HCt9.out)
            have HCw := Lib.hid (ccheck_any N A n c Am m cm M (.agg #[.int .i64 6, .int .i64 0, .slice none 0 0, .slice none 0 0, .slice Aa T.states.length ca, .slice none 0 0, .slice none 0 0, .slice none 0 0]) ⟨6, 0, [], [], T.states⟩ _ HT9.out HIn9.out HNl.out hn2 HZ9.out HM.out (by omega) HCtw.out)
            rw [wrong_bnd] at HCw
            clear d0 d1 d2 d3 d4 d5 d6 d7 b0 b1 b2 b3
            ((with_reducible refine HCw.out.mono ?_); rintro e w10 ⟨rfl, hb10⟩)
            have HB10 := Lib.hid (below_then HB9.out hb10)
            have HNb10 := Lib.hid (HNb9.out.below hb10)
            have HIn10 := Lib.hid (HIn9.out.below hb10)
            have HZ10 := Lib.hid (HZ9.out.below hb10)
            have HT10 := Lib.hid (HT9.out.below hb10)
            have HL10 := Lib.hid (HL9.out.below hb10)
            have HX10 := Lib.hid (HX9.out.below hb10)
            have HCt10 := Lib.hid (HCt9.out.below hb10)
            have HLi10 := Lib.hid ((((HLi.out.below HB67.out).below HB78.out).below HA9.out).below hb10)
            clear hb10 HCw HCtw
            clear HB8 HNb8 HIn8 HZ8 HT8 HL8 HX8 HCt8
            clear HB9 HNb9 HIn9 HZ9 HT9 HL9 HX9 HCt9
            clear HA9 HB67 HB78
            have HCl := Lib.hid (clone_any Am m cm M w10 HZ10.out HM.out (by have := mk_len HMk.out; have := nt_small (mk_nt HMk.out); have := HM.out; omega))
            go_wp2_with fail
            ((with_reducible refine HCl.out.mono ?_); rintro e w11 ⟨v11, rfl, hS11⟩)
            obtain ⟨A11, c11, rfl⟩ := hS11.slice
            have hal11 := below_alloc w11 (.cells #[.slice A11 M.length c11] 25)
            have HS12 := Lib.hid (hS11.below hal11)
            have HAb := Lib.hid (heap_alloc_new w11 (.cells #[.slice A11 M.length c11] 25))
            have hab : w10.heap.size ≤ w11.heap.size := hS11.2.size
            clear hS11 HCl hal11
            go_wp2_with fail
            generalize w11.alloc _ = w12 at *
            generalize w11.heap.size = ab at *
            go_loopg [75] (nl) (fun g iv wr => PuI T nl w10 ab g iv wr)
            case atStart => exact ⟨0, M, A11, c11, by omega, rfl, HAb.out, HS12.out, HSt.out.1⟩
            case round =>
              clear HS12 HAb
              obtain ⟨k, X, Ax, cx, hkg, rfl, hA, hS, hXm⟩ := hrel
              have HK := Lib.hid hkg
              have HAb := Lib.hid hA
              have HS := Lib.hid hS
              have HXm := Lib.hid hXm
              have HMx := Lib.hid (HSt.out.2 X hXm)
              have hkl : k ≤ nl := by omega
              have hxl : X.length ≤ 1000 := by have := mk_len HMx.out; have := nt_small (mk_nt HMx.out); omega
              have HBr := Lib.hid hS.2
              have HZx := Lib.hid (show ZIn wr Ax X by obtain ⟨A', c', e, hz, _⟩ := hS.zin; cases e; exact hz)
              have t0 : wr.cell? ⟨ab, 0, none⟩ = some (.slice Ax X.length cx) := by simp [World.cell?, hA]
              have tf : wr.frozen? ⟨ab, 0, none⟩ = false := by simp [World.frozen?, hA]
              obtain ⟨b0, b1, b2, b3⟩ := (HNb10.out.below HBr.out).cells
              have HLr := Lib.hid (HL10.out.below HBr.out)
              clear hkg hA hS hXm
              by_cases hlt : k < nl
              · have hlt' : k < l.length := by rw [HLl.out]; exact hlt
                obtain ⟨al, rfl, hpa, q0⟩ := HLr.out k hlt'
                generalize l[k] = t at *
                have hfi := pFire_any N A n c Ax X.length cx X t wr (HIn10.out.below HBr.out) HNl.out hn2 HZx.out rfl (by omega)
                rw [show fire21 N X t = fireV N X t by unfold fire21; rw [HMx.out]; rfl] at hfi
                have HFi := Lib.hid hfi
                clear hfi hlt'
                by_cases h0 : (fireV N X t).2 = 0
                · have HFy := Lib.hid (fv_yes HFi.out h0)
                  have HYm := Lib.hid (HSy.out X HXm.out t h0)
                  clear HFi h0
                  generalize (fireV N X t).1 = Y at *
                  have HMy := Lib.hid (HSt.out.2 Y HYm.out)
                  have hyl : Y.length ≤ 1000 := by have := mk_len HMy.out; have := nt_small (mk_nt HMy.out); omega
                  go_wp2_with fail
                  ((with_reducible refine HFy.out.mono ?_); rintro e w13 ⟨v13, rfl, hS13⟩)
                  obtain ⟨A13, c13, rfl⟩ := hS13.slice
                  have HAb13 := Lib.hid (show w13.heap[ab]? = some (.cells #[.slice Ax X.length cx] 25 (0, 0)) by rw [hS13.2.block ab (Array.getElem?_eq_some_iff.1 HAb.out).1]; exact HAb.out)
                  have HS13 := Lib.hid (NS.up HBr.out hS13)
                  have hset : w13.grownBy (w13.setCell ⟨ab, 0, none⟩ (.slice A13 Y.length c13)) (some ab) := Lib.grownBy_setB (grown_refl w13 (some ab)) 0 _
                  have HS14 := Lib.hid (HS13.out.kept hset (own_other HS13.out.1 HAb13.out (by decide)) (fun k hk => by cases hk; exact hab))
                  have HAb14 := Lib.hid (show (w13.setCell ⟨ab, 0, none⟩ (.slice A13 Y.length c13)).heap[ab]? = some (.cells #[.slice A13 Y.length c13] 25 (0, 0)) by rw [heap_set2 HAb13.out]; rfl)
                  have t0' : w13.cell? ⟨ab, 0, none⟩ = some (.slice Ax X.length cx) := by have := HAb13.out; simp [World.cell?, this]
                  have tf' : w13.frozen? ⟨ab, 0, none⟩ = false := by have := HAb13.out; simp [World.frozen?, this]
                  have HXc := Lib.hid (HX10.out.below HS14.out.2)
                  obtain ⟨d0, d1, d2, d3, d4, d5, d6, d7⟩ := HXc.out.cells
                  have HMb := Lib.hid (show MB _ ab A13 Y.length c13 Y from ⟨HAb14.out, (by obtain ⟨A', c', e, hz, _⟩ := HS14.out.zin; cases e; exact hz), rfl⟩)
                  have HLc := Lib.hid (lcont_pp Aa T.states.length ca T.states _ (HLi10.out.below HS14.out.2) rfl (by have := growT_le hgr; omega) ab A13 Y.length c13 Y (by omega) HMb.out)
                  have HAn := Lib.hid (show T.states.any (isL Y) = true by rw [List.any_eq_true]; exact ⟨Y, HYm.out, by simp [isL]⟩)
                  rw [HAn.out] at HLc
                  clear hS13 hset HFy t0 tf q0 b0 b1 b2 b3
                  go_wp2_with fail
                  ((with_reducible refine HLc.out.mono ?_); rintro e w15 ⟨rfl, hb15⟩)
                  have HS15 := Lib.hid (HS14.out.below hb15)
                  have HAb15 := Lib.hid (show w15.heap[ab]? = some (.cells #[.slice A13 Y.length c13] 25 (0, 0)) by rw [hb15.block ab (Array.getElem?_eq_some_iff.1 HAb14.out).1]; exact HAb14.out)
                  clear hb15
                  go_wp2_with fail
                  go_roundg (gk - 1)
                  case measure => have := HK.out; omega
                  case rel => exact ⟨k + 1, Y, A13, c13, by have := HK.out; omega, by go_num, HAb15.out, HS15.out, HYm.out⟩
                · have HFn := Lib.hid (fv_no HFi.out h0)
                  have q7 : ((fireV N X t).2 != 0) = true := by rw [bne_iff_ne]; exact h0
                  clear HFi h0
                  generalize (fireV N X t).2 = er at *
                  go_wp2_with fail
                  ((with_reducible refine HFn.out.mono ?_); rintro e w13 ⟨rfl, hb13⟩)
                  have HS13 := Lib.hid (HS.out.below hb13)
                  have HAb13 := Lib.hid (show w13.heap[ab]? = some (.cells #[.slice Ax X.length cx] 25 (0, 0)) by rw [hb13.block ab (Array.getElem?_eq_some_iff.1 HAb.out).1]; exact HAb.out)
                  clear hb13
                  go_wp2_with fail
                  go_roundg (gk - 1)
                  case measure => have := HK.out; omega
                  case rel => exact ⟨k + 1, X, Ax, cx, by have := HK.out; omega, by go_num, HAb13.out, HS13.out, HXm.out⟩
              · have HFn := Lib.hid (below_then HB10.out HBr.out)
                go_wp2_with fail
                go_ret
                exact ⟨rfl, HFn.out⟩
        · go_simp
          have hS9 := hHeld
          have hal := below_alloc w3 (.cells #[.int .i64 0, .int .i64 0, .slice none 0 0, .slice none 0 0, .slice none 0 0, .slice none 0 0, .slice none 0 0, .slice none 0 0] 41)
          have HCz := Lib.hid (CtB.new w3 #[.int .i64 0, .int .i64 0, .slice none 0 0, .slice none 0 0, .slice none 0 0, .slice none 0 0, .slice none 0 0, .slice none 0 0])
          have hcb : w2.heap.size ≤ w3.heap.size := HB23.out.size
          have hcw : w.heap.size ≠ w3.heap.size := by have := HNb2.out.lt; omega
          have HBn := Lib.hid (below_then HB23.out hal)
          refine hK.out _ _ ⟨cell_stays hal hS9.1, cell_stays hal hS9.2.1, cell_stays hal hS9.2.2.1, cell_stays hal hS9.2.2.2⟩ (fun hHeld => ?_)
          clear hK K hS9 hal HB23
          try go_simp
          generalize hcbe : w3.heap.size = cb at *
          generalize w3.alloc _ = wn at *
          clear hcbe
          refine wpAnyH_ready (rs := [3]) (by kernel_rfl) (by simp) ?_
          refine AllReadyH.cons rfl (fun K hK => ?_) AllReadyH.nil
          go_simp
          ((refine (HLim.out wn).mono ?_); rintro e w5 ⟨rfl, hb5⟩)
          have hS9 := hHeld
          refine hK.out _ _ ⟨cell_stays hb5 hS9.1, cell_stays hb5 hS9.2.1, cell_stays hb5 hS9.2.2.1, cell_stays hb5 hS9.2.2.2⟩ (fun hHeld => ?_)
          clear hK K hS9
          try go_simp
          have HB25 := Lib.hid (below_then HBn.out hb5)
          replace HCz := Lib.hid (HCz.out.below hb5)
          clear hb5 HBn
          refine wpAnyH_ready (rs := [4]) (by kernel_rfl) (by simp) ?_
          refine AllReadyH.cons rfl (fun K hK => ?_) AllReadyH.nil
          go_simp
          ((refine (bd_yes (HBd.out w5 HB25.out) hbe hno).mono ?_); rintro e w6 ⟨Aa, ca, rfl, hO⟩; have hb6 := hO.bel)
          have hS9 := hHeld
          refine hK.out _ _ ⟨cell_stays hb6 hS9.1, cell_stays hb6 hS9.2.1, cell_stays hb6 hS9.2.2.1, cell_stays hb6 hS9.2.2.2⟩ (fun hHeld => ?_)
          clear hK K hS9
          try go_simp
          have HO6 := Lib.hid (hO.up HB25.out)
          have HB26 := Lib.hid (below_then HB25.out hb6)
          replace HCz := Lib.hid (HCz.out.below hb6)
          clear hb6 HB25 hO
          skip
          refine wpAnyH_take (i := 5) (v := ?_) rfl (by kernel_rfl) (by kernel_rfl) (by kernel_rfl) (fun _ _ _ h => h) (Or.inl ⟨by rfl, ?_⟩) (by assumption) ?_
          rotate_left
          · intro w hSw; (try dsimp only at hSw); go_simp; try (with_reducible rfl)
          try go_simp
          refine wpAnyH_take (i := 6) (v := ?_) rfl (by kernel_rfl) (by kernel_rfl) (by kernel_rfl) (fun _ _ _ h => h) (Or.inl ⟨by rfl, ?_⟩) (by assumption) ?_
          rotate_left
          · intro w hSw; (try dsimp only at hSw); go_simp; try (with_reducible rfl)
          try go_simp
          refine wpAnyH_take (i := 7) (v := ?_) rfl (by kernel_rfl) (by kernel_rfl) (by kernel_rfl) (fun _ _ _ h => h) (Or.inl ⟨by rfl, ?_⟩) (by assumption) ?_
          rotate_left
          · intro w hSw; (try dsimp only at hSw); go_simp; try (with_reducible rfl)
          try go_simp
          refine wpAnyH_take (i := 8) (v := ?_) rfl (by kernel_rfl) (by kernel_rfl) (by kernel_rfl) (fun _ _ _ h => h) (Or.inl ⟨by rfl, ?_⟩) (by assumption) ?_
          rotate_left
          · intro w hSw; (try dsimp only at hSw); go_simp; try (with_reducible rfl)
          try go_simp
          refine wpAnyH_take (i := 10) (v := ?_) rfl (by kernel_rfl) (by kernel_rfl) (by kernel_rfl) (fun _ _ _ h => h) (Or.inl ⟨by rfl, ?_⟩) (by assumption) ?_
          rotate_left
          · intro w hSw; (try dsimp only at hSw); go_simp; try (with_reducible rfl)
          try go_simp
          obtain ⟨r0, r1, r2, r3, r4, r5, r6, r7⟩ := HCz.out.cells
          have rf0 := HCz.out.soft 0
          have rf1 := HCz.out.soft 1
          have rf2 := HCz.out.soft 2
          have rf3 := HCz.out.soft 3
          have rf4 := HCz.out.soft 4
          have rf5 := HCz.out.soft 5
          have rf6 := HCz.out.soft 6
          have rf7 := HCz.out.soft 7
          have HRe := Lib.hid (ct_set HCz.out (.int .i64 5) (.int .i64 0) (.slice none 0 0) (.slice none 0 0) (.slice Aa T.states.length ca) (.slice none 0 0) (.slice none 0 0) (.slice none 0 0))
          have HGe := Lib.hid (ct_grown w6 cb (.int .i64 5) (.int .i64 0) (.slice none 0 0) (.slice none 0 0) (.slice Aa T.states.length ca) (.slice none 0 0) (.slice none 0 0) (.slice none 0 0))
          have hS0 := hHeld
          refine wpAnyH_ready (rs := [11]) (by kernel_rfl) (by simp) ?_
          refine AllReadyH.cons rfl (fun K hK => ?_) AllReadyH.nil
          go_simp
          skip
          refine hK.out _ _ (⟨HGe.out.cell hS0.1 (fun e => hcw (Option.some.inj e)), HGe.out.cell hS0.2.1 (fun e => hcw (Option.some.inj e)), HGe.out.cell hS0.2.2.1 (fun e => hcw (Option.some.inj e)), HGe.out.cell hS0.2.2.2 (fun e => hcw (Option.some.inj e))⟩) (fun hHeld => ?_)
          clear hK K
          try go_simp
          refine wpAnyH_take (i := 12) (v := ?_) rfl (by kernel_rfl) (by kernel_rfl) (by kernel_rfl) (fun _ _ _ h => h) (Or.inl ⟨by rfl, ?_⟩) (by assumption) ?_
          rotate_left
          · intro w hSw; (try dsimp only at hSw); go_simp; try (with_reducible rfl)
          try go_simp
          refine wpAnyH_done (by kernel_rfl) ?_ _
          clear hHeld hS0 r0 r1 r2 r3 r4 r5 r6 r7 rf0 rf1 rf2 rf3 rf4 rf5 rf6 rf7
          generalize ((((((((w6.setCell ⟨cb, 0, none⟩ _).setCell ⟨cb, 1, none⟩ _).setCell ⟨cb, 2, none⟩ _).setCell ⟨cb, 3, none⟩ _).setCell ⟨cb, 4, none⟩ _).setCell ⟨cb, 5, none⟩ _).setCell ⟨cb, 6, none⟩ _).setCell ⟨cb, 7, none⟩ _) = we at *
          have HBe := Lib.hid (HB26.out.grown HGe.out HB26.out.size (fun k hk => by cases hk; exact hcb))
          have HLi := Lib.hid (show LIn we Aa T.states by obtain ⟨A', c', e, h1, _⟩ := (HO6.out.kept HCz.out (by decide) (by decide) hcb HGe.out).lin; cases e; exact h1)
          have HCi := Lib.hid (ct_bnd (HO6.out.kept HCz.out (by decide) (by decide) hcb HGe.out) (by have := growT_le hgr; omega))
          have HBf := Lib.hid (below_then HB2.out HBe.out)
          have HNbf := Lib.hid (HNb2.out.below HBe.out)
          have HInf := Lib.hid (HIn2.out.below HBe.out)
          have HZf := Lib.hid (HZ2.out.below HBe.out)
          have HTf := Lib.hid (HT2.out.below HBe.out)
          have HLf := Lib.hid (HL2.out.below HBe.out)
          clear HBe HGe HCz HB26 HNb2 HIn2 HZ2 HT2 HL2 HB2
          have HCr := Lib.hid (bnd_cert hmk hgr hlm hno)
          have HFt0 := Lib.hid HCr.out.2.1
          have HCk0 := Lib.hid HCr.out.1
          have HSt := Lib.hid (states_mk hmk hgr hno)
          have HSy := Lib.hid (show ∀ s ∈ T.states, ∀ t, (fireV N s t).2 = 0 → (fireV N s t).1 ∈ T.states from fun s hs t h0 => stays hmk hgr hno hs h0)
          have HMk := Lib.hid hmk
          clear hmk hno hbe
          obtain ⟨wb, rfl⟩ : ∃ wb, wb = we := ⟨_, rfl⟩
          have HX6 := Lib.hid HRe.out
          have HCt6 := Lib.hid HCi.out
          have HB6 := Lib.hid HBf.out
          have HNb6 := Lib.hid HNbf.out
          have HIn6 := Lib.hid HInf.out
          have HZ6 := Lib.hid HZf.out
          have HT6 := Lib.hid HTf.out
          have HL6 := Lib.hid HLf.out
          clear HRe HCi HBf HNbf HInf HZf HTf HLf HCr
          have HFt := Lib.hid (fits_any _ _ wb HCt6.out)
          rw [HFt0.out] at HFt
          obtain ⟨d0, d1, d2, d3, d4, d5, d6, d7⟩ := HX6.out.cells
          go_wp2_with fail
          ((with_reducible refine HFt.out.mono ?_); rintro e w7 ⟨rfl, hb7⟩)
          have HB7 := Lib.hid (below_then HB6.out hb7)
          have HNb7 := Lib.hid (HNb6.out.below hb7)
          have HIn7 := Lib.hid (HIn6.out.below hb7)
          have HZ7 := Lib.hid (HZ6.out.below hb7)
          have HT7 := Lib.hid (HT6.out.below hb7)
          have HL7 := Lib.hid (HL6.out.below hb7)
          have HX7 := Lib.hid (HX6.out.below hb7)
          have HCt7 := Lib.hid (HCt6.out.below hb7)
          have HB67 := Lib.hid hb7
          clear hb7 HFt d0 d1 d2 d3 d4 d5 d6 d7
          clear HB6 HNb6 HIn6 HZ6 HT6 HL6 HX6 HCt6
          have HCk := Lib.hid (ccheck_any N A n c Am m cm M _ _ w7 HT7.out HIn7.out HNl.out hn2 HZ7.out HM.out (by omega) HCt7.out)
          rw [HCk0.out] at HCk
          obtain ⟨d0, d1, d2, d3, d4, d5, d6, d7⟩ := HX7.out.cells
          obtain ⟨b0, b1, b2, b3⟩ := HNb7.out.cells
          go_wp2_with fail
          ((with_reducible refine HCk.out.mono ?_); rintro e w8 ⟨rfl, hb8⟩)
          have HB8 := Lib.hid (below_then HB7.out hb8)
          have HNb8 := Lib.hid (HNb7.out.below hb8)
          have HIn8 := Lib.hid (HIn7.out.below hb8)
          have HZ8 := Lib.hid (HZ7.out.below hb8)
          have HT8 := Lib.hid (HT7.out.below hb8)
          have HL8 := Lib.hid (HL7.out.below hb8)
          have HX8 := Lib.hid (HX7.out.below hb8)
          have HCt8 := Lib.hid (HCt7.out.below hb8)
          have HB78 := Lib.hid hb8
          clear hb8 HCk d0 d1 d2 d3 d4 d5 d6 d7 b0 b1 b2 b3
          clear HB7 HNb7 HIn7 HZ7 HT7 HL7 HX7 HCt7
          obtain ⟨d0, d1, d2, d3, d4, d5, d6, d7⟩ := HX8.out.cells
          obtain ⟨b0, b1, b2, b3⟩ := HNb8.out.cells
          have hcl := HX8.out.lt
          have hnl8 := HNb8.out.lt
          go_wp2_with fail
          have HA9 := Lib.hid (below_alloc w8 (.cells #[.int .i64 6, .int .i64 0, .slice none 0 0, .slice none 0 0, .slice Aa T.states.length ca, .slice none 0 0, .slice none 0 0, .slice none 0 0] 41))
          have HB9 := Lib.hid (below_then HB8.out HA9.out)
          have HNb9 := Lib.hid (HNb8.out.below HA9.out)
          have HIn9 := Lib.hid (HIn8.out.below HA9.out)
          have HZ9 := Lib.hid (HZ8.out.below HA9.out)
          have HT9 := Lib.hid (HT8.out.below HA9.out)
          have HL9 := Lib.hid (HL8.out.below HA9.out)
          have HX9 := Lib.hid (HX8.out.below HA9.out)
          have HCt9 := Lib.hid (HCt8.out.below HA9.out)
          have HCtw := Lib.hid (ct_cl (b := 6) HCt9.out)
          have HCw := Lib.hid (ccheck_any N A n c Am m cm M (.agg #[.int .i64 6, .int .i64 0, .slice none 0 0, .slice none 0 0, .slice Aa T.states.length ca, .slice none 0 0, .slice none 0 0, .slice none 0 0]) ⟨6, 0, [], [], T.states⟩ _ HT9.out HIn9.out HNl.out hn2 HZ9.out HM.out (by omega) HCtw.out)
          rw [wrong_bnd] at HCw
          clear d0 d1 d2 d3 d4 d5 d6 d7 b0 b1 b2 b3
          ((with_reducible refine HCw.out.mono ?_); rintro e w10 ⟨rfl, hb10⟩)
          have HB10 := Lib.hid (below_then HB9.out hb10)
          have HNb10 := Lib.hid (HNb9.out.below hb10)
          have HIn10 := Lib.hid (HIn9.out.below hb10)
          have HZ10 := Lib.hid (HZ9.out.below hb10)
          have HT10 := Lib.hid (HT9.out.below hb10)
          have HL10 := Lib.hid (HL9.out.below hb10)
          have HX10 := Lib.hid (HX9.out.below hb10)
          have HCt10 := Lib.hid (HCt9.out.below hb10)
          have HLi10 := Lib.hid ((((HLi.out.below HB67.out).below HB78.out).below HA9.out).below hb10)
          clear hb10 HCw HCtw
          clear HB8 HNb8 HIn8 HZ8 HT8 HL8 HX8 HCt8
          clear HB9 HNb9 HIn9 HZ9 HT9 HL9 HX9 HCt9
          clear HA9 HB67 HB78
          have HCl := Lib.hid (clone_any Am m cm M w10 HZ10.out HM.out (by have := mk_len HMk.out; have := nt_small (mk_nt HMk.out); have := HM.out; omega))
          go_wp2_with fail
          ((with_reducible refine HCl.out.mono ?_); rintro e w11 ⟨v11, rfl, hS11⟩)
          obtain ⟨A11, c11, rfl⟩ := hS11.slice
          have hal11 := below_alloc w11 (.cells #[.slice A11 M.length c11] 25)
          have HS12 := Lib.hid (hS11.below hal11)
          have HAb := Lib.hid (heap_alloc_new w11 (.cells #[.slice A11 M.length c11] 25))
          have hab : w10.heap.size ≤ w11.heap.size := hS11.2.size
          clear hS11 HCl hal11
          go_wp2_with fail
          generalize w11.alloc _ = w12 at *
          generalize w11.heap.size = ab at *
          go_loopg [75] (nl) (fun g iv wr => PuI T nl w10 ab g iv wr)
          case atStart => exact ⟨0, M, A11, c11, by omega, rfl, HAb.out, HS12.out, HSt.out.1⟩
          case round =>
            clear HS12 HAb
            obtain ⟨k, X, Ax, cx, hkg, rfl, hA, hS, hXm⟩ := hrel
            have HK := Lib.hid hkg
            have HAb := Lib.hid hA
            have HS := Lib.hid hS
            have HXm := Lib.hid hXm
            have HMx := Lib.hid (HSt.out.2 X hXm)
            have hkl : k ≤ nl := by omega
            have hxl : X.length ≤ 1000 := by have := mk_len HMx.out; have := nt_small (mk_nt HMx.out); omega
            have HBr := Lib.hid hS.2
            have HZx := Lib.hid (show ZIn wr Ax X by obtain ⟨A', c', e, hz, _⟩ := hS.zin; cases e; exact hz)
            have t0 : wr.cell? ⟨ab, 0, none⟩ = some (.slice Ax X.length cx) := by simp [World.cell?, hA]
            have tf : wr.frozen? ⟨ab, 0, none⟩ = false := by simp [World.frozen?, hA]
            obtain ⟨b0, b1, b2, b3⟩ := (HNb10.out.below HBr.out).cells
            have HLr := Lib.hid (HL10.out.below HBr.out)
            clear hkg hA hS hXm
            by_cases hlt : k < nl
            · have hlt' : k < l.length := by rw [HLl.out]; exact hlt
              obtain ⟨al, rfl, hpa, q0⟩ := HLr.out k hlt'
              generalize l[k] = t at *
              have hfi := pFire_any N A n c Ax X.length cx X t wr (HIn10.out.below HBr.out) HNl.out hn2 HZx.out rfl (by omega)
              rw [show fire21 N X t = fireV N X t by unfold fire21; rw [HMx.out]; rfl] at hfi
              have HFi := Lib.hid hfi
              clear hfi hlt'
              by_cases h0 : (fireV N X t).2 = 0
              · have HFy := Lib.hid (fv_yes HFi.out h0)
                have HYm := Lib.hid (HSy.out X HXm.out t h0)
                clear HFi h0
                generalize (fireV N X t).1 = Y at *
                have HMy := Lib.hid (HSt.out.2 Y HYm.out)
                have hyl : Y.length ≤ 1000 := by have := mk_len HMy.out; have := nt_small (mk_nt HMy.out); omega
                go_wp2_with fail
                ((with_reducible refine HFy.out.mono ?_); rintro e w13 ⟨v13, rfl, hS13⟩)
                obtain ⟨A13, c13, rfl⟩ := hS13.slice
                have HAb13 := Lib.hid (show w13.heap[ab]? = some (.cells #[.slice Ax X.length cx] 25 (0, 0)) by rw [hS13.2.block ab (Array.getElem?_eq_some_iff.1 HAb.out).1]; exact HAb.out)
                have HS13 := Lib.hid (NS.up HBr.out hS13)
                have hset : w13.grownBy (w13.setCell ⟨ab, 0, none⟩ (.slice A13 Y.length c13)) (some ab) := Lib.grownBy_setB (grown_refl w13 (some ab)) 0 _
                have HS14 := Lib.hid (HS13.out.kept hset (own_other HS13.out.1 HAb13.out (by decide)) (fun k hk => by cases hk; exact hab))
                have HAb14 := Lib.hid (show (w13.setCell ⟨ab, 0, none⟩ (.slice A13 Y.length c13)).heap[ab]? = some (.cells #[.slice A13 Y.length c13] 25 (0, 0)) by rw [heap_set2 HAb13.out]; rfl)
                have t0' : w13.cell? ⟨ab, 0, none⟩ = some (.slice Ax X.length cx) := by have := HAb13.out; simp [World.cell?, this]
                have tf' : w13.frozen? ⟨ab, 0, none⟩ = false := by have := HAb13.out; simp [World.frozen?, this]
                have HXc := Lib.hid (HX10.out.below HS14.out.2)
                obtain ⟨d0, d1, d2, d3, d4, d5, d6, d7⟩ := HXc.out.cells
                have HMb := Lib.hid (show MB _ ab A13 Y.length c13 Y from ⟨HAb14.out, (by obtain ⟨A', c', e, hz, _⟩ := HS14.out.zin; cases e; exact hz), rfl⟩)
                have HLc := Lib.hid (lcont_pp Aa T.states.length ca T.states _ (HLi10.out.below HS14.out.2) rfl (by have := growT_le hgr; omega) ab A13 Y.length c13 Y (by omega) HMb.out)
                have HAn := Lib.hid (show T.states.any (isL Y) = true by rw [List.any_eq_true]; exact ⟨Y, HYm.out, by simp [isL]⟩)
                rw [HAn.out] at HLc
                clear hS13 hset HFy t0 tf q0 b0 b1 b2 b3
                go_wp2_with fail
                ((with_reducible refine HLc.out.mono ?_); rintro e w15 ⟨rfl, hb15⟩)
                have HS15 := Lib.hid (HS14.out.below hb15)
                have HAb15 := Lib.hid (show w15.heap[ab]? = some (.cells #[.slice A13 Y.length c13] 25 (0, 0)) by rw [hb15.block ab (Array.getElem?_eq_some_iff.1 HAb14.out).1]; exact HAb14.out)
                clear hb15
                go_wp2_with fail
                go_roundg (gk - 1)
                case measure => have := HK.out; omega
                case rel => exact ⟨k + 1, Y, A13, c13, by have := HK.out; omega, by go_num, HAb15.out, HS15.out, HYm.out⟩
              · have HFn := Lib.hid (fv_no HFi.out h0)
                have q7 : ((fireV N X t).2 != 0) = true := by rw [bne_iff_ne]; exact h0
                clear HFi h0
                generalize (fireV N X t).2 = er at *
                go_wp2_with fail
                ((with_reducible refine HFn.out.mono ?_); rintro e w13 ⟨rfl, hb13⟩)
                have HS13 := Lib.hid (HS.out.below hb13)
                have HAb13 := Lib.hid (show w13.heap[ab]? = some (.cells #[.slice Ax X.length cx] 25 (0, 0)) by rw [hb13.block ab (Array.getElem?_eq_some_iff.1 HAb.out).1]; exact HAb.out)
                clear hb13
                go_wp2_with fail
                go_roundg (gk - 1)
                case measure => have := HK.out; omega
                case rel => exact ⟨k + 1, X, Ax, cx, by have := HK.out; omega, by go_num, HAb13.out, HS13.out, HXm.out⟩
            · have HFn := Lib.hid (below_then HB10.out HBr.out)
              go_wp2_with fail
              go_ret
              exact ⟨rfl, HFn.out⟩
      · skip
        go_wp2_with fail
        have hbd : Below w2.heap.size w2 w2.drew := (Below.refl _ _).drew
        have HB23 := Lib.hid hbd
        have HNb3 := Lib.hid (HNb2.out.below hbd)
        have hS0 := And.intro HNb3.out.cells.1 (And.intro HNb3.out.cells.2.1 (And.intro HNb3.out.cells.2.2.1 HNb3.out.cells.2.2.2))
        refine wp_region_held_drew (S := fun w' => w'.cell? ⟨w.heap.size, 0, none⟩ = some (.int .i64 N.pl) ∧ w'.cell? ⟨w.heap.size, 1, none⟩ = some (.slice A n c) ∧ w'.cell? ⟨w.heap.size, 2, none⟩ = some (.int .i64 N.src) ∧ w'.cell? ⟨w.heap.size, 3, none⟩ = some (.int .i64 N.snk)) (by kernel_rfl) hS0 (fun hHeld => ?_)
        clear hS0 hbd b0 b1 b2 b3 HNb3
        generalize w2.drew = w3 at *
        refine wpAnyH_take (i := 0) (v := ?_) rfl (by kernel_rfl) (by kernel_rfl) (by kernel_rfl) (fun _ _ _ h => h) (Or.inl ⟨by rfl, ?_⟩) (by assumption) ?_
        rotate_left
        · intro w hSw; (try dsimp only at hSw); go_simp; try (with_reducible rfl)
        try go_simp
        refine wpAnyH_take (i := 1) (v := ?_) rfl (by kernel_rfl) (by kernel_rfl) (by kernel_rfl) (fun _ _ _ h => h) (Or.inl ⟨by rfl, ?_⟩) (by assumption) ?_
        rotate_left
        · intro w hSw; (try dsimp only at hSw); go_simp; try (with_reducible rfl)
        try go_simp
        refine wpAnyH_take (i := 2) (v := ?_) rfl (by kernel_rfl) (by kernel_rfl) (by kernel_rfl) (fun _ _ _ h => h) (Or.inl ⟨by rfl, ?_⟩) (by assumption) ?_
        rotate_left
        · intro w hSw; (try dsimp only at hSw); go_simp; try (with_reducible rfl)
        try go_simp
        refine wpAnyH_ready (rs := [3, 9]) (by kernel_rfl) (by simp) ?_
        refine AllReadyH.cons rfl (fun K hK => ?_) (AllReadyH.cons rfl (fun K hK => ?_) AllReadyH.nil)
        · go_simp
          ((refine (HLim.out w3).mono ?_); rintro e w5 ⟨rfl, hb5⟩)
          have hS9 := hHeld
          refine hK.out _ _ ⟨cell_stays hb5 hS9.1, cell_stays hb5 hS9.2.1, cell_stays hb5 hS9.2.2.1, cell_stays hb5 hS9.2.2.2⟩ (fun hHeld => ?_)
          clear hK K hS9
          try go_simp
          have HB25 := Lib.hid (below_then HB23.out hb5)

          clear hb5 HB23
          refine wpAnyH_ready (rs := [4, 9]) (by kernel_rfl) (by simp) ?_
          refine AllReadyH.cons rfl (fun K hK => ?_) (AllReadyH.cons rfl (fun K hK => ?_) AllReadyH.nil)
          · go_simp
            ((refine (bd_om (HBd.out w5 HB25.out) hbe hno).mono ?_); rintro e w6 ⟨i, d, g, z, W1, W2, p, A1, c1, A2, c2, hfo, rfl, hS1, hS2⟩; have hb6 := hS1.2)
            have hS9 := hHeld
            refine hK.out _ _ ⟨cell_stays hb6 hS9.1, cell_stays hb6 hS9.2.1, cell_stays hb6 hS9.2.2.1, cell_stays hb6 hS9.2.2.2⟩ (fun hHeld => ?_)
            clear hK K hS9
            try go_simp
            have HS16 := Lib.hid (NS.up HB25.out hS1)
            have HS26 := Lib.hid (NS.up HB25.out hS2)
            have HB26 := Lib.hid (below_then HB25.out hb6)

            clear hb6 HB25 hS1 hS2
            skip
            refine wpAnyH_take (i := 5) (v := ?_) rfl (by kernel_rfl) (by kernel_rfl) (by kernel_rfl) (fun _ _ _ h => h) (Or.inl ⟨by rfl, ?_⟩) (by assumption) ?_
            rotate_left
            · intro w hSw; (try dsimp only at hSw); go_simp; try (with_reducible rfl)
            try go_simp
            refine wpAnyH_take (i := 6) (v := ?_) rfl (by kernel_rfl) (by kernel_rfl) (by kernel_rfl) (fun _ _ _ h => h) (Or.inl ⟨by rfl, ?_⟩) (by assumption) ?_
            rotate_left
            · intro w hSw; (try dsimp only at hSw); go_simp; try (with_reducible rfl)
            try go_simp
            refine wpAnyH_take (i := 7) (v := ?_) rfl (by kernel_rfl) (by kernel_rfl) (by kernel_rfl) (fun _ _ _ h => h) (Or.inl ⟨by rfl, ?_⟩) (by assumption) ?_
            rotate_left
            · intro w hSw; (try dsimp only at hSw); go_simp; try (with_reducible rfl)
            try go_simp
            refine wpAnyH_take (i := 8) (v := ?_) rfl (by kernel_rfl) (by kernel_rfl) (by kernel_rfl) (fun _ _ _ h => h) (Or.inl ⟨by rfl, ?_⟩) (by assumption) ?_
            rotate_left
            · intro w hSw; (try dsimp only at hSw); go_simp; try (with_reducible rfl)
            try go_simp
            refine wpAnyH_ready (rs := [9]) (by kernel_rfl) (by simp) ?_
            refine AllReadyH.cons rfl (fun K hK => ?_) AllReadyH.nil
            go_simp
            have hS9 := hHeld
            have hal := below_alloc w6 (.cells #[.int .i64 0, .int .i64 0, .slice none 0 0, .slice none 0 0, .slice none 0 0, .slice none 0 0, .slice none 0 0, .slice none 0 0] 41)
            have HCz := Lib.hid (CtB.new w6 #[.int .i64 0, .int .i64 0, .slice none 0 0, .slice none 0 0, .slice none 0 0, .slice none 0 0, .slice none 0 0, .slice none 0 0])
            have hcb : w2.heap.size ≤ w6.heap.size := HB26.out.size
            have hcw : w.heap.size ≠ w6.heap.size := by have := HNb2.out.lt; omega
            have HBn := Lib.hid (below_then HB26.out hal)
            refine hK.out _ _ ⟨cell_stays hal hS9.1, cell_stays hal hS9.2.1, cell_stays hal hS9.2.2.1, cell_stays hal hS9.2.2.2⟩ (fun hHeld => ?_)
            have hal6 := hal
            clear hK K hS9 hal HB26
            try go_simp
            generalize hcbe : w6.heap.size = cb at *
            generalize w6.alloc _ = wn at *
            obtain ⟨w6, rfl⟩ : ∃ w6, w6 = wn := ⟨_, rfl⟩
            have HB26 := Lib.hid HBn.out
            clear HBn
            replace HS16 := Lib.hid (HS16.out.below (by rw [hcbe]; exact hal6))
            replace HS26 := Lib.hid (HS26.out.below (by rw [hcbe]; exact hal6))
            clear hcbe hal6
            refine wpAnyH_take (i := 10) (v := ?_) rfl (by kernel_rfl) (by kernel_rfl) (by kernel_rfl) (fun _ _ _ h => h) (Or.inl ⟨by rfl, ?_⟩) (by assumption) ?_
            rotate_left
            · intro w hSw; (try dsimp only at hSw); go_simp; try (with_reducible rfl)
            try go_simp
            obtain ⟨r0, r1, r2, r3, r4, r5, r6, r7⟩ := HCz.out.cells
            have rf0 := HCz.out.soft 0
            have rf1 := HCz.out.soft 1
            have rf2 := HCz.out.soft 2
            have rf3 := HCz.out.soft 3
            have rf4 := HCz.out.soft 4
            have rf5 := HCz.out.soft 5
            have rf6 := HCz.out.soft 6
            have rf7 := HCz.out.soft 7
            have HRe := Lib.hid (ct_set HCz.out (.int .i64 6) (.int .i64 (p : Int)) (.slice A1 W1.length c1) (.slice A2 W2.length c2) (.slice none 0 0) (.slice none 0 0) (.slice none 0 0) (.slice none 0 0))
            have HGe := Lib.hid (ct_grown w6 cb (.int .i64 6) (.int .i64 (p : Int)) (.slice A1 W1.length c1) (.slice A2 W2.length c2) (.slice none 0 0) (.slice none 0 0) (.slice none 0 0) (.slice none 0 0))
            have hS0 := hHeld
            refine wpAnyH_ready (rs := [11]) (by kernel_rfl) (by simp) ?_
            refine AllReadyH.cons rfl (fun K hK => ?_) AllReadyH.nil
            go_simp
            skip
            refine hK.out _ _ (⟨HGe.out.cell hS0.1 (fun e => hcw (Option.some.inj e)), HGe.out.cell hS0.2.1 (fun e => hcw (Option.some.inj e)), HGe.out.cell hS0.2.2.1 (fun e => hcw (Option.some.inj e)), HGe.out.cell hS0.2.2.2 (fun e => hcw (Option.some.inj e))⟩) (fun hHeld => ?_)
            clear hK K
            try go_simp
            refine wpAnyH_take (i := 12) (v := ?_) rfl (by kernel_rfl) (by kernel_rfl) (by kernel_rfl) (fun _ _ _ h => h) (Or.inl ⟨by rfl, ?_⟩) (by assumption) ?_
            rotate_left
            · intro w hSw; (try dsimp only at hSw); go_simp; try (with_reducible rfl)
            try go_simp
            refine wpAnyH_done (by kernel_rfl) ?_ _
            clear hHeld hS0 r0 r1 r2 r3 r4 r5 r6 r7 rf0 rf1 rf2 rf3 rf4 rf5 rf6 rf7
            generalize ((((((((w6.setCell ⟨cb, 0, none⟩ _).setCell ⟨cb, 1, none⟩ _).setCell ⟨cb, 2, none⟩ _).setCell ⟨cb, 3, none⟩ _).setCell ⟨cb, 4, none⟩ _).setCell ⟨cb, 5, none⟩ _).setCell ⟨cb, 6, none⟩ _).setCell ⟨cb, 7, none⟩ _) = we at *
            have HBe := Lib.hid (HB26.out.grown HGe.out HB26.out.size (fun k hk => by cases hk; exact hcb))
            have HZ1 := Lib.hid (show ZIn we A1 (W1.map Int.ofNat) by obtain ⟨A', c', e, hz, _⟩ := (HS16.out.kept HGe.out (own_other HS16.out.1 HCz.out (by decide)) (fun k hk => by cases hk; exact hcb)).zin; rw [List.length_map] at e; cases e; exact hz)
            have HZ2p := Lib.hid (show ZIn we A2 (W2.map Int.ofNat) by obtain ⟨A', c', e, hz, _⟩ := (HS26.out.kept HGe.out (own_other HS26.out.1 HCz.out (by decide)) (fun k hk => by cases hk; exact hcb)).zin; rw [List.length_map] at e; cases e; exact hz)
            have HCi := Lib.hid (ct_om (p := p) (HS16.out.kept HGe.out (own_other HS16.out.1 HCz.out (by decide)) (fun k hk => by cases hk; exact hcb)) (HS26.out.kept HGe.out (own_other HS26.out.1 HCz.out (by decide)) (fun k hk => by cases hk; exact hcb)))
            have HBf := Lib.hid (below_then HB2.out HBe.out)
            have HNbf := Lib.hid (HNb2.out.below HBe.out)
            have HInf := Lib.hid (HIn2.out.below HBe.out)
            have HZf := Lib.hid (HZ2.out.below HBe.out)
            have HTf := Lib.hid (HT2.out.below HBe.out)
            have HLf := Lib.hid (HL2.out.below HBe.out)
            clear HBe HGe HCz HB26 HNb2 HIn2 HZ2 HT2 HL2 HB2
            have HCr := Lib.hid (om_cert hmk hgr (by omega) hfo)
            have HFt0 := Lib.hid HCr.out.2.1
            have HCk0 := Lib.hid HCr.out.1
            have HFo := Lib.hid hfo
            clear hfo
            have HMk := Lib.hid hmk
            clear hmk hno hbe
            obtain ⟨wb, rfl⟩ : ∃ wb, wb = we := ⟨_, rfl⟩
            have HX6 := Lib.hid HRe.out
            have HCt6 := Lib.hid HCi.out
            have HB6 := Lib.hid HBf.out
            have HNb6 := Lib.hid HNbf.out
            have HIn6 := Lib.hid HInf.out
            have HZ6 := Lib.hid HZf.out
            have HT6 := Lib.hid HTf.out
            have HL6 := Lib.hid HLf.out
            clear HRe HCi HBf HNbf HInf HZf HTf HLf HCr
            have HFt := Lib.hid (fits_any _ _ wb HCt6.out)
            rw [HFt0.out] at HFt
            obtain ⟨d0, d1, d2, d3, d4, d5, d6, d7⟩ := HX6.out.cells
            go_wp2_with fail
            ((with_reducible refine HFt.out.mono ?_); rintro e w7 ⟨rfl, hb7⟩)
            have HB7 := Lib.hid (below_then HB6.out hb7)
            have HNb7 := Lib.hid (HNb6.out.below hb7)
            have HIn7 := Lib.hid (HIn6.out.below hb7)
            have HZ7 := Lib.hid (HZ6.out.below hb7)
            have HT7 := Lib.hid (HT6.out.below hb7)
            have HL7 := Lib.hid (HL6.out.below hb7)
            have HX7 := Lib.hid (HX6.out.below hb7)
            have HCt7 := Lib.hid (HCt6.out.below hb7)
            have HB67 := Lib.hid hb7
            clear hb7 HFt d0 d1 d2 d3 d4 d5 d6 d7
            clear HB6 HNb6 HIn6 HZ6 HT6 HL6 HX6 HCt6
            have HCk := Lib.hid (ccheck_any N A n c Am m cm M _ _ w7 HT7.out HIn7.out HNl.out hn2 HZ7.out HM.out (by omega) HCt7.out)
            rw [HCk0.out] at HCk
            obtain ⟨d0, d1, d2, d3, d4, d5, d6, d7⟩ := HX7.out.cells
            obtain ⟨b0, b1, b2, b3⟩ := HNb7.out.cells
            go_wp2_with fail
            ((with_reducible refine HCk.out.mono ?_); rintro e w8 ⟨rfl, hb8⟩)
            have HB8 := Lib.hid (below_then HB7.out hb8)
            have HNb8 := Lib.hid (HNb7.out.below hb8)
            have HIn8 := Lib.hid (HIn7.out.below hb8)
            have HZ8 := Lib.hid (HZ7.out.below hb8)
            have HT8 := Lib.hid (HT7.out.below hb8)
            have HL8 := Lib.hid (HL7.out.below hb8)
            have HX8 := Lib.hid (HX7.out.below hb8)
            have HCt8 := Lib.hid (HCt7.out.below hb8)
            have HB78 := Lib.hid hb8
            clear hb8 HCk d0 d1 d2 d3 d4 d5 d6 d7 b0 b1 b2 b3
            clear HB7 HNb7 HIn7 HZ7 HT7 HL7 HX7 HCt7
            obtain ⟨d0, d1, d2, d3, d4, d5, d6, d7⟩ := HX8.out.cells
            obtain ⟨b0, b1, b2, b3⟩ := HNb8.out.cells
            have hcl := HX8.out.lt
            have hnl8 := HNb8.out.lt
            go_wp2_with fail
            have HA9 := Lib.hid (below_alloc w8 (.cells #[.int .i64 5, .int .i64 (p : Int), .slice A1 W1.length c1, .slice A2 W2.length c2, .slice none 0 0, .slice none 0 0, .slice none 0 0, .slice none 0 0] 41))
            have HB9 := Lib.hid (below_then HB8.out HA9.out)
            have HNb9 := Lib.hid (HNb8.out.below HA9.out)
            have HIn9 := Lib.hid (HIn8.out.below HA9.out)
            have HZ9 := Lib.hid (HZ8.out.below HA9.out)
            have HT9 := Lib.hid (HT8.out.below HA9.out)
            have HL9 := Lib.hid (HL8.out.below HA9.out)
            have HX9 := Lib.hid (HX8.out.below HA9.out)
            have HCt9 := Lib.hid (HCt8.out.below HA9.out)
            have HCtw := Lib.hid (ct_cl (b := 5) HCt9.out)
            have HCw := Lib.hid (ccheck_any N A n c Am m cm M (.agg #[.int .i64 5, .int .i64 (p : Int), .slice A1 W1.length c1, .slice A2 W2.length c2, .slice none 0 0, .slice none 0 0, .slice none 0 0, .slice none 0 0]) ⟨5, (p : Int), W1.map Int.ofNat, W2.map Int.ofNat, []⟩ _ HT9.out HIn9.out HNl.out hn2 HZ9.out HM.out (by omega) HCtw.out)
            rw [wrong_om] at HCw
            clear d0 d1 d2 d3 d4 d5 d6 d7 b0 b1 b2 b3
            ((with_reducible refine HCw.out.mono ?_); rintro e w10 ⟨rfl, hb10⟩)
            have HB10 := Lib.hid (below_then HB9.out hb10)
            have HNb10 := Lib.hid (HNb9.out.below hb10)
            have HIn10 := Lib.hid (HIn9.out.below hb10)
            have HZ10 := Lib.hid (HZ9.out.below hb10)
            have HT10 := Lib.hid (HT9.out.below hb10)
            have HL10 := Lib.hid (HL9.out.below hb10)
            have HX10 := Lib.hid (HX9.out.below hb10)
            have HCt10 := Lib.hid (HCt9.out.below hb10)
            have HZ110 := Lib.hid ((((HZ1.out.below HB67.out).below HB78.out).below HA9.out).below hb10)
            have HZ210 := Lib.hid ((((HZ2p.out.below HB67.out).below HB78.out).below HA9.out).below hb10)
            clear hb10 HCw HCtw
            clear HB8 HNb8 HIn8 HZ8 HT8 HL8 HX8 HCt8
            clear HB9 HNb9 HIn9 HZ9 HT9 HL9 HX9 HCt9
            clear HA9 HB67 HB78
            have HPu := Lib.hid (om_pump HMk.out hgr (by omega) HFo.out)
            have hrn := pRun_any N A n c Am m cm M A1 W1.length c1 (W1.map Int.ofNat) w10 HIn10.out HNl.out hn2 HZ10.out HM.out (by omega) HZ110.out (by rw [List.length_map])
            rw [HPu.out.1] at hrn
            have HRn := Lib.hid (rv_yes hrn rfl)
            clear hrn
            obtain ⟨d0, d1, d2, d3, d4, d5, d6, d7⟩ := HX10.out.cells
            obtain ⟨b0, b1, b2, b3⟩ := HNb10.out.cells
            have HMz := Lib.hid HPu.out.2.2.1
            have HPl := Lib.hid HPu.out.2.2.2.2.2
            have hp40 : p < 40 := by have := mk_len HMk.out; have := nt_small (mk_nt HMk.out); have := HPl.out.1; omega
            have hp0 : (0 : Int) ≤ (p : Int) := by omega
            have hzl : z.ms.length ≤ 40 := by have := mk_len HMz.out; have := nt_small (mk_nt HMz.out); omega
            have hpz : (p : Int) < (z.ms.length : Int) := by have := HPl.out; omega
            have qz1 : decide (z.ms.length ≤ p) = false := by simp; omega
            have qz2 : decide ((p : Int) < 0) = false := by simp
            have qz3 : decide ((z.ms.length : Int) ≤ (p : Int)) = false := by simp; omega
            have qz4 : ¬ z.ms.length ≤ p := by omega
            go_wp2_with fail
            ((with_reducible refine HRn.out.mono ?_); rintro e w11 ⟨v11, rfl, hS11⟩)
            replace hS11 : NS w10 w11 v11 z.ms := hS11
            obtain ⟨A11, c11, rfl⟩ := hS11.slice
            have HS11 := Lib.hid hS11
            obtain ⟨d0, d1, d2, d3, d4, d5, d6, d7⟩ := (HX10.out.below hS11.2).cells
            clear hS11 HRn b0 b1 b2 b3
            go_wp2_with fail
            clear d0 d1 d2 d3 d4 d5 d6 d7
            go_loopg [118, 18] (3) (fun g iv ov wr => PmI N z.ms w10 g iv ov wr)
            case atStart => exact ⟨0, z.ms, by omega, rfl, HS11.out, HMz.out, rfl, fun q => Int.le_refl _⟩
            case round =>
              clear HS11
              obtain ⟨k, X, hkg, rfl, hS, hmx, hmo3⟩ := hrel
              have HK := Lib.hid hkg
              have HMx := Lib.hid hmx
              have HMo := Lib.hid hmo3
              have hk3 : k ≤ 3 := by omega
              have HS := Lib.hid hS
              have HBr := Lib.hid hS.2
              obtain ⟨Ax, cx, rfl⟩ := hS.slice
              have HZx := Lib.hid (show ZIn wr Ax X by obtain ⟨A', c', e, hz, _⟩ := hS.zin; cases e; exact hz)
              have hxl : X.length ≤ 40 := by have := mk_len HMx.out; have := nt_small (mk_nt HMx.out); omega
              obtain ⟨b0, b1, b2, b3⟩ := (HNb10.out.below HBr.out).cells
              obtain ⟨d0, d1, d2, d3, d4, d5, d6, d7⟩ := (HX10.out.below HBr.out).cells
              clear hkg hS hmx hmo3
              by_cases hlt : k < 3
              · have hrn := pRun_any N A n c Ax X.length cx X A2 W2.length c2 (W2.map Int.ofNat) wr (HIn10.out.below HBr.out) HNl.out hn2 HZx.out rfl (by omega) (HZ210.out.below HBr.out) (by rw [List.length_map])
                have HRn := Lib.hid hrn
                clear hrn
                rcases pump_on HMz.out HMx.out HMo.out HPu.out.2.1 HPu.out.2.2.2.1 HPu.out.2.2.2.2.1 with h5 | ⟨h6, h7, h8, h9, h10⟩
                · have HRx := Lib.hid (rv_no HRn.out (by rw [h5]; decide))
                  rw [h5] at HRx
                  clear h5 HRn
                  generalize (run21 N X (W2.map Int.ofNat)).2.1 = ei at *
                  go_wp2_with fail
                  ((with_reducible refine HRx.out.mono ?_); rintro e w13 ⟨rfl, hb13⟩)
                  have HFn := Lib.hid (below_then HB10.out (below_then HBr.out hb13))
                  go_wp2_with fail
                  go_ret
                  exact ⟨rfl, HFn.out⟩
                · have HRx := Lib.hid (rv_yes HRn.out h6)
                  have HMy := Lib.hid h7
                  have HYl := Lib.hid h8
                  have HMoy := Lib.hid h9
                  have HLt := Lib.hid h10
                  clear h6 h7 h8 h9 h10 HRn
                  generalize (run21 N X (W2.map Int.ofNat)).2.1 = ei at *
                  generalize (run21 N X (W2.map Int.ofNat)).1 = Y at *
                  go_wp2_with fail
                  ((with_reducible refine HRx.out.mono ?_); rintro e w13 ⟨v13, rfl, hS13⟩)
                  obtain ⟨A13, c13, rfl⟩ := hS13.slice
                  have HS13 := Lib.hid (NS.up HBr.out hS13)
                  have HZx13 := Lib.hid (HZx.out.below hS13.2)
                  have HZy := Lib.hid (show ZIn w13 A13 Y by obtain ⟨A', c', e, hz, _⟩ := hS13.zin; cases e; exact hz)
                  obtain ⟨d0, d1, d2, d3, d4, d5, d6, d7⟩ := (HX10.out.below HS13.out.2).cells
                  rw [HYl.out]
                  have hpx : p < X.length := by have := HMo.out.1; omega
                  have hpy : p < Y.length := by rw [HYl.out]; exact hpx
                  have hlt2 : X[p] < Y[p] := by have := HLt.out; simpa [hpx, hpy] using this
                  obtain ⟨ax, rfl, hpa, r0⟩ := HZx13.out p hpx
                  obtain ⟨ay, rfl, hpb, r1⟩ := HZy.out p hpy
                  have hpx' : (p : Int) < (X.length : Int) := by omega
                  have q7 : decide (Y[p] ≤ X[p]) = false := by simp; omega
                  have q8 : ¬ Y[p] ≤ X[p] := by omega
                  generalize X[p] = xp at *
                  generalize Y[p] = yp at *
                  clear hS13 HRx hlt2 b0 b1 b2 b3
                  go_wp2_with fail
                  have a0 := fun d os => cell_regrown d1 d os
                  have a1 := fun d os => cell_regrown r0 d os
                  have a2 := fun d os => cell_regrown r1 d os
                  refine wp_region_quiet_below (by kernel_rfl) (by kernel_rfl) ?_
                  repeat (first | go_big_quiet_step (fail) | quiet_step (fail))
                  refine wpQuiet_nil ?_
                  intro _ hw'
                  obtain ⟨⟨dq, osq⟩, hw''⟩ := hw'
                  subst hw''
                  have HS14 := Lib.hid (HS13.out.below (below_regrown w13 dq osq))
                  clear a0 a1 a2
                  go_wp2_with fail
                  go_roundg (gk - 1)
                  case measure => have := HK.out; omega
                  case rel => exact ⟨k + 1, Y, by have := HK.out; omega, by go_num, by have := HS14.out; rwa [HYl.out] at this, HMy.out, HMoy.out⟩
              · have HFn := Lib.hid (below_then HB10.out HBr.out)
                go_wp2_with fail
                go_ret
                exact ⟨rfl, HFn.out⟩
          · go_simp
            have hS9 := hHeld
            have hal := below_alloc w5 (.cells #[.int .i64 0, .int .i64 0, .slice none 0 0, .slice none 0 0, .slice none 0 0, .slice none 0 0, .slice none 0 0, .slice none 0 0] 41)
            have HCz := Lib.hid (CtB.new w5 #[.int .i64 0, .int .i64 0, .slice none 0 0, .slice none 0 0, .slice none 0 0, .slice none 0 0, .slice none 0 0, .slice none 0 0])
            have hcb : w2.heap.size ≤ w5.heap.size := HB25.out.size
            have hcw : w.heap.size ≠ w5.heap.size := by have := HNb2.out.lt; omega
            have HBn := Lib.hid (below_then HB25.out hal)
            refine hK.out _ _ ⟨cell_stays hal hS9.1, cell_stays hal hS9.2.1, cell_stays hal hS9.2.2.1, cell_stays hal hS9.2.2.2⟩ (fun hHeld => ?_)
            clear hK K hS9 hal HB25
            try go_simp
            generalize hcbe : w5.heap.size = cb at *
            generalize w5.alloc _ = wn at *
            clear hcbe
            obtain ⟨w5, rfl⟩ : ∃ w5, w5 = wn := ⟨_, rfl⟩
            have HB25 := Lib.hid HBn.out
            clear HBn
            refine wpAnyH_ready (rs := [4]) (by kernel_rfl) (by simp) ?_
            refine AllReadyH.cons rfl (fun K hK => ?_) AllReadyH.nil
            go_simp
            ((refine (bd_om (HBd.out w5 HB25.out) hbe hno).mono ?_); rintro e w6 ⟨i, d, g, z, W1, W2, p, A1, c1, A2, c2, hfo, rfl, hS1, hS2⟩; have hb6 := hS1.2)
            have hS9 := hHeld
            refine hK.out _ _ ⟨cell_stays hb6 hS9.1, cell_stays hb6 hS9.2.1, cell_stays hb6 hS9.2.2.1, cell_stays hb6 hS9.2.2.2⟩ (fun hHeld => ?_)
            clear hK K hS9
            try go_simp
            have HS16 := Lib.hid (NS.up HB25.out hS1)
            have HS26 := Lib.hid (NS.up HB25.out hS2)
            have HB26 := Lib.hid (below_then HB25.out hb6)
            replace HCz := Lib.hid (HCz.out.below hb6)
            clear hb6 HB25 hS1 hS2
            skip
            refine wpAnyH_take (i := 5) (v := ?_) rfl (by kernel_rfl) (by kernel_rfl) (by kernel_rfl) (fun _ _ _ h => h) (Or.inl ⟨by rfl, ?_⟩) (by assumption) ?_
            rotate_left
            · intro w hSw; (try dsimp only at hSw); go_simp; try (with_reducible rfl)
            try go_simp
            refine wpAnyH_take (i := 6) (v := ?_) rfl (by kernel_rfl) (by kernel_rfl) (by kernel_rfl) (fun _ _ _ h => h) (Or.inl ⟨by rfl, ?_⟩) (by assumption) ?_
            rotate_left
            · intro w hSw; (try dsimp only at hSw); go_simp; try (with_reducible rfl)
            try go_simp
            refine wpAnyH_take (i := 7) (v := ?_) rfl (by kernel_rfl) (by kernel_rfl) (by kernel_rfl) (fun _ _ _ h => h) (Or.inl ⟨by rfl, ?_⟩) (by assumption) ?_
            rotate_left
            · intro w hSw; (try dsimp only at hSw); go_simp; try (with_reducible rfl)
            try go_simp
            refine wpAnyH_take (i := 8) (v := ?_) rfl (by kernel_rfl) (by kernel_rfl) (by kernel_rfl) (fun _ _ _ h => h) (Or.inl ⟨by rfl, ?_⟩) (by assumption) ?_
            rotate_left
            · intro w hSw; (try dsimp only at hSw); go_simp; try (with_reducible rfl)
            try go_simp
            refine wpAnyH_take (i := 10) (v := ?_) rfl (by kernel_rfl) (by kernel_rfl) (by kernel_rfl) (fun _ _ _ h => h) (Or.inl ⟨by rfl, ?_⟩) (by assumption) ?_
            rotate_left
            · intro w hSw; (try dsimp only at hSw); go_simp; try (with_reducible rfl)
            try go_simp
            obtain ⟨r0, r1, r2, r3, r4, r5, r6, r7⟩ := HCz.out.cells
            have rf0 := HCz.out.soft 0
            have rf1 := HCz.out.soft 1
            have rf2 := HCz.out.soft 2
            have rf3 := HCz.out.soft 3
            have rf4 := HCz.out.soft 4
            have rf5 := HCz.out.soft 5
            have rf6 := HCz.out.soft 6
            have rf7 := HCz.out.soft 7
            have HRe := Lib.hid (ct_set HCz.out (.int .i64 6) (.int .i64 (p : Int)) (.slice A1 W1.length c1) (.slice A2 W2.length c2) (.slice none 0 0) (.slice none 0 0) (.slice none 0 0) (.slice none 0 0))
            have HGe := Lib.hid (ct_grown w6 cb (.int .i64 6) (.int .i64 (p : Int)) (.slice A1 W1.length c1) (.slice A2 W2.length c2) (.slice none 0 0) (.slice none 0 0) (.slice none 0 0) (.slice none 0 0))
            have hS0 := hHeld
            refine wpAnyH_ready (rs := [11]) (by kernel_rfl) (by simp) ?_
            refine AllReadyH.cons rfl (fun K hK => ?_) AllReadyH.nil
            go_simp
            skip
            refine hK.out _ _ (⟨HGe.out.cell hS0.1 (fun e => hcw (Option.some.inj e)), HGe.out.cell hS0.2.1 (fun e => hcw (Option.some.inj e)), HGe.out.cell hS0.2.2.1 (fun e => hcw (Option.some.inj e)), HGe.out.cell hS0.2.2.2 (fun e => hcw (Option.some.inj e))⟩) (fun hHeld => ?_)
            clear hK K
            try go_simp
            refine wpAnyH_take (i := 12) (v := ?_) rfl (by kernel_rfl) (by kernel_rfl) (by kernel_rfl) (fun _ _ _ h => h) (Or.inl ⟨by rfl, ?_⟩) (by assumption) ?_
            rotate_left
            · intro w hSw; (try dsimp only at hSw); go_simp; try (with_reducible rfl)
            try go_simp
            refine wpAnyH_done (by kernel_rfl) ?_ _
            clear hHeld hS0 r0 r1 r2 r3 r4 r5 r6 r7 rf0 rf1 rf2 rf3 rf4 rf5 rf6 rf7
            generalize ((((((((w6.setCell ⟨cb, 0, none⟩ _).setCell ⟨cb, 1, none⟩ _).setCell ⟨cb, 2, none⟩ _).setCell ⟨cb, 3, none⟩ _).setCell ⟨cb, 4, none⟩ _).setCell ⟨cb, 5, none⟩ _).setCell ⟨cb, 6, none⟩ _).setCell ⟨cb, 7, none⟩ _) = we at *
            have HBe := Lib.hid (HB26.out.grown HGe.out HB26.out.size (fun k hk => by cases hk; exact hcb))
            have HZ1 := Lib.hid (show ZIn we A1 (W1.map Int.ofNat) by obtain ⟨A', c', e, hz, _⟩ := (HS16.out.kept HGe.out (own_other HS16.out.1 HCz.out (by decide)) (fun k hk => by cases hk; exact hcb)).zin; rw [List.length_map] at e; cases e; exact hz)
            have HZ2p := Lib.hid (show ZIn we A2 (W2.map Int.ofNat) by obtain ⟨A', c', e, hz, _⟩ := (HS26.out.kept HGe.out (own_other HS26.out.1 HCz.out (by decide)) (fun k hk => by cases hk; exact hcb)).zin; rw [List.length_map] at e; cases e; exact hz)
            have HCi := Lib.hid (ct_om (p := p) (HS16.out.kept HGe.out (own_other HS16.out.1 HCz.out (by decide)) (fun k hk => by cases hk; exact hcb)) (HS26.out.kept HGe.out (own_other HS26.out.1 HCz.out (by decide)) (fun k hk => by cases hk; exact hcb)))
            have HBf := Lib.hid (below_then HB2.out HBe.out)
            have HNbf := Lib.hid (HNb2.out.below HBe.out)
            have HInf := Lib.hid (HIn2.out.below HBe.out)
            have HZf := Lib.hid (HZ2.out.below HBe.out)
            have HTf := Lib.hid (HT2.out.below HBe.out)
            have HLf := Lib.hid (HL2.out.below HBe.out)
            clear HBe HGe HCz HB26 HNb2 HIn2 HZ2 HT2 HL2 HB2
            have HCr := Lib.hid (om_cert hmk hgr (by omega) hfo)
            have HFt0 := Lib.hid HCr.out.2.1
            have HCk0 := Lib.hid HCr.out.1
            have HFo := Lib.hid hfo
            clear hfo
            have HMk := Lib.hid hmk
            clear hmk hno hbe
            obtain ⟨wb, rfl⟩ : ∃ wb, wb = we := ⟨_, rfl⟩
            have HX6 := Lib.hid HRe.out
            have HCt6 := Lib.hid HCi.out
            have HB6 := Lib.hid HBf.out
            have HNb6 := Lib.hid HNbf.out
            have HIn6 := Lib.hid HInf.out
            have HZ6 := Lib.hid HZf.out
            have HT6 := Lib.hid HTf.out
            have HL6 := Lib.hid HLf.out
            clear HRe HCi HBf HNbf HInf HZf HTf HLf HCr
            have HFt := Lib.hid (fits_any _ _ wb HCt6.out)
            rw [HFt0.out] at HFt
            obtain ⟨d0, d1, d2, d3, d4, d5, d6, d7⟩ := HX6.out.cells
            go_wp2_with fail
            ((with_reducible refine HFt.out.mono ?_); rintro e w7 ⟨rfl, hb7⟩)
            have HB7 := Lib.hid (below_then HB6.out hb7)
            have HNb7 := Lib.hid (HNb6.out.below hb7)
            have HIn7 := Lib.hid (HIn6.out.below hb7)
            have HZ7 := Lib.hid (HZ6.out.below hb7)
            have HT7 := Lib.hid (HT6.out.below hb7)
            have HL7 := Lib.hid (HL6.out.below hb7)
            have HX7 := Lib.hid (HX6.out.below hb7)
            have HCt7 := Lib.hid (HCt6.out.below hb7)
            have HB67 := Lib.hid hb7
            clear hb7 HFt d0 d1 d2 d3 d4 d5 d6 d7
            clear HB6 HNb6 HIn6 HZ6 HT6 HL6 HX6 HCt6
            have HCk := Lib.hid (ccheck_any N A n c Am m cm M _ _ w7 HT7.out HIn7.out HNl.out hn2 HZ7.out HM.out (by omega) HCt7.out)
            rw [HCk0.out] at HCk
            obtain ⟨d0, d1, d2, d3, d4, d5, d6, d7⟩ := HX7.out.cells
            obtain ⟨b0, b1, b2, b3⟩ := HNb7.out.cells
            go_wp2_with fail
            ((with_reducible refine HCk.out.mono ?_); rintro e w8 ⟨rfl, hb8⟩)
            have HB8 := Lib.hid (below_then HB7.out hb8)
            have HNb8 := Lib.hid (HNb7.out.below hb8)
            have HIn8 := Lib.hid (HIn7.out.below hb8)
            have HZ8 := Lib.hid (HZ7.out.below hb8)
            have HT8 := Lib.hid (HT7.out.below hb8)
            have HL8 := Lib.hid (HL7.out.below hb8)
            have HX8 := Lib.hid (HX7.out.below hb8)
            have HCt8 := Lib.hid (HCt7.out.below hb8)
            have HB78 := Lib.hid hb8
            clear hb8 HCk d0 d1 d2 d3 d4 d5 d6 d7 b0 b1 b2 b3
            clear HB7 HNb7 HIn7 HZ7 HT7 HL7 HX7 HCt7
            obtain ⟨d0, d1, d2, d3, d4, d5, d6, d7⟩ := HX8.out.cells
            obtain ⟨b0, b1, b2, b3⟩ := HNb8.out.cells
            have hcl := HX8.out.lt
            have hnl8 := HNb8.out.lt
            go_wp2_with fail
            have HA9 := Lib.hid (below_alloc w8 (.cells #[.int .i64 5, .int .i64 (p : Int), .slice A1 W1.length c1, .slice A2 W2.length c2, .slice none 0 0, .slice none 0 0, .slice none 0 0, .slice none 0 0] 41))
            have HB9 := Lib.hid (below_then HB8.out HA9.out)
            have HNb9 := Lib.hid (HNb8.out.below HA9.out)
            have HIn9 := Lib.hid (HIn8.out.below HA9.out)
            have HZ9 := Lib.hid (HZ8.out.below HA9.out)
            have HT9 := Lib.hid (HT8.out.below HA9.out)
            have HL9 := Lib.hid (HL8.out.below HA9.out)
            have HX9 := Lib.hid (HX8.out.below HA9.out)
            have HCt9 := Lib.hid (HCt8.out.below HA9.out)
            have HCtw := Lib.hid (ct_cl (b := 5) HCt9.out)
            have HCw := Lib.hid (ccheck_any N A n c Am m cm M (.agg #[.int .i64 5, .int .i64 (p : Int), .slice A1 W1.length c1, .slice A2 W2.length c2, .slice none 0 0, .slice none 0 0, .slice none 0 0, .slice none 0 0]) ⟨5, (p : Int), W1.map Int.ofNat, W2.map Int.ofNat, []⟩ _ HT9.out HIn9.out HNl.out hn2 HZ9.out HM.out (by omega) HCtw.out)
            rw [wrong_om] at HCw
            clear d0 d1 d2 d3 d4 d5 d6 d7 b0 b1 b2 b3
            ((with_reducible refine HCw.out.mono ?_); rintro e w10 ⟨rfl, hb10⟩)
            have HB10 := Lib.hid (below_then HB9.out hb10)
            have HNb10 := Lib.hid (HNb9.out.below hb10)
            have HIn10 := Lib.hid (HIn9.out.below hb10)
            have HZ10 := Lib.hid (HZ9.out.below hb10)
            have HT10 := Lib.hid (HT9.out.below hb10)
            have HL10 := Lib.hid (HL9.out.below hb10)
            have HX10 := Lib.hid (HX9.out.below hb10)
            have HCt10 := Lib.hid (HCt9.out.below hb10)
            have HZ110 := Lib.hid ((((HZ1.out.below HB67.out).below HB78.out).below HA9.out).below hb10)
            have HZ210 := Lib.hid ((((HZ2p.out.below HB67.out).below HB78.out).below HA9.out).below hb10)
            clear hb10 HCw HCtw
            clear HB8 HNb8 HIn8 HZ8 HT8 HL8 HX8 HCt8
            clear HB9 HNb9 HIn9 HZ9 HT9 HL9 HX9 HCt9
            clear HA9 HB67 HB78
            have HPu := Lib.hid (om_pump HMk.out hgr (by omega) HFo.out)
            have hrn := pRun_any N A n c Am m cm M A1 W1.length c1 (W1.map Int.ofNat) w10 HIn10.out HNl.out hn2 HZ10.out HM.out (by omega) HZ110.out (by rw [List.length_map])
            rw [HPu.out.1] at hrn
            have HRn := Lib.hid (rv_yes hrn rfl)
            clear hrn
            obtain ⟨d0, d1, d2, d3, d4, d5, d6, d7⟩ := HX10.out.cells
            obtain ⟨b0, b1, b2, b3⟩ := HNb10.out.cells
            have HMz := Lib.hid HPu.out.2.2.1
            have HPl := Lib.hid HPu.out.2.2.2.2.2
            have hp40 : p < 40 := by have := mk_len HMk.out; have := nt_small (mk_nt HMk.out); have := HPl.out.1; omega
            have hp0 : (0 : Int) ≤ (p : Int) := by omega
            have hzl : z.ms.length ≤ 40 := by have := mk_len HMz.out; have := nt_small (mk_nt HMz.out); omega
            have hpz : (p : Int) < (z.ms.length : Int) := by have := HPl.out; omega
            have qz1 : decide (z.ms.length ≤ p) = false := by simp; omega
            have qz2 : decide ((p : Int) < 0) = false := by simp
            have qz3 : decide ((z.ms.length : Int) ≤ (p : Int)) = false := by simp; omega
            have qz4 : ¬ z.ms.length ≤ p := by omega
            go_wp2_with fail
            ((with_reducible refine HRn.out.mono ?_); rintro e w11 ⟨v11, rfl, hS11⟩)
            replace hS11 : NS w10 w11 v11 z.ms := hS11
            obtain ⟨A11, c11, rfl⟩ := hS11.slice
            have HS11 := Lib.hid hS11
            obtain ⟨d0, d1, d2, d3, d4, d5, d6, d7⟩ := (HX10.out.below hS11.2).cells
            clear hS11 HRn b0 b1 b2 b3
            go_wp2_with fail
            clear d0 d1 d2 d3 d4 d5 d6 d7
            go_loopg [118, 18] (3) (fun g iv ov wr => PmI N z.ms w10 g iv ov wr)
            case atStart => exact ⟨0, z.ms, by omega, rfl, HS11.out, HMz.out, rfl, fun q => Int.le_refl _⟩
            case round =>
              clear HS11
              obtain ⟨k, X, hkg, rfl, hS, hmx, hmo3⟩ := hrel
              have HK := Lib.hid hkg
              have HMx := Lib.hid hmx
              have HMo := Lib.hid hmo3
              have hk3 : k ≤ 3 := by omega
              have HS := Lib.hid hS
              have HBr := Lib.hid hS.2
              obtain ⟨Ax, cx, rfl⟩ := hS.slice
              have HZx := Lib.hid (show ZIn wr Ax X by obtain ⟨A', c', e, hz, _⟩ := hS.zin; cases e; exact hz)
              have hxl : X.length ≤ 40 := by have := mk_len HMx.out; have := nt_small (mk_nt HMx.out); omega
              obtain ⟨b0, b1, b2, b3⟩ := (HNb10.out.below HBr.out).cells
              obtain ⟨d0, d1, d2, d3, d4, d5, d6, d7⟩ := (HX10.out.below HBr.out).cells
              clear hkg hS hmx hmo3
              by_cases hlt : k < 3
              · have hrn := pRun_any N A n c Ax X.length cx X A2 W2.length c2 (W2.map Int.ofNat) wr (HIn10.out.below HBr.out) HNl.out hn2 HZx.out rfl (by omega) (HZ210.out.below HBr.out) (by rw [List.length_map])
                have HRn := Lib.hid hrn
                clear hrn
                rcases pump_on HMz.out HMx.out HMo.out HPu.out.2.1 HPu.out.2.2.2.1 HPu.out.2.2.2.2.1 with h5 | ⟨h6, h7, h8, h9, h10⟩
                · have HRx := Lib.hid (rv_no HRn.out (by rw [h5]; decide))
                  rw [h5] at HRx
                  clear h5 HRn
                  generalize (run21 N X (W2.map Int.ofNat)).2.1 = ei at *
                  go_wp2_with fail
                  ((with_reducible refine HRx.out.mono ?_); rintro e w13 ⟨rfl, hb13⟩)
                  have HFn := Lib.hid (below_then HB10.out (below_then HBr.out hb13))
                  go_wp2_with fail
                  go_ret
                  exact ⟨rfl, HFn.out⟩
                · have HRx := Lib.hid (rv_yes HRn.out h6)
                  have HMy := Lib.hid h7
                  have HYl := Lib.hid h8
                  have HMoy := Lib.hid h9
                  have HLt := Lib.hid h10
                  clear h6 h7 h8 h9 h10 HRn
                  generalize (run21 N X (W2.map Int.ofNat)).2.1 = ei at *
                  generalize (run21 N X (W2.map Int.ofNat)).1 = Y at *
                  go_wp2_with fail
                  ((with_reducible refine HRx.out.mono ?_); rintro e w13 ⟨v13, rfl, hS13⟩)
                  obtain ⟨A13, c13, rfl⟩ := hS13.slice
                  have HS13 := Lib.hid (NS.up HBr.out hS13)
                  have HZx13 := Lib.hid (HZx.out.below hS13.2)
                  have HZy := Lib.hid (show ZIn w13 A13 Y by obtain ⟨A', c', e, hz, _⟩ := hS13.zin; cases e; exact hz)
                  obtain ⟨d0, d1, d2, d3, d4, d5, d6, d7⟩ := (HX10.out.below HS13.out.2).cells
                  rw [HYl.out]
                  have hpx : p < X.length := by have := HMo.out.1; omega
                  have hpy : p < Y.length := by rw [HYl.out]; exact hpx
                  have hlt2 : X[p] < Y[p] := by have := HLt.out; simpa [hpx, hpy] using this
                  obtain ⟨ax, rfl, hpa, r0⟩ := HZx13.out p hpx
                  obtain ⟨ay, rfl, hpb, r1⟩ := HZy.out p hpy
                  have hpx' : (p : Int) < (X.length : Int) := by omega
                  have q7 : decide (Y[p] ≤ X[p]) = false := by simp; omega
                  have q8 : ¬ Y[p] ≤ X[p] := by omega
                  generalize X[p] = xp at *
                  generalize Y[p] = yp at *
                  clear hS13 HRx hlt2 b0 b1 b2 b3
                  go_wp2_with fail
                  have a0 := fun d os => cell_regrown d1 d os
                  have a1 := fun d os => cell_regrown r0 d os
                  have a2 := fun d os => cell_regrown r1 d os
                  refine wp_region_quiet_below (by kernel_rfl) (by kernel_rfl) ?_
                  repeat (first | go_big_quiet_step (fail) | quiet_step (fail))
                  refine wpQuiet_nil ?_
                  intro _ hw'
                  obtain ⟨⟨dq, osq⟩, hw''⟩ := hw'
                  subst hw''
                  have HS14 := Lib.hid (HS13.out.below (below_regrown w13 dq osq))
                  clear a0 a1 a2
                  go_wp2_with fail
                  go_roundg (gk - 1)
                  case measure => have := HK.out; omega
                  case rel => exact ⟨k + 1, Y, by have := HK.out; omega, by go_num, by have := HS14.out; rwa [HYl.out] at this, HMy.out, HMoy.out⟩
              · have HFn := Lib.hid (below_then HB10.out HBr.out)
                go_wp2_with fail
                go_ret
                exact ⟨rfl, HFn.out⟩
        · go_simp
          have hS9 := hHeld
          have hal := below_alloc w3 (.cells #[.int .i64 0, .int .i64 0, .slice none 0 0, .slice none 0 0, .slice none 0 0, .slice none 0 0, .slice none 0 0, .slice none 0 0] 41)
          have HCz := Lib.hid (CtB.new w3 #[.int .i64 0, .int .i64 0, .slice none 0 0, .slice none 0 0, .slice none 0 0, .slice none 0 0, .slice none 0 0, .slice none 0 0])
          have hcb : w2.heap.size ≤ w3.heap.size := HB23.out.size
          have hcw : w.heap.size ≠ w3.heap.size := by have := HNb2.out.lt; omega
          have HBn := Lib.hid (below_then HB23.out hal)
          refine hK.out _ _ ⟨cell_stays hal hS9.1, cell_stays hal hS9.2.1, cell_stays hal hS9.2.2.1, cell_stays hal hS9.2.2.2⟩ (fun hHeld => ?_)
          clear hK K hS9 hal HB23
          try go_simp
          generalize hcbe : w3.heap.size = cb at *
          generalize w3.alloc _ = wn at *
          clear hcbe
          refine wpAnyH_ready (rs := [3]) (by kernel_rfl) (by simp) ?_
          refine AllReadyH.cons rfl (fun K hK => ?_) AllReadyH.nil
          go_simp
          ((refine (HLim.out wn).mono ?_); rintro e w5 ⟨rfl, hb5⟩)
          have hS9 := hHeld
          refine hK.out _ _ ⟨cell_stays hb5 hS9.1, cell_stays hb5 hS9.2.1, cell_stays hb5 hS9.2.2.1, cell_stays hb5 hS9.2.2.2⟩ (fun hHeld => ?_)
          clear hK K hS9
          try go_simp
          have HB25 := Lib.hid (below_then HBn.out hb5)
          replace HCz := Lib.hid (HCz.out.below hb5)
          clear hb5 HBn
          refine wpAnyH_ready (rs := [4]) (by kernel_rfl) (by simp) ?_
          refine AllReadyH.cons rfl (fun K hK => ?_) AllReadyH.nil
          go_simp
          ((refine (bd_om (HBd.out w5 HB25.out) hbe hno).mono ?_); rintro e w6 ⟨i, d, g, z, W1, W2, p, A1, c1, A2, c2, hfo, rfl, hS1, hS2⟩; have hb6 := hS1.2)
          have hS9 := hHeld
          refine hK.out _ _ ⟨cell_stays hb6 hS9.1, cell_stays hb6 hS9.2.1, cell_stays hb6 hS9.2.2.1, cell_stays hb6 hS9.2.2.2⟩ (fun hHeld => ?_)
          clear hK K hS9
          try go_simp
          have HS16 := Lib.hid (NS.up HB25.out hS1)
          have HS26 := Lib.hid (NS.up HB25.out hS2)
          have HB26 := Lib.hid (below_then HB25.out hb6)
          replace HCz := Lib.hid (HCz.out.below hb6)
          clear hb6 HB25 hS1 hS2
          skip
          refine wpAnyH_take (i := 5) (v := ?_) rfl (by kernel_rfl) (by kernel_rfl) (by kernel_rfl) (fun _ _ _ h => h) (Or.inl ⟨by rfl, ?_⟩) (by assumption) ?_
          rotate_left
          · intro w hSw; (try dsimp only at hSw); go_simp; try (with_reducible rfl)
          try go_simp
          refine wpAnyH_take (i := 6) (v := ?_) rfl (by kernel_rfl) (by kernel_rfl) (by kernel_rfl) (fun _ _ _ h => h) (Or.inl ⟨by rfl, ?_⟩) (by assumption) ?_
          rotate_left
          · intro w hSw; (try dsimp only at hSw); go_simp; try (with_reducible rfl)
          try go_simp
          refine wpAnyH_take (i := 7) (v := ?_) rfl (by kernel_rfl) (by kernel_rfl) (by kernel_rfl) (fun _ _ _ h => h) (Or.inl ⟨by rfl, ?_⟩) (by assumption) ?_
          rotate_left
          · intro w hSw; (try dsimp only at hSw); go_simp; try (with_reducible rfl)
          try go_simp
          refine wpAnyH_take (i := 8) (v := ?_) rfl (by kernel_rfl) (by kernel_rfl) (by kernel_rfl) (fun _ _ _ h => h) (Or.inl ⟨by rfl, ?_⟩) (by assumption) ?_
          rotate_left
          · intro w hSw; (try dsimp only at hSw); go_simp; try (with_reducible rfl)
          try go_simp
          refine wpAnyH_take (i := 10) (v := ?_) rfl (by kernel_rfl) (by kernel_rfl) (by kernel_rfl) (fun _ _ _ h => h) (Or.inl ⟨by rfl, ?_⟩) (by assumption) ?_
          rotate_left
          · intro w hSw; (try dsimp only at hSw); go_simp; try (with_reducible rfl)
          try go_simp
          obtain ⟨r0, r1, r2, r3, r4, r5, r6, r7⟩ := HCz.out.cells
          have rf0 := HCz.out.soft 0
          have rf1 := HCz.out.soft 1
          have rf2 := HCz.out.soft 2
          have rf3 := HCz.out.soft 3
          have rf4 := HCz.out.soft 4
          have rf5 := HCz.out.soft 5
          have rf6 := HCz.out.soft 6
          have rf7 := HCz.out.soft 7
          have HRe := Lib.hid (ct_set HCz.out (.int .i64 6) (.int .i64 (p : Int)) (.slice A1 W1.length c1) (.slice A2 W2.length c2) (.slice none 0 0) (.slice none 0 0) (.slice none 0 0) (.slice none 0 0))
          have HGe := Lib.hid (ct_grown w6 cb (.int .i64 6) (.int .i64 (p : Int)) (.slice A1 W1.length c1) (.slice A2 W2.length c2) (.slice none 0 0) (.slice none 0 0) (.slice none 0 0) (.slice none 0 0))
          have hS0 := hHeld
          refine wpAnyH_ready (rs := [11]) (by kernel_rfl) (by simp) ?_
          refine AllReadyH.cons rfl (fun K hK => ?_) AllReadyH.nil
          go_simp
          skip
          refine hK.out _ _ (⟨HGe.out.cell hS0.1 (fun e => hcw (Option.some.inj e)), HGe.out.cell hS0.2.1 (fun e => hcw (Option.some.inj e)), HGe.out.cell hS0.2.2.1 (fun e => hcw (Option.some.inj e)), HGe.out.cell hS0.2.2.2 (fun e => hcw (Option.some.inj e))⟩) (fun hHeld => ?_)
          clear hK K
          try go_simp
          refine wpAnyH_take (i := 12) (v := ?_) rfl (by kernel_rfl) (by kernel_rfl) (by kernel_rfl) (fun _ _ _ h => h) (Or.inl ⟨by rfl, ?_⟩) (by assumption) ?_
          rotate_left
          · intro w hSw; (try dsimp only at hSw); go_simp; try (with_reducible rfl)
          try go_simp
          refine wpAnyH_done (by kernel_rfl) ?_ _
          clear hHeld hS0 r0 r1 r2 r3 r4 r5 r6 r7 rf0 rf1 rf2 rf3 rf4 rf5 rf6 rf7
          generalize ((((((((w6.setCell ⟨cb, 0, none⟩ _).setCell ⟨cb, 1, none⟩ _).setCell ⟨cb, 2, none⟩ _).setCell ⟨cb, 3, none⟩ _).setCell ⟨cb, 4, none⟩ _).setCell ⟨cb, 5, none⟩ _).setCell ⟨cb, 6, none⟩ _).setCell ⟨cb, 7, none⟩ _) = we at *
          have HBe := Lib.hid (HB26.out.grown HGe.out HB26.out.size (fun k hk => by cases hk; exact hcb))
          have HZ1 := Lib.hid (show ZIn we A1 (W1.map Int.ofNat) by obtain ⟨A', c', e, hz, _⟩ := (HS16.out.kept HGe.out (own_other HS16.out.1 HCz.out (by decide)) (fun k hk => by cases hk; exact hcb)).zin; rw [List.length_map] at e; cases e; exact hz)
          have HZ2p := Lib.hid (show ZIn we A2 (W2.map Int.ofNat) by obtain ⟨A', c', e, hz, _⟩ := (HS26.out.kept HGe.out (own_other HS26.out.1 HCz.out (by decide)) (fun k hk => by cases hk; exact hcb)).zin; rw [List.length_map] at e; cases e; exact hz)
          have HCi := Lib.hid (ct_om (p := p) (HS16.out.kept HGe.out (own_other HS16.out.1 HCz.out (by decide)) (fun k hk => by cases hk; exact hcb)) (HS26.out.kept HGe.out (own_other HS26.out.1 HCz.out (by decide)) (fun k hk => by cases hk; exact hcb)))
          have HBf := Lib.hid (below_then HB2.out HBe.out)
          have HNbf := Lib.hid (HNb2.out.below HBe.out)
          have HInf := Lib.hid (HIn2.out.below HBe.out)
          have HZf := Lib.hid (HZ2.out.below HBe.out)
          have HTf := Lib.hid (HT2.out.below HBe.out)
          have HLf := Lib.hid (HL2.out.below HBe.out)
          clear HBe HGe HCz HB26 HNb2 HIn2 HZ2 HT2 HL2 HB2
          have HCr := Lib.hid (om_cert hmk hgr (by omega) hfo)
          have HFt0 := Lib.hid HCr.out.2.1
          have HCk0 := Lib.hid HCr.out.1
          have HFo := Lib.hid hfo
          clear hfo
          have HMk := Lib.hid hmk
          clear hmk hno hbe
          obtain ⟨wb, rfl⟩ : ∃ wb, wb = we := ⟨_, rfl⟩
          have HX6 := Lib.hid HRe.out
          have HCt6 := Lib.hid HCi.out
          have HB6 := Lib.hid HBf.out
          have HNb6 := Lib.hid HNbf.out
          have HIn6 := Lib.hid HInf.out
          have HZ6 := Lib.hid HZf.out
          have HT6 := Lib.hid HTf.out
          have HL6 := Lib.hid HLf.out
          clear HRe HCi HBf HNbf HInf HZf HTf HLf HCr
          have HFt := Lib.hid (fits_any _ _ wb HCt6.out)
          rw [HFt0.out] at HFt
          obtain ⟨d0, d1, d2, d3, d4, d5, d6, d7⟩ := HX6.out.cells
          go_wp2_with fail
          ((with_reducible refine HFt.out.mono ?_); rintro e w7 ⟨rfl, hb7⟩)
          have HB7 := Lib.hid (below_then HB6.out hb7)
          have HNb7 := Lib.hid (HNb6.out.below hb7)
          have HIn7 := Lib.hid (HIn6.out.below hb7)
          have HZ7 := Lib.hid (HZ6.out.below hb7)
          have HT7 := Lib.hid (HT6.out.below hb7)
          have HL7 := Lib.hid (HL6.out.below hb7)
          have HX7 := Lib.hid (HX6.out.below hb7)
          have HCt7 := Lib.hid (HCt6.out.below hb7)
          have HB67 := Lib.hid hb7
          clear hb7 HFt d0 d1 d2 d3 d4 d5 d6 d7
          clear HB6 HNb6 HIn6 HZ6 HT6 HL6 HX6 HCt6
          have HCk := Lib.hid (ccheck_any N A n c Am m cm M _ _ w7 HT7.out HIn7.out HNl.out hn2 HZ7.out HM.out (by omega) HCt7.out)
          rw [HCk0.out] at HCk
          obtain ⟨d0, d1, d2, d3, d4, d5, d6, d7⟩ := HX7.out.cells
          obtain ⟨b0, b1, b2, b3⟩ := HNb7.out.cells
          go_wp2_with fail
          ((with_reducible refine HCk.out.mono ?_); rintro e w8 ⟨rfl, hb8⟩)
          have HB8 := Lib.hid (below_then HB7.out hb8)
          have HNb8 := Lib.hid (HNb7.out.below hb8)
          have HIn8 := Lib.hid (HIn7.out.below hb8)
          have HZ8 := Lib.hid (HZ7.out.below hb8)
          have HT8 := Lib.hid (HT7.out.below hb8)
          have HL8 := Lib.hid (HL7.out.below hb8)
          have HX8 := Lib.hid (HX7.out.below hb8)
          have HCt8 := Lib.hid (HCt7.out.below hb8)
          have HB78 := Lib.hid hb8
          clear hb8 HCk d0 d1 d2 d3 d4 d5 d6 d7 b0 b1 b2 b3
          clear HB7 HNb7 HIn7 HZ7 HT7 HL7 HX7 HCt7
          obtain ⟨d0, d1, d2, d3, d4, d5, d6, d7⟩ := HX8.out.cells
          obtain ⟨b0, b1, b2, b3⟩ := HNb8.out.cells
          have hcl := HX8.out.lt
          have hnl8 := HNb8.out.lt
          go_wp2_with fail
          have HA9 := Lib.hid (below_alloc w8 (.cells #[.int .i64 5, .int .i64 (p : Int), .slice A1 W1.length c1, .slice A2 W2.length c2, .slice none 0 0, .slice none 0 0, .slice none 0 0, .slice none 0 0] 41))
          have HB9 := Lib.hid (below_then HB8.out HA9.out)
          have HNb9 := Lib.hid (HNb8.out.below HA9.out)
          have HIn9 := Lib.hid (HIn8.out.below HA9.out)
          have HZ9 := Lib.hid (HZ8.out.below HA9.out)
          have HT9 := Lib.hid (HT8.out.below HA9.out)
          have HL9 := Lib.hid (HL8.out.below HA9.out)
          have HX9 := Lib.hid (HX8.out.below HA9.out)
          have HCt9 := Lib.hid (HCt8.out.below HA9.out)
          have HCtw := Lib.hid (ct_cl (b := 5) HCt9.out)
          have HCw := Lib.hid (ccheck_any N A n c Am m cm M (.agg #[.int .i64 5, .int .i64 (p : Int), .slice A1 W1.length c1, .slice A2 W2.length c2, .slice none 0 0, .slice none 0 0, .slice none 0 0, .slice none 0 0]) ⟨5, (p : Int), W1.map Int.ofNat, W2.map Int.ofNat, []⟩ _ HT9.out HIn9.out HNl.out hn2 HZ9.out HM.out (by omega) HCtw.out)
          rw [wrong_om] at HCw
          clear d0 d1 d2 d3 d4 d5 d6 d7 b0 b1 b2 b3
          ((with_reducible refine HCw.out.mono ?_); rintro e w10 ⟨rfl, hb10⟩)
          have HB10 := Lib.hid (below_then HB9.out hb10)
          have HNb10 := Lib.hid (HNb9.out.below hb10)
          have HIn10 := Lib.hid (HIn9.out.below hb10)
          have HZ10 := Lib.hid (HZ9.out.below hb10)
          have HT10 := Lib.hid (HT9.out.below hb10)
          have HL10 := Lib.hid (HL9.out.below hb10)
          have HX10 := Lib.hid (HX9.out.below hb10)
          have HCt10 := Lib.hid (HCt9.out.below hb10)
          have HZ110 := Lib.hid ((((HZ1.out.below HB67.out).below HB78.out).below HA9.out).below hb10)
          have HZ210 := Lib.hid ((((HZ2p.out.below HB67.out).below HB78.out).below HA9.out).below hb10)
          clear hb10 HCw HCtw
          clear HB8 HNb8 HIn8 HZ8 HT8 HL8 HX8 HCt8
          clear HB9 HNb9 HIn9 HZ9 HT9 HL9 HX9 HCt9
          clear HA9 HB67 HB78
          have HPu := Lib.hid (om_pump HMk.out hgr (by omega) HFo.out)
          have hrn := pRun_any N A n c Am m cm M A1 W1.length c1 (W1.map Int.ofNat) w10 HIn10.out HNl.out hn2 HZ10.out HM.out (by omega) HZ110.out (by rw [List.length_map])
          rw [HPu.out.1] at hrn
          have HRn := Lib.hid (rv_yes hrn rfl)
          clear hrn
          obtain ⟨d0, d1, d2, d3, d4, d5, d6, d7⟩ := HX10.out.cells
          obtain ⟨b0, b1, b2, b3⟩ := HNb10.out.cells
          have HMz := Lib.hid HPu.out.2.2.1
          have HPl := Lib.hid HPu.out.2.2.2.2.2
          have hp40 : p < 40 := by have := mk_len HMk.out; have := nt_small (mk_nt HMk.out); have := HPl.out.1; omega
          have hp0 : (0 : Int) ≤ (p : Int) := by omega
          have hzl : z.ms.length ≤ 40 := by have := mk_len HMz.out; have := nt_small (mk_nt HMz.out); omega
          have hpz : (p : Int) < (z.ms.length : Int) := by have := HPl.out; omega
          have qz1 : decide (z.ms.length ≤ p) = false := by simp; omega
          have qz2 : decide ((p : Int) < 0) = false := by simp
          have qz3 : decide ((z.ms.length : Int) ≤ (p : Int)) = false := by simp; omega
          have qz4 : ¬ z.ms.length ≤ p := by omega
          go_wp2_with fail
          ((with_reducible refine HRn.out.mono ?_); rintro e w11 ⟨v11, rfl, hS11⟩)
          replace hS11 : NS w10 w11 v11 z.ms := hS11
          obtain ⟨A11, c11, rfl⟩ := hS11.slice
          have HS11 := Lib.hid hS11
          obtain ⟨d0, d1, d2, d3, d4, d5, d6, d7⟩ := (HX10.out.below hS11.2).cells
          clear hS11 HRn b0 b1 b2 b3
          go_wp2_with fail
          clear d0 d1 d2 d3 d4 d5 d6 d7
          go_loopg [118, 18] (3) (fun g iv ov wr => PmI N z.ms w10 g iv ov wr)
          case atStart => exact ⟨0, z.ms, by omega, rfl, HS11.out, HMz.out, rfl, fun q => Int.le_refl _⟩
          case round =>
            clear HS11
            obtain ⟨k, X, hkg, rfl, hS, hmx, hmo3⟩ := hrel
            have HK := Lib.hid hkg
            have HMx := Lib.hid hmx
            have HMo := Lib.hid hmo3
            have hk3 : k ≤ 3 := by omega
            have HS := Lib.hid hS
            have HBr := Lib.hid hS.2
            obtain ⟨Ax, cx, rfl⟩ := hS.slice
            have HZx := Lib.hid (show ZIn wr Ax X by obtain ⟨A', c', e, hz, _⟩ := hS.zin; cases e; exact hz)
            have hxl : X.length ≤ 40 := by have := mk_len HMx.out; have := nt_small (mk_nt HMx.out); omega
            obtain ⟨b0, b1, b2, b3⟩ := (HNb10.out.below HBr.out).cells
            obtain ⟨d0, d1, d2, d3, d4, d5, d6, d7⟩ := (HX10.out.below HBr.out).cells
            clear hkg hS hmx hmo3
            by_cases hlt : k < 3
            · have hrn := pRun_any N A n c Ax X.length cx X A2 W2.length c2 (W2.map Int.ofNat) wr (HIn10.out.below HBr.out) HNl.out hn2 HZx.out rfl (by omega) (HZ210.out.below HBr.out) (by rw [List.length_map])
              have HRn := Lib.hid hrn
              clear hrn
              rcases pump_on HMz.out HMx.out HMo.out HPu.out.2.1 HPu.out.2.2.2.1 HPu.out.2.2.2.2.1 with h5 | ⟨h6, h7, h8, h9, h10⟩
              · have HRx := Lib.hid (rv_no HRn.out (by rw [h5]; decide))
                rw [h5] at HRx
                clear h5 HRn
                generalize (run21 N X (W2.map Int.ofNat)).2.1 = ei at *
                go_wp2_with fail
                ((with_reducible refine HRx.out.mono ?_); rintro e w13 ⟨rfl, hb13⟩)
                have HFn := Lib.hid (below_then HB10.out (below_then HBr.out hb13))
                go_wp2_with fail
                go_ret
                exact ⟨rfl, HFn.out⟩
              · have HRx := Lib.hid (rv_yes HRn.out h6)
                have HMy := Lib.hid h7
                have HYl := Lib.hid h8
                have HMoy := Lib.hid h9
                have HLt := Lib.hid h10
                clear h6 h7 h8 h9 h10 HRn
                generalize (run21 N X (W2.map Int.ofNat)).2.1 = ei at *
                generalize (run21 N X (W2.map Int.ofNat)).1 = Y at *
                go_wp2_with fail
                ((with_reducible refine HRx.out.mono ?_); rintro e w13 ⟨v13, rfl, hS13⟩)
                obtain ⟨A13, c13, rfl⟩ := hS13.slice
                have HS13 := Lib.hid (NS.up HBr.out hS13)
                have HZx13 := Lib.hid (HZx.out.below hS13.2)
                have HZy := Lib.hid (show ZIn w13 A13 Y by obtain ⟨A', c', e, hz, _⟩ := hS13.zin; cases e; exact hz)
                obtain ⟨d0, d1, d2, d3, d4, d5, d6, d7⟩ := (HX10.out.below HS13.out.2).cells
                rw [HYl.out]
                have hpx : p < X.length := by have := HMo.out.1; omega
                have hpy : p < Y.length := by rw [HYl.out]; exact hpx
                have hlt2 : X[p] < Y[p] := by have := HLt.out; simpa [hpx, hpy] using this
                obtain ⟨ax, rfl, hpa, r0⟩ := HZx13.out p hpx
                obtain ⟨ay, rfl, hpb, r1⟩ := HZy.out p hpy
                have hpx' : (p : Int) < (X.length : Int) := by omega
                have q7 : decide (Y[p] ≤ X[p]) = false := by simp; omega
                have q8 : ¬ Y[p] ≤ X[p] := by omega
                generalize X[p] = xp at *
                generalize Y[p] = yp at *
                clear hS13 HRx hlt2 b0 b1 b2 b3
                go_wp2_with fail
                have a0 := fun d os => cell_regrown d1 d os
                have a1 := fun d os => cell_regrown r0 d os
                have a2 := fun d os => cell_regrown r1 d os
                refine wp_region_quiet_below (by kernel_rfl) (by kernel_rfl) ?_
                repeat (first | go_big_quiet_step (fail) | quiet_step (fail))
                refine wpQuiet_nil ?_
                intro _ hw'
                obtain ⟨⟨dq, osq⟩, hw''⟩ := hw'
                subst hw''
                have HS14 := Lib.hid (HS13.out.below (below_regrown w13 dq osq))
                clear a0 a1 a2
                go_wp2_with fail
                go_roundg (gk - 1)
                case measure => have := HK.out; omega
                case rel => exact ⟨k + 1, Y, by have := HK.out; omega, by go_num, by have := HS14.out; rwa [HYl.out] at this, HMy.out, HMoy.out⟩
            · have HFn := Lib.hid (below_then HB10.out HBr.out)
              go_wp2_with fail
              go_ret
              exact ⟨rfl, HFn.out⟩
end Go.Proofs.YtjojmmabcjccdaaDoor
