/- VerdictTrue: the walk through the statement. -/
import Derived.Test.YtpnhcimmlnjfaaaDoorUt
import Derived.Test.YtpnhcimmlnjfaaaDoorGk
namespace Go.Proofs.YtpnhcimmlnjfaaaDoor
open Go.Lib (hid)
open Go.RowKit

set_option maxHeartbeats 51200000 in
set_option maxRecDepth 100000 in
theorem verdictTrue_walk (N : Nt) (A : Option Addr) (n c : Nat) (cl cn : Int) (Ar : Option Addr) (nr cr : Nat) (R : List Int) (Ap : Option Addr) (np cp : Nat) (P : List Int) (Ak : Option Addr) (nk ck : Nat) (K : List (List Int)) (Av : Option Addr) (nv cv : Nat) (V : List Mv) (As : Option Addr) (ns cs : Nat) (S : List (List Int)) (Aw : Option Addr) (nw cw : Nat) (X : List (List Int)) (Al : Option Addr) (nl cal : Nat) (l : List Int) (w : World) (ht : Tb w) (h : NtIn w A N) (hn : N.tr.length = n) (hn2 : n ≤ 9223372036854775807) (hC : CfL w Ar nr R Ap np P Ak nk K Av nv V As ns S Aw nw X) (hL : ZIn w Al l) (hl : l.length = nl) :
 Calls Tryd.prog 3 #[.agg #[.int .i64 N.pl, .slice A n c, .int .i64 N.src, .int .i64 N.snk], .agg #[.int .i64 cl, .int .i64 cn, .slice Ar nr cr, .slice Ap np cp, .slice Ak nk ck, .slice Av nv cv, .slice As ns cs, .slice Aw nw cw], .slice Al nl cal] w fun e w' => e = .returned (.bool true) ∧ Below w.heap.size w w' := by
 have HB0 := hid (two_boxes w (.cells #[.int .i64 N.pl, .slice A n c, .int .i64 N.src, .int .i64 N.snk] 24) (.cells #[.int .i64 cl, .int .i64 cn, .slice Ar nr cr, .slice Ap np cp, .slice Ak nk ck, .slice Av nv cv, .slice As ns cs, .slice Aw nw cw] 29))
 have HNb0 := hid ((NB.new w N.pl A n c N.src N.snk).below (below_alloc _ (.cells #[.int .i64 cl, .int .i64 cn, .slice Ar nr cr, .slice Ap np cp, .slice Ak nk ck, .slice Av nv cv, .slice As ns cs, .slice Aw nw cw] 29)))
 have hcb := heap_alloc_new (w.alloc (.cells #[.int .i64 N.pl, .slice A n c, .int .i64 N.src, .int .i64 N.snk] 24)) (.cells #[.int .i64 cl, .int .i64 cn, .slice Ar nr cr, .slice Ap np cp, .slice Ak nk ck, .slice Av nv cv, .slice As ns cs, .slice Aw nw cw] 29)
 rw [World.size_alloc] at hcb
 have HCb0 := hid (show CtB _ (w.heap.size + 1) #[.int .i64 cl, .int .i64 cn, .slice Ar nr cr, .slice Ap np cp, .slice Ak nk ck, .slice Av nv cv, .slice As ns cs, .slice Aw nw cw] from hcb)
 have HIn0 := hid (h.below HB0.out)
 have HC0 := hid (hC.below HB0.out)
 have HL0 := hid (hL.below HB0.out)
 have HT0 := hid (ht.below HB0.out)
 have HNl := hid hn
 have HLl := hid hl
 clear h hn hC hcb ht hL hl
 go_enter Tryd.func3, Tryd.ntmps3
 go_wp2_with fail
 generalize (w.alloc _).alloc _ = w0 at *
 generalize w.heap.size + 1 = cb at *
 have HA := hid (awake_any w0 HT0.out)
 ((with_reducible refine HA.out.mono ?_); rintro e w1 ⟨rfl, hb1⟩)
 clear HA
 have HB1 := hid (HB0.out.trans (hb1.mono HB0.out.size))
 have HNb1 := hid (HNb0.out.below hb1)
 have HCb1 := hid (HCb0.out.below hb1)
 have HIn1 := hid (HIn0.out.below hb1)
 have HC1 := hid (HC0.out.below hb1)
 have HL1 := hid (HL0.out.below hb1)
 have HT1 := hid (HT0.out.below hb1)
 clear HB0 HNb0 HCb0 HIn0 HC0 HL0 HT0 hb1
 obtain ⟨b0, b1, b2, b3⟩ := HNb1.out.cells
 obtain ⟨d0, d1, d2, d3, d4, d5, d6, d7⟩ := HCb1.out.cells
 have HGr := hid (great_any N A n c w1 HIn1.out HNl.out hn2)
 go_wp2_with fail
 ((with_reducible refine HGr.out.mono ?_); rintro e w2 ⟨b, rfl, hbn, hb2⟩)
 clear HGr
 clear b0 b1 b2 b3 d0 d1 d2 d3 d4 d5 d6 d7
 have HB2 := hid (HB1.out.trans (hb2.mono HB1.out.size))
 have HNb2 := hid (HNb1.out.below hb2)
 have HCb2 := hid (HCb1.out.below hb2)
 have HIn2 := hid (HIn1.out.below hb2)
 have HC2 := hid (HC1.out.below hb2)
 have HL2 := hid (HL1.out.below hb2)
 have HT2 := hid (HT1.out.below hb2)
 clear HB1 HNb1 HCb1 HIn1 HC1 HL1 HT1 hb2
 obtain ⟨b0, b1, b2, b3⟩ := HNb2.out.cells
 obtain ⟨d0, d1, d2, d3, d4, d5, d6, d7⟩ := HCb2.out.cells
 cases b with
 | true =>
  go_wp2_with fail
  go_ret
  exact ⟨rfl, HB2.out⟩
 | false =>
 have hn100 : n ≤ 100 := hbn rfl
 clear hbn
 have HG := hid (show Calls Tryd.prog 7 #[.agg #[.int .i64 cl, .int .i64 cn, .slice Ar nr cr, .slice Ap np cp, .slice Ak nk ck, .slice Av nv cv, .slice As ns cs, .slice Aw nw cw], .int .i64 60] w2 _ from great29_any cl cn Ar nr cr R Ap np cp P Ak nk ck K Av nv cv V As ns cs S Aw nw cw X 60 w2 HC2.out (by omega))
 go_wp2_with fail
 ((with_reducible refine HG.out.mono ?_); rintro e w3 ⟨rfl, hb3⟩)
 clear HG
 clear b0 b1 b2 b3 d0 d1 d2 d3 d4 d5 d6 d7
 have HB3 := hid (HB2.out.trans (hb3.mono HB2.out.size))
 have HNb3 := hid (HNb2.out.below hb3)
 have HCb3 := hid (HCb2.out.below hb3)
 have HIn3 := hid (HIn2.out.below hb3)
 have HC3 := hid (HC2.out.below hb3)
 have HL3 := hid (HL2.out.below hb3)
 have HT3 := hid (HT2.out.below hb3)
 clear HB2 HNb2 HCb2 HIn2 HC2 HL2 HT2 hb3
 obtain ⟨b0, b1, b2, b3⟩ := HNb3.out.cells
 obtain ⟨d0, d1, d2, d3, d4, d5, d6, d7⟩ := HCb3.out.cells
 cases hg : grtB 60 R P K V S X with
 | true =>
  clear hg
  go_wp2_with fail
  go_ret
  exact ⟨rfl, HB3.out⟩
 | false =>
 by_cases hl60 : 60 < nl
 · have q1 : decide ((nl : Int) > 60) = true := by simp; omega
   clear hl60 hg
   go_wp2_with fail
   go_ret
   exact ⟨rfl, HB3.out⟩
 have q1 : decide ((nl : Int) > 60) = false := by simp; omega
 have HRv := hid (rvalid_any N A n c w3 HIn3.out HNl.out hn2)
 go_wp2_with fail
 ((with_reducible refine HRv.out.mono ?_); rintro e w4 ⟨rfl, hb4⟩)
 clear HRv
 clear b0 b1 b2 b3 d0 d1 d2 d3 d4 d5 d6 d7
 have HB4 := hid (HB3.out.trans (hb4.mono HB3.out.size))
 have HNb4 := hid (HNb3.out.below hb4)
 have HCb4 := hid (HCb3.out.below hb4)
 have HIn4 := hid (HIn3.out.below hb4)
 have HC4 := hid (HC3.out.below hb4)
 have HL4 := hid (HL3.out.below hb4)
 have HT4 := hid (HT3.out.below hb4)
 clear HB3 HNb3 HCb3 HIn3 HC3 HL3 HT3 hb4
 obtain ⟨b0, b1, b2, b3⟩ := HNb4.out.cells
 obtain ⟨d0, d1, d2, d3, d4, d5, d6, d7⟩ := HCb4.out.cells
 cases hv : ntB N with
 | false =>
  clear hv hg
  go_wp2_with fail
  go_ret
  exact ⟨rfl, HB4.out⟩
 | true =>
 obtain ⟨g1, g2, g3, g4, g5, g6, _, g8, _⟩ := grt_no hg
 have HM := hid (HC4.out.m (by rw [← HC4.out.rl]; omega) (by rw [← HC4.out.pl]; omega) (by rw [← HC4.out.kl]; omega) (by rw [← HC4.out.vl]; omega) (by rw [← HC4.out.sl]; omega) (by rw [← HC4.out.xl]; omega))
 have HI6 := hid g8
 clear g1 g2 g3 g4 g5 g6 g8 hg
 have HV := hid hv
 clear hv
 have HK0 := hid (vcheck_any N A n c cl cn Ar nr cr R Ap np cp P Ak nk ck K Av nv cv V As ns cs S Aw nw cw X w4 HT4.out HIn4.out HNl.out (by omega) HM.out (fun I hI ni hni => by have := HI6.out I hI; omega))
 go_wp2_with fail
 ((with_reducible refine HK0.out.mono ?_); rintro e w5 ⟨⟨qa, rfl, hqa⟩, hb5⟩)
 clear HK0
 have HM5 := hid (HM.out.below hb5)
 clear HM
 clear b0 b1 b2 b3 d0 d1 d2 d3 d4 d5 d6 d7
 have HB5 := hid (HB4.out.trans (hb5.mono HB4.out.size))
 have HNb5 := hid (HNb4.out.below hb5)
 have HCb5 := hid (HCb4.out.below hb5)
 have HIn5 := hid (HIn4.out.below hb5)
 have HC5 := hid (HC4.out.below hb5)
 have HL5 := hid (HL4.out.below hb5)
 have HT5 := hid (HT4.out.below hb5)
 clear HB4 HNb4 HCb4 HIn4 HC4 HL4 HT4 hb5
 obtain ⟨b0, b1, b2, b3⟩ := HNb5.out.cells
 obtain ⟨d0, d1, d2, d3, d4, d5, d6, d7⟩ := HCb5.out.cells
 cases qa with
 | false =>
  clear hqa
  go_wp2_with fail
  go_ret
  exact ⟨rfl, HB5.out⟩
 | true =>
 have HChk := hid (hqa.1 (by trivial))
 clear hqa
 go_wp2_with fail
 have HO5 := hid (src29_any N A n c HV.out w5)
 ((with_reducible refine HO5.out.mono ?_); rintro e w6 ⟨v6, rfl, hS6⟩)
 obtain ⟨A6, c6, rfl⟩ := hS6.slice
 have hb6 := hS6.2
 have HM6 := hid (HM5.out.below hb6)
 clear HO5 HM5
 have HZ6 := hid (show ZIn w6 A6 (iniM N) by obtain ⟨A', c', e, hz, _⟩ := hS6.zin; cases e; exact hz)
 clear hS6
 clear b0 b1 b2 b3 d0 d1 d2 d3 d4 d5 d6 d7
 have HB6 := hid (HB5.out.trans (hb6.mono HB5.out.size))
 have HNb6 := hid (HNb5.out.below hb6)
 have HCb6 := hid (HCb5.out.below hb6)
 have HIn6 := hid (HIn5.out.below hb6)
 have HC6 := hid (HC5.out.below hb6)
 have HL6 := hid (HL5.out.below hb6)
 have HT6 := hid (HT5.out.below hb6)
 clear HB5 HNb5 HCb5 HIn5 HC5 HL5 HT5 hb6
 have HTm0 := hid (tru_start HChk.out)
 have hmb : w6.heap.size ≤ w6.heap.size := Nat.le_refl _
 go_wp2_with fail
 have HMb0 := hid (show MB (w6.alloc (.cells #[.slice A6 (iniM N).length c6] 25)) (w6.heap.size) A6 (iniM N).length c6 (iniM N) from ⟨heap_alloc_new w6 _, HZ6.out.below (below_alloc w6 _), rfl⟩)
 have HBl0 := hid (below_alloc w6 (.cells #[.slice A6 (iniM N).length c6] 25))
 obtain ⟨sk, hsk⟩ := Int.eq_ofNat_of_zero_le (nt_src HV.out).2.2.1
 have HSk := hid hsk
 clear hsk
 go_loopg [8] (nl) (fun g iv wr => ∃ (k : Nat) (M : List Int) (Am : Option Addr) (cm : Nat), k + g = nl ∧ iv = .int .i64 (k : Int) ∧ MB wr (w6.heap.size) Am M.length cm M ∧ Below w6.heap.size w6 wr ∧ TruM N cl K M)
 case atStart => exact ⟨0, iniM N, A6, c6, by omega, rfl, HMb0.out, HBl0.out, HTm0.out⟩
 case round =>
  clear HMb0 HBl0 HZ6 HTm0
  obtain ⟨k, M, Am, cm, hk, rfl, hMb, hB, hTm⟩ := hrel
  have HK := hid hk
  have HMb20 := hid hMb
  have HBl20 := hid hB
  have HTm := hid hTm
  have HMk := hid hTm.2.1
  have HMl := hid (show M.length ≤ 1000 by have := mk_len hTm.2.1; have := nt_small HV.out; omega)
  have hle : k ≤ nl := by omega
  clear hk hMb hB hTm
  obtain ⟨w20, rfl⟩ : ∃ w20, w20 = wr := ⟨_, rfl⟩
  have HNb20 := hid (HNb6.out.below HBl20.out)
  have HCb20 := hid (HCb6.out.below HBl20.out)
  have HIn20 := hid (HIn6.out.below HBl20.out)
  have HTp := hid (tru_of HChk.out HTm.out)
  obtain ⟨h1c, h8c⟩ := tru_cl HChk.out
  obtain ⟨lb, hlb⟩ : ∃ lb, lb = K.any (isL M) := ⟨_, rfl⟩
  have HLc := hid (lcont_vt Ak nk ck K w20 (HM6.out.k.below HBl20.out) HM6.out.kl HM6.out.kb (w6.heap.size) Am M.length cm M (by have := HMl.out; omega) HMb20.out)
  rw [← hlb] at HLc
  have HLt := hid (fun (h : M ∈ K) => show lb = true by rw [hlb]; exact List.any_eq_true.2 ⟨M, h, by simp [isL]⟩)
  clear hlb
  obtain ⟨b0, b1, b2, b3⟩ := HNb20.out.cells
  obtain ⟨d0, d1, d2, d3, d4, d5, d6, d7⟩ := HCb20.out.cells
  go_wp2_with fail
  ((with_reducible refine HLc.out.mono ?_); rintro e w21 ⟨rfl, hb21⟩)
  have HNb21 := hid (HNb20.out.below hb21)
  have HCb21 := hid (HCb20.out.below hb21)
  have HIn21 := hid (HIn20.out.below hb21)
  have HMb21 := hid (HMb20.out.below hb21)
  have HBl21 := hid (HBl20.out.trans (hb21.mono HBl20.out.size))
  clear HLc hb21
  clear HNb20 HCb20 HIn20 HMb20 HBl20
  clear b0 b1 b2 b3 d0 d1 d2 d3 d4 d5 d6 d7
  have hcase : cl = 1 ∨ cl = 5 ∨ cl = 7 ∨ cl = 2 ∨ cl = 3 ∨ cl = 4 ∨ cl = 6 ∨ cl = 8 := by omega
  clear h1c h8c
  rcases hcase with hc | hc | hc | hc | hc | hc | hc | hc
  · skip
    have p1 : (cl == 1) = true := by rw [beq_iff_eq]; exact hc
    have hT1 := HTp.out.1 hc
    have hlb := HLt.out hT1.1
    subst hlb
    clear HLt
    have HFl := hid (show (finM N).length ≤ 1000 by have : ((finM N).length : Int) = N.pl := mk_len (one_mk HV.out N.snk.toNat); have := nt_small HV.out; omega)
    clear hc HTp
    obtain ⟨b0, b1, b2, b3⟩ := HNb21.out.cells
    obtain ⟨d0, d1, d2, d3, d4, d5, d6, d7⟩ := HCb21.out.cells
    go_wp2_with fail
    clear b0 b1 b2 b3 d0 d1 d2 d3 d4 d5 d6 d7
    have hskM : sk < M.length := by have := mk_len HMk.out; have := nt_src HV.out; have := HSk.out; omega
    obtain ⟨ms, hms⟩ : ∃ ms, ms = M[sk] := ⟨_, rfl⟩
    replace hms := hms.symm
    have hgt : M.getD N.snk.toNat 0 = ms := by rw [HSk.out, ← hms]; simp [hskM]
    by_cases hpos : 0 < ms
    · have hfin : M = finM N := Classical.byContradiction fun h => by have h9 := (hT1.2 h).1; rw [hgt] at h9; omega
      have HFt := hid (show decide (M = finM N) = true from decide_eq_true hfin)
      have q2 : decide (ms > 0) = true := by simpa using hpos
      clear hT1 hgt hfin hpos
      obtain ⟨b0, b1, b2, b3⟩ := HNb21.out.cells
      obtain ⟨d0, d1, d2, d3, d4, d5, d6, d7⟩ := HCb21.out.cells
      have m0 : w21.cell? ⟨(w6.heap.size), 0, none⟩ = some (.slice Am M.length cm) := by have := HMb21.out.1; simp [World.cell?, this]
      rw [HSk.out] at b3
      obtain ⟨am, ham, _, y1⟩ := (show ZIn w21 Am M from HMb21.out.2.1) sk hskM
      subst ham
      rw [hms] at y1
      clear d0 d1 d2 d3 d4 d5 d6 d7
      have hbd : Below w21.heap.size w21 w21.drew := (Below.refl _ _).drew
      have HNb22 := hid (HNb21.out.below hbd)
      have HCb22 := hid (HCb21.out.below hbd)
      have HIn22 := hid (HIn21.out.below hbd)
      have HMb22 := hid (HMb21.out.below hbd)
      have HBl22 := hid (HBl21.out.trans (hbd.mono HBl21.out.size))
      have hS0 := And.intro (cell_stays hbd b0) (And.intro (cell_stays hbd b1) (And.intro (cell_stays hbd b2) (And.intro (cell_stays hbd b3) (And.intro (cell_stays hbd m0) ((cell_stays hbd y1))))))
      refine wp_region_held_drew (S := fun w' => w'.cell? ⟨w.heap.size, 0, none⟩ = some (.int .i64 N.pl) ∧ w'.cell? ⟨w.heap.size, 1, none⟩ = some (.slice A n c) ∧ w'.cell? ⟨w.heap.size, 2, none⟩ = some (.int .i64 N.src) ∧ w'.cell? ⟨w.heap.size, 3, none⟩ = some (.int .i64 (sk : Int)) ∧ w'.cell? ⟨(w6.heap.size), 0, none⟩ = some (.slice (some am) M.length cm) ∧ w'.cell? (am.add sk) = some (.int .i64 ms)) (by kernel_rfl) hS0 (fun hHeld => ?_)
      clear hS0 hbd b0 b1 b2 b3 m0 y1
      clear HNb21 HCb21 HIn21 HMb21 HBl21
      generalize w21.drew = w22 at *
      refine tkH 0 ?_; try go_simp
      refine tkH 1 ?_; try go_simp
      refine tkH 2 ?_; try go_simp
      refine tkH 3 ?_; try go_simp
      refine tkH 4 ?_; try go_simp
      refine tkH 5 ?_; try go_simp
      refine tkH 6 ?_; try go_simp
      refine tkH 7 ?_; try go_simp
      refine tkH 8 ?_; try go_simp
      refine tkH 9 ?_; try go_simp
      refine tkH 10 ?_; try go_simp
      refine tkH 11 ?_; try go_simp
      refine tkH 12 ?_; try go_simp
      refine tkH 13 ?_; try go_simp
      refine tkR 14 (fun K9 hK => ?_)
      go_simp
      rw [← HSk.out]
      ((refine (snk29_any N A n c HV.out w22).mono ?_); rintro e w23 ⟨v23, rfl, hS23⟩)
      obtain ⟨A23, c23, rfl⟩ := hS23.slice
      have hb23 := hS23.2
      have hS9 := hHeld
      refine hK.out _ _ ⟨cell_stays hb23 hS9.1, cell_stays hb23 hS9.2.1, cell_stays hb23 hS9.2.2.1, cell_stays hb23 hS9.2.2.2.1, cell_stays hb23 hS9.2.2.2.2.1, cell_stays hb23 hS9.2.2.2.2.2⟩ (fun hHeld => ?_)
      clear hK K9 hS9
      try go_simp
      have HNb23 := hid (HNb22.out.below hb23)
      have HCb23 := hid (HCb22.out.below hb23)
      have HIn23 := hid (HIn22.out.below hb23)
      have HMb23 := hid (HMb22.out.below hb23)
      have HBl23 := hid (HBl22.out.trans (hb23.mono HBl22.out.size))
      clear HNb22 HCb22 HIn22 HMb22 HBl22
      have HF23 := hid (show ZIn w23 A23 (finM N) by obtain ⟨A', c', e, hz, _⟩ := hS23.zin; cases e; exact hz)
      clear hS23 hb23
      refine tkR 15 (fun K9 hK => ?_)
      go_simp
      have HEq := hid (equal_any (some am) M.length cm A23 (finM N).length c23 M (finM N) w23 HMb23.out.2.1 rfl HF23.out rfl (by have := HMl.out; omega) (by have := HFl.out; omega))
      rw [HFt.out] at HEq
      ((refine (HEq.out).mono ?_); rintro e w24 ⟨rfl, hb24⟩)
      have hS9 := hHeld
      refine hK.out _ _ ⟨cell_stays hb24 hS9.1, cell_stays hb24 hS9.2.1, cell_stays hb24 hS9.2.2.1, cell_stays hb24 hS9.2.2.2.1, cell_stays hb24 hS9.2.2.2.2.1, cell_stays hb24 hS9.2.2.2.2.2⟩ (fun hHeld => ?_)
      clear hK K9 hS9
      try go_simp
      have HNb24 := hid (HNb23.out.below hb24)
      have HCb24 := hid (HCb23.out.below hb24)
      have HIn24 := hid (HIn23.out.below hb24)
      have HMb24 := hid (HMb23.out.below hb24)
      have HBl24 := hid (HBl23.out.trans (hb24.mono HBl23.out.size))
      clear HNb23 HCb23 HIn23 HMb23 HBl23
      clear HEq HF23
      clear hb24
      refine tkH 16 ?_; try go_simp
      refine tkH 17 ?_; try go_simp
      refine tkH 18 ?_; try go_simp
      refine wpAnyH_done (by kernel_rfl) ?_ _
      clear hHeld
      clear hms q2
      go_wp2_with fail
      obtain ⟨b0, b1, b2, b3⟩ := HNb24.out.cells
      obtain ⟨d0, d1, d2, d3, d4, d5, d6, d7⟩ := HCb24.out.cells
      have m0 : w24.cell? ⟨(w6.heap.size), 0, none⟩ = some (.slice (some am) M.length cm) := by have := HMb24.out.1; simp [World.cell?, this]
      rw [HSk.out] at b3
      clear d0 d1 d2 d3 d4 d5 d6 d7
      have hbd : Below w24.heap.size w24 w24.drew := (Below.refl _ _).drew
      have HNb25 := hid (HNb24.out.below hbd)
      have HCb25 := hid (HCb24.out.below hbd)
      have HIn25 := hid (HIn24.out.below hbd)
      have HMb25 := hid (HMb24.out.below hbd)
      have HBl25 := hid (HBl24.out.trans (hbd.mono HBl24.out.size))
      have hS0 := And.intro (cell_stays hbd b0) (And.intro (cell_stays hbd b1) (And.intro (cell_stays hbd b2) (And.intro (cell_stays hbd b3) ((cell_stays hbd m0)))))
      refine wp_region_held_drew (S := fun w' => w'.cell? ⟨w.heap.size, 0, none⟩ = some (.int .i64 N.pl) ∧ w'.cell? ⟨w.heap.size, 1, none⟩ = some (.slice A n c) ∧ w'.cell? ⟨w.heap.size, 2, none⟩ = some (.int .i64 N.src) ∧ w'.cell? ⟨w.heap.size, 3, none⟩ = some (.int .i64 (sk : Int)) ∧ w'.cell? ⟨(w6.heap.size), 0, none⟩ = some (.slice (some am) M.length cm)) (by kernel_rfl) hS0 (fun hHeld => ?_)
      clear hS0 hbd b0 b1 b2 b3 m0
      clear HNb24 HCb24 HIn24 HMb24 HBl24
      generalize w24.drew = w25 at *
      refine tkH 0 ?_; try go_simp
      refine tkH 1 ?_; try go_simp
      refine tkH 2 ?_; try go_simp
      refine tkH 3 ?_; try go_simp
      refine tkR 4 (fun K9 hK => ?_)
      go_simp
      rw [← HSk.out]
      ((refine (snk29_any N A n c HV.out w25).mono ?_); rintro e w26 ⟨v26, rfl, hS26⟩)
      obtain ⟨A26, c26, rfl⟩ := hS26.slice
      have hb26 := hS26.2
      have hS9 := hHeld
      refine hK.out _ _ ⟨cell_stays hb26 hS9.1, cell_stays hb26 hS9.2.1, cell_stays hb26 hS9.2.2.1, cell_stays hb26 hS9.2.2.2.1, cell_stays hb26 hS9.2.2.2.2⟩ (fun hHeld => ?_)
      clear hK K9 hS9
      try go_simp
      have HNb26 := hid (HNb25.out.below hb26)
      have HCb26 := hid (HCb25.out.below hb26)
      have HIn26 := hid (HIn25.out.below hb26)
      have HMb26 := hid (HMb25.out.below hb26)
      have HBl26 := hid (HBl25.out.trans (hb26.mono HBl25.out.size))
      clear HNb25 HCb25 HIn25 HMb25 HBl25
      have HF26 := hid (show ZIn w26 A26 (finM N) by obtain ⟨A', c', e, hz, _⟩ := hS26.zin; cases e; exact hz)
      clear hS26 hb26
      refine tkR 5 (fun K9 hK => ?_)
      go_simp
      have HEq := hid (equal_any (some am) M.length cm A26 (finM N).length c26 M (finM N) w26 HMb26.out.2.1 rfl HF26.out rfl (by have := HMl.out; omega) (by have := HFl.out; omega))
      rw [HFt.out] at HEq
      ((refine (HEq.out).mono ?_); rintro e w27 ⟨rfl, hb27⟩)
      have hS9 := hHeld
      refine hK.out _ _ ⟨cell_stays hb27 hS9.1, cell_stays hb27 hS9.2.1, cell_stays hb27 hS9.2.2.1, cell_stays hb27 hS9.2.2.2.1, cell_stays hb27 hS9.2.2.2.2⟩ (fun hHeld => ?_)
      clear hK K9 hS9
      try go_simp
      have HNb27 := hid (HNb26.out.below hb27)
      have HCb27 := hid (HCb26.out.below hb27)
      have HIn27 := hid (HIn26.out.below hb27)
      have HMb27 := hid (HMb26.out.below hb27)
      have HBl27 := hid (HBl26.out.trans (hb27.mono HBl26.out.size))
      clear HNb26 HCb26 HIn26 HMb26 HBl26
      clear HEq HF26
      clear hb27
      refine tkH 6 ?_; try go_simp
      refine tkH 7 ?_; try go_simp
      refine tkU 8 ?_; try go_simp
      refine tkU 9 ?_; try go_simp
      refine tkU 10 ?_; try go_simp
      refine tkU 11 ?_; try go_simp
      refine tkU 12 ?_; try go_simp
      refine tkH 13 ?_; try go_simp
      refine wpAnyH_done (by kernel_rfl) ?_ _
      clear hHeld
      clear hskM
      by_cases hlt : k < nl
      · have hlt' : k < l.length := by rw [HLl.out]; exact hlt
        have q9 : ((k : Int) == (nl : Int)) = false := by rw [beq_eq_false_iff_ne]; omega
        obtain ⟨tx, htx⟩ : ∃ tx, tx = l[k] := ⟨_, rfl⟩
        replace htx := htx.symm
        go_wp2_with fail
        obtain ⟨b0, b1, b2, b3⟩ := HNb27.out.cells
        obtain ⟨d0, d1, d2, d3, d4, d5, d6, d7⟩ := HCb27.out.cells
        have m0 : w27.cell? ⟨(w6.heap.size), 0, none⟩ = some (.slice (some am) M.length cm) := by have := HMb27.out.1; simp [World.cell?, this]
        obtain ⟨al, rfl, hpa, q0⟩ := (show ZIn w27 Al l from HL6.out.below HBl27.out) k hlt'
        clear hpa d0 d1 d2 d3 d4 d5 d6 d7
        rw [htx] at q0
        have hfi := fun w1 (hw : Below w27.heap.size w27 w1) => r21fire_any N A n c (some am) M.length cm M tx w1 (HIn27.out.below hw) HNl.out hn2 (HMb27.out.2.1.below hw) rfl (by have := HMl.out; omega)
        rw [show fire21 N M tx = fireV N M tx by unfold fire21; rw [HMk.out]; rfl] at hfi
        have HFi0 := hid hfi
        clear hfi htx hlt'
        by_cases h0 : (fireV N M tx).2 = 0
        · skip
          have hbd : Below w27.heap.size w27 w27.drew := (Below.refl _ _).drew
          have HNb28 := hid (HNb27.out.below hbd)
          have HCb28 := hid (HCb27.out.below hbd)
          have HIn28 := hid (HIn27.out.below hbd)
          have HMb28 := hid (HMb27.out.below hbd)
          have HBl28 := hid (HBl27.out.trans (hbd.mono HBl27.out.size))
          have hS0 := And.intro (cell_stays hbd b0) (And.intro (cell_stays hbd b1) (And.intro (cell_stays hbd b2) (And.intro (cell_stays hbd b3) (And.intro (cell_stays hbd m0) ((cell_stays hbd q0))))))
          refine wp_region_held_drew (S := fun w' => w'.cell? ⟨w.heap.size, 0, none⟩ = some (.int .i64 N.pl) ∧ w'.cell? ⟨w.heap.size, 1, none⟩ = some (.slice A n c) ∧ w'.cell? ⟨w.heap.size, 2, none⟩ = some (.int .i64 N.src) ∧ w'.cell? ⟨w.heap.size, 3, none⟩ = some (.int .i64 N.snk) ∧ w'.cell? ⟨(w6.heap.size), 0, none⟩ = some (.slice (some am) M.length cm) ∧ w'.cell? (al.add k) = some (.int .i64 tx)) (by kernel_rfl) hS0 (fun hHeld => ?_)
          have HFi1 := hid (HFi0.out _ hbd)
          clear HFi0 hS0 hbd b0 b1 b2 b3 m0 q0
          clear HNb27 HCb27 HIn27 HMb27 HBl27
          generalize w27.drew = w28 at *
          have HTn := hid (tru_step HChk.out HTm.out h0)
          refine tkH 0 ?_; try go_simp
          refine tkH 1 ?_; try go_simp
          refine tkH 2 ?_; try go_simp
          refine tkH 3 ?_; try go_simp
          refine tkH 4 ?_; try go_simp
          refine tkH 5 ?_; try go_simp
          refine tkR 6 (fun K9 hK => ?_)
          go_simp
          ((refine (fv_yes HFi1.out h0).mono ?_); rintro e w29 ⟨v29, rfl, hS29⟩)
          obtain ⟨A29, c29, rfl⟩ := hS29.slice
          have hb29 := hS29.2
          have hS9 := hHeld
          refine hK.out _ _ ⟨cell_stays hb29 hS9.1, cell_stays hb29 hS9.2.1, cell_stays hb29 hS9.2.2.1, cell_stays hb29 hS9.2.2.2.1, cell_stays hb29 hS9.2.2.2.2.1, cell_stays hb29 hS9.2.2.2.2.2⟩ (fun hHeld => ?_)
          clear hK K9 hS9
          try go_simp
          have HNb29 := hid (HNb28.out.below hb29)
          have HCb29 := hid (HCb28.out.below hb29)
          have HIn29 := hid (HIn28.out.below hb29)
          have HMb29 := hid (HMb28.out.below hb29)
          have HBl29 := hid (HBl28.out.trans (hb29.mono HBl28.out.size))
          have HBp := hid HBl28.out
          clear HNb28 HCb28 HIn28 HMb28 HBl28
          have HS29 := hid hS29
          clear hS29 hb29
          refine tkH 7 ?_; try go_simp
          refine tkH 8 ?_; try go_simp
          refine tkH 9 ?_; try go_simp
          refine tkH 10 ?_; try go_simp
          refine tkH 11 ?_; try go_simp
          refine wpAnyH_done (by kernel_rfl) ?_ _
          clear hHeld
          clear HFi1 h0
          generalize (fireV N M tx).1 = Y at *
          have HMt := hid (show w29.heap[(w6.heap.size)]? = some (.cells #[.slice (some am) M.length cm] 25 (0, 0)) from HMb29.out.1)
          have HSu := hid (NS.up HBp.out HS29.out)
          have hset : w29.grownBy (w29.setCell ⟨(w6.heap.size), 0, none⟩ (.slice A29 Y.length c29)) (some (w6.heap.size)) := Lib.grownBy_setB (grown_refl w29 (some (w6.heap.size))) 0 _
          have HSv := hid (HSu.out.kept hset (own_other HSu.out.1 HMt.out (by decide)) (fun k hk => by cases hk; exact hmb))
          have HMv := hid (show MB (w29.setCell ⟨(w6.heap.size), 0, none⟩ (.slice A29 Y.length c29)) (w6.heap.size) A29 Y.length c29 Y from ⟨by rw [heap_set2 HMt.out]; rfl, by obtain ⟨A', c', e, hz, _⟩ := HSv.out.zin; cases e; exact hz, rfl⟩)
          have t0 : w29.cell? ⟨(w6.heap.size), 0, none⟩ = some (.slice (some am) M.length cm) := by have := HMt.out; simp [World.cell?, this]
          have tf : w29.frozen? ⟨(w6.heap.size), 0, none⟩ = false := by have := HMt.out; simp [World.frozen?, this]
          clear hset
          go_wp2_with fail
          go_roundg (gk - 1)
          case measure => have := HK.out; omega
          case rel => exact ⟨k + 1, Y, A29, c29, by have := HK.out; omega, by go_num, HMv.out, HSv.out.2, HTn.out⟩
        · skip
          have hbd : Below w27.heap.size w27 w27.drew := (Below.refl _ _).drew
          have HNb28 := hid (HNb27.out.below hbd)
          have HCb28 := hid (HCb27.out.below hbd)
          have HIn28 := hid (HIn27.out.below hbd)
          have HMb28 := hid (HMb27.out.below hbd)
          have HBl28 := hid (HBl27.out.trans (hbd.mono HBl27.out.size))
          have hS0 := And.intro (cell_stays hbd b0) (And.intro (cell_stays hbd b1) (And.intro (cell_stays hbd b2) (And.intro (cell_stays hbd b3) (And.intro (cell_stays hbd m0) ((cell_stays hbd q0))))))
          refine wp_region_held_drew (S := fun w' => w'.cell? ⟨w.heap.size, 0, none⟩ = some (.int .i64 N.pl) ∧ w'.cell? ⟨w.heap.size, 1, none⟩ = some (.slice A n c) ∧ w'.cell? ⟨w.heap.size, 2, none⟩ = some (.int .i64 N.src) ∧ w'.cell? ⟨w.heap.size, 3, none⟩ = some (.int .i64 N.snk) ∧ w'.cell? ⟨(w6.heap.size), 0, none⟩ = some (.slice (some am) M.length cm) ∧ w'.cell? (al.add k) = some (.int .i64 tx)) (by kernel_rfl) hS0 (fun hHeld => ?_)
          have HFi1 := hid (HFi0.out _ hbd)
          clear HFi0 hS0 hbd b0 b1 b2 b3 m0 q0
          clear HNb27 HCb27 HIn27 HMb27 HBl27
          generalize w27.drew = w28 at *
          refine tkH 0 ?_; try go_simp
          refine tkH 1 ?_; try go_simp
          refine tkH 2 ?_; try go_simp
          refine tkH 3 ?_; try go_simp
          refine tkH 4 ?_; try go_simp
          refine tkH 5 ?_; try go_simp
          refine tkR 6 (fun K9 hK => ?_)
          go_simp
          ((refine (fv_no HFi1.out h0).mono ?_); rintro e w29 ⟨rfl, hb29⟩)
          have hS9 := hHeld
          refine hK.out _ _ ⟨cell_stays hb29 hS9.1, cell_stays hb29 hS9.2.1, cell_stays hb29 hS9.2.2.1, cell_stays hb29 hS9.2.2.2.1, cell_stays hb29 hS9.2.2.2.2.1, cell_stays hb29 hS9.2.2.2.2.2⟩ (fun hHeld => ?_)
          clear hK K9 hS9
          try go_simp
          have HNb29 := hid (HNb28.out.below hb29)
          have HCb29 := hid (HCb28.out.below hb29)
          have HIn29 := hid (HIn28.out.below hb29)
          have HMb29 := hid (HMb28.out.below hb29)
          have HBl29 := hid (HBl28.out.trans (hb29.mono HBl28.out.size))
          clear HNb28 HCb28 HIn28 HMb28 HBl28
          clear hb29
          refine tkH 7 ?_; try go_simp
          refine tkH 8 ?_; try go_simp
          refine tkH 9 ?_; try go_simp
          refine tkH 10 ?_; try go_simp
          refine tkH 11 ?_; try go_simp
          refine wpAnyH_done (by kernel_rfl) ?_ _
          clear hHeld
          have q1 : ((fireV N M tx).2 != 0) = true := by rw [bne_iff_ne]; exact h0
          clear HFi1 h0
          generalize (fireV N M tx).2 = er at *
          go_wp2_with fail
          go_ret
          exact ⟨rfl, below_then HB6.out HBl29.out⟩
      · have q9 : ((k : Int) == (nl : Int)) = true := by rw [beq_iff_eq]; have := HK.out; omega
        go_wp2_with fail
        go_ret
        exact ⟨rfl, below_then HB6.out HBl27.out⟩
    · have q2 : decide (ms > 0) = false := by simpa using hpos
      clear hgt hpos
      obtain ⟨b0, b1, b2, b3⟩ := HNb21.out.cells
      obtain ⟨d0, d1, d2, d3, d4, d5, d6, d7⟩ := HCb21.out.cells
      have m0 : w21.cell? ⟨(w6.heap.size), 0, none⟩ = some (.slice Am M.length cm) := by have := HMb21.out.1; simp [World.cell?, this]
      rw [HSk.out] at b3
      obtain ⟨am, ham, _, y1⟩ := (show ZIn w21 Am M from HMb21.out.2.1) sk hskM
      subst ham
      rw [hms] at y1
      clear d0 d1 d2 d3 d4 d5 d6 d7
      have hbd : Below w21.heap.size w21 w21.drew := (Below.refl _ _).drew
      have HNb22 := hid (HNb21.out.below hbd)
      have HCb22 := hid (HCb21.out.below hbd)
      have HIn22 := hid (HIn21.out.below hbd)
      have HMb22 := hid (HMb21.out.below hbd)
      have HBl22 := hid (HBl21.out.trans (hbd.mono HBl21.out.size))
      have hS0 := And.intro (cell_stays hbd b0) (And.intro (cell_stays hbd b1) (And.intro (cell_stays hbd b2) (And.intro (cell_stays hbd b3) (And.intro (cell_stays hbd m0) ((cell_stays hbd y1))))))
      refine wp_region_held_drew (S := fun w' => w'.cell? ⟨w.heap.size, 0, none⟩ = some (.int .i64 N.pl) ∧ w'.cell? ⟨w.heap.size, 1, none⟩ = some (.slice A n c) ∧ w'.cell? ⟨w.heap.size, 2, none⟩ = some (.int .i64 N.src) ∧ w'.cell? ⟨w.heap.size, 3, none⟩ = some (.int .i64 (sk : Int)) ∧ w'.cell? ⟨(w6.heap.size), 0, none⟩ = some (.slice (some am) M.length cm) ∧ w'.cell? (am.add sk) = some (.int .i64 ms)) (by kernel_rfl) hS0 (fun hHeld => ?_)
      clear hS0 hbd b0 b1 b2 b3 m0 y1
      clear HNb21 HCb21 HIn21 HMb21 HBl21
      generalize w21.drew = w22 at *
      refine tkH 0 ?_; try go_simp
      refine tkH 1 ?_; try go_simp
      refine tkH 2 ?_; try go_simp
      refine tkH 3 ?_; try go_simp
      refine tkH 4 ?_; try go_simp
      refine tkH 5 ?_; try go_simp
      refine tkH 6 ?_; try go_simp
      refine tkH 7 ?_; try go_simp
      refine tkH 8 ?_; try go_simp
      refine tkH 9 ?_; try go_simp
      refine tkU 10 ?_; try go_simp
      refine tkU 11 ?_; try go_simp
      refine tkU 12 ?_; try go_simp
      refine tkU 13 ?_; try go_simp
      refine tkU 14 ?_; try go_simp
      refine tkU 15 ?_; try go_simp
      refine tkU 16 ?_; try go_simp
      refine tkH 17 ?_; try go_simp
      refine tkH 18 ?_; try go_simp
      refine wpAnyH_done (by kernel_rfl) ?_ _
      clear hHeld
      clear hms q2
      by_cases hfin : M = finM N
      · have HFt := hid (show decide (M = finM N) = true from decide_eq_true hfin)
        clear hT1 hfin
        go_wp2_with fail
        obtain ⟨b0, b1, b2, b3⟩ := HNb22.out.cells
        obtain ⟨d0, d1, d2, d3, d4, d5, d6, d7⟩ := HCb22.out.cells
        have m0 : w22.cell? ⟨(w6.heap.size), 0, none⟩ = some (.slice (some am) M.length cm) := by have := HMb22.out.1; simp [World.cell?, this]
        rw [HSk.out] at b3
        clear d0 d1 d2 d3 d4 d5 d6 d7
        have hbd : Below w22.heap.size w22 w22.drew := (Below.refl _ _).drew
        have HNb23 := hid (HNb22.out.below hbd)
        have HCb23 := hid (HCb22.out.below hbd)
        have HIn23 := hid (HIn22.out.below hbd)
        have HMb23 := hid (HMb22.out.below hbd)
        have HBl23 := hid (HBl22.out.trans (hbd.mono HBl22.out.size))
        have hS0 := And.intro (cell_stays hbd b0) (And.intro (cell_stays hbd b1) (And.intro (cell_stays hbd b2) (And.intro (cell_stays hbd b3) ((cell_stays hbd m0)))))
        refine wp_region_held_drew (S := fun w' => w'.cell? ⟨w.heap.size, 0, none⟩ = some (.int .i64 N.pl) ∧ w'.cell? ⟨w.heap.size, 1, none⟩ = some (.slice A n c) ∧ w'.cell? ⟨w.heap.size, 2, none⟩ = some (.int .i64 N.src) ∧ w'.cell? ⟨w.heap.size, 3, none⟩ = some (.int .i64 (sk : Int)) ∧ w'.cell? ⟨(w6.heap.size), 0, none⟩ = some (.slice (some am) M.length cm)) (by kernel_rfl) hS0 (fun hHeld => ?_)
        clear hS0 hbd b0 b1 b2 b3 m0
        clear HNb22 HCb22 HIn22 HMb22 HBl22
        generalize w22.drew = w23 at *
        refine tkH 0 ?_; try go_simp
        refine tkH 1 ?_; try go_simp
        refine tkH 2 ?_; try go_simp
        refine tkH 3 ?_; try go_simp
        refine tkR 4 (fun K9 hK => ?_)
        go_simp
        rw [← HSk.out]
        ((refine (snk29_any N A n c HV.out w23).mono ?_); rintro e w24 ⟨v24, rfl, hS24⟩)
        obtain ⟨A24, c24, rfl⟩ := hS24.slice
        have hb24 := hS24.2
        have hS9 := hHeld
        refine hK.out _ _ ⟨cell_stays hb24 hS9.1, cell_stays hb24 hS9.2.1, cell_stays hb24 hS9.2.2.1, cell_stays hb24 hS9.2.2.2.1, cell_stays hb24 hS9.2.2.2.2⟩ (fun hHeld => ?_)
        clear hK K9 hS9
        try go_simp
        have HNb24 := hid (HNb23.out.below hb24)
        have HCb24 := hid (HCb23.out.below hb24)
        have HIn24 := hid (HIn23.out.below hb24)
        have HMb24 := hid (HMb23.out.below hb24)
        have HBl24 := hid (HBl23.out.trans (hb24.mono HBl23.out.size))
        clear HNb23 HCb23 HIn23 HMb23 HBl23
        have HF24 := hid (show ZIn w24 A24 (finM N) by obtain ⟨A', c', e, hz, _⟩ := hS24.zin; cases e; exact hz)
        clear hS24 hb24
        refine tkR 5 (fun K9 hK => ?_)
        go_simp
        have HEq := hid (equal_any (some am) M.length cm A24 (finM N).length c24 M (finM N) w24 HMb24.out.2.1 rfl HF24.out rfl (by have := HMl.out; omega) (by have := HFl.out; omega))
        rw [HFt.out] at HEq
        ((refine (HEq.out).mono ?_); rintro e w25 ⟨rfl, hb25⟩)
        have hS9 := hHeld
        refine hK.out _ _ ⟨cell_stays hb25 hS9.1, cell_stays hb25 hS9.2.1, cell_stays hb25 hS9.2.2.1, cell_stays hb25 hS9.2.2.2.1, cell_stays hb25 hS9.2.2.2.2⟩ (fun hHeld => ?_)
        clear hK K9 hS9
        try go_simp
        have HNb25 := hid (HNb24.out.below hb25)
        have HCb25 := hid (HCb24.out.below hb25)
        have HIn25 := hid (HIn24.out.below hb25)
        have HMb25 := hid (HMb24.out.below hb25)
        have HBl25 := hid (HBl24.out.trans (hb25.mono HBl24.out.size))
        clear HNb24 HCb24 HIn24 HMb24 HBl24
        clear HEq HF24
        clear hb25
        refine tkH 6 ?_; try go_simp
        refine tkH 7 ?_; try go_simp
        refine tkU 8 ?_; try go_simp
        refine tkU 9 ?_; try go_simp
        refine tkU 10 ?_; try go_simp
        refine tkU 11 ?_; try go_simp
        refine tkU 12 ?_; try go_simp
        refine tkH 13 ?_; try go_simp
        refine wpAnyH_done (by kernel_rfl) ?_ _
        clear hHeld
        clear hskM
        by_cases hlt : k < nl
        · have hlt' : k < l.length := by rw [HLl.out]; exact hlt
          have q9 : ((k : Int) == (nl : Int)) = false := by rw [beq_eq_false_iff_ne]; omega
          obtain ⟨tx, htx⟩ : ∃ tx, tx = l[k] := ⟨_, rfl⟩
          replace htx := htx.symm
          go_wp2_with fail
          obtain ⟨b0, b1, b2, b3⟩ := HNb25.out.cells
          obtain ⟨d0, d1, d2, d3, d4, d5, d6, d7⟩ := HCb25.out.cells
          have m0 : w25.cell? ⟨(w6.heap.size), 0, none⟩ = some (.slice (some am) M.length cm) := by have := HMb25.out.1; simp [World.cell?, this]
          obtain ⟨al, rfl, hpa, q0⟩ := (show ZIn w25 Al l from HL6.out.below HBl25.out) k hlt'
          clear hpa d0 d1 d2 d3 d4 d5 d6 d7
          rw [htx] at q0
          have hfi := fun w1 (hw : Below w25.heap.size w25 w1) => r21fire_any N A n c (some am) M.length cm M tx w1 (HIn25.out.below hw) HNl.out hn2 (HMb25.out.2.1.below hw) rfl (by have := HMl.out; omega)
          rw [show fire21 N M tx = fireV N M tx by unfold fire21; rw [HMk.out]; rfl] at hfi
          have HFi0 := hid hfi
          clear hfi htx hlt'
          by_cases h0 : (fireV N M tx).2 = 0
          · skip
            have hbd : Below w25.heap.size w25 w25.drew := (Below.refl _ _).drew
            have HNb26 := hid (HNb25.out.below hbd)
            have HCb26 := hid (HCb25.out.below hbd)
            have HIn26 := hid (HIn25.out.below hbd)
            have HMb26 := hid (HMb25.out.below hbd)
            have HBl26 := hid (HBl25.out.trans (hbd.mono HBl25.out.size))
            have hS0 := And.intro (cell_stays hbd b0) (And.intro (cell_stays hbd b1) (And.intro (cell_stays hbd b2) (And.intro (cell_stays hbd b3) (And.intro (cell_stays hbd m0) ((cell_stays hbd q0))))))
            refine wp_region_held_drew (S := fun w' => w'.cell? ⟨w.heap.size, 0, none⟩ = some (.int .i64 N.pl) ∧ w'.cell? ⟨w.heap.size, 1, none⟩ = some (.slice A n c) ∧ w'.cell? ⟨w.heap.size, 2, none⟩ = some (.int .i64 N.src) ∧ w'.cell? ⟨w.heap.size, 3, none⟩ = some (.int .i64 N.snk) ∧ w'.cell? ⟨(w6.heap.size), 0, none⟩ = some (.slice (some am) M.length cm) ∧ w'.cell? (al.add k) = some (.int .i64 tx)) (by kernel_rfl) hS0 (fun hHeld => ?_)
            have HFi1 := hid (HFi0.out _ hbd)
            clear HFi0 hS0 hbd b0 b1 b2 b3 m0 q0
            clear HNb25 HCb25 HIn25 HMb25 HBl25
            generalize w25.drew = w26 at *
            have HTn := hid (tru_step HChk.out HTm.out h0)
            refine tkH 0 ?_; try go_simp
            refine tkH 1 ?_; try go_simp
            refine tkH 2 ?_; try go_simp
            refine tkH 3 ?_; try go_simp
            refine tkH 4 ?_; try go_simp
            refine tkH 5 ?_; try go_simp
            refine tkR 6 (fun K9 hK => ?_)
            go_simp
            ((refine (fv_yes HFi1.out h0).mono ?_); rintro e w27 ⟨v27, rfl, hS27⟩)
            obtain ⟨A27, c27, rfl⟩ := hS27.slice
            have hb27 := hS27.2
            have hS9 := hHeld
            refine hK.out _ _ ⟨cell_stays hb27 hS9.1, cell_stays hb27 hS9.2.1, cell_stays hb27 hS9.2.2.1, cell_stays hb27 hS9.2.2.2.1, cell_stays hb27 hS9.2.2.2.2.1, cell_stays hb27 hS9.2.2.2.2.2⟩ (fun hHeld => ?_)
            clear hK K9 hS9
            try go_simp
            have HNb27 := hid (HNb26.out.below hb27)
            have HCb27 := hid (HCb26.out.below hb27)
            have HIn27 := hid (HIn26.out.below hb27)
            have HMb27 := hid (HMb26.out.below hb27)
            have HBl27 := hid (HBl26.out.trans (hb27.mono HBl26.out.size))
            have HBp := hid HBl26.out
            clear HNb26 HCb26 HIn26 HMb26 HBl26
            have HS27 := hid hS27
            clear hS27 hb27
            refine tkH 7 ?_; try go_simp
            refine tkH 8 ?_; try go_simp
            refine tkH 9 ?_; try go_simp
            refine tkH 10 ?_; try go_simp
            refine tkH 11 ?_; try go_simp
            refine wpAnyH_done (by kernel_rfl) ?_ _
            clear hHeld
            clear HFi1 h0
            generalize (fireV N M tx).1 = Y at *
            have HMt := hid (show w27.heap[(w6.heap.size)]? = some (.cells #[.slice (some am) M.length cm] 25 (0, 0)) from HMb27.out.1)
            have HSu := hid (NS.up HBp.out HS27.out)
            have hset : w27.grownBy (w27.setCell ⟨(w6.heap.size), 0, none⟩ (.slice A27 Y.length c27)) (some (w6.heap.size)) := Lib.grownBy_setB (grown_refl w27 (some (w6.heap.size))) 0 _
            have HSv := hid (HSu.out.kept hset (own_other HSu.out.1 HMt.out (by decide)) (fun k hk => by cases hk; exact hmb))
            have HMv := hid (show MB (w27.setCell ⟨(w6.heap.size), 0, none⟩ (.slice A27 Y.length c27)) (w6.heap.size) A27 Y.length c27 Y from ⟨by rw [heap_set2 HMt.out]; rfl, by obtain ⟨A', c', e, hz, _⟩ := HSv.out.zin; cases e; exact hz, rfl⟩)
            have t0 : w27.cell? ⟨(w6.heap.size), 0, none⟩ = some (.slice (some am) M.length cm) := by have := HMt.out; simp [World.cell?, this]
            have tf : w27.frozen? ⟨(w6.heap.size), 0, none⟩ = false := by have := HMt.out; simp [World.frozen?, this]
            clear hset
            go_wp2_with fail
            go_roundg (gk - 1)
            case measure => have := HK.out; omega
            case rel => exact ⟨k + 1, Y, A27, c27, by have := HK.out; omega, by go_num, HMv.out, HSv.out.2, HTn.out⟩
          · skip
            have hbd : Below w25.heap.size w25 w25.drew := (Below.refl _ _).drew
            have HNb26 := hid (HNb25.out.below hbd)
            have HCb26 := hid (HCb25.out.below hbd)
            have HIn26 := hid (HIn25.out.below hbd)
            have HMb26 := hid (HMb25.out.below hbd)
            have HBl26 := hid (HBl25.out.trans (hbd.mono HBl25.out.size))
            have hS0 := And.intro (cell_stays hbd b0) (And.intro (cell_stays hbd b1) (And.intro (cell_stays hbd b2) (And.intro (cell_stays hbd b3) (And.intro (cell_stays hbd m0) ((cell_stays hbd q0))))))
            refine wp_region_held_drew (S := fun w' => w'.cell? ⟨w.heap.size, 0, none⟩ = some (.int .i64 N.pl) ∧ w'.cell? ⟨w.heap.size, 1, none⟩ = some (.slice A n c) ∧ w'.cell? ⟨w.heap.size, 2, none⟩ = some (.int .i64 N.src) ∧ w'.cell? ⟨w.heap.size, 3, none⟩ = some (.int .i64 N.snk) ∧ w'.cell? ⟨(w6.heap.size), 0, none⟩ = some (.slice (some am) M.length cm) ∧ w'.cell? (al.add k) = some (.int .i64 tx)) (by kernel_rfl) hS0 (fun hHeld => ?_)
            have HFi1 := hid (HFi0.out _ hbd)
            clear HFi0 hS0 hbd b0 b1 b2 b3 m0 q0
            clear HNb25 HCb25 HIn25 HMb25 HBl25
            generalize w25.drew = w26 at *
            refine tkH 0 ?_; try go_simp
            refine tkH 1 ?_; try go_simp
            refine tkH 2 ?_; try go_simp
            refine tkH 3 ?_; try go_simp
            refine tkH 4 ?_; try go_simp
            refine tkH 5 ?_; try go_simp
            refine tkR 6 (fun K9 hK => ?_)
            go_simp
            ((refine (fv_no HFi1.out h0).mono ?_); rintro e w27 ⟨rfl, hb27⟩)
            have hS9 := hHeld
            refine hK.out _ _ ⟨cell_stays hb27 hS9.1, cell_stays hb27 hS9.2.1, cell_stays hb27 hS9.2.2.1, cell_stays hb27 hS9.2.2.2.1, cell_stays hb27 hS9.2.2.2.2.1, cell_stays hb27 hS9.2.2.2.2.2⟩ (fun hHeld => ?_)
            clear hK K9 hS9
            try go_simp
            have HNb27 := hid (HNb26.out.below hb27)
            have HCb27 := hid (HCb26.out.below hb27)
            have HIn27 := hid (HIn26.out.below hb27)
            have HMb27 := hid (HMb26.out.below hb27)
            have HBl27 := hid (HBl26.out.trans (hb27.mono HBl26.out.size))
            clear HNb26 HCb26 HIn26 HMb26 HBl26
            clear hb27
            refine tkH 7 ?_; try go_simp
            refine tkH 8 ?_; try go_simp
            refine tkH 9 ?_; try go_simp
            refine tkH 10 ?_; try go_simp
            refine tkH 11 ?_; try go_simp
            refine wpAnyH_done (by kernel_rfl) ?_ _
            clear hHeld
            have q1 : ((fireV N M tx).2 != 0) = true := by rw [bne_iff_ne]; exact h0
            clear HFi1 h0
            generalize (fireV N M tx).2 = er at *
            go_wp2_with fail
            go_ret
            exact ⟨rfl, below_then HB6.out HBl27.out⟩
        · have q9 : ((k : Int) == (nl : Int)) = true := by rw [beq_iff_eq]; have := HK.out; omega
          go_wp2_with fail
          go_ret
          exact ⟨rfl, below_then HB6.out HBl25.out⟩
      · have HFf := hid (show decide (M = finM N) = false from decide_eq_false hfin)
        obtain ⟨_, t9, ht9, hc9⟩ := hT1.2 hfin
        have hen := en_mem ht9 hc9
        have q3 : (((enTo N M N.tr.length).length : Int) == 0) = false := by rw [beq_eq_false_iff_ne]; omega
        clear hT1 hfin ht9 hc9
        go_wp2_with fail
        obtain ⟨b0, b1, b2, b3⟩ := HNb22.out.cells
        obtain ⟨d0, d1, d2, d3, d4, d5, d6, d7⟩ := HCb22.out.cells
        have m0 : w22.cell? ⟨(w6.heap.size), 0, none⟩ = some (.slice (some am) M.length cm) := by have := HMb22.out.1; simp [World.cell?, this]
        rw [HSk.out] at b3
        clear d0 d1 d2 d3 d4 d5 d6 d7
        have hbd : Below w22.heap.size w22 w22.drew := (Below.refl _ _).drew
        have HNb23 := hid (HNb22.out.below hbd)
        have HCb23 := hid (HCb22.out.below hbd)
        have HIn23 := hid (HIn22.out.below hbd)
        have HMb23 := hid (HMb22.out.below hbd)
        have HBl23 := hid (HBl22.out.trans (hbd.mono HBl22.out.size))
        have hS0 := And.intro (cell_stays hbd b0) (And.intro (cell_stays hbd b1) (And.intro (cell_stays hbd b2) (And.intro (cell_stays hbd b3) ((cell_stays hbd m0)))))
        refine wp_region_held_drew (S := fun w' => w'.cell? ⟨w.heap.size, 0, none⟩ = some (.int .i64 N.pl) ∧ w'.cell? ⟨w.heap.size, 1, none⟩ = some (.slice A n c) ∧ w'.cell? ⟨w.heap.size, 2, none⟩ = some (.int .i64 N.src) ∧ w'.cell? ⟨w.heap.size, 3, none⟩ = some (.int .i64 (sk : Int)) ∧ w'.cell? ⟨(w6.heap.size), 0, none⟩ = some (.slice (some am) M.length cm)) (by kernel_rfl) hS0 (fun hHeld => ?_)
        clear hS0 hbd b0 b1 b2 b3 m0
        clear HNb22 HCb22 HIn22 HMb22 HBl22
        generalize w22.drew = w23 at *
        refine tkH 0 ?_; try go_simp
        refine tkH 1 ?_; try go_simp
        refine tkH 2 ?_; try go_simp
        refine tkH 3 ?_; try go_simp
        refine tkR 4 (fun K9 hK => ?_)
        go_simp
        rw [← HSk.out]
        ((refine (snk29_any N A n c HV.out w23).mono ?_); rintro e w24 ⟨v24, rfl, hS24⟩)
        obtain ⟨A24, c24, rfl⟩ := hS24.slice
        have hb24 := hS24.2
        have hS9 := hHeld
        refine hK.out _ _ ⟨cell_stays hb24 hS9.1, cell_stays hb24 hS9.2.1, cell_stays hb24 hS9.2.2.1, cell_stays hb24 hS9.2.2.2.1, cell_stays hb24 hS9.2.2.2.2⟩ (fun hHeld => ?_)
        clear hK K9 hS9
        try go_simp
        have HNb24 := hid (HNb23.out.below hb24)
        have HCb24 := hid (HCb23.out.below hb24)
        have HIn24 := hid (HIn23.out.below hb24)
        have HMb24 := hid (HMb23.out.below hb24)
        have HBl24 := hid (HBl23.out.trans (hb24.mono HBl23.out.size))
        clear HNb23 HCb23 HIn23 HMb23 HBl23
        have HF24 := hid (show ZIn w24 A24 (finM N) by obtain ⟨A', c', e, hz, _⟩ := hS24.zin; cases e; exact hz)
        clear hS24 hb24
        refine tkR 5 (fun K9 hK => ?_)
        go_simp
        have HEq := hid (equal_any (some am) M.length cm A24 (finM N).length c24 M (finM N) w24 HMb24.out.2.1 rfl HF24.out rfl (by have := HMl.out; omega) (by have := HFl.out; omega))
        rw [HFf.out] at HEq
        ((refine (HEq.out).mono ?_); rintro e w25 ⟨rfl, hb25⟩)
        have hS9 := hHeld
        refine hK.out _ _ ⟨cell_stays hb25 hS9.1, cell_stays hb25 hS9.2.1, cell_stays hb25 hS9.2.2.1, cell_stays hb25 hS9.2.2.2.1, cell_stays hb25 hS9.2.2.2.2⟩ (fun hHeld => ?_)
        clear hK K9 hS9
        try go_simp
        have HNb25 := hid (HNb24.out.below hb25)
        have HCb25 := hid (HCb24.out.below hb25)
        have HIn25 := hid (HIn24.out.below hb25)
        have HMb25 := hid (HMb24.out.below hb25)
        have HBl25 := hid (HBl24.out.trans (hb25.mono HBl24.out.size))
        clear HNb24 HCb24 HIn24 HMb24 HBl24
        clear HEq HF24
        clear hb25
        refine tkH 6 ?_; try go_simp
        refine tkH 7 ?_; try go_simp
        refine tkH 8 ?_; try go_simp
        refine tkH 9 ?_; try go_simp
        refine tkR 10 (fun K9 hK => ?_)
        go_simp
        rw [← HSk.out]
        ((refine (enabled21_any N A n c (some am) M.length cm M w25 HIn25.out HNl.out HMb25.out.2.1 rfl HMk.out).mono ?_); rintro e w26 ⟨v26, rfl, hS26⟩)
        obtain ⟨A26, c26, rfl⟩ := hS26.slice
        have hb26 := hS26.2
        have hS9 := hHeld
        refine hK.out _ _ ⟨cell_stays hb26 hS9.1, cell_stays hb26 hS9.2.1, cell_stays hb26 hS9.2.2.1, cell_stays hb26 hS9.2.2.2.1, cell_stays hb26 hS9.2.2.2.2⟩ (fun hHeld => ?_)
        clear hK K9 hS9
        try go_simp
        have HNb26 := hid (HNb25.out.below hb26)
        have HCb26 := hid (HCb25.out.below hb26)
        have HIn26 := hid (HIn25.out.below hb26)
        have HMb26 := hid (HMb25.out.below hb26)
        have HBl26 := hid (HBl25.out.trans (hb26.mono HBl25.out.size))
        clear HNb25 HCb25 HIn25 HMb25 HBl25
        clear hS26 hb26
        refine tkH 11 ?_; try go_simp
        refine tkH 12 ?_; try go_simp
        refine tkH 13 ?_; try go_simp
        refine wpAnyH_done (by kernel_rfl) ?_ _
        clear hHeld
        clear hskM hen q3
        by_cases hlt : k < nl
        · have hlt' : k < l.length := by rw [HLl.out]; exact hlt
          have q9 : ((k : Int) == (nl : Int)) = false := by rw [beq_eq_false_iff_ne]; omega
          obtain ⟨tx, htx⟩ : ∃ tx, tx = l[k] := ⟨_, rfl⟩
          replace htx := htx.symm
          go_wp2_with fail
          obtain ⟨b0, b1, b2, b3⟩ := HNb26.out.cells
          obtain ⟨d0, d1, d2, d3, d4, d5, d6, d7⟩ := HCb26.out.cells
          have m0 : w26.cell? ⟨(w6.heap.size), 0, none⟩ = some (.slice (some am) M.length cm) := by have := HMb26.out.1; simp [World.cell?, this]
          obtain ⟨al, rfl, hpa, q0⟩ := (show ZIn w26 Al l from HL6.out.below HBl26.out) k hlt'
          clear hpa d0 d1 d2 d3 d4 d5 d6 d7
          rw [htx] at q0
          have hfi := fun w1 (hw : Below w26.heap.size w26 w1) => r21fire_any N A n c (some am) M.length cm M tx w1 (HIn26.out.below hw) HNl.out hn2 (HMb26.out.2.1.below hw) rfl (by have := HMl.out; omega)
          rw [show fire21 N M tx = fireV N M tx by unfold fire21; rw [HMk.out]; rfl] at hfi
          have HFi0 := hid hfi
          clear hfi htx hlt'
          by_cases h0 : (fireV N M tx).2 = 0
          · skip
            have hbd : Below w26.heap.size w26 w26.drew := (Below.refl _ _).drew
            have HNb27 := hid (HNb26.out.below hbd)
            have HCb27 := hid (HCb26.out.below hbd)
            have HIn27 := hid (HIn26.out.below hbd)
            have HMb27 := hid (HMb26.out.below hbd)
            have HBl27 := hid (HBl26.out.trans (hbd.mono HBl26.out.size))
            have hS0 := And.intro (cell_stays hbd b0) (And.intro (cell_stays hbd b1) (And.intro (cell_stays hbd b2) (And.intro (cell_stays hbd b3) (And.intro (cell_stays hbd m0) ((cell_stays hbd q0))))))
            refine wp_region_held_drew (S := fun w' => w'.cell? ⟨w.heap.size, 0, none⟩ = some (.int .i64 N.pl) ∧ w'.cell? ⟨w.heap.size, 1, none⟩ = some (.slice A n c) ∧ w'.cell? ⟨w.heap.size, 2, none⟩ = some (.int .i64 N.src) ∧ w'.cell? ⟨w.heap.size, 3, none⟩ = some (.int .i64 N.snk) ∧ w'.cell? ⟨(w6.heap.size), 0, none⟩ = some (.slice (some am) M.length cm) ∧ w'.cell? (al.add k) = some (.int .i64 tx)) (by kernel_rfl) hS0 (fun hHeld => ?_)
            have HFi1 := hid (HFi0.out _ hbd)
            clear HFi0 hS0 hbd b0 b1 b2 b3 m0 q0
            clear HNb26 HCb26 HIn26 HMb26 HBl26
            generalize w26.drew = w27 at *
            have HTn := hid (tru_step HChk.out HTm.out h0)
            refine tkH 0 ?_; try go_simp
            refine tkH 1 ?_; try go_simp
            refine tkH 2 ?_; try go_simp
            refine tkH 3 ?_; try go_simp
            refine tkH 4 ?_; try go_simp
            refine tkH 5 ?_; try go_simp
            refine tkR 6 (fun K9 hK => ?_)
            go_simp
            ((refine (fv_yes HFi1.out h0).mono ?_); rintro e w28 ⟨v28, rfl, hS28⟩)
            obtain ⟨A28, c28, rfl⟩ := hS28.slice
            have hb28 := hS28.2
            have hS9 := hHeld
            refine hK.out _ _ ⟨cell_stays hb28 hS9.1, cell_stays hb28 hS9.2.1, cell_stays hb28 hS9.2.2.1, cell_stays hb28 hS9.2.2.2.1, cell_stays hb28 hS9.2.2.2.2.1, cell_stays hb28 hS9.2.2.2.2.2⟩ (fun hHeld => ?_)
            clear hK K9 hS9
            try go_simp
            have HNb28 := hid (HNb27.out.below hb28)
            have HCb28 := hid (HCb27.out.below hb28)
            have HIn28 := hid (HIn27.out.below hb28)
            have HMb28 := hid (HMb27.out.below hb28)
            have HBl28 := hid (HBl27.out.trans (hb28.mono HBl27.out.size))
            have HBp := hid HBl27.out
            clear HNb27 HCb27 HIn27 HMb27 HBl27
            have HS28 := hid hS28
            clear hS28 hb28
            refine tkH 7 ?_; try go_simp
            refine tkH 8 ?_; try go_simp
            refine tkH 9 ?_; try go_simp
            refine tkH 10 ?_; try go_simp
            refine tkH 11 ?_; try go_simp
            refine wpAnyH_done (by kernel_rfl) ?_ _
            clear hHeld
            clear HFi1 h0
            generalize (fireV N M tx).1 = Y at *
            have HMt := hid (show w28.heap[(w6.heap.size)]? = some (.cells #[.slice (some am) M.length cm] 25 (0, 0)) from HMb28.out.1)
            have HSu := hid (NS.up HBp.out HS28.out)
            have hset : w28.grownBy (w28.setCell ⟨(w6.heap.size), 0, none⟩ (.slice A28 Y.length c28)) (some (w6.heap.size)) := Lib.grownBy_setB (grown_refl w28 (some (w6.heap.size))) 0 _
            have HSv := hid (HSu.out.kept hset (own_other HSu.out.1 HMt.out (by decide)) (fun k hk => by cases hk; exact hmb))
            have HMv := hid (show MB (w28.setCell ⟨(w6.heap.size), 0, none⟩ (.slice A28 Y.length c28)) (w6.heap.size) A28 Y.length c28 Y from ⟨by rw [heap_set2 HMt.out]; rfl, by obtain ⟨A', c', e, hz, _⟩ := HSv.out.zin; cases e; exact hz, rfl⟩)
            have t0 : w28.cell? ⟨(w6.heap.size), 0, none⟩ = some (.slice (some am) M.length cm) := by have := HMt.out; simp [World.cell?, this]
            have tf : w28.frozen? ⟨(w6.heap.size), 0, none⟩ = false := by have := HMt.out; simp [World.frozen?, this]
            clear hset
            go_wp2_with fail
            go_roundg (gk - 1)
            case measure => have := HK.out; omega
            case rel => exact ⟨k + 1, Y, A28, c28, by have := HK.out; omega, by go_num, HMv.out, HSv.out.2, HTn.out⟩
          · skip
            have hbd : Below w26.heap.size w26 w26.drew := (Below.refl _ _).drew
            have HNb27 := hid (HNb26.out.below hbd)
            have HCb27 := hid (HCb26.out.below hbd)
            have HIn27 := hid (HIn26.out.below hbd)
            have HMb27 := hid (HMb26.out.below hbd)
            have HBl27 := hid (HBl26.out.trans (hbd.mono HBl26.out.size))
            have hS0 := And.intro (cell_stays hbd b0) (And.intro (cell_stays hbd b1) (And.intro (cell_stays hbd b2) (And.intro (cell_stays hbd b3) (And.intro (cell_stays hbd m0) ((cell_stays hbd q0))))))
            refine wp_region_held_drew (S := fun w' => w'.cell? ⟨w.heap.size, 0, none⟩ = some (.int .i64 N.pl) ∧ w'.cell? ⟨w.heap.size, 1, none⟩ = some (.slice A n c) ∧ w'.cell? ⟨w.heap.size, 2, none⟩ = some (.int .i64 N.src) ∧ w'.cell? ⟨w.heap.size, 3, none⟩ = some (.int .i64 N.snk) ∧ w'.cell? ⟨(w6.heap.size), 0, none⟩ = some (.slice (some am) M.length cm) ∧ w'.cell? (al.add k) = some (.int .i64 tx)) (by kernel_rfl) hS0 (fun hHeld => ?_)
            have HFi1 := hid (HFi0.out _ hbd)
            clear HFi0 hS0 hbd b0 b1 b2 b3 m0 q0
            clear HNb26 HCb26 HIn26 HMb26 HBl26
            generalize w26.drew = w27 at *
            refine tkH 0 ?_; try go_simp
            refine tkH 1 ?_; try go_simp
            refine tkH 2 ?_; try go_simp
            refine tkH 3 ?_; try go_simp
            refine tkH 4 ?_; try go_simp
            refine tkH 5 ?_; try go_simp
            refine tkR 6 (fun K9 hK => ?_)
            go_simp
            ((refine (fv_no HFi1.out h0).mono ?_); rintro e w28 ⟨rfl, hb28⟩)
            have hS9 := hHeld
            refine hK.out _ _ ⟨cell_stays hb28 hS9.1, cell_stays hb28 hS9.2.1, cell_stays hb28 hS9.2.2.1, cell_stays hb28 hS9.2.2.2.1, cell_stays hb28 hS9.2.2.2.2.1, cell_stays hb28 hS9.2.2.2.2.2⟩ (fun hHeld => ?_)
            clear hK K9 hS9
            try go_simp
            have HNb28 := hid (HNb27.out.below hb28)
            have HCb28 := hid (HCb27.out.below hb28)
            have HIn28 := hid (HIn27.out.below hb28)
            have HMb28 := hid (HMb27.out.below hb28)
            have HBl28 := hid (HBl27.out.trans (hb28.mono HBl27.out.size))
            clear HNb27 HCb27 HIn27 HMb27 HBl27
            clear hb28
            refine tkH 7 ?_; try go_simp
            refine tkH 8 ?_; try go_simp
            refine tkH 9 ?_; try go_simp
            refine tkH 10 ?_; try go_simp
            refine tkH 11 ?_; try go_simp
            refine wpAnyH_done (by kernel_rfl) ?_ _
            clear hHeld
            have q1 : ((fireV N M tx).2 != 0) = true := by rw [bne_iff_ne]; exact h0
            clear HFi1 h0
            generalize (fireV N M tx).2 = er at *
            go_wp2_with fail
            go_ret
            exact ⟨rfl, below_then HB6.out HBl28.out⟩
        · have q9 : ((k : Int) == (nl : Int)) = true := by rw [beq_iff_eq]; have := HK.out; omega
          go_wp2_with fail
          go_ret
          exact ⟨rfl, below_then HB6.out HBl26.out⟩
  · skip
    have hlb := HLt.out (HTp.out.2.1 hc)
    subst hlb
    clear HLt HTp
    have p1 : (cl == 1) = false := by rw [beq_eq_false_iff_ne]; omega
    have p5 : (cl == 5) = true := by rw [beq_iff_eq]; exact hc
    clear hc
    by_cases hlt : k < nl
    · have hlt' : k < l.length := by rw [HLl.out]; exact hlt
      have q9 : ((k : Int) == (nl : Int)) = false := by rw [beq_eq_false_iff_ne]; omega
      obtain ⟨tx, htx⟩ : ∃ tx, tx = l[k] := ⟨_, rfl⟩
      replace htx := htx.symm
      obtain ⟨b0, b1, b2, b3⟩ := HNb21.out.cells
      obtain ⟨d0, d1, d2, d3, d4, d5, d6, d7⟩ := HCb21.out.cells
      go_wp2_with fail
      clear b0 b1 b2 b3 d0 d1 d2 d3 d4 d5 d6 d7
      obtain ⟨b0, b1, b2, b3⟩ := HNb21.out.cells
      obtain ⟨d0, d1, d2, d3, d4, d5, d6, d7⟩ := HCb21.out.cells
      have m0 : w21.cell? ⟨(w6.heap.size), 0, none⟩ = some (.slice Am M.length cm) := by have := HMb21.out.1; simp [World.cell?, this]
      obtain ⟨al, rfl, hpa, q0⟩ := (show ZIn w21 Al l from HL6.out.below HBl21.out) k hlt'
      clear hpa d0 d1 d2 d3 d4 d5 d6 d7
      rw [htx] at q0
      have hfi := fun w1 (hw : Below w21.heap.size w21 w1) => r21fire_any N A n c Am M.length cm M tx w1 (HIn21.out.below hw) HNl.out hn2 (HMb21.out.2.1.below hw) rfl (by have := HMl.out; omega)
      rw [show fire21 N M tx = fireV N M tx by unfold fire21; rw [HMk.out]; rfl] at hfi
      have HFi0 := hid hfi
      clear hfi htx hlt'
      by_cases h0 : (fireV N M tx).2 = 0
      · skip
        have hbd : Below w21.heap.size w21 w21.drew := (Below.refl _ _).drew
        have HNb22 := hid (HNb21.out.below hbd)
        have HCb22 := hid (HCb21.out.below hbd)
        have HIn22 := hid (HIn21.out.below hbd)
        have HMb22 := hid (HMb21.out.below hbd)
        have HBl22 := hid (HBl21.out.trans (hbd.mono HBl21.out.size))
        have hS0 := And.intro (cell_stays hbd b0) (And.intro (cell_stays hbd b1) (And.intro (cell_stays hbd b2) (And.intro (cell_stays hbd b3) (And.intro (cell_stays hbd m0) ((cell_stays hbd q0))))))
        refine wp_region_held_drew (S := fun w' => w'.cell? ⟨w.heap.size, 0, none⟩ = some (.int .i64 N.pl) ∧ w'.cell? ⟨w.heap.size, 1, none⟩ = some (.slice A n c) ∧ w'.cell? ⟨w.heap.size, 2, none⟩ = some (.int .i64 N.src) ∧ w'.cell? ⟨w.heap.size, 3, none⟩ = some (.int .i64 N.snk) ∧ w'.cell? ⟨(w6.heap.size), 0, none⟩ = some (.slice Am M.length cm) ∧ w'.cell? (al.add k) = some (.int .i64 tx)) (by kernel_rfl) hS0 (fun hHeld => ?_)
        have HFi1 := hid (HFi0.out _ hbd)
        clear HFi0 hS0 hbd b0 b1 b2 b3 m0 q0
        clear HNb21 HCb21 HIn21 HMb21 HBl21
        generalize w21.drew = w22 at *
        have HTn := hid (tru_step HChk.out HTm.out h0)
        refine tkH 0 ?_; try go_simp
        refine tkH 1 ?_; try go_simp
        refine tkH 2 ?_; try go_simp
        refine tkH 3 ?_; try go_simp
        refine tkH 4 ?_; try go_simp
        refine tkH 5 ?_; try go_simp
        refine tkR 6 (fun K9 hK => ?_)
        go_simp
        ((refine (fv_yes HFi1.out h0).mono ?_); rintro e w23 ⟨v23, rfl, hS23⟩)
        obtain ⟨A23, c23, rfl⟩ := hS23.slice
        have hb23 := hS23.2
        have hS9 := hHeld
        refine hK.out _ _ ⟨cell_stays hb23 hS9.1, cell_stays hb23 hS9.2.1, cell_stays hb23 hS9.2.2.1, cell_stays hb23 hS9.2.2.2.1, cell_stays hb23 hS9.2.2.2.2.1, cell_stays hb23 hS9.2.2.2.2.2⟩ (fun hHeld => ?_)
        clear hK K9 hS9
        try go_simp
        have HNb23 := hid (HNb22.out.below hb23)
        have HCb23 := hid (HCb22.out.below hb23)
        have HIn23 := hid (HIn22.out.below hb23)
        have HMb23 := hid (HMb22.out.below hb23)
        have HBl23 := hid (HBl22.out.trans (hb23.mono HBl22.out.size))
        have HBp := hid HBl22.out
        clear HNb22 HCb22 HIn22 HMb22 HBl22
        have HS23 := hid hS23
        clear hS23 hb23
        refine tkH 7 ?_; try go_simp
        refine tkH 8 ?_; try go_simp
        refine tkH 9 ?_; try go_simp
        refine tkH 10 ?_; try go_simp
        refine tkH 11 ?_; try go_simp
        refine wpAnyH_done (by kernel_rfl) ?_ _
        clear hHeld
        clear HFi1 h0
        generalize (fireV N M tx).1 = Y at *
        have HMt := hid (show w23.heap[(w6.heap.size)]? = some (.cells #[.slice Am M.length cm] 25 (0, 0)) from HMb23.out.1)
        have HSu := hid (NS.up HBp.out HS23.out)
        have hset : w23.grownBy (w23.setCell ⟨(w6.heap.size), 0, none⟩ (.slice A23 Y.length c23)) (some (w6.heap.size)) := Lib.grownBy_setB (grown_refl w23 (some (w6.heap.size))) 0 _
        have HSv := hid (HSu.out.kept hset (own_other HSu.out.1 HMt.out (by decide)) (fun k hk => by cases hk; exact hmb))
        have HMv := hid (show MB (w23.setCell ⟨(w6.heap.size), 0, none⟩ (.slice A23 Y.length c23)) (w6.heap.size) A23 Y.length c23 Y from ⟨by rw [heap_set2 HMt.out]; rfl, by obtain ⟨A', c', e, hz, _⟩ := HSv.out.zin; cases e; exact hz, rfl⟩)
        have t0 : w23.cell? ⟨(w6.heap.size), 0, none⟩ = some (.slice Am M.length cm) := by have := HMt.out; simp [World.cell?, this]
        have tf : w23.frozen? ⟨(w6.heap.size), 0, none⟩ = false := by have := HMt.out; simp [World.frozen?, this]
        clear hset
        go_wp2_with fail
        go_roundg (gk - 1)
        case measure => have := HK.out; omega
        case rel => exact ⟨k + 1, Y, A23, c23, by have := HK.out; omega, by go_num, HMv.out, HSv.out.2, HTn.out⟩
      · skip
        have hbd : Below w21.heap.size w21 w21.drew := (Below.refl _ _).drew
        have HNb22 := hid (HNb21.out.below hbd)
        have HCb22 := hid (HCb21.out.below hbd)
        have HIn22 := hid (HIn21.out.below hbd)
        have HMb22 := hid (HMb21.out.below hbd)
        have HBl22 := hid (HBl21.out.trans (hbd.mono HBl21.out.size))
        have hS0 := And.intro (cell_stays hbd b0) (And.intro (cell_stays hbd b1) (And.intro (cell_stays hbd b2) (And.intro (cell_stays hbd b3) (And.intro (cell_stays hbd m0) ((cell_stays hbd q0))))))
        refine wp_region_held_drew (S := fun w' => w'.cell? ⟨w.heap.size, 0, none⟩ = some (.int .i64 N.pl) ∧ w'.cell? ⟨w.heap.size, 1, none⟩ = some (.slice A n c) ∧ w'.cell? ⟨w.heap.size, 2, none⟩ = some (.int .i64 N.src) ∧ w'.cell? ⟨w.heap.size, 3, none⟩ = some (.int .i64 N.snk) ∧ w'.cell? ⟨(w6.heap.size), 0, none⟩ = some (.slice Am M.length cm) ∧ w'.cell? (al.add k) = some (.int .i64 tx)) (by kernel_rfl) hS0 (fun hHeld => ?_)
        have HFi1 := hid (HFi0.out _ hbd)
        clear HFi0 hS0 hbd b0 b1 b2 b3 m0 q0
        clear HNb21 HCb21 HIn21 HMb21 HBl21
        generalize w21.drew = w22 at *
        refine tkH 0 ?_; try go_simp
        refine tkH 1 ?_; try go_simp
        refine tkH 2 ?_; try go_simp
        refine tkH 3 ?_; try go_simp
        refine tkH 4 ?_; try go_simp
        refine tkH 5 ?_; try go_simp
        refine tkR 6 (fun K9 hK => ?_)
        go_simp
        ((refine (fv_no HFi1.out h0).mono ?_); rintro e w23 ⟨rfl, hb23⟩)
        have hS9 := hHeld
        refine hK.out _ _ ⟨cell_stays hb23 hS9.1, cell_stays hb23 hS9.2.1, cell_stays hb23 hS9.2.2.1, cell_stays hb23 hS9.2.2.2.1, cell_stays hb23 hS9.2.2.2.2.1, cell_stays hb23 hS9.2.2.2.2.2⟩ (fun hHeld => ?_)
        clear hK K9 hS9
        try go_simp
        have HNb23 := hid (HNb22.out.below hb23)
        have HCb23 := hid (HCb22.out.below hb23)
        have HIn23 := hid (HIn22.out.below hb23)
        have HMb23 := hid (HMb22.out.below hb23)
        have HBl23 := hid (HBl22.out.trans (hb23.mono HBl22.out.size))
        clear HNb22 HCb22 HIn22 HMb22 HBl22
        clear hb23
        refine tkH 7 ?_; try go_simp
        refine tkH 8 ?_; try go_simp
        refine tkH 9 ?_; try go_simp
        refine tkH 10 ?_; try go_simp
        refine tkH 11 ?_; try go_simp
        refine wpAnyH_done (by kernel_rfl) ?_ _
        clear hHeld
        have q1 : ((fireV N M tx).2 != 0) = true := by rw [bne_iff_ne]; exact h0
        clear HFi1 h0
        generalize (fireV N M tx).2 = er at *
        go_wp2_with fail
        go_ret
        exact ⟨rfl, below_then HB6.out HBl23.out⟩
    · have q9 : ((k : Int) == (nl : Int)) = true := by rw [beq_iff_eq]; have := HK.out; omega
      obtain ⟨b0, b1, b2, b3⟩ := HNb21.out.cells
      obtain ⟨d0, d1, d2, d3, d4, d5, d6, d7⟩ := HCb21.out.cells
      go_wp2_with fail
      clear b0 b1 b2 b3 d0 d1 d2 d3 d4 d5 d6 d7
      go_ret
      exact ⟨rfl, below_then HB6.out HBl21.out⟩
  · skip
    clear HLt
    have p1 : (cl == 1) = false := by rw [beq_eq_false_iff_ne]; omega
    have p5 : (cl == 5) = false := by rw [beq_eq_false_iff_ne]; omega
    have p7 : (cl == 7) = true := by rw [beq_iff_eq]; exact hc
    obtain ⟨hc0, hc1, t9, ht9, hc9⟩ := HTp.out.2.2 hc
    clear hc HTp
    obtain ⟨cm9, hcn⟩ := Int.eq_ofNat_of_zero_le hc0
    have hcl : cm9 < N.tr.length := by omega
    have hcv : canT N.tr[cm9] M = false := by
     rw [show cn.toNat = cm9 by omega, List.getElem?_eq_getElem hcl] at ht9
     cases ht9; exact hc9
    have HCn := hid (can21_any N A n c Am M.length cm M cm9 hcl w21 HIn21.out.1 HNl.out HMb21.out.2.1 rfl (nt_inM HV.out (m := M.length) (mk_len HMk.out) _ (List.getElem_mem hcl)).1 (fun x hx => (mk_nums HMk.out x hx).1))
    rw [hcv] at HCn
    have hc2 : (cm9 : Int) < (n : Int) := by have := HNl.out; omega
    have hc3 : (0 : Int) ≤ (cm9 : Int) := by omega
    have HCe := hid hcn
    clear hc0 hc1 ht9 hc9 hcl hcv hcn
    by_cases hlt : k < nl
    · have hlt' : k < l.length := by rw [HLl.out]; exact hlt
      have q9 : ((k : Int) == (nl : Int)) = false := by rw [beq_eq_false_iff_ne]; omega
      obtain ⟨tx, htx⟩ : ∃ tx, tx = l[k] := ⟨_, rfl⟩
      replace htx := htx.symm
      obtain ⟨b0, b1, b2, b3⟩ := HNb21.out.cells
      obtain ⟨d0, d1, d2, d3, d4, d5, d6, d7⟩ := HCb21.out.cells
      rw [HCe.out] at d1
      have m0 : w21.cell? ⟨(w6.heap.size), 0, none⟩ = some (.slice Am M.length cm) := by have := HMb21.out.1; simp [World.cell?, this]
      go_wp2_with fail
      ((with_reducible refine HCn.out.mono ?_); rintro e w22 ⟨rfl, hb22⟩)
      have HNb22 := hid (HNb21.out.below hb22)
      have HCb22 := hid (HCb21.out.below hb22)
      have HIn22 := hid (HIn21.out.below hb22)
      have HMb22 := hid (HMb21.out.below hb22)
      have HBl22 := hid (HBl21.out.trans (hb22.mono HBl21.out.size))
      clear HCn hb22 m0
      clear HNb21 HCb21 HIn21 HMb21 HBl21
      clear b0 b1 b2 b3 d0 d1 d2 d3 d4 d5 d6 d7
      obtain ⟨b0, b1, b2, b3⟩ := HNb22.out.cells
      obtain ⟨d0, d1, d2, d3, d4, d5, d6, d7⟩ := HCb22.out.cells
      go_wp2_with fail
      clear b0 b1 b2 b3 d0 d1 d2 d3 d4 d5 d6 d7
      obtain ⟨b0, b1, b2, b3⟩ := HNb22.out.cells
      obtain ⟨d0, d1, d2, d3, d4, d5, d6, d7⟩ := HCb22.out.cells
      have m0 : w22.cell? ⟨(w6.heap.size), 0, none⟩ = some (.slice Am M.length cm) := by have := HMb22.out.1; simp [World.cell?, this]
      obtain ⟨al, rfl, hpa, q0⟩ := (show ZIn w22 Al l from HL6.out.below HBl22.out) k hlt'
      clear hpa d0 d1 d2 d3 d4 d5 d6 d7
      rw [htx] at q0
      have hfi := fun w1 (hw : Below w22.heap.size w22 w1) => r21fire_any N A n c Am M.length cm M tx w1 (HIn22.out.below hw) HNl.out hn2 (HMb22.out.2.1.below hw) rfl (by have := HMl.out; omega)
      rw [show fire21 N M tx = fireV N M tx by unfold fire21; rw [HMk.out]; rfl] at hfi
      have HFi0 := hid hfi
      clear hfi htx hlt'
      by_cases h0 : (fireV N M tx).2 = 0
      · skip
        have hbd : Below w22.heap.size w22 w22.drew := (Below.refl _ _).drew
        have HNb23 := hid (HNb22.out.below hbd)
        have HCb23 := hid (HCb22.out.below hbd)
        have HIn23 := hid (HIn22.out.below hbd)
        have HMb23 := hid (HMb22.out.below hbd)
        have HBl23 := hid (HBl22.out.trans (hbd.mono HBl22.out.size))
        have hS0 := And.intro (cell_stays hbd b0) (And.intro (cell_stays hbd b1) (And.intro (cell_stays hbd b2) (And.intro (cell_stays hbd b3) (And.intro (cell_stays hbd m0) ((cell_stays hbd q0))))))
        refine wp_region_held_drew (S := fun w' => w'.cell? ⟨w.heap.size, 0, none⟩ = some (.int .i64 N.pl) ∧ w'.cell? ⟨w.heap.size, 1, none⟩ = some (.slice A n c) ∧ w'.cell? ⟨w.heap.size, 2, none⟩ = some (.int .i64 N.src) ∧ w'.cell? ⟨w.heap.size, 3, none⟩ = some (.int .i64 N.snk) ∧ w'.cell? ⟨(w6.heap.size), 0, none⟩ = some (.slice Am M.length cm) ∧ w'.cell? (al.add k) = some (.int .i64 tx)) (by kernel_rfl) hS0 (fun hHeld => ?_)
        have HFi1 := hid (HFi0.out _ hbd)
        clear HFi0 hS0 hbd b0 b1 b2 b3 m0 q0
        clear HNb22 HCb22 HIn22 HMb22 HBl22
        generalize w22.drew = w23 at *
        have HTn := hid (tru_step HChk.out HTm.out h0)
        refine tkH 0 ?_; try go_simp
        refine tkH 1 ?_; try go_simp
        refine tkH 2 ?_; try go_simp
        refine tkH 3 ?_; try go_simp
        refine tkH 4 ?_; try go_simp
        refine tkH 5 ?_; try go_simp
        refine tkR 6 (fun K9 hK => ?_)
        go_simp
        ((refine (fv_yes HFi1.out h0).mono ?_); rintro e w24 ⟨v24, rfl, hS24⟩)
        obtain ⟨A24, c24, rfl⟩ := hS24.slice
        have hb24 := hS24.2
        have hS9 := hHeld
        refine hK.out _ _ ⟨cell_stays hb24 hS9.1, cell_stays hb24 hS9.2.1, cell_stays hb24 hS9.2.2.1, cell_stays hb24 hS9.2.2.2.1, cell_stays hb24 hS9.2.2.2.2.1, cell_stays hb24 hS9.2.2.2.2.2⟩ (fun hHeld => ?_)
        clear hK K9 hS9
        try go_simp
        have HNb24 := hid (HNb23.out.below hb24)
        have HCb24 := hid (HCb23.out.below hb24)
        have HIn24 := hid (HIn23.out.below hb24)
        have HMb24 := hid (HMb23.out.below hb24)
        have HBl24 := hid (HBl23.out.trans (hb24.mono HBl23.out.size))
        have HBp := hid HBl23.out
        clear HNb23 HCb23 HIn23 HMb23 HBl23
        have HS24 := hid hS24
        clear hS24 hb24
        refine tkH 7 ?_; try go_simp
        refine tkH 8 ?_; try go_simp
        refine tkH 9 ?_; try go_simp
        refine tkH 10 ?_; try go_simp
        refine tkH 11 ?_; try go_simp
        refine wpAnyH_done (by kernel_rfl) ?_ _
        clear hHeld
        clear HFi1 h0
        generalize (fireV N M tx).1 = Y at *
        have HMt := hid (show w24.heap[(w6.heap.size)]? = some (.cells #[.slice Am M.length cm] 25 (0, 0)) from HMb24.out.1)
        have HSu := hid (NS.up HBp.out HS24.out)
        have hset : w24.grownBy (w24.setCell ⟨(w6.heap.size), 0, none⟩ (.slice A24 Y.length c24)) (some (w6.heap.size)) := Lib.grownBy_setB (grown_refl w24 (some (w6.heap.size))) 0 _
        have HSv := hid (HSu.out.kept hset (own_other HSu.out.1 HMt.out (by decide)) (fun k hk => by cases hk; exact hmb))
        have HMv := hid (show MB (w24.setCell ⟨(w6.heap.size), 0, none⟩ (.slice A24 Y.length c24)) (w6.heap.size) A24 Y.length c24 Y from ⟨by rw [heap_set2 HMt.out]; rfl, by obtain ⟨A', c', e, hz, _⟩ := HSv.out.zin; cases e; exact hz, rfl⟩)
        have t0 : w24.cell? ⟨(w6.heap.size), 0, none⟩ = some (.slice Am M.length cm) := by have := HMt.out; simp [World.cell?, this]
        have tf : w24.frozen? ⟨(w6.heap.size), 0, none⟩ = false := by have := HMt.out; simp [World.frozen?, this]
        clear hset
        go_wp2_with fail
        go_roundg (gk - 1)
        case measure => have := HK.out; omega
        case rel => exact ⟨k + 1, Y, A24, c24, by have := HK.out; omega, by go_num, HMv.out, HSv.out.2, HTn.out⟩
      · skip
        have hbd : Below w22.heap.size w22 w22.drew := (Below.refl _ _).drew
        have HNb23 := hid (HNb22.out.below hbd)
        have HCb23 := hid (HCb22.out.below hbd)
        have HIn23 := hid (HIn22.out.below hbd)
        have HMb23 := hid (HMb22.out.below hbd)
        have HBl23 := hid (HBl22.out.trans (hbd.mono HBl22.out.size))
        have hS0 := And.intro (cell_stays hbd b0) (And.intro (cell_stays hbd b1) (And.intro (cell_stays hbd b2) (And.intro (cell_stays hbd b3) (And.intro (cell_stays hbd m0) ((cell_stays hbd q0))))))
        refine wp_region_held_drew (S := fun w' => w'.cell? ⟨w.heap.size, 0, none⟩ = some (.int .i64 N.pl) ∧ w'.cell? ⟨w.heap.size, 1, none⟩ = some (.slice A n c) ∧ w'.cell? ⟨w.heap.size, 2, none⟩ = some (.int .i64 N.src) ∧ w'.cell? ⟨w.heap.size, 3, none⟩ = some (.int .i64 N.snk) ∧ w'.cell? ⟨(w6.heap.size), 0, none⟩ = some (.slice Am M.length cm) ∧ w'.cell? (al.add k) = some (.int .i64 tx)) (by kernel_rfl) hS0 (fun hHeld => ?_)
        have HFi1 := hid (HFi0.out _ hbd)
        clear HFi0 hS0 hbd b0 b1 b2 b3 m0 q0
        clear HNb22 HCb22 HIn22 HMb22 HBl22
        generalize w22.drew = w23 at *
        refine tkH 0 ?_; try go_simp
        refine tkH 1 ?_; try go_simp
        refine tkH 2 ?_; try go_simp
        refine tkH 3 ?_; try go_simp
        refine tkH 4 ?_; try go_simp
        refine tkH 5 ?_; try go_simp
        refine tkR 6 (fun K9 hK => ?_)
        go_simp
        ((refine (fv_no HFi1.out h0).mono ?_); rintro e w24 ⟨rfl, hb24⟩)
        have hS9 := hHeld
        refine hK.out _ _ ⟨cell_stays hb24 hS9.1, cell_stays hb24 hS9.2.1, cell_stays hb24 hS9.2.2.1, cell_stays hb24 hS9.2.2.2.1, cell_stays hb24 hS9.2.2.2.2.1, cell_stays hb24 hS9.2.2.2.2.2⟩ (fun hHeld => ?_)
        clear hK K9 hS9
        try go_simp
        have HNb24 := hid (HNb23.out.below hb24)
        have HCb24 := hid (HCb23.out.below hb24)
        have HIn24 := hid (HIn23.out.below hb24)
        have HMb24 := hid (HMb23.out.below hb24)
        have HBl24 := hid (HBl23.out.trans (hb24.mono HBl23.out.size))
        clear HNb23 HCb23 HIn23 HMb23 HBl23
        clear hb24
        refine tkH 7 ?_; try go_simp
        refine tkH 8 ?_; try go_simp
        refine tkH 9 ?_; try go_simp
        refine tkH 10 ?_; try go_simp
        refine tkH 11 ?_; try go_simp
        refine wpAnyH_done (by kernel_rfl) ?_ _
        clear hHeld
        have q1 : ((fireV N M tx).2 != 0) = true := by rw [bne_iff_ne]; exact h0
        clear HFi1 h0
        generalize (fireV N M tx).2 = er at *
        go_wp2_with fail
        go_ret
        exact ⟨rfl, below_then HB6.out HBl24.out⟩
    · have q9 : ((k : Int) == (nl : Int)) = true := by rw [beq_iff_eq]; have := HK.out; omega
      obtain ⟨b0, b1, b2, b3⟩ := HNb21.out.cells
      obtain ⟨d0, d1, d2, d3, d4, d5, d6, d7⟩ := HCb21.out.cells
      rw [HCe.out] at d1
      have m0 : w21.cell? ⟨(w6.heap.size), 0, none⟩ = some (.slice Am M.length cm) := by have := HMb21.out.1; simp [World.cell?, this]
      go_wp2_with fail
      ((with_reducible refine HCn.out.mono ?_); rintro e w22 ⟨rfl, hb22⟩)
      have HNb22 := hid (HNb21.out.below hb22)
      have HCb22 := hid (HCb21.out.below hb22)
      have HIn22 := hid (HIn21.out.below hb22)
      have HMb22 := hid (HMb21.out.below hb22)
      have HBl22 := hid (HBl21.out.trans (hb22.mono HBl21.out.size))
      clear HCn hb22 m0
      clear HNb21 HCb21 HIn21 HMb21 HBl21
      clear b0 b1 b2 b3 d0 d1 d2 d3 d4 d5 d6 d7
      obtain ⟨b0, b1, b2, b3⟩ := HNb22.out.cells
      obtain ⟨d0, d1, d2, d3, d4, d5, d6, d7⟩ := HCb22.out.cells
      go_wp2_with fail
      clear b0 b1 b2 b3 d0 d1 d2 d3 d4 d5 d6 d7
      go_ret
      exact ⟨rfl, below_then HB6.out HBl22.out⟩
  · skip
    clear HLt HTp
    have p1 : (cl == 1) = false := by rw [beq_eq_false_iff_ne]; omega
    have p5 : (cl == 5) = false := by rw [beq_eq_false_iff_ne]; omega
    have p7 : (cl == 7) = false := by rw [beq_eq_false_iff_ne]; omega
    have p2 : (cl == 2) = true := by rw [beq_iff_eq]; exact hc
    clear hc
    by_cases hlt : k < nl
    · have hlt' : k < l.length := by rw [HLl.out]; exact hlt
      have q9 : ((k : Int) == (nl : Int)) = false := by rw [beq_eq_false_iff_ne]; omega
      obtain ⟨tx, htx⟩ : ∃ tx, tx = l[k] := ⟨_, rfl⟩
      replace htx := htx.symm
      obtain ⟨b0, b1, b2, b3⟩ := HNb21.out.cells
      obtain ⟨d0, d1, d2, d3, d4, d5, d6, d7⟩ := HCb21.out.cells
      go_wp2_with fail
      clear b0 b1 b2 b3 d0 d1 d2 d3 d4 d5 d6 d7
      obtain ⟨b0, b1, b2, b3⟩ := HNb21.out.cells
      obtain ⟨d0, d1, d2, d3, d4, d5, d6, d7⟩ := HCb21.out.cells
      have m0 : w21.cell? ⟨(w6.heap.size), 0, none⟩ = some (.slice Am M.length cm) := by have := HMb21.out.1; simp [World.cell?, this]
      obtain ⟨al, rfl, hpa, q0⟩ := (show ZIn w21 Al l from HL6.out.below HBl21.out) k hlt'
      clear hpa d0 d1 d2 d3 d4 d5 d6 d7
      rw [htx] at q0
      have hfi := fun w1 (hw : Below w21.heap.size w21 w1) => r21fire_any N A n c Am M.length cm M tx w1 (HIn21.out.below hw) HNl.out hn2 (HMb21.out.2.1.below hw) rfl (by have := HMl.out; omega)
      rw [show fire21 N M tx = fireV N M tx by unfold fire21; rw [HMk.out]; rfl] at hfi
      have HFi0 := hid hfi
      clear hfi htx hlt'
      by_cases h0 : (fireV N M tx).2 = 0
      · skip
        have hbd : Below w21.heap.size w21 w21.drew := (Below.refl _ _).drew
        have HNb22 := hid (HNb21.out.below hbd)
        have HCb22 := hid (HCb21.out.below hbd)
        have HIn22 := hid (HIn21.out.below hbd)
        have HMb22 := hid (HMb21.out.below hbd)
        have HBl22 := hid (HBl21.out.trans (hbd.mono HBl21.out.size))
        have hS0 := And.intro (cell_stays hbd b0) (And.intro (cell_stays hbd b1) (And.intro (cell_stays hbd b2) (And.intro (cell_stays hbd b3) (And.intro (cell_stays hbd m0) ((cell_stays hbd q0))))))
        refine wp_region_held_drew (S := fun w' => w'.cell? ⟨w.heap.size, 0, none⟩ = some (.int .i64 N.pl) ∧ w'.cell? ⟨w.heap.size, 1, none⟩ = some (.slice A n c) ∧ w'.cell? ⟨w.heap.size, 2, none⟩ = some (.int .i64 N.src) ∧ w'.cell? ⟨w.heap.size, 3, none⟩ = some (.int .i64 N.snk) ∧ w'.cell? ⟨(w6.heap.size), 0, none⟩ = some (.slice Am M.length cm) ∧ w'.cell? (al.add k) = some (.int .i64 tx)) (by kernel_rfl) hS0 (fun hHeld => ?_)
        have HFi1 := hid (HFi0.out _ hbd)
        clear HFi0 hS0 hbd b0 b1 b2 b3 m0 q0
        clear HNb21 HCb21 HIn21 HMb21 HBl21
        generalize w21.drew = w22 at *
        have HTn := hid (tru_step HChk.out HTm.out h0)
        refine tkH 0 ?_; try go_simp
        refine tkH 1 ?_; try go_simp
        refine tkH 2 ?_; try go_simp
        refine tkH 3 ?_; try go_simp
        refine tkH 4 ?_; try go_simp
        refine tkH 5 ?_; try go_simp
        refine tkR 6 (fun K9 hK => ?_)
        go_simp
        ((refine (fv_yes HFi1.out h0).mono ?_); rintro e w23 ⟨v23, rfl, hS23⟩)
        obtain ⟨A23, c23, rfl⟩ := hS23.slice
        have hb23 := hS23.2
        have hS9 := hHeld
        refine hK.out _ _ ⟨cell_stays hb23 hS9.1, cell_stays hb23 hS9.2.1, cell_stays hb23 hS9.2.2.1, cell_stays hb23 hS9.2.2.2.1, cell_stays hb23 hS9.2.2.2.2.1, cell_stays hb23 hS9.2.2.2.2.2⟩ (fun hHeld => ?_)
        clear hK K9 hS9
        try go_simp
        have HNb23 := hid (HNb22.out.below hb23)
        have HCb23 := hid (HCb22.out.below hb23)
        have HIn23 := hid (HIn22.out.below hb23)
        have HMb23 := hid (HMb22.out.below hb23)
        have HBl23 := hid (HBl22.out.trans (hb23.mono HBl22.out.size))
        have HBp := hid HBl22.out
        clear HNb22 HCb22 HIn22 HMb22 HBl22
        have HS23 := hid hS23
        clear hS23 hb23
        refine tkH 7 ?_; try go_simp
        refine tkH 8 ?_; try go_simp
        refine tkH 9 ?_; try go_simp
        refine tkH 10 ?_; try go_simp
        refine tkH 11 ?_; try go_simp
        refine wpAnyH_done (by kernel_rfl) ?_ _
        clear hHeld
        clear HFi1 h0
        generalize (fireV N M tx).1 = Y at *
        have HMt := hid (show w23.heap[(w6.heap.size)]? = some (.cells #[.slice Am M.length cm] 25 (0, 0)) from HMb23.out.1)
        have HSu := hid (NS.up HBp.out HS23.out)
        have hset : w23.grownBy (w23.setCell ⟨(w6.heap.size), 0, none⟩ (.slice A23 Y.length c23)) (some (w6.heap.size)) := Lib.grownBy_setB (grown_refl w23 (some (w6.heap.size))) 0 _
        have HSv := hid (HSu.out.kept hset (own_other HSu.out.1 HMt.out (by decide)) (fun k hk => by cases hk; exact hmb))
        have HMv := hid (show MB (w23.setCell ⟨(w6.heap.size), 0, none⟩ (.slice A23 Y.length c23)) (w6.heap.size) A23 Y.length c23 Y from ⟨by rw [heap_set2 HMt.out]; rfl, by obtain ⟨A', c', e, hz, _⟩ := HSv.out.zin; cases e; exact hz, rfl⟩)
        have t0 : w23.cell? ⟨(w6.heap.size), 0, none⟩ = some (.slice Am M.length cm) := by have := HMt.out; simp [World.cell?, this]
        have tf : w23.frozen? ⟨(w6.heap.size), 0, none⟩ = false := by have := HMt.out; simp [World.frozen?, this]
        clear hset
        go_wp2_with fail
        go_roundg (gk - 1)
        case measure => have := HK.out; omega
        case rel => exact ⟨k + 1, Y, A23, c23, by have := HK.out; omega, by go_num, HMv.out, HSv.out.2, HTn.out⟩
      · skip
        have hbd : Below w21.heap.size w21 w21.drew := (Below.refl _ _).drew
        have HNb22 := hid (HNb21.out.below hbd)
        have HCb22 := hid (HCb21.out.below hbd)
        have HIn22 := hid (HIn21.out.below hbd)
        have HMb22 := hid (HMb21.out.below hbd)
        have HBl22 := hid (HBl21.out.trans (hbd.mono HBl21.out.size))
        have hS0 := And.intro (cell_stays hbd b0) (And.intro (cell_stays hbd b1) (And.intro (cell_stays hbd b2) (And.intro (cell_stays hbd b3) (And.intro (cell_stays hbd m0) ((cell_stays hbd q0))))))
        refine wp_region_held_drew (S := fun w' => w'.cell? ⟨w.heap.size, 0, none⟩ = some (.int .i64 N.pl) ∧ w'.cell? ⟨w.heap.size, 1, none⟩ = some (.slice A n c) ∧ w'.cell? ⟨w.heap.size, 2, none⟩ = some (.int .i64 N.src) ∧ w'.cell? ⟨w.heap.size, 3, none⟩ = some (.int .i64 N.snk) ∧ w'.cell? ⟨(w6.heap.size), 0, none⟩ = some (.slice Am M.length cm) ∧ w'.cell? (al.add k) = some (.int .i64 tx)) (by kernel_rfl) hS0 (fun hHeld => ?_)
        have HFi1 := hid (HFi0.out _ hbd)
        clear HFi0 hS0 hbd b0 b1 b2 b3 m0 q0
        clear HNb21 HCb21 HIn21 HMb21 HBl21
        generalize w21.drew = w22 at *
        refine tkH 0 ?_; try go_simp
        refine tkH 1 ?_; try go_simp
        refine tkH 2 ?_; try go_simp
        refine tkH 3 ?_; try go_simp
        refine tkH 4 ?_; try go_simp
        refine tkH 5 ?_; try go_simp
        refine tkR 6 (fun K9 hK => ?_)
        go_simp
        ((refine (fv_no HFi1.out h0).mono ?_); rintro e w23 ⟨rfl, hb23⟩)
        have hS9 := hHeld
        refine hK.out _ _ ⟨cell_stays hb23 hS9.1, cell_stays hb23 hS9.2.1, cell_stays hb23 hS9.2.2.1, cell_stays hb23 hS9.2.2.2.1, cell_stays hb23 hS9.2.2.2.2.1, cell_stays hb23 hS9.2.2.2.2.2⟩ (fun hHeld => ?_)
        clear hK K9 hS9
        try go_simp
        have HNb23 := hid (HNb22.out.below hb23)
        have HCb23 := hid (HCb22.out.below hb23)
        have HIn23 := hid (HIn22.out.below hb23)
        have HMb23 := hid (HMb22.out.below hb23)
        have HBl23 := hid (HBl22.out.trans (hb23.mono HBl22.out.size))
        clear HNb22 HCb22 HIn22 HMb22 HBl22
        clear hb23
        refine tkH 7 ?_; try go_simp
        refine tkH 8 ?_; try go_simp
        refine tkH 9 ?_; try go_simp
        refine tkH 10 ?_; try go_simp
        refine tkH 11 ?_; try go_simp
        refine wpAnyH_done (by kernel_rfl) ?_ _
        clear hHeld
        have q1 : ((fireV N M tx).2 != 0) = true := by rw [bne_iff_ne]; exact h0
        clear HFi1 h0
        generalize (fireV N M tx).2 = er at *
        go_wp2_with fail
        go_ret
        exact ⟨rfl, below_then HB6.out HBl23.out⟩
    · have q9 : ((k : Int) == (nl : Int)) = true := by rw [beq_iff_eq]; have := HK.out; omega
      obtain ⟨b0, b1, b2, b3⟩ := HNb21.out.cells
      obtain ⟨d0, d1, d2, d3, d4, d5, d6, d7⟩ := HCb21.out.cells
      go_wp2_with fail
      clear b0 b1 b2 b3 d0 d1 d2 d3 d4 d5 d6 d7
      go_ret
      exact ⟨rfl, below_then HB6.out HBl21.out⟩
  · skip
    clear HLt HTp
    have p1 : (cl == 1) = false := by rw [beq_eq_false_iff_ne]; omega
    have p5 : (cl == 5) = false := by rw [beq_eq_false_iff_ne]; omega
    have p7 : (cl == 7) = false := by rw [beq_eq_false_iff_ne]; omega
    have p2 : (cl == 2) = false := by rw [beq_eq_false_iff_ne]; omega
    have p3 : (cl == 3) = true := by rw [beq_iff_eq]; exact hc
    clear hc
    by_cases hlt : k < nl
    · have hlt' : k < l.length := by rw [HLl.out]; exact hlt
      have q9 : ((k : Int) == (nl : Int)) = false := by rw [beq_eq_false_iff_ne]; omega
      obtain ⟨tx, htx⟩ : ∃ tx, tx = l[k] := ⟨_, rfl⟩
      replace htx := htx.symm
      obtain ⟨b0, b1, b2, b3⟩ := HNb21.out.cells
      obtain ⟨d0, d1, d2, d3, d4, d5, d6, d7⟩ := HCb21.out.cells
      go_wp2_with fail
      clear b0 b1 b2 b3 d0 d1 d2 d3 d4 d5 d6 d7
      obtain ⟨b0, b1, b2, b3⟩ := HNb21.out.cells
      obtain ⟨d0, d1, d2, d3, d4, d5, d6, d7⟩ := HCb21.out.cells
      have m0 : w21.cell? ⟨(w6.heap.size), 0, none⟩ = some (.slice Am M.length cm) := by have := HMb21.out.1; simp [World.cell?, this]
      obtain ⟨al, rfl, hpa, q0⟩ := (show ZIn w21 Al l from HL6.out.below HBl21.out) k hlt'
      clear hpa d0 d1 d2 d3 d4 d5 d6 d7
      rw [htx] at q0
      have hfi := fun w1 (hw : Below w21.heap.size w21 w1) => r21fire_any N A n c Am M.length cm M tx w1 (HIn21.out.below hw) HNl.out hn2 (HMb21.out.2.1.below hw) rfl (by have := HMl.out; omega)
      rw [show fire21 N M tx = fireV N M tx by unfold fire21; rw [HMk.out]; rfl] at hfi
      have HFi0 := hid hfi
      clear hfi htx hlt'
      by_cases h0 : (fireV N M tx).2 = 0
      · skip
        have hbd : Below w21.heap.size w21 w21.drew := (Below.refl _ _).drew
        have HNb22 := hid (HNb21.out.below hbd)
        have HCb22 := hid (HCb21.out.below hbd)
        have HIn22 := hid (HIn21.out.below hbd)
        have HMb22 := hid (HMb21.out.below hbd)
        have HBl22 := hid (HBl21.out.trans (hbd.mono HBl21.out.size))
        have hS0 := And.intro (cell_stays hbd b0) (And.intro (cell_stays hbd b1) (And.intro (cell_stays hbd b2) (And.intro (cell_stays hbd b3) (And.intro (cell_stays hbd m0) ((cell_stays hbd q0))))))
        refine wp_region_held_drew (S := fun w' => w'.cell? ⟨w.heap.size, 0, none⟩ = some (.int .i64 N.pl) ∧ w'.cell? ⟨w.heap.size, 1, none⟩ = some (.slice A n c) ∧ w'.cell? ⟨w.heap.size, 2, none⟩ = some (.int .i64 N.src) ∧ w'.cell? ⟨w.heap.size, 3, none⟩ = some (.int .i64 N.snk) ∧ w'.cell? ⟨(w6.heap.size), 0, none⟩ = some (.slice Am M.length cm) ∧ w'.cell? (al.add k) = some (.int .i64 tx)) (by kernel_rfl) hS0 (fun hHeld => ?_)
        have HFi1 := hid (HFi0.out _ hbd)
        clear HFi0 hS0 hbd b0 b1 b2 b3 m0 q0
        clear HNb21 HCb21 HIn21 HMb21 HBl21
        generalize w21.drew = w22 at *
        have HTn := hid (tru_step HChk.out HTm.out h0)
        refine tkH 0 ?_; try go_simp
        refine tkH 1 ?_; try go_simp
        refine tkH 2 ?_; try go_simp
        refine tkH 3 ?_; try go_simp
        refine tkH 4 ?_; try go_simp
        refine tkH 5 ?_; try go_simp
        refine tkR 6 (fun K9 hK => ?_)
        go_simp
        ((refine (fv_yes HFi1.out h0).mono ?_); rintro e w23 ⟨v23, rfl, hS23⟩)
        obtain ⟨A23, c23, rfl⟩ := hS23.slice
        have hb23 := hS23.2
        have hS9 := hHeld
        refine hK.out _ _ ⟨cell_stays hb23 hS9.1, cell_stays hb23 hS9.2.1, cell_stays hb23 hS9.2.2.1, cell_stays hb23 hS9.2.2.2.1, cell_stays hb23 hS9.2.2.2.2.1, cell_stays hb23 hS9.2.2.2.2.2⟩ (fun hHeld => ?_)
        clear hK K9 hS9
        try go_simp
        have HNb23 := hid (HNb22.out.below hb23)
        have HCb23 := hid (HCb22.out.below hb23)
        have HIn23 := hid (HIn22.out.below hb23)
        have HMb23 := hid (HMb22.out.below hb23)
        have HBl23 := hid (HBl22.out.trans (hb23.mono HBl22.out.size))
        have HBp := hid HBl22.out
        clear HNb22 HCb22 HIn22 HMb22 HBl22
        have HS23 := hid hS23
        clear hS23 hb23
        refine tkH 7 ?_; try go_simp
        refine tkH 8 ?_; try go_simp
        refine tkH 9 ?_; try go_simp
        refine tkH 10 ?_; try go_simp
        refine tkH 11 ?_; try go_simp
        refine wpAnyH_done (by kernel_rfl) ?_ _
        clear hHeld
        clear HFi1 h0
        generalize (fireV N M tx).1 = Y at *
        have HMt := hid (show w23.heap[(w6.heap.size)]? = some (.cells #[.slice Am M.length cm] 25 (0, 0)) from HMb23.out.1)
        have HSu := hid (NS.up HBp.out HS23.out)
        have hset : w23.grownBy (w23.setCell ⟨(w6.heap.size), 0, none⟩ (.slice A23 Y.length c23)) (some (w6.heap.size)) := Lib.grownBy_setB (grown_refl w23 (some (w6.heap.size))) 0 _
        have HSv := hid (HSu.out.kept hset (own_other HSu.out.1 HMt.out (by decide)) (fun k hk => by cases hk; exact hmb))
        have HMv := hid (show MB (w23.setCell ⟨(w6.heap.size), 0, none⟩ (.slice A23 Y.length c23)) (w6.heap.size) A23 Y.length c23 Y from ⟨by rw [heap_set2 HMt.out]; rfl, by obtain ⟨A', c', e, hz, _⟩ := HSv.out.zin; cases e; exact hz, rfl⟩)
        have t0 : w23.cell? ⟨(w6.heap.size), 0, none⟩ = some (.slice Am M.length cm) := by have := HMt.out; simp [World.cell?, this]
        have tf : w23.frozen? ⟨(w6.heap.size), 0, none⟩ = false := by have := HMt.out; simp [World.frozen?, this]
        clear hset
        go_wp2_with fail
        go_roundg (gk - 1)
        case measure => have := HK.out; omega
        case rel => exact ⟨k + 1, Y, A23, c23, by have := HK.out; omega, by go_num, HMv.out, HSv.out.2, HTn.out⟩
      · skip
        have hbd : Below w21.heap.size w21 w21.drew := (Below.refl _ _).drew
        have HNb22 := hid (HNb21.out.below hbd)
        have HCb22 := hid (HCb21.out.below hbd)
        have HIn22 := hid (HIn21.out.below hbd)
        have HMb22 := hid (HMb21.out.below hbd)
        have HBl22 := hid (HBl21.out.trans (hbd.mono HBl21.out.size))
        have hS0 := And.intro (cell_stays hbd b0) (And.intro (cell_stays hbd b1) (And.intro (cell_stays hbd b2) (And.intro (cell_stays hbd b3) (And.intro (cell_stays hbd m0) ((cell_stays hbd q0))))))
        refine wp_region_held_drew (S := fun w' => w'.cell? ⟨w.heap.size, 0, none⟩ = some (.int .i64 N.pl) ∧ w'.cell? ⟨w.heap.size, 1, none⟩ = some (.slice A n c) ∧ w'.cell? ⟨w.heap.size, 2, none⟩ = some (.int .i64 N.src) ∧ w'.cell? ⟨w.heap.size, 3, none⟩ = some (.int .i64 N.snk) ∧ w'.cell? ⟨(w6.heap.size), 0, none⟩ = some (.slice Am M.length cm) ∧ w'.cell? (al.add k) = some (.int .i64 tx)) (by kernel_rfl) hS0 (fun hHeld => ?_)
        have HFi1 := hid (HFi0.out _ hbd)
        clear HFi0 hS0 hbd b0 b1 b2 b3 m0 q0
        clear HNb21 HCb21 HIn21 HMb21 HBl21
        generalize w21.drew = w22 at *
        refine tkH 0 ?_; try go_simp
        refine tkH 1 ?_; try go_simp
        refine tkH 2 ?_; try go_simp
        refine tkH 3 ?_; try go_simp
        refine tkH 4 ?_; try go_simp
        refine tkH 5 ?_; try go_simp
        refine tkR 6 (fun K9 hK => ?_)
        go_simp
        ((refine (fv_no HFi1.out h0).mono ?_); rintro e w23 ⟨rfl, hb23⟩)
        have hS9 := hHeld
        refine hK.out _ _ ⟨cell_stays hb23 hS9.1, cell_stays hb23 hS9.2.1, cell_stays hb23 hS9.2.2.1, cell_stays hb23 hS9.2.2.2.1, cell_stays hb23 hS9.2.2.2.2.1, cell_stays hb23 hS9.2.2.2.2.2⟩ (fun hHeld => ?_)
        clear hK K9 hS9
        try go_simp
        have HNb23 := hid (HNb22.out.below hb23)
        have HCb23 := hid (HCb22.out.below hb23)
        have HIn23 := hid (HIn22.out.below hb23)
        have HMb23 := hid (HMb22.out.below hb23)
        have HBl23 := hid (HBl22.out.trans (hb23.mono HBl22.out.size))
        clear HNb22 HCb22 HIn22 HMb22 HBl22
        clear hb23
        refine tkH 7 ?_; try go_simp
        refine tkH 8 ?_; try go_simp
        refine tkH 9 ?_; try go_simp
        refine tkH 10 ?_; try go_simp
        refine tkH 11 ?_; try go_simp
        refine wpAnyH_done (by kernel_rfl) ?_ _
        clear hHeld
        have q1 : ((fireV N M tx).2 != 0) = true := by rw [bne_iff_ne]; exact h0
        clear HFi1 h0
        generalize (fireV N M tx).2 = er at *
        go_wp2_with fail
        go_ret
        exact ⟨rfl, below_then HB6.out HBl23.out⟩
    · have q9 : ((k : Int) == (nl : Int)) = true := by rw [beq_iff_eq]; have := HK.out; omega
      obtain ⟨b0, b1, b2, b3⟩ := HNb21.out.cells
      obtain ⟨d0, d1, d2, d3, d4, d5, d6, d7⟩ := HCb21.out.cells
      go_wp2_with fail
      clear b0 b1 b2 b3 d0 d1 d2 d3 d4 d5 d6 d7
      go_ret
      exact ⟨rfl, below_then HB6.out HBl21.out⟩
  · skip
    clear HLt HTp
    have p1 : (cl == 1) = false := by rw [beq_eq_false_iff_ne]; omega
    have p5 : (cl == 5) = false := by rw [beq_eq_false_iff_ne]; omega
    have p7 : (cl == 7) = false := by rw [beq_eq_false_iff_ne]; omega
    have p2 : (cl == 2) = false := by rw [beq_eq_false_iff_ne]; omega
    have p3 : (cl == 3) = false := by rw [beq_eq_false_iff_ne]; omega
    have p4 : (cl == 4) = true := by rw [beq_iff_eq]; exact hc
    clear hc
    by_cases hlt : k < nl
    · have hlt' : k < l.length := by rw [HLl.out]; exact hlt
      have q9 : ((k : Int) == (nl : Int)) = false := by rw [beq_eq_false_iff_ne]; omega
      obtain ⟨tx, htx⟩ : ∃ tx, tx = l[k] := ⟨_, rfl⟩
      replace htx := htx.symm
      obtain ⟨b0, b1, b2, b3⟩ := HNb21.out.cells
      obtain ⟨d0, d1, d2, d3, d4, d5, d6, d7⟩ := HCb21.out.cells
      go_wp2_with fail
      clear b0 b1 b2 b3 d0 d1 d2 d3 d4 d5 d6 d7
      obtain ⟨b0, b1, b2, b3⟩ := HNb21.out.cells
      obtain ⟨d0, d1, d2, d3, d4, d5, d6, d7⟩ := HCb21.out.cells
      have m0 : w21.cell? ⟨(w6.heap.size), 0, none⟩ = some (.slice Am M.length cm) := by have := HMb21.out.1; simp [World.cell?, this]
      obtain ⟨al, rfl, hpa, q0⟩ := (show ZIn w21 Al l from HL6.out.below HBl21.out) k hlt'
      clear hpa d0 d1 d2 d3 d4 d5 d6 d7
      rw [htx] at q0
      have hfi := fun w1 (hw : Below w21.heap.size w21 w1) => r21fire_any N A n c Am M.length cm M tx w1 (HIn21.out.below hw) HNl.out hn2 (HMb21.out.2.1.below hw) rfl (by have := HMl.out; omega)
      rw [show fire21 N M tx = fireV N M tx by unfold fire21; rw [HMk.out]; rfl] at hfi
      have HFi0 := hid hfi
      clear hfi htx hlt'
      by_cases h0 : (fireV N M tx).2 = 0
      · skip
        have hbd : Below w21.heap.size w21 w21.drew := (Below.refl _ _).drew
        have HNb22 := hid (HNb21.out.below hbd)
        have HCb22 := hid (HCb21.out.below hbd)
        have HIn22 := hid (HIn21.out.below hbd)
        have HMb22 := hid (HMb21.out.below hbd)
        have HBl22 := hid (HBl21.out.trans (hbd.mono HBl21.out.size))
        have hS0 := And.intro (cell_stays hbd b0) (And.intro (cell_stays hbd b1) (And.intro (cell_stays hbd b2) (And.intro (cell_stays hbd b3) (And.intro (cell_stays hbd m0) ((cell_stays hbd q0))))))
        refine wp_region_held_drew (S := fun w' => w'.cell? ⟨w.heap.size, 0, none⟩ = some (.int .i64 N.pl) ∧ w'.cell? ⟨w.heap.size, 1, none⟩ = some (.slice A n c) ∧ w'.cell? ⟨w.heap.size, 2, none⟩ = some (.int .i64 N.src) ∧ w'.cell? ⟨w.heap.size, 3, none⟩ = some (.int .i64 N.snk) ∧ w'.cell? ⟨(w6.heap.size), 0, none⟩ = some (.slice Am M.length cm) ∧ w'.cell? (al.add k) = some (.int .i64 tx)) (by kernel_rfl) hS0 (fun hHeld => ?_)
        have HFi1 := hid (HFi0.out _ hbd)
        clear HFi0 hS0 hbd b0 b1 b2 b3 m0 q0
        clear HNb21 HCb21 HIn21 HMb21 HBl21
        generalize w21.drew = w22 at *
        have HTn := hid (tru_step HChk.out HTm.out h0)
        refine tkH 0 ?_; try go_simp
        refine tkH 1 ?_; try go_simp
        refine tkH 2 ?_; try go_simp
        refine tkH 3 ?_; try go_simp
        refine tkH 4 ?_; try go_simp
        refine tkH 5 ?_; try go_simp
        refine tkR 6 (fun K9 hK => ?_)
        go_simp
        ((refine (fv_yes HFi1.out h0).mono ?_); rintro e w23 ⟨v23, rfl, hS23⟩)
        obtain ⟨A23, c23, rfl⟩ := hS23.slice
        have hb23 := hS23.2
        have hS9 := hHeld
        refine hK.out _ _ ⟨cell_stays hb23 hS9.1, cell_stays hb23 hS9.2.1, cell_stays hb23 hS9.2.2.1, cell_stays hb23 hS9.2.2.2.1, cell_stays hb23 hS9.2.2.2.2.1, cell_stays hb23 hS9.2.2.2.2.2⟩ (fun hHeld => ?_)
        clear hK K9 hS9
        try go_simp
        have HNb23 := hid (HNb22.out.below hb23)
        have HCb23 := hid (HCb22.out.below hb23)
        have HIn23 := hid (HIn22.out.below hb23)
        have HMb23 := hid (HMb22.out.below hb23)
        have HBl23 := hid (HBl22.out.trans (hb23.mono HBl22.out.size))
        have HBp := hid HBl22.out
        clear HNb22 HCb22 HIn22 HMb22 HBl22
        have HS23 := hid hS23
        clear hS23 hb23
        refine tkH 7 ?_; try go_simp
        refine tkH 8 ?_; try go_simp
        refine tkH 9 ?_; try go_simp
        refine tkH 10 ?_; try go_simp
        refine tkH 11 ?_; try go_simp
        refine wpAnyH_done (by kernel_rfl) ?_ _
        clear hHeld
        clear HFi1 h0
        generalize (fireV N M tx).1 = Y at *
        have HMt := hid (show w23.heap[(w6.heap.size)]? = some (.cells #[.slice Am M.length cm] 25 (0, 0)) from HMb23.out.1)
        have HSu := hid (NS.up HBp.out HS23.out)
        have hset : w23.grownBy (w23.setCell ⟨(w6.heap.size), 0, none⟩ (.slice A23 Y.length c23)) (some (w6.heap.size)) := Lib.grownBy_setB (grown_refl w23 (some (w6.heap.size))) 0 _
        have HSv := hid (HSu.out.kept hset (own_other HSu.out.1 HMt.out (by decide)) (fun k hk => by cases hk; exact hmb))
        have HMv := hid (show MB (w23.setCell ⟨(w6.heap.size), 0, none⟩ (.slice A23 Y.length c23)) (w6.heap.size) A23 Y.length c23 Y from ⟨by rw [heap_set2 HMt.out]; rfl, by obtain ⟨A', c', e, hz, _⟩ := HSv.out.zin; cases e; exact hz, rfl⟩)
        have t0 : w23.cell? ⟨(w6.heap.size), 0, none⟩ = some (.slice Am M.length cm) := by have := HMt.out; simp [World.cell?, this]
        have tf : w23.frozen? ⟨(w6.heap.size), 0, none⟩ = false := by have := HMt.out; simp [World.frozen?, this]
        clear hset
        go_wp2_with fail
        go_roundg (gk - 1)
        case measure => have := HK.out; omega
        case rel => exact ⟨k + 1, Y, A23, c23, by have := HK.out; omega, by go_num, HMv.out, HSv.out.2, HTn.out⟩
      · skip
        have hbd : Below w21.heap.size w21 w21.drew := (Below.refl _ _).drew
        have HNb22 := hid (HNb21.out.below hbd)
        have HCb22 := hid (HCb21.out.below hbd)
        have HIn22 := hid (HIn21.out.below hbd)
        have HMb22 := hid (HMb21.out.below hbd)
        have HBl22 := hid (HBl21.out.trans (hbd.mono HBl21.out.size))
        have hS0 := And.intro (cell_stays hbd b0) (And.intro (cell_stays hbd b1) (And.intro (cell_stays hbd b2) (And.intro (cell_stays hbd b3) (And.intro (cell_stays hbd m0) ((cell_stays hbd q0))))))
        refine wp_region_held_drew (S := fun w' => w'.cell? ⟨w.heap.size, 0, none⟩ = some (.int .i64 N.pl) ∧ w'.cell? ⟨w.heap.size, 1, none⟩ = some (.slice A n c) ∧ w'.cell? ⟨w.heap.size, 2, none⟩ = some (.int .i64 N.src) ∧ w'.cell? ⟨w.heap.size, 3, none⟩ = some (.int .i64 N.snk) ∧ w'.cell? ⟨(w6.heap.size), 0, none⟩ = some (.slice Am M.length cm) ∧ w'.cell? (al.add k) = some (.int .i64 tx)) (by kernel_rfl) hS0 (fun hHeld => ?_)
        have HFi1 := hid (HFi0.out _ hbd)
        clear HFi0 hS0 hbd b0 b1 b2 b3 m0 q0
        clear HNb21 HCb21 HIn21 HMb21 HBl21
        generalize w21.drew = w22 at *
        refine tkH 0 ?_; try go_simp
        refine tkH 1 ?_; try go_simp
        refine tkH 2 ?_; try go_simp
        refine tkH 3 ?_; try go_simp
        refine tkH 4 ?_; try go_simp
        refine tkH 5 ?_; try go_simp
        refine tkR 6 (fun K9 hK => ?_)
        go_simp
        ((refine (fv_no HFi1.out h0).mono ?_); rintro e w23 ⟨rfl, hb23⟩)
        have hS9 := hHeld
        refine hK.out _ _ ⟨cell_stays hb23 hS9.1, cell_stays hb23 hS9.2.1, cell_stays hb23 hS9.2.2.1, cell_stays hb23 hS9.2.2.2.1, cell_stays hb23 hS9.2.2.2.2.1, cell_stays hb23 hS9.2.2.2.2.2⟩ (fun hHeld => ?_)
        clear hK K9 hS9
        try go_simp
        have HNb23 := hid (HNb22.out.below hb23)
        have HCb23 := hid (HCb22.out.below hb23)
        have HIn23 := hid (HIn22.out.below hb23)
        have HMb23 := hid (HMb22.out.below hb23)
        have HBl23 := hid (HBl22.out.trans (hb23.mono HBl22.out.size))
        clear HNb22 HCb22 HIn22 HMb22 HBl22
        clear hb23
        refine tkH 7 ?_; try go_simp
        refine tkH 8 ?_; try go_simp
        refine tkH 9 ?_; try go_simp
        refine tkH 10 ?_; try go_simp
        refine tkH 11 ?_; try go_simp
        refine wpAnyH_done (by kernel_rfl) ?_ _
        clear hHeld
        have q1 : ((fireV N M tx).2 != 0) = true := by rw [bne_iff_ne]; exact h0
        clear HFi1 h0
        generalize (fireV N M tx).2 = er at *
        go_wp2_with fail
        go_ret
        exact ⟨rfl, below_then HB6.out HBl23.out⟩
    · have q9 : ((k : Int) == (nl : Int)) = true := by rw [beq_iff_eq]; have := HK.out; omega
      obtain ⟨b0, b1, b2, b3⟩ := HNb21.out.cells
      obtain ⟨d0, d1, d2, d3, d4, d5, d6, d7⟩ := HCb21.out.cells
      go_wp2_with fail
      clear b0 b1 b2 b3 d0 d1 d2 d3 d4 d5 d6 d7
      go_ret
      exact ⟨rfl, below_then HB6.out HBl21.out⟩
  · skip
    clear HLt HTp
    have p1 : (cl == 1) = false := by rw [beq_eq_false_iff_ne]; omega
    have p5 : (cl == 5) = false := by rw [beq_eq_false_iff_ne]; omega
    have p7 : (cl == 7) = false := by rw [beq_eq_false_iff_ne]; omega
    have p2 : (cl == 2) = false := by rw [beq_eq_false_iff_ne]; omega
    have p3 : (cl == 3) = false := by rw [beq_eq_false_iff_ne]; omega
    have p4 : (cl == 4) = false := by rw [beq_eq_false_iff_ne]; omega
    have p6 : (cl == 6) = true := by rw [beq_iff_eq]; exact hc
    clear hc
    by_cases hlt : k < nl
    · have hlt' : k < l.length := by rw [HLl.out]; exact hlt
      have q9 : ((k : Int) == (nl : Int)) = false := by rw [beq_eq_false_iff_ne]; omega
      obtain ⟨tx, htx⟩ : ∃ tx, tx = l[k] := ⟨_, rfl⟩
      replace htx := htx.symm
      obtain ⟨b0, b1, b2, b3⟩ := HNb21.out.cells
      obtain ⟨d0, d1, d2, d3, d4, d5, d6, d7⟩ := HCb21.out.cells
      go_wp2_with fail
      clear b0 b1 b2 b3 d0 d1 d2 d3 d4 d5 d6 d7
      obtain ⟨b0, b1, b2, b3⟩ := HNb21.out.cells
      obtain ⟨d0, d1, d2, d3, d4, d5, d6, d7⟩ := HCb21.out.cells
      have m0 : w21.cell? ⟨(w6.heap.size), 0, none⟩ = some (.slice Am M.length cm) := by have := HMb21.out.1; simp [World.cell?, this]
      obtain ⟨al, rfl, hpa, q0⟩ := (show ZIn w21 Al l from HL6.out.below HBl21.out) k hlt'
      clear hpa d0 d1 d2 d3 d4 d5 d6 d7
      rw [htx] at q0
      have hfi := fun w1 (hw : Below w21.heap.size w21 w1) => r21fire_any N A n c Am M.length cm M tx w1 (HIn21.out.below hw) HNl.out hn2 (HMb21.out.2.1.below hw) rfl (by have := HMl.out; omega)
      rw [show fire21 N M tx = fireV N M tx by unfold fire21; rw [HMk.out]; rfl] at hfi
      have HFi0 := hid hfi
      clear hfi htx hlt'
      by_cases h0 : (fireV N M tx).2 = 0
      · skip
        have hbd : Below w21.heap.size w21 w21.drew := (Below.refl _ _).drew
        have HNb22 := hid (HNb21.out.below hbd)
        have HCb22 := hid (HCb21.out.below hbd)
        have HIn22 := hid (HIn21.out.below hbd)
        have HMb22 := hid (HMb21.out.below hbd)
        have HBl22 := hid (HBl21.out.trans (hbd.mono HBl21.out.size))
        have hS0 := And.intro (cell_stays hbd b0) (And.intro (cell_stays hbd b1) (And.intro (cell_stays hbd b2) (And.intro (cell_stays hbd b3) (And.intro (cell_stays hbd m0) ((cell_stays hbd q0))))))
        refine wp_region_held_drew (S := fun w' => w'.cell? ⟨w.heap.size, 0, none⟩ = some (.int .i64 N.pl) ∧ w'.cell? ⟨w.heap.size, 1, none⟩ = some (.slice A n c) ∧ w'.cell? ⟨w.heap.size, 2, none⟩ = some (.int .i64 N.src) ∧ w'.cell? ⟨w.heap.size, 3, none⟩ = some (.int .i64 N.snk) ∧ w'.cell? ⟨(w6.heap.size), 0, none⟩ = some (.slice Am M.length cm) ∧ w'.cell? (al.add k) = some (.int .i64 tx)) (by kernel_rfl) hS0 (fun hHeld => ?_)
        have HFi1 := hid (HFi0.out _ hbd)
        clear HFi0 hS0 hbd b0 b1 b2 b3 m0 q0
        clear HNb21 HCb21 HIn21 HMb21 HBl21
        generalize w21.drew = w22 at *
        have HTn := hid (tru_step HChk.out HTm.out h0)
        refine tkH 0 ?_; try go_simp
        refine tkH 1 ?_; try go_simp
        refine tkH 2 ?_; try go_simp
        refine tkH 3 ?_; try go_simp
        refine tkH 4 ?_; try go_simp
        refine tkH 5 ?_; try go_simp
        refine tkR 6 (fun K9 hK => ?_)
        go_simp
        ((refine (fv_yes HFi1.out h0).mono ?_); rintro e w23 ⟨v23, rfl, hS23⟩)
        obtain ⟨A23, c23, rfl⟩ := hS23.slice
        have hb23 := hS23.2
        have hS9 := hHeld
        refine hK.out _ _ ⟨cell_stays hb23 hS9.1, cell_stays hb23 hS9.2.1, cell_stays hb23 hS9.2.2.1, cell_stays hb23 hS9.2.2.2.1, cell_stays hb23 hS9.2.2.2.2.1, cell_stays hb23 hS9.2.2.2.2.2⟩ (fun hHeld => ?_)
        clear hK K9 hS9
        try go_simp
        have HNb23 := hid (HNb22.out.below hb23)
        have HCb23 := hid (HCb22.out.below hb23)
        have HIn23 := hid (HIn22.out.below hb23)
        have HMb23 := hid (HMb22.out.below hb23)
        have HBl23 := hid (HBl22.out.trans (hb23.mono HBl22.out.size))
        have HBp := hid HBl22.out
        clear HNb22 HCb22 HIn22 HMb22 HBl22
        have HS23 := hid hS23
        clear hS23 hb23
        refine tkH 7 ?_; try go_simp
        refine tkH 8 ?_; try go_simp
        refine tkH 9 ?_; try go_simp
        refine tkH 10 ?_; try go_simp
        refine tkH 11 ?_; try go_simp
        refine wpAnyH_done (by kernel_rfl) ?_ _
        clear hHeld
        clear HFi1 h0
        generalize (fireV N M tx).1 = Y at *
        have HMt := hid (show w23.heap[(w6.heap.size)]? = some (.cells #[.slice Am M.length cm] 25 (0, 0)) from HMb23.out.1)
        have HSu := hid (NS.up HBp.out HS23.out)
        have hset : w23.grownBy (w23.setCell ⟨(w6.heap.size), 0, none⟩ (.slice A23 Y.length c23)) (some (w6.heap.size)) := Lib.grownBy_setB (grown_refl w23 (some (w6.heap.size))) 0 _
        have HSv := hid (HSu.out.kept hset (own_other HSu.out.1 HMt.out (by decide)) (fun k hk => by cases hk; exact hmb))
        have HMv := hid (show MB (w23.setCell ⟨(w6.heap.size), 0, none⟩ (.slice A23 Y.length c23)) (w6.heap.size) A23 Y.length c23 Y from ⟨by rw [heap_set2 HMt.out]; rfl, by obtain ⟨A', c', e, hz, _⟩ := HSv.out.zin; cases e; exact hz, rfl⟩)
        have t0 : w23.cell? ⟨(w6.heap.size), 0, none⟩ = some (.slice Am M.length cm) := by have := HMt.out; simp [World.cell?, this]
        have tf : w23.frozen? ⟨(w6.heap.size), 0, none⟩ = false := by have := HMt.out; simp [World.frozen?, this]
        clear hset
        go_wp2_with fail
        go_roundg (gk - 1)
        case measure => have := HK.out; omega
        case rel => exact ⟨k + 1, Y, A23, c23, by have := HK.out; omega, by go_num, HMv.out, HSv.out.2, HTn.out⟩
      · skip
        have hbd : Below w21.heap.size w21 w21.drew := (Below.refl _ _).drew
        have HNb22 := hid (HNb21.out.below hbd)
        have HCb22 := hid (HCb21.out.below hbd)
        have HIn22 := hid (HIn21.out.below hbd)
        have HMb22 := hid (HMb21.out.below hbd)
        have HBl22 := hid (HBl21.out.trans (hbd.mono HBl21.out.size))
        have hS0 := And.intro (cell_stays hbd b0) (And.intro (cell_stays hbd b1) (And.intro (cell_stays hbd b2) (And.intro (cell_stays hbd b3) (And.intro (cell_stays hbd m0) ((cell_stays hbd q0))))))
        refine wp_region_held_drew (S := fun w' => w'.cell? ⟨w.heap.size, 0, none⟩ = some (.int .i64 N.pl) ∧ w'.cell? ⟨w.heap.size, 1, none⟩ = some (.slice A n c) ∧ w'.cell? ⟨w.heap.size, 2, none⟩ = some (.int .i64 N.src) ∧ w'.cell? ⟨w.heap.size, 3, none⟩ = some (.int .i64 N.snk) ∧ w'.cell? ⟨(w6.heap.size), 0, none⟩ = some (.slice Am M.length cm) ∧ w'.cell? (al.add k) = some (.int .i64 tx)) (by kernel_rfl) hS0 (fun hHeld => ?_)
        have HFi1 := hid (HFi0.out _ hbd)
        clear HFi0 hS0 hbd b0 b1 b2 b3 m0 q0
        clear HNb21 HCb21 HIn21 HMb21 HBl21
        generalize w21.drew = w22 at *
        refine tkH 0 ?_; try go_simp
        refine tkH 1 ?_; try go_simp
        refine tkH 2 ?_; try go_simp
        refine tkH 3 ?_; try go_simp
        refine tkH 4 ?_; try go_simp
        refine tkH 5 ?_; try go_simp
        refine tkR 6 (fun K9 hK => ?_)
        go_simp
        ((refine (fv_no HFi1.out h0).mono ?_); rintro e w23 ⟨rfl, hb23⟩)
        have hS9 := hHeld
        refine hK.out _ _ ⟨cell_stays hb23 hS9.1, cell_stays hb23 hS9.2.1, cell_stays hb23 hS9.2.2.1, cell_stays hb23 hS9.2.2.2.1, cell_stays hb23 hS9.2.2.2.2.1, cell_stays hb23 hS9.2.2.2.2.2⟩ (fun hHeld => ?_)
        clear hK K9 hS9
        try go_simp
        have HNb23 := hid (HNb22.out.below hb23)
        have HCb23 := hid (HCb22.out.below hb23)
        have HIn23 := hid (HIn22.out.below hb23)
        have HMb23 := hid (HMb22.out.below hb23)
        have HBl23 := hid (HBl22.out.trans (hb23.mono HBl22.out.size))
        clear HNb22 HCb22 HIn22 HMb22 HBl22
        clear hb23
        refine tkH 7 ?_; try go_simp
        refine tkH 8 ?_; try go_simp
        refine tkH 9 ?_; try go_simp
        refine tkH 10 ?_; try go_simp
        refine tkH 11 ?_; try go_simp
        refine wpAnyH_done (by kernel_rfl) ?_ _
        clear hHeld
        have q1 : ((fireV N M tx).2 != 0) = true := by rw [bne_iff_ne]; exact h0
        clear HFi1 h0
        generalize (fireV N M tx).2 = er at *
        go_wp2_with fail
        go_ret
        exact ⟨rfl, below_then HB6.out HBl23.out⟩
    · have q9 : ((k : Int) == (nl : Int)) = true := by rw [beq_iff_eq]; have := HK.out; omega
      obtain ⟨b0, b1, b2, b3⟩ := HNb21.out.cells
      obtain ⟨d0, d1, d2, d3, d4, d5, d6, d7⟩ := HCb21.out.cells
      go_wp2_with fail
      clear b0 b1 b2 b3 d0 d1 d2 d3 d4 d5 d6 d7
      go_ret
      exact ⟨rfl, below_then HB6.out HBl21.out⟩
  · skip
    clear HLt HTp
    have p1 : (cl == 1) = false := by rw [beq_eq_false_iff_ne]; omega
    have p5 : (cl == 5) = false := by rw [beq_eq_false_iff_ne]; omega
    have p7 : (cl == 7) = false := by rw [beq_eq_false_iff_ne]; omega
    have p2 : (cl == 2) = false := by rw [beq_eq_false_iff_ne]; omega
    have p3 : (cl == 3) = false := by rw [beq_eq_false_iff_ne]; omega
    have p4 : (cl == 4) = false := by rw [beq_eq_false_iff_ne]; omega
    have p6 : (cl == 6) = false := by rw [beq_eq_false_iff_ne]; omega
    have p8 : (cl == 8) = true := by rw [beq_iff_eq]; exact hc
    clear hc
    by_cases hlt : k < nl
    · have hlt' : k < l.length := by rw [HLl.out]; exact hlt
      have q9 : ((k : Int) == (nl : Int)) = false := by rw [beq_eq_false_iff_ne]; omega
      obtain ⟨tx, htx⟩ : ∃ tx, tx = l[k] := ⟨_, rfl⟩
      replace htx := htx.symm
      obtain ⟨b0, b1, b2, b3⟩ := HNb21.out.cells
      obtain ⟨d0, d1, d2, d3, d4, d5, d6, d7⟩ := HCb21.out.cells
      go_wp2_with fail
      clear b0 b1 b2 b3 d0 d1 d2 d3 d4 d5 d6 d7
      obtain ⟨b0, b1, b2, b3⟩ := HNb21.out.cells
      obtain ⟨d0, d1, d2, d3, d4, d5, d6, d7⟩ := HCb21.out.cells
      have m0 : w21.cell? ⟨(w6.heap.size), 0, none⟩ = some (.slice Am M.length cm) := by have := HMb21.out.1; simp [World.cell?, this]
      obtain ⟨al, rfl, hpa, q0⟩ := (show ZIn w21 Al l from HL6.out.below HBl21.out) k hlt'
      clear hpa d0 d1 d2 d3 d4 d5 d6 d7
      rw [htx] at q0
      have hfi := fun w1 (hw : Below w21.heap.size w21 w1) => r21fire_any N A n c Am M.length cm M tx w1 (HIn21.out.below hw) HNl.out hn2 (HMb21.out.2.1.below hw) rfl (by have := HMl.out; omega)
      rw [show fire21 N M tx = fireV N M tx by unfold fire21; rw [HMk.out]; rfl] at hfi
      have HFi0 := hid hfi
      clear hfi htx hlt'
      by_cases h0 : (fireV N M tx).2 = 0
      · skip
        have hbd : Below w21.heap.size w21 w21.drew := (Below.refl _ _).drew
        have HNb22 := hid (HNb21.out.below hbd)
        have HCb22 := hid (HCb21.out.below hbd)
        have HIn22 := hid (HIn21.out.below hbd)
        have HMb22 := hid (HMb21.out.below hbd)
        have HBl22 := hid (HBl21.out.trans (hbd.mono HBl21.out.size))
        have hS0 := And.intro (cell_stays hbd b0) (And.intro (cell_stays hbd b1) (And.intro (cell_stays hbd b2) (And.intro (cell_stays hbd b3) (And.intro (cell_stays hbd m0) ((cell_stays hbd q0))))))
        refine wp_region_held_drew (S := fun w' => w'.cell? ⟨w.heap.size, 0, none⟩ = some (.int .i64 N.pl) ∧ w'.cell? ⟨w.heap.size, 1, none⟩ = some (.slice A n c) ∧ w'.cell? ⟨w.heap.size, 2, none⟩ = some (.int .i64 N.src) ∧ w'.cell? ⟨w.heap.size, 3, none⟩ = some (.int .i64 N.snk) ∧ w'.cell? ⟨(w6.heap.size), 0, none⟩ = some (.slice Am M.length cm) ∧ w'.cell? (al.add k) = some (.int .i64 tx)) (by kernel_rfl) hS0 (fun hHeld => ?_)
        have HFi1 := hid (HFi0.out _ hbd)
        clear HFi0 hS0 hbd b0 b1 b2 b3 m0 q0
        clear HNb21 HCb21 HIn21 HMb21 HBl21
        generalize w21.drew = w22 at *
        have HTn := hid (tru_step HChk.out HTm.out h0)
        refine tkH 0 ?_; try go_simp
        refine tkH 1 ?_; try go_simp
        refine tkH 2 ?_; try go_simp
        refine tkH 3 ?_; try go_simp
        refine tkH 4 ?_; try go_simp
        refine tkH 5 ?_; try go_simp
        refine tkR 6 (fun K9 hK => ?_)
        go_simp
        ((refine (fv_yes HFi1.out h0).mono ?_); rintro e w23 ⟨v23, rfl, hS23⟩)
        obtain ⟨A23, c23, rfl⟩ := hS23.slice
        have hb23 := hS23.2
        have hS9 := hHeld
        refine hK.out _ _ ⟨cell_stays hb23 hS9.1, cell_stays hb23 hS9.2.1, cell_stays hb23 hS9.2.2.1, cell_stays hb23 hS9.2.2.2.1, cell_stays hb23 hS9.2.2.2.2.1, cell_stays hb23 hS9.2.2.2.2.2⟩ (fun hHeld => ?_)
        clear hK K9 hS9
        try go_simp
        have HNb23 := hid (HNb22.out.below hb23)
        have HCb23 := hid (HCb22.out.below hb23)
        have HIn23 := hid (HIn22.out.below hb23)
        have HMb23 := hid (HMb22.out.below hb23)
        have HBl23 := hid (HBl22.out.trans (hb23.mono HBl22.out.size))
        have HBp := hid HBl22.out
        clear HNb22 HCb22 HIn22 HMb22 HBl22
        have HS23 := hid hS23
        clear hS23 hb23
        refine tkH 7 ?_; try go_simp
        refine tkH 8 ?_; try go_simp
        refine tkH 9 ?_; try go_simp
        refine tkH 10 ?_; try go_simp
        refine tkH 11 ?_; try go_simp
        refine wpAnyH_done (by kernel_rfl) ?_ _
        clear hHeld
        clear HFi1 h0
        generalize (fireV N M tx).1 = Y at *
        have HMt := hid (show w23.heap[(w6.heap.size)]? = some (.cells #[.slice Am M.length cm] 25 (0, 0)) from HMb23.out.1)
        have HSu := hid (NS.up HBp.out HS23.out)
        have hset : w23.grownBy (w23.setCell ⟨(w6.heap.size), 0, none⟩ (.slice A23 Y.length c23)) (some (w6.heap.size)) := Lib.grownBy_setB (grown_refl w23 (some (w6.heap.size))) 0 _
        have HSv := hid (HSu.out.kept hset (own_other HSu.out.1 HMt.out (by decide)) (fun k hk => by cases hk; exact hmb))
        have HMv := hid (show MB (w23.setCell ⟨(w6.heap.size), 0, none⟩ (.slice A23 Y.length c23)) (w6.heap.size) A23 Y.length c23 Y from ⟨by rw [heap_set2 HMt.out]; rfl, by obtain ⟨A', c', e, hz, _⟩ := HSv.out.zin; cases e; exact hz, rfl⟩)
        have t0 : w23.cell? ⟨(w6.heap.size), 0, none⟩ = some (.slice Am M.length cm) := by have := HMt.out; simp [World.cell?, this]
        have tf : w23.frozen? ⟨(w6.heap.size), 0, none⟩ = false := by have := HMt.out; simp [World.frozen?, this]
        clear hset
        go_wp2_with fail
        go_roundg (gk - 1)
        case measure => have := HK.out; omega
        case rel => exact ⟨k + 1, Y, A23, c23, by have := HK.out; omega, by go_num, HMv.out, HSv.out.2, HTn.out⟩
      · skip
        have hbd : Below w21.heap.size w21 w21.drew := (Below.refl _ _).drew
        have HNb22 := hid (HNb21.out.below hbd)
        have HCb22 := hid (HCb21.out.below hbd)
        have HIn22 := hid (HIn21.out.below hbd)
        have HMb22 := hid (HMb21.out.below hbd)
        have HBl22 := hid (HBl21.out.trans (hbd.mono HBl21.out.size))
        have hS0 := And.intro (cell_stays hbd b0) (And.intro (cell_stays hbd b1) (And.intro (cell_stays hbd b2) (And.intro (cell_stays hbd b3) (And.intro (cell_stays hbd m0) ((cell_stays hbd q0))))))
        refine wp_region_held_drew (S := fun w' => w'.cell? ⟨w.heap.size, 0, none⟩ = some (.int .i64 N.pl) ∧ w'.cell? ⟨w.heap.size, 1, none⟩ = some (.slice A n c) ∧ w'.cell? ⟨w.heap.size, 2, none⟩ = some (.int .i64 N.src) ∧ w'.cell? ⟨w.heap.size, 3, none⟩ = some (.int .i64 N.snk) ∧ w'.cell? ⟨(w6.heap.size), 0, none⟩ = some (.slice Am M.length cm) ∧ w'.cell? (al.add k) = some (.int .i64 tx)) (by kernel_rfl) hS0 (fun hHeld => ?_)
        have HFi1 := hid (HFi0.out _ hbd)
        clear HFi0 hS0 hbd b0 b1 b2 b3 m0 q0
        clear HNb21 HCb21 HIn21 HMb21 HBl21
        generalize w21.drew = w22 at *
        refine tkH 0 ?_; try go_simp
        refine tkH 1 ?_; try go_simp
        refine tkH 2 ?_; try go_simp
        refine tkH 3 ?_; try go_simp
        refine tkH 4 ?_; try go_simp
        refine tkH 5 ?_; try go_simp
        refine tkR 6 (fun K9 hK => ?_)
        go_simp
        ((refine (fv_no HFi1.out h0).mono ?_); rintro e w23 ⟨rfl, hb23⟩)
        have hS9 := hHeld
        refine hK.out _ _ ⟨cell_stays hb23 hS9.1, cell_stays hb23 hS9.2.1, cell_stays hb23 hS9.2.2.1, cell_stays hb23 hS9.2.2.2.1, cell_stays hb23 hS9.2.2.2.2.1, cell_stays hb23 hS9.2.2.2.2.2⟩ (fun hHeld => ?_)
        clear hK K9 hS9
        try go_simp
        have HNb23 := hid (HNb22.out.below hb23)
        have HCb23 := hid (HCb22.out.below hb23)
        have HIn23 := hid (HIn22.out.below hb23)
        have HMb23 := hid (HMb22.out.below hb23)
        have HBl23 := hid (HBl22.out.trans (hb23.mono HBl22.out.size))
        clear HNb22 HCb22 HIn22 HMb22 HBl22
        clear hb23
        refine tkH 7 ?_; try go_simp
        refine tkH 8 ?_; try go_simp
        refine tkH 9 ?_; try go_simp
        refine tkH 10 ?_; try go_simp
        refine tkH 11 ?_; try go_simp
        refine wpAnyH_done (by kernel_rfl) ?_ _
        clear hHeld
        have q1 : ((fireV N M tx).2 != 0) = true := by rw [bne_iff_ne]; exact h0
        clear HFi1 h0
        generalize (fireV N M tx).2 = er at *
        go_wp2_with fail
        go_ret
        exact ⟨rfl, below_then HB6.out HBl23.out⟩
    · have q9 : ((k : Int) == (nl : Int)) = true := by rw [beq_iff_eq]; have := HK.out; omega
      obtain ⟨b0, b1, b2, b3⟩ := HNb21.out.cells
      obtain ⟨d0, d1, d2, d3, d4, d5, d6, d7⟩ := HCb21.out.cells
      go_wp2_with fail
      clear b0 b1 b2 b3 d0 d1 d2 d3 d4 d5 d6 d7
      go_ret
      exact ⟨rfl, below_then HB6.out HBl21.out⟩
end Go.Proofs.YtpnhcimmlnjfaaaDoor
