/- Pump of reference 29: what a call returns. -/
import Derived.Test.YtpnhcimmlnjfaaaGreatDoorUt
import Derived.Test.YtpnhcimmlnjfaaaGreatDoorGb
namespace Go.Proofs.YtpnhcimmlnjfaaaGreatDoor
open Go.Lib (hid)
open Go.RowKit

set_option maxHeartbeats 3200000 in
set_option maxRecDepth 100000 in
theorem rPump_any (N : Nt) (A : Option Addr) (n c : Nat) (Ar : Option Addr) (nr cr : Nat) (R : List Int) (Ap : Option Addr) (np cp : Nat) (P : List Int) (w : World) (h : NtIn w A N) (hn : N.tr.length = n) (hn2 : n ≤ 9223372036854775806) (hR : ZIn w Ar R) (hr : R.length = nr) (hP : ZIn w Ap P) (hp : P.length = np) (hr2 : nr ≤ 2000) (hp2 : np ≤ 2000) :
 Calls Tryz.prog 15 #[.agg #[.int .i64 N.pl, .slice A n c, .int .i64 N.src, .int .i64 N.snk], .slice Ar nr cr, .slice Ap np cp] w fun e w' => e = .returned (.tuple #[.bool (if pumE N R P = 0 then vpumB N R P else false), .int .i64 (pumE N R P)]) ∧ Below w.heap.size w w' := by
 have HB0 := hid (below_alloc w (.cells #[.int .i64 N.pl, .slice A n c, .int .i64 N.src, .int .i64 N.snk] 24))
 have HNb0 := hid (NB.new w N.pl A n c N.src N.snk)
 have HIn0 := hid (h.below HB0.out)
 have HR0 := hid (hR.below HB0.out)
 have HP0 := hid (hP.below HB0.out)
 have HRl := hid hr
 have HPl := hid hp
 have HNl := hid hn
 have HPv := hid (rvalid_any N A n c _ (h.below HB0.out) hn (by omega))
 have HQ := hid (show pumE N R P = if ntB N then (if 1000 < nr ∨ 1000 < np then 5 else 0) else 1 by unfold pumE; rw [hr, hp])
 clear h hn hR hr hP hp
 cases hv : ntB N with
 | false =>
  rw [hv] at HQ HPv
  rw [show pumE N R P = 1 by rw [HQ.out]; rfl, if_neg (show ¬ (1 : Int) = 0 by decide)]
  clear hv
  go_enter Tryz.func15, Tryz.ntmps15
  go_wp2_with fail
  generalize w.alloc _ = w0 at *
  ((with_reducible refine HPv.out.mono ?_); rintro e w1 ⟨rfl, hb1⟩)
  have HB1 := hid (HB0.out.trans (hb1.mono HB0.out.size))
  clear hb1 HPv
  go_wp2_with fail
  go_ret2
  exact ⟨rfl, HB1.out⟩
 | true =>
  have HV := hid hv
  rw [hv] at HQ HPv
  by_cases h1 : 1000 < nr
  · have q1 : decide ((1000 : Int) < (nr : Int)) = true := by simp; omega
    rw [show pumE N R P = 5 by rw [HQ.out, if_pos rfl, if_pos (.inl h1)], if_neg (show ¬ (5 : Int) = 0 by decide)]
    clear hv h1
    go_enter Tryz.func15, Tryz.ntmps15
    go_wp2_with fail
    generalize w.alloc _ = w0 at *
    ((with_reducible refine HPv.out.mono ?_); rintro e w1 ⟨rfl, hb1⟩)
    have HB1 := hid (HB0.out.trans (hb1.mono HB0.out.size))
    clear hb1 HPv
    go_wp2_with fail
    go_ret2
    exact ⟨rfl, HB1.out⟩
  have q1 : decide ((1000 : Int) < (nr : Int)) = false := by simp; omega
  by_cases h2 : 1000 < np
  · have q2 : decide ((1000 : Int) < (np : Int)) = true := by simp; omega
    rw [show pumE N R P = 5 by rw [HQ.out, if_pos rfl, if_pos (.inr h2)], if_neg (show ¬ (5 : Int) = 0 by decide)]
    clear hv h1 h2
    go_enter Tryz.func15, Tryz.ntmps15
    go_wp2_with fail
    generalize w.alloc _ = w0 at *
    ((with_reducible refine HPv.out.mono ?_); rintro e w1 ⟨rfl, hb1⟩)
    have HB1 := hid (HB0.out.trans (hb1.mono HB0.out.size))
    clear hb1 HPv
    go_wp2_with fail
    go_ret2
    exact ⟨rfl, HB1.out⟩
  have q2 : decide ((1000 : Int) < (np : Int)) = false := by simp; omega
  have hpv := nt_small HV.out
  have hn60 : n ≤ 60 := by have := HNl.out; omega
  have hil : (iniM N).length ≤ 40 := by rw [show (iniM N).length = N.pl.toNat from oneM_len _ _]; omega
  rw [show pumE N R P = 0 by rw [HQ.out, if_pos rfl, if_neg (by omega)], if_pos rfl]
  clear hv h1 h2 HQ hpv
  have HQ := hid (show vpumB N R P = (decide ((run21 N (iniM N) R).2.2 = 0) && (!(P.isEmpty) && (decide ((run21 N (run21 N (iniM N) R).1 P).2.2 = 0) && (atMost (run21 N (iniM N) R).1 (run21 N (run21 N (iniM N) R).1 P).1 && !(decide ((run21 N (iniM N) R).1 = (run21 N (run21 N (iniM N) R).1 P).1)))))) from rfl)
  generalize vpumB N R P = Q at *
  have HMk := hid (fun (hh : (run21 N (iniM N) R).2.2 = 0) => run21_mk hh)
  go_enter Tryz.func15, Tryz.ntmps15
  go_wp2_with fail
  generalize w.alloc _ = w0 at *
  ((with_reducible refine HPv.out.mono ?_); rintro e w1 ⟨rfl, hb1⟩)
  have hbd : Below w1.heap.size w1 w1.drew := (Below.refl _ _).drew
  have hbt := below_then hb1 hbd
  have HBd := hid (HB0.out.trans (hbt.mono HB0.out.size))
  have HNd := hid (HNb0.out.below hbt)
  have HInd := hid (HIn0.out.below hbt)
  have HRd := hid (HR0.out.below hbt)
  have HPd := hid (HP0.out.below hbt)
  have HOn := hid (rsrc_any N A n c HV.out w1.drew)
  have hS0 := And.intro HNd.out.cells.1 (And.intro HNd.out.cells.2.1 (And.intro HNd.out.cells.2.2.1 HNd.out.cells.2.2.2))
  clear hb1 hbd hbt HPv HB0 HNb0 HIn0 HR0 HP0
  go_wp2_with fail
  by_cases h0 : (run21 N (iniM N) R).2.2 = 0
  · have H0 := hid h0
    have HMx := hid (HMk.out h0)
    rw [decide_eq_true h0] at HQ
    clear HMk h0
    refine wp_region_held_drew (S := fun w' => w'.cell? ⟨w.heap.size, 0, none⟩ = some (.int .i64 N.pl) ∧ w'.cell? ⟨w.heap.size, 1, none⟩ = some (.slice A n c) ∧ w'.cell? ⟨w.heap.size, 2, none⟩ = some (.int .i64 N.src) ∧ w'.cell? ⟨w.heap.size, 3, none⟩ = some (.int .i64 N.snk)) (by kernel_rfl) hS0 (fun hHeld => ?_)
    clear hS0
    generalize w1.drew = wd at *
    refine tkH 0 ?_; try go_simp
    refine tkH 1 ?_; try go_simp
    refine tkH 2 ?_; try go_simp
    refine tkH 3 ?_; try go_simp
    refine tkH 5 ?_; try go_simp
    refine tkR 4 (fun K9 hK => ?_)
    go_simp
    ((refine HOn.out.mono ?_); rintro e w4 ⟨v4, rfl, hS4⟩; have hb4 := hS4.2; obtain ⟨A4, c4, rfl⟩ := hS4.slice)
    have HB4 := hid (HBd.out.trans (hb4.mono HBd.out.size))
    have HZ4 := hid (show ZIn w4 A4 (iniM N) by obtain ⟨A', c', e, hz, _⟩ := hS4.zin; cases e; exact hz)
    have hS9 := hHeld
    refine hK.out _ _ ⟨cell_stays hb4 hS9.1, cell_stays hb4 hS9.2.1, cell_stays hb4 hS9.2.2.1, cell_stays hb4 hS9.2.2.2⟩ (fun hHeld => ?_)
    clear hK K9 hS9
    try go_simp
    have HRn := hid (r21run_any N A n c A4 (iniM N).length c4 (iniM N) Ar nr cr R w4 (HInd.out.below hb4) HNl.out (by omega) HZ4.out rfl (by omega) (HRd.out.below hb4) HRl.out)
    refine tkR 6 (fun K9 hK => ?_)
    go_simp
    ((refine (rv_yes HRn.out H0.out).mono ?_); rintro e w5 ⟨v5, rfl, hS5⟩; have hb5 := hS5.2; obtain ⟨A5, c5, rfl⟩ := hS5.slice)
    have hS9 := hHeld
    refine hK.out _ _ ⟨cell_stays hb5 hS9.1, cell_stays hb5 hS9.2.1, cell_stays hb5 hS9.2.2.1, cell_stays hb5 hS9.2.2.2⟩ (fun hHeld => ?_)
    clear hK K9 hS9
    try go_simp
    refine tkH 7 ?_; try go_simp
    refine tkH 8 ?_; try go_simp
    refine tkH 9 ?_; try go_simp
    refine tkH 10 ?_; try go_simp
    refine tkH 11 ?_; try go_simp
    refine tkH 12 ?_; try go_simp
    refine tkH 13 ?_; try go_simp
    refine wpAnyH_done (by kernel_rfl) ?_ _
    clear hHeld
    generalize (run21 N (iniM N) R).1 = X at *
    generalize (run21 N (iniM N) R).2.1 = ri0 at *
    have hxl : X.length ≤ 40 := by have := mk_len HMx.out; have := nt_small HV.out; omega
    have HX5 := hid (show ZIn w5 A5 X by obtain ⟨A', c', e, hz, _⟩ := hS5.zin; cases e; exact hz)
    have HB5 := hid (HB4.out.trans (hb5.mono HB4.out.size))
    have hb45 := below_then hb4 hb5
    have HNb5 := hid (HNd.out.below hb45)
    have HIn5 := hid (HInd.out.below hb45)
    have HP5 := hid (HPd.out.below hb45)
    clear HRn HOn hS4 hb4 hS5 hb5 hb45 HB4 HZ4 HNd HInd HPd HRd hHeld
    by_cases hp0 : np = 0
    · have HE := hid (show P.isEmpty = true by rw [List.isEmpty_iff]; exact List.eq_nil_of_length_eq_zero (by rw [HPl.out]; exact hp0))
      rw [HE.out] at HQ
      have q3 : ((np : Int) == 0) = true := by simp [hp0]
      clear hp0
      go_wp2_with fail
      go_ret2
      exact ⟨ret_bi (by rw [HQ.out]; rfl) rfl, HB5.out⟩
    · have HE := hid (show P.isEmpty = false by
       cases P with
       | nil => exact absurd HPl.out.symm (by simpa using hp0)
       | cons => rfl)
      rw [HE.out] at HQ
      have q3 : ((np : Int) == 0) = false := by rw [beq_eq_false_iff_ne]; omega
      clear hp0
      have HR2 := hid (r21run_any N A n c A5 X.length c5 X Ap np cp P w5 HIn5.out HNl.out (by omega) HX5.out rfl (by omega) HP5.out HPl.out)
      obtain ⟨b0, b1, b2, b3⟩ := HNb5.out.cells
      by_cases h2 : (run21 N X P).2.2 = 0
      · have HR3 := hid (rv_yes HR2.out h2)
        have HMy := hid (run21_mk h2)
        rw [decide_eq_true h2] at HQ
        clear HR2 h2
        generalize (run21 N X P).1 = Y at *
        generalize (run21 N X P).2.1 = ri at *
        have hyl : Y.length ≤ 40 := by have := mk_len HMy.out; have := nt_small HV.out; omega
        have hxy : X.length ≤ Y.length := by have := mk_len HMy.out; have := mk_len HMx.out; omega
        go_wp2_with fail
        ((with_reducible refine HR3.out.mono ?_); rintro e w6 ⟨v6, rfl, hS6⟩)
        obtain ⟨A6, c6, rfl⟩ := hS6.slice
        have hb6 := hS6.2
        have HB6 := hid (HB5.out.trans (hb6.mono HB5.out.size))
        have HY6 := hid (show ZIn w6 A6 Y by obtain ⟨A', c', e, hz, _⟩ := hS6.zin; cases e; exact hz)
        have HX6 := hid (HX5.out.below hb6)
        have HMo := hid (atmost_any A5 X.length c5 A6 Y.length c6 X Y w6 HX6.out rfl HY6.out rfl (by omega) (by omega))
        clear hS6 hb6 HR3 b0 b1 b2 b3
        cases ha : atMost X Y with
        | false =>
         rw [ha] at HMo HQ
         clear ha
         go_wp2_with fail
         ((with_reducible refine HMo.out.mono ?_); rintro e w7 ⟨rfl, hb7⟩)
         have HB7 := hid (HB6.out.trans (hb7.mono HB6.out.size))
         go_wp2_with fail
         go_ret2
         exact ⟨ret_bi (by rw [HQ.out]; rfl) rfl, HB7.out⟩
        | true =>
         rw [ha] at HMo HQ
         clear ha
         go_wp2_with fail
         ((with_reducible refine HMo.out.mono ?_); rintro e w7 ⟨rfl, hb7⟩)
         have HB7 := hid (HB6.out.trans (hb7.mono HB6.out.size))
         have HEq := hid (samerow_any A5 X.length c5 X A6 Y.length c6 Y w7 (HX6.out.below hb7) rfl (HY6.out.below hb7) rfl (by omega) (by omega))
         generalize decide (X = Y) = eq at *
         clear hb7
         go_wp2_with fail
         ((with_reducible refine HEq.out.mono ?_); rintro e w8 ⟨rfl, hb8⟩)
         have HB8 := hid (HB7.out.trans (hb8.mono HB7.out.size))
         go_wp2_with fail
         go_ret2
         exact ⟨ret_bi (by rw [HQ.out]; rfl) rfl, HB8.out⟩
      · have HR3 := hid (rv_no HR2.out h2)
        rw [decide_eq_false h2] at HQ
        have q2 : ((run21 N X P).2.2 == 0) = false := by rw [beq_eq_false_iff_ne]; exact h2
        clear HR2 h2
        generalize (run21 N X P).2.2 = er at *
        generalize (run21 N X P).2.1 = ri at *
        go_wp2_with fail
        ((with_reducible refine HR3.out.mono ?_); rintro e w6 ⟨rfl, hb6⟩)
        have HB6 := hid (HB5.out.trans (hb6.mono HB5.out.size))
        go_wp2_with fail
        go_ret2
        exact ⟨ret_bi (by rw [HQ.out]; rfl) rfl, HB6.out⟩
  · have H0 := hid h0
    rw [decide_eq_false h0] at HQ
    have q3 : ((run21 N (iniM N) R).2.2 != 0) = true := by rw [bne_iff_ne]; exact h0
    clear HMk h0
    refine wp_region_held_drew (S := fun w' => w'.cell? ⟨w.heap.size, 0, none⟩ = some (.int .i64 N.pl) ∧ w'.cell? ⟨w.heap.size, 1, none⟩ = some (.slice A n c) ∧ w'.cell? ⟨w.heap.size, 2, none⟩ = some (.int .i64 N.src) ∧ w'.cell? ⟨w.heap.size, 3, none⟩ = some (.int .i64 N.snk)) (by kernel_rfl) hS0 (fun hHeld => ?_)
    clear hS0
    generalize w1.drew = wd at *
    refine tkH 0 ?_; try go_simp
    refine tkH 1 ?_; try go_simp
    refine tkH 2 ?_; try go_simp
    refine tkH 3 ?_; try go_simp
    refine tkH 5 ?_; try go_simp
    refine tkR 4 (fun K9 hK => ?_)
    go_simp
    ((refine HOn.out.mono ?_); rintro e w4 ⟨v4, rfl, hS4⟩; have hb4 := hS4.2; obtain ⟨A4, c4, rfl⟩ := hS4.slice)
    have HB4 := hid (HBd.out.trans (hb4.mono HBd.out.size))
    have HZ4 := hid (show ZIn w4 A4 (iniM N) by obtain ⟨A', c', e, hz, _⟩ := hS4.zin; cases e; exact hz)
    have hS9 := hHeld
    refine hK.out _ _ ⟨cell_stays hb4 hS9.1, cell_stays hb4 hS9.2.1, cell_stays hb4 hS9.2.2.1, cell_stays hb4 hS9.2.2.2⟩ (fun hHeld => ?_)
    clear hK K9 hS9
    try go_simp
    have HRn := hid (r21run_any N A n c A4 (iniM N).length c4 (iniM N) Ar nr cr R w4 (HInd.out.below hb4) HNl.out (by omega) HZ4.out rfl (by omega) (HRd.out.below hb4) HRl.out)
    refine tkR 6 (fun K9 hK => ?_)
    go_simp
    ((refine (rv_no HRn.out H0.out).mono ?_); rintro e w5 ⟨rfl, hb5⟩)
    have hS9 := hHeld
    refine hK.out _ _ ⟨cell_stays hb5 hS9.1, cell_stays hb5 hS9.2.1, cell_stays hb5 hS9.2.2.1, cell_stays hb5 hS9.2.2.2⟩ (fun hHeld => ?_)
    clear hK K9 hS9
    try go_simp
    refine tkH 7 ?_; try go_simp
    refine tkH 8 ?_; try go_simp
    refine tkH 9 ?_; try go_simp
    refine tkH 10 ?_; try go_simp
    refine tkH 11 ?_; try go_simp
    refine tkH 12 ?_; try go_simp
    refine tkH 13 ?_; try go_simp
    refine wpAnyH_done (by kernel_rfl) ?_ _
    clear hHeld
    generalize (run21 N (iniM N) R).2.2 = er at *
    generalize (run21 N (iniM N) R).2.1 = ri0 at *
    have HB5 := hid (HB4.out.trans (hb5.mono HB4.out.size))
    go_wp2_with fail
    go_ret2
    exact ⟨ret_bi (by rw [HQ.out]; rfl) rfl, HB5.out⟩
end Go.Proofs.YtpnhcimmlnjfaaaGreatDoor
