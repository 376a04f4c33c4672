/- Cover of reference 29: what a call returns. -/
import Derived.Test.YtpnhcimmlnjfaaaGreatDoorUt
import Derived.Test.YtpnhcimmlnjfaaaGreatDoorGb
namespace Go.Proofs.YtpnhcimmlnjfaaaGreatDoor
open Go.Lib (hid)
open Go.RowKit

set_option maxHeartbeats 25600000 in
set_option maxRecDepth 100000 in
theorem cover29_any (N : Nt) (A : Option Addr) (n c : Nat) (Al : Option Addr) (nl cl : Nat) (LL : List (List Int)) (w : World) (h : NtIn w A N) (hn : N.tr.length = n) (hn2 : n ≤ 9223372036854775806) (hL : LIn w Al LL) (hl : LL.length = nl) (hl2 : nl ≤ 2000) :
 Calls Tryz.prog 14 #[.agg #[.int .i64 N.pl, .slice A n c, .int .i64 N.src, .int .i64 N.snk], .slice Al nl cl] w fun e w' => e = .returned (.tuple #[.bool (if givE N LL true = 0 then covX N LL else false), .int .i64 (givE N LL true)]) ∧ Below w.heap.size w w' := by
 have HB := hid (below_alloc w (.cells #[.int .i64 N.pl, .slice A n c, .int .i64 N.src, .int .i64 N.snk] 24))
 have HNb := hid (NB.new w N.pl A n c N.src N.snk)
 have HIn := hid (h.below HB.out)
 have HL := hid (hL.below HB.out)
 have HLl := hid hl
 have HNl := hid hn
 have HVd := hid (rvalid_any N A n c _ HIn.out hn (by omega))
 have HGq := hid (show ∃ g, g = givE N LL true from ⟨_, rfl⟩)
 have HQq := hid (show givE N LL true = 0 → (if givE N LL true = 0 then covX N LL else false) = covX N LL from fun hh => if_pos hh)
 have HQn := hid (show givE N LL true = 1 → (if givE N LL true = 0 then covX N LL else false) = false from fun hh => if_neg (by rw [hh]; decide))
 have HG0 := hid (fun h1 => @giv_nt N LL true h1)
 have HG1 := hid (fun h1 => @giv_mk N LL true h1)
 have HG2 := hid (fun h1 h2 => @giv_ok N LL true h1 h2 (by rw [hl]; exact hl2))
 generalize (if givE N LL true = 0 then covX N LL else false) = Q at *
 generalize givE N LL true = G at *
 obtain ⟨b0, b1, b2, b3⟩ := HNb.out.cells
 clear h hn hL hl HGq
 go_enter Tryz.func14, Tryz.ntmps14
 go_wp2_with fail
 generalize w.alloc _ = w0 at *
 ((with_reducible refine HVd.out.mono ?_); rintro e w1 ⟨rfl, hb1⟩)
 have HB1 := hid hb1
 clear hb1 HVd b0 b1 b2 b3
 cases hv : ntB N with
 | false =>
  have HG := hid (HG0.out hv)
  have HV := hid (HQn.out HG.out)
  clear hv
  go_wp2_with fail
  go_ret2
  exact ⟨ret_bi HV.out.symm HG.out.symm, HB.out.trans (HB1.out.mono HB.out.size)⟩
 | true =>
 have HVt := hid hv
 have hps := nt_small hv
 have hn60 : n ≤ 60 := by have := HNl.out; omega
 have hpl1 : 1 ≤ N.pl := hps.1
 have hpl40 : N.pl ≤ 40 := hps.2.1
 clear hv hps
 go_wp2_with fail
 go_loopg [6] (nl) (fun g iv wr => ∃ k : Nat, k + g = nl ∧ iv = .int .i64 (k : Int) ∧ (LL.take k).all (mkX N.pl true) = true ∧ Below w0.heap.size w0 wr)
 case atStart => exact ⟨0, by omega, rfl, by simp, HB1.out⟩
 case round =>
  clear HB1
  obtain ⟨k, hk, rfl, hp, hB⟩ := hrel
  have HK := hid hk
  have HP := hid hp
  have HBr := hid hB
  have hle : k ≤ nl := by omega
  obtain ⟨b0, b1, b2, b3⟩ := (HNb.out.below hB).cells
  clear hk hp hB
  by_cases hlt : k < nl
  · have hlt' : k < LL.length := by rw [HLl.out]; exact hlt
    obtain ⟨al, hal, hpa, u, q0', Ax, nx, cx, hu, zx, hx1, hx2, hx3⟩ := HL.out k hlt'
    subst hal hu
    have q0 := cell_stays HBr.out q0'
    have HTk := hid (all_step (mkX N.pl true) hlt')
    have HNo := hid (fun hh => all_false (f := mkX N.pl true) (List.getElem_mem hlt') hh)
    generalize LL[k] = X at *
    have HZx := hid zx
    have HXl := hid hx1
    have HEx := hid (fun d os => ext29_any N A n c Ax nx cx X _ (HZx.out.below (HBr.out.trans ((below_regrown wr d os).mono HBr.out.size))) HXl.out (by omega))
    clear hlt' zx hx1 q0'
    go_wp2_with fail
    have a0 := fun d os => cell_regrown b0 d os
    have a1 := fun d os => cell_regrown b1 d os
    have a2 := fun d os => cell_regrown b2 d os
    have a3 := fun d os => cell_regrown b3 d os
    have a4 := fun d os => cell_regrown q0 d os
    cases hk : mkX N.pl true X with
    | true =>
     rw [hk] at HEx
     have HV := hid (show (LL.take (k + 1)).all (mkX N.pl true) = true by rw [HTk.out, HP.out, hk]; rfl)
     clear hk
     refine wp_region_quiet_below (by kernel_rfl) (by kernel_rfl) ?_
     repeat (quiet_step (exact Calls.regrown_of (HEx.out _ _)))
     refine wpQuiet_nil ?_
     intro _ hw'
     obtain ⟨⟨dq, osq⟩, hw''⟩ := hw'
     subst hw''
     have HB2 := hid (below_then HBr.out (below_regrown wr dq osq))
     clear a0 a1 a2 a3 a4
     go_wp2_with fail
     go_roundg (gk - 1)
     case measure => have := HK.out; omega
     case rel => exact ⟨k + 1, by have := HK.out; omega, by go_num, HV.out, HB2.out⟩
    | false =>
     rw [hk] at HEx
     have HG := hid (HG1.out (show mksX N.pl true LL = false from HNo.out hk))
     have HV := hid (HQn.out HG.out)
     clear hk
     refine wp_region_quiet_below (by kernel_rfl) (by kernel_rfl) ?_
     repeat (quiet_step (exact Calls.regrown_of (HEx.out _ _)))
     refine wpQuiet_nil ?_
     intro _ hw'
     obtain ⟨⟨dq, osq⟩, hw''⟩ := hw'
     subst hw''
     have HB2 := hid (below_then HBr.out (below_regrown wr dq osq))
     clear a0 a1 a2 a3 a4
     go_wp2_with fail
     go_ret2
     exact ⟨ret_bi HV.out.symm HG.out.symm, HB.out.trans (HB2.out.mono HB.out.size)⟩
  · have HAll := hid (show ∀ s ∈ LL, mkX N.pl true s = true from by
     have h1 := HP.out
     rw [List.take_of_length_le (by rw [HLl.out]; omega)] at h1
     exact List.all_eq_true.1 h1)
    have HG := hid (HG2.out HVt.out (by unfold mksX; exact List.all_eq_true.2 HAll.out))
    have q1 : decide ((2000 : Int) < (nl : Int)) = false := by simp; omega
    have HBs := hid HBr.out
    clear HBr HK HP hle HG0 HG1 HG2 HQn
    have HQ := hid (show Q = (belowB LL (iniM N) && LL.all (fun s => N.tr.all (okX (belowB LL) s))) from HQq.out HG.out)
    have HIl := hid (show (iniM N).length = N.pl.toNat from oneM_len _ _)
    have HLe := hid (show ∀ s ∈ LL, (s.length : Int) = N.pl from fun s hs => mkX_len (HAll.out s hs))
    have HOn := hid (rsrc_any N A n c HVt.out wr)
    clear HQq
    go_wp2_with fail
    ((with_reducible refine HOn.out.mono ?_); rintro e w1 ⟨v1, rfl, hS1⟩)
    obtain ⟨A1, c1, rfl⟩ := hS1.slice
    have hb1 := hS1.2
    have HZ1 := hid (show ZIn w1 A1 (iniM N) by obtain ⟨A', c', e, hz, _⟩ := hS1.zin; cases e; exact hz)
    have HB1 := hid (below_then HBs.out hb1)
    have HBl := hid (below29_any A1 (iniM N).length c1 (iniM N) Al nl cl LL w1 HZ1.out rfl (HL.out.below HB1.out) HLl.out (by omega) (fun s hs => by have := HLe.out s hs; have := HIl.out; omega))
    clear hS1 hb1 HOn b0 b1 b2 b3 HBs
    cases hbl : belowB LL (iniM N) with
    | false =>
     rw [hbl] at HBl HQ
     clear hbl
     go_wp2_with fail
     ((with_reducible refine HBl.out.mono ?_); rintro e w2 ⟨rfl, hb2⟩)
     have HB2 := hid (below_then HB1.out hb2)
     go_wp2_with fail
     go_ret2
     exact ⟨ret_bi HQ.out.symm HG.out.symm, HB.out.trans (HB2.out.mono HB.out.size)⟩
    | true =>
    rw [hbl, Bool.true_and] at HQ
    rw [hbl] at HBl
    clear hbl
    go_wp2_with fail
    ((with_reducible refine HBl.out.mono ?_); rintro e w2 ⟨rfl, hb2⟩)
    have HBs := hid (below_then HB1.out hb2)
    clear hb2 HB1 HBl HZ1
    go_wp2_with fail
    go_loopg [7] (nl) (fun g iv wr => ∃ k : Nat, k + g = nl ∧ iv = .int .i64 (k : Int) ∧ (LL.take k).all (fun s => N.tr.all (okX (belowB LL) s)) = true ∧ Below w0.heap.size w0 wr)
    case atStart => exact ⟨0, by omega, rfl, by simp, HBs.out⟩
    case round =>
     clear HBs
     obtain ⟨k, hk, rfl, hp, hB⟩ := hrel
     have HK := hid hk
     have HP := hid hp
     have HBr := hid hB
     have hle : k ≤ nl := by omega
     clear hk hp hB
     by_cases hlt : k < nl
     · have hlt' : k < LL.length := by rw [HLl.out]; exact hlt
       obtain ⟨al, hal, hpa, u, q0, Ax, nx, cx, hu, zx, hx1, hx2, hx3⟩ := HL.out k hlt'
       subst hal hu
       have HQ0 := hid q0
       have HTk := hid (all_step (fun s => N.tr.all (okX (belowB LL) s)) hlt')
       have HNo := hid (fun hh => all_false (f := fun s => N.tr.all (okX (belowB LL) s)) (List.getElem_mem hlt') hh)
       have HMx := hid (HAll.out _ (List.getElem_mem hlt'))
       generalize LL[k] = X at *
       have HZx := hid zx
       have HXl := hid hx1
       have hxp : (nx : Int) = N.pl := by have := mkX_len HMx.out; omega
       have hnx : nx ≤ 1000 := by omega
       have hnx0 : 0 < nx := by omega
       have HOk := hid (netOk_of HVt.out hxp)
       have HInT := hid (nt_inM HVt.out (m := nx) hxp)
       have HBd := hid (mkX_bnd HMx.out)
       have HSp := hid (fun p => mkX_le HMx.out p)
       clear hlt' zx hx1 q0 hpa
       obtain ⟨go, rfl⟩ : ∃ go, go = gk := ⟨_, rfl⟩
       go_wp2_with fail
       go_loopg [8] (n) (fun g jv wy => ∃ j : Nat, j + g = n ∧ jv = .int .i64 (j : Int) ∧ (N.tr.take j).all (okX (belowB LL) X) = true ∧ Below w0.heap.size w0 wy)
       case atStart => exact ⟨0, by omega, rfl, by simp, HBr.out⟩
       case round =>
        clear HBr
        obtain ⟨j, hj, rfl, hp, hB⟩ := hrel
        have HJ := hid hj
        have HPj := hid hp
        have HBr := hid hB
        have hjl : j ≤ n := by omega
        obtain ⟨b0, b1, b2, b3⟩ := (HNb.out.below hB).cells
        have q0 := cell_stays hB HQ0.out
        clear hj hp hB
        by_cases hjt : j < n
        · have hjt' : j < N.tr.length := by rw [HNl.out]; exact hjt
          have HTl := hid hjt'
          clear hjt'
          have HTj := hid (all_step (okX (belowB LL) X) HTl.out)
          have HNj := hid (fun hh => all_false (f := okX (belowB LL) X) (List.getElem_mem HTl.out) hh)
          have HInr := hid (HIn.out.below HBr.out)
          have HZr := hid (HZx.out.below HBr.out)
          have hbd : Below wr.heap.size wr wr.drew := (Below.refl _ _).drew
          have HB3 := hid (below_then HBr.out hbd)
          have HNd := hid (HNb.out.below HB3.out)
          have HAf := hid (after29_any N A n c Ax nx cx X j HTl.out wr.drew (HIn.out.below HB3.out).1 HNl.out (HZx.out.below HB3.out) HXl.out hnx0 hnx (HOk.out j _ (List.getElem?_eq_getElem HTl.out)) HBd.out HSp.out)
          have hS0 := And.intro HNd.out.cells.1 (And.intro HNd.out.cells.2.1 (And.intro HNd.out.cells.2.2.1 (And.intro HNd.out.cells.2.2.2 (cell_stays HB3.out HQ0.out))))
          clear hbd HNd HInr HZr
          go_wp2_with fail
          clear b0 b1 b2 b3 q0
          cases hcan : canT (N.tr[j]'HTl.out) X with
          | false =>
           have HFn := hid (af_no HAf.out hcan)
           have HV := hid (show (N.tr.take (j + 1)).all (okX (belowB LL) X) = true by rw [HTj.out, HPj.out, okX_no hcan]; rfl)
           clear HAf hcan
           refine wp_region_held_drew (S := fun w' => w'.cell? ⟨w.heap.size, 0, none⟩ = some (.int .i64 N.pl) ∧ w'.cell? ⟨w.heap.size, 1, none⟩ = some (.slice A n c) ∧ w'.cell? ⟨w.heap.size, 2, none⟩ = some (.int .i64 N.src) ∧ w'.cell? ⟨w.heap.size, 3, none⟩ = some (.int .i64 N.snk) ∧ w'.cell? (al.add k) = some (.slice Ax nx cx)) (by kernel_rfl) hS0 (fun hHeld => ?_)
           clear hS0
           generalize wr.drew = wd at *
           refine tkH 0 ?_; try go_simp
           refine tkH 1 ?_; try go_simp
           refine tkH 2 ?_; try go_simp
           refine tkH 3 ?_; try go_simp
           refine tkH 4 ?_; try go_simp
           refine tkH 5 ?_; try go_simp
           refine tkR 6 (fun K9 hK => ?_)
           go_simp
           ((refine HFn.out.mono ?_); rintro e w4 ⟨rfl, hb4⟩)
           have hS9 := hHeld
           refine hK.out _ _ ⟨cell_stays hb4 hS9.1, cell_stays hb4 hS9.2.1, cell_stays hb4 hS9.2.2.1, cell_stays hb4 hS9.2.2.2.1, cell_stays hb4 hS9.2.2.2.2⟩ (fun hHeld => ?_)
           clear hK K9 hS9
           try go_simp
           refine tkH 7 ?_; try go_simp
           refine tkH 8 ?_; try go_simp
           refine tkH 9 ?_; try go_simp
           refine tkH 10 ?_; try go_simp
           refine tkH 11 ?_; try go_simp
           refine tkH 12 ?_; try go_simp
           refine tkH 13 ?_; try go_simp
           refine wpAnyH_done (by kernel_rfl) ?_ _
           clear hHeld
           have HB4 := hid (below_then HB3.out hb4)
           go_wp2_with fail
           go_roundg (gk - 1)
           case measure => have := HJ.out; omega
           case rel => exact ⟨j + 1, by have := HJ.out; omega, by go_num, HV.out, HB4.out⟩
          | true =>
           have HFy := hid (af_yes HAf.out hcan)
           have HYl := hid (show (fireT (N.tr[j]'HTl.out) X).length = nx by rw [fireT_len, HXl.out])
           clear HAf
           cases hbig : bigM (fireT (N.tr[j]'HTl.out) X) with
           | true =>
            have HV := hid (show Q = false by rw [HQ.out]; exact HNo.out (HNj.out (okX_big hcan hbig)))
            rw [hbig] at HFy
            clear hcan hbig
            generalize fireT (N.tr[j]'HTl.out) X = Y at *
            refine wp_region_held_drew (S := fun w' => w'.cell? ⟨w.heap.size, 0, none⟩ = some (.int .i64 N.pl) ∧ w'.cell? ⟨w.heap.size, 1, none⟩ = some (.slice A n c) ∧ w'.cell? ⟨w.heap.size, 2, none⟩ = some (.int .i64 N.src) ∧ w'.cell? ⟨w.heap.size, 3, none⟩ = some (.int .i64 N.snk) ∧ w'.cell? (al.add k) = some (.slice Ax nx cx)) (by kernel_rfl) hS0 (fun hHeld => ?_)
            clear hS0
            generalize wr.drew = wd at *
            refine tkH 0 ?_; try go_simp
            refine tkH 1 ?_; try go_simp
            refine tkH 2 ?_; try go_simp
            refine tkH 3 ?_; try go_simp
            refine tkH 4 ?_; try go_simp
            refine tkH 5 ?_; try go_simp
            refine tkR 6 (fun K9 hK => ?_)
            go_simp
            ((refine HFy.out.mono ?_); rintro e w4 ⟨v4, rfl, hS4⟩; have hb4 := hS4.2; obtain ⟨A4, c4, rfl⟩ := hS4.slice)
            have hS9 := hHeld
            refine hK.out _ _ ⟨cell_stays hb4 hS9.1, cell_stays hb4 hS9.2.1, cell_stays hb4 hS9.2.2.1, cell_stays hb4 hS9.2.2.2.1, cell_stays hb4 hS9.2.2.2.2⟩ (fun hHeld => ?_)
            clear hK K9 hS9
            try go_simp
            refine tkH 7 ?_; try go_simp
            refine tkH 8 ?_; try go_simp
            refine tkH 9 ?_; try go_simp
            refine tkH 10 ?_; try go_simp
            refine tkH 11 ?_; try go_simp
            refine tkH 12 ?_; try go_simp
            refine tkH 13 ?_; try go_simp
            refine wpAnyH_done (by kernel_rfl) ?_ _
            clear hHeld
            have HB4 := hid (below_then HB3.out hb4)
            go_wp2_with fail
            go_ret2
            exact ⟨ret_bi HV.out.symm HG.out.symm, HB.out.trans (HB4.out.mono HB.out.size)⟩
           | false =>
            have HOx := hid (okX_yes (q := belowB LL) hcan hbig)
            rw [hbig] at HFy
            clear hcan hbig
            generalize fireT (N.tr[j]'HTl.out) X = Y at *
            refine wp_region_held_drew (S := fun w' => w'.cell? ⟨w.heap.size, 0, none⟩ = some (.int .i64 N.pl) ∧ w'.cell? ⟨w.heap.size, 1, none⟩ = some (.slice A n c) ∧ w'.cell? ⟨w.heap.size, 2, none⟩ = some (.int .i64 N.src) ∧ w'.cell? ⟨w.heap.size, 3, none⟩ = some (.int .i64 N.snk) ∧ w'.cell? (al.add k) = some (.slice Ax nx cx)) (by kernel_rfl) hS0 (fun hHeld => ?_)
            clear hS0
            generalize wr.drew = wd at *
            refine tkH 0 ?_; try go_simp
            refine tkH 1 ?_; try go_simp
            refine tkH 2 ?_; try go_simp
            refine tkH 3 ?_; try go_simp
            refine tkH 4 ?_; try go_simp
            refine tkH 5 ?_; try go_simp
            refine tkR 6 (fun K9 hK => ?_)
            go_simp
            ((refine HFy.out.mono ?_); rintro e w4 ⟨v4, rfl, hS4⟩; have hb4 := hS4.2; obtain ⟨A4, c4, rfl⟩ := hS4.slice)
            have hS9 := hHeld
            refine hK.out _ _ ⟨cell_stays hb4 hS9.1, cell_stays hb4 hS9.2.1, cell_stays hb4 hS9.2.2.1, cell_stays hb4 hS9.2.2.2.1, cell_stays hb4 hS9.2.2.2.2⟩ (fun hHeld => ?_)
            clear hK K9 hS9
            try go_simp
            refine tkH 7 ?_; try go_simp
            refine tkH 8 ?_; try go_simp
            refine tkH 9 ?_; try go_simp
            refine tkH 10 ?_; try go_simp
            refine tkH 11 ?_; try go_simp
            refine tkH 12 ?_; try go_simp
            refine tkH 13 ?_; try go_simp
            refine wpAnyH_done (by kernel_rfl) ?_ _
            clear hHeld
            have HB4 := hid (below_then HB3.out hb4)
            have HZ4 := hid (show ZIn w4 A4 Y by obtain ⟨A', c', e, hz, _⟩ := hS4.zin; cases e; exact hz)
            rw [HYl.out]
            clear hb4 hS4
            have HTe := hid (below29_any A4 nx c4 Y (some al) nl cl LL w4 HZ4.out HYl.out (HL.out.below HB4.out) HLl.out (by omega) (fun s hs => by have := HLe.out s hs; omega))
            cases hin : belowB LL Y with
            | true =>
             rw [hin] at HOx HTe
             have HV := hid (show (N.tr.take (j + 1)).all (okX (belowB LL) X) = true by rw [HTj.out, HPj.out, HOx.out]; rfl)
             clear hin
             go_wp2_with fail
             ((with_reducible refine HTe.out.mono ?_); rintro e w5 ⟨rfl, hb5⟩)
             have HB5 := hid (below_then HB4.out hb5)
             go_wp2_with fail
             go_roundg (gk - 1)
             case measure => have := HJ.out; omega
             case rel => exact ⟨j + 1, by have := HJ.out; omega, by go_num, HV.out, HB5.out⟩
            | false =>
             rw [hin] at HOx HTe
             have HV := hid (show Q = false by rw [HQ.out]; exact HNo.out (HNj.out HOx.out))
             clear hin
             go_wp2_with fail
             ((with_reducible refine HTe.out.mono ?_); rintro e w5 ⟨rfl, hb5⟩)
             have HB5 := hid (below_then HB4.out hb5)
             go_wp2_with fail
             go_ret2
             exact ⟨ret_bi HV.out.symm HG.out.symm, HB.out.trans (HB5.out.mono HB.out.size)⟩
        · have HV := hid (show (LL.take (k + 1)).all (fun s => N.tr.all (okX (belowB LL) s)) = true by
           rw [HTk.out, HP.out]
           have h1 := HPj.out
           rw [List.take_of_length_le (by rw [HNl.out]; omega)] at h1
           rw [Bool.true_and]; exact h1)
          go_wp2_with fail
          go_roundg (go - 1)
          case measure => have := HK.out; omega
          case rel => exact ⟨k + 1, by have := HK.out; omega, by go_num, HV.out, HBr.out⟩
     · have HV := hid (show Q = true by
        rw [HQ.out]
        have h1 := HP.out
        rwa [List.take_of_length_le (by rw [HLl.out]; omega)] at h1)
       go_wp2_with fail
       go_ret2
       exact ⟨ret_bi HV.out.symm HG.out.symm, HB.out.trans (HBr.out.mono HB.out.size)⟩
end Go.Proofs.YtpnhcimmlnjfaaaGreatDoor
