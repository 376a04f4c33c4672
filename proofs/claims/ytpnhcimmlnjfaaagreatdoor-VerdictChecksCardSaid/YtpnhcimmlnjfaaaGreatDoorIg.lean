/- closed of reference 24: what a call returns. -/
import Derived.Test.YtpnhcimmlnjfaaaGreatDoorUt
import Derived.Test.YtpnhcimmlnjfaaaGreatDoorId
import Derived.Test.YtpnhcimmlnjfaaaGreatDoorHe
namespace Go.Proofs.YtpnhcimmlnjfaaaGreatDoor
open Go.Lib (hid)
open Go.RowKit

/-- a transition at a marking leads to one of a list -/
def okT (N : Nt) (LL : List (List Int)) (s : List Int) (t : Nat) : Bool := match N.tr[t]? with
 | some x => !canT x s || (decide ((fireV N s (t : Int)).2 = 0) && decide ((fireV N s (t : Int)).1 ∈ LL))
 | none => true
def okS (N : Nt) (LL : List (List Int)) (k : Nat) (s : List Int) : Bool := (List.range k).all (okT N LL s)
/-- a list of markings holds one, and what firing gives -/
def closedB (N : Nt) (M : List Int) (LL : List (List Int)) : Bool := decide (M ∈ LL) && (LL.all (mkB N) && LL.all (okS N LL N.tr.length))
theorem okS_succ (N : Nt) (LL : List (List Int)) (k : Nat) (s : List Int) : okS N LL (k + 1) s = (okS N LL k s && okT N LL s k) := by
 unfold okS; rw [List.range_succ, List.all_append]; simp
theorem okS_no {N : Nt} {LL : List (List Int)} {k n : Nat} {s : List Int} (h : k < n) (hk : okT N LL s k = false) : okS N LL n s = false := by
 unfold okS; rw [List.all_eq_false]; exact ⟨k, List.mem_range.2 h, by rw [hk]; decide⟩
theorem okT_can {N : Nt} {LL : List (List Int)} {s : List Int} {t : Nat} {x : Tr} (h : N.tr[t]? = some x) (hc : canT x s = false) : okT N LL s t = true := by
 unfold okT; rw [h]; simp [hc]
theorem okT_fire {N : Nt} {LL : List (List Int)} {s : List Int} {t : Nat} {x : Tr} (h : N.tr[t]? = some x) (hc : canT x s = true) : okT N LL s t = (decide ((fireV N s (t : Int)).2 = 0) && decide ((fireV N s (t : Int)).1 ∈ LL)) := by
 unfold okT; rw [h]; simp [hc]
theorem all_take {α : Type} (f : α → Bool) {L : List α} {k : Nat} (h : k < L.length) : (L.take (k + 1)).all f = ((L.take k).all f && f L[k]) := by
 rw [List.take_succ_eq_append_getElem h, List.all_append]; simp
theorem all_no {α : Type} (f : α → Bool) {L : List α} {x : α} (h : x ∈ L) (hf : f x = false) : L.all f = false := by
 rw [List.all_eq_false]; exact ⟨x, h, by rw [hf]; decide⟩
theorem findR_iff (LL : List (List Int)) (m : List Int) : decide (findR LL m < 0) = !decide (m ∈ LL) := by
 rw [Bool.eq_iff_iff]; simp [find_neg]
set_option maxHeartbeats 12800000 in
set_option maxRecDepth 100000 in
theorem rclosed_any (N : Nt) (A : Option Addr) (n c : Nat) (Am : Option Addr) (m cm : Nat) (M : List Int) (Al : Option Addr) (nl cl : Nat) (LL : List (List Int)) (w : World) (h : NtIn w A N) (hn : N.tr.length = n) (hn2 : n ≤ 9223372036854775806) (hM : ZIn w Am M) (hm : M.length = m) (hv : ntB N = true) (hL : LIn w Al LL) (hl : LL.length = nl) (hl2 : nl ≤ 9223372036854775806) :
 Calls Tryz.prog 75 #[.agg #[.int .i64 N.pl, .slice A n c, .int .i64 N.src, .int .i64 N.snk], .slice Am m cm, .slice Al nl cl] w fun e w' => e = .returned (.bool (closedB N M LL)) ∧ Below w.heap.size w w' := by
 have HB := hid (below_alloc w (.cells #[.int .i64 N.pl, .slice A n c, .int .i64 N.src, .int .i64 N.snk] 24))
 have HNb := hid (NB.new w N.pl A n c N.src N.snk)
 have HIn := hid (h.below HB.out)
 have HM := hid (hM.below HB.out)
 have HL := hid (hL.below HB.out)
 have HMl := hid hm
 have HLl := hid hl
 have HNl := hid hn
 have HVt := hid hv
 clear h hn hM hm hL hl hv
 go_enter Tryz.func75, Tryz.ntmps75
 go_wp2_with fail
 generalize w.alloc _ = w0 at *
 have HFd := hid (find_any Al nl cl LL Am m cm M w0 HL.out HLl.out hl2 HM.out HMl.out)
 by_cases hmem : ¬ M ∈ LL
 · have HV := hid (show closedB N M LL = false by unfold closedB; rw [decide_eq_false hmem]; rfl)
   have hneg : findR LL M = -1 := find_no (fun s hs e => hmem (by subst e; exact hs))
   rw [hneg] at HFd
   clear hmem hneg
   ((with_reducible refine HFd.out.mono ?_); rintro e w1 ⟨rfl, hb1⟩)
   have HFn := hid (below_then HB.out hb1)
   go_wp2_with fail
   go_ret
   exact ⟨ret_bool HV.out.symm, HFn.out⟩
 replace hmem := Classical.not_not.1 hmem
 have HMem := hid hmem
 have hpos : ¬ findR LL M < 0 := fun hf => find_neg.1 hf hmem
 obtain ⟨fi, hfi⟩ : ∃ fi, fi = findR LL M := ⟨_, rfl⟩
 rw [← hfi] at HFd hpos
 clear hfi hmem
 ((with_reducible refine HFd.out.mono ?_); rintro e w1 ⟨rfl, hb1⟩)
 have HB1 := hid hb1
 clear hb1 HFd
 go_wp2_with fail
 go_loopg [7] (nl) (fun g iv wr => ∃ k : Nat, k + g = nl ∧ iv = .int .i64 k ∧ (LL.take k).all (mkB N) = true ∧ Below w0.heap.size w0 wr)
 case atStart => exact ⟨0, by omega, rfl, by simp, HB1.out⟩
 case round =>
  clear HB1
  obtain ⟨k, hk, rfl, hp, hB⟩ := hrel
  have HK := hid hk
  have HP := hid hp
  have HBr := hid hB
  have HLr := hid (HL.out.below hB)
  have hle : k ≤ nl := by omega
  obtain ⟨b0, b1, b2, b3⟩ := (HNb.out.below hB).cells
  clear hk hp hB
  by_cases hlt : k < nl
  · have hlt' : k < LL.length := by rw [HLl.out]; exact hlt
    obtain ⟨al, rfl, hpa, u, q0, Ax, nx, cx, rfl, zx, hx1, hx2, hx3⟩ := HLr.out k hlt'
    have HTk := hid (all_take (mkB N) hlt')
    have HNo := hid (all_no (mkB N) (List.getElem_mem hlt'))
    generalize LL[k] = X at *
    have HZx := hid zx
    have HMk := hid (show mkB N X = (decide ((nx : Int) = N.pl) && !(X.any badK)) by unfold mkB; rw [HVt.out, hx1]; rfl)
    have HRm := hid (fun d os => rmarking_any N.pl A n c N.src N.snk Ax nx cx X _ (HZx.out.below (below_regrown wr d os)) hx1 (by omega))
    rw [← HMk.out] at HRm
    clear hlt' zx hx1
    go_wp2_with fail
    have a0 := fun d os => cell_regrown b0 d os
    have a1 := fun d os => cell_regrown b1 d os
    have a2 := fun d os => cell_regrown b2 d os
    have a3 := fun d os => cell_regrown b3 d os
    have a4 := fun d os => cell_regrown q0 d os
    cases hk : mkB N X with
    | false =>
     rw [hk] at HRm
     have HV := hid (show closedB N M LL = false by unfold closedB; rw [HNo.out hk]; simp)
     clear hk HNo
     refine wp_region_quiet_below (by kernel_rfl) (by kernel_rfl) ?_
     repeat (quiet_step (exact Calls.regrown_of (HRm.out _ _)))
     refine wpQuiet_nil ?_
     intro _ hw'
     obtain ⟨⟨dq, osq⟩, hw''⟩ := hw'
     subst hw''
     have HB2 := hid (below_then HBr.out (below_regrown wr dq osq))
     clear a0 a1 a2 a3 a4
     go_wp2_with fail
     go_ret
     exact ⟨ret_bool HV.out.symm, HB.out.trans (HB2.out.mono HB.out.size)⟩
    | true =>
     rw [hk] at HRm
     have HV := hid (show (LL.take (k + 1)).all (mkB N) = true by rw [HTk.out, HP.out, hk]; rfl)
     clear hk HNo
     refine wp_region_quiet_below (by kernel_rfl) (by kernel_rfl) ?_
     repeat (quiet_step (exact Calls.regrown_of (HRm.out _ _)))
     refine wpQuiet_nil ?_
     intro _ hw'
     obtain ⟨⟨dq, osq⟩, hw''⟩ := hw'
     subst hw''
     have HB2 := hid (below_then HBr.out (below_regrown wr dq osq))
     clear a0 a1 a2 a3 a4
     go_wp2_with fail
     go_roundg (gk - 1)
     case measure => have := HK.out; omega
     case rel => exact ⟨k + 1, by have := HK.out; omega, by go_num, HV.out, HB2.out⟩
  · have HAll := hid (show LL.all (mkB N) = true by have := HP.out; rwa [List.take_of_length_le (by rw [HLl.out]; omega)] at this)
    clear HP HLr
    go_wp2_with fail
    clear hle b0 b1 b2 b3 hlt HK
    go_loopg [8] (nl) (fun g iv wx => ∃ k : Nat, k + g = nl ∧ iv = .int .i64 k ∧ (LL.take k).all (okS N LL N.tr.length) = true ∧ Below w0.heap.size w0 wx)
    case atStart => exact ⟨0, by omega, rfl, by simp, HBr.out⟩
    case round =>
     clear HBr
     obtain ⟨k, hk, rfl, hp, hB⟩ := hrel
     have HK := hid hk
     have HP := hid hp
     have HBr := hid hB
     have HLr := hid (HL.out.below hB)
     have hle : k ≤ nl := by omega
     clear hk hp hB
     by_cases hlt : k < nl
     · have hlt' : k < LL.length := by rw [HLl.out]; exact hlt
       have HTk := hid (all_take (okS N LL N.tr.length) hlt')
       have HNo := hid (all_no (okS N LL N.tr.length) (List.getElem_mem hlt'))
       have HMx := hid (List.all_eq_true.1 HAll.out _ (List.getElem_mem hlt'))
       obtain ⟨al, hal, hpa, u, q0, Ax, nx, cx, hu, zx, hx1, hx2, hx3⟩ := HL.out k hlt'
       subst hal hu
       have HQ0 := hid q0
       generalize LL[k] = X at *
       have HZx := hid zx
       have HXl := hid hx1
       clear hlt' zx hx1 q0 HLr
       obtain ⟨go, rfl⟩ : ∃ go, go = gk := ⟨_, rfl⟩
       go_wp2_with fail
       go_loopg [9] (n) (fun g jv wy => ∃ j : Nat, j + g = n ∧ jv = .int .i64 j ∧ okS N LL j X = true ∧ Below w0.heap.size w0 wy)
       case atStart => exact ⟨0, by omega, rfl, rfl, HBr.out⟩
       case round =>
        clear HBr
        obtain ⟨j, hj, rfl, hp, hB⟩ := hrel
        have HJ := hid hj
        have HPj := hid hp
        have HBr := hid hB
        have hjl : j ≤ n := by omega
        obtain ⟨b0, b1, b2, b3⟩ := (HNb.out.below hB).cells
        have q0 := cell_stays hB HQ0.out
        clear hj hp hB
        by_cases hjt : j < n
        · have hjt' : j < N.tr.length := by rw [HNl.out]; exact hjt
          have HTj := hid (List.getElem?_eq_getElem hjt')
          have hkp : (nx : Int) = N.pl := by rw [← HXl.out]; exact mk_len HMx.out
          have HInT := hid ((nt_inM HVt.out (m := nx) hkp) _ (List.getElem_mem hjt'))
          have HInr := hid (HIn.out.below HBr.out)
          have HZr := hid (HZx.out.below HBr.out)
          have HCan := hid (fun d os => can21_any N A n c Ax nx cx X j hjt' _ (HInr.out.1.below (below_regrown wr d os)) HNl.out (HZr.out.below (below_regrown wr d os)) HXl.out HInT.out.1 (fun x hx => (mk_nums HMx.out x hx).1))
          have HSu := hid (okS_succ N LL j X)
          have HOn := hid (fun (h : okT N LL X j = false) => okS_no (n := N.tr.length) (s := X) hjt' h)
          clear hkp HInT
          go_wp2_with fail
          have a0 := fun d os => cell_regrown b0 d os
          have a1 := fun d os => cell_regrown b1 d os
          have a2 := fun d os => cell_regrown b2 d os
          have a3 := fun d os => cell_regrown b3 d os
          have a4 := fun d os => cell_regrown q0 d os
          cases hcan : canT N.tr[j] X with
          | false =>
           rw [hcan] at HCan
           have HV := hid (show okS N LL (j + 1) X = true by rw [HSu.out, HPj.out, okT_can HTj.out hcan]; rfl)
           clear hcan
           refine wp_region_quiet_below (by kernel_rfl) (by kernel_rfl) ?_
           repeat (quiet_step (exact Calls.regrown_of (HCan.out _ _)))
           refine wpQuiet_nil ?_
           intro _ hw'
           obtain ⟨⟨dq, osq⟩, hw''⟩ := hw'
           subst hw''
           have HB2 := hid (below_then HBr.out (below_regrown wr dq osq))
           clear a0 a1 a2 a3 a4
           go_wp2_with fail
           go_roundg (gk - 1)
           case measure => have := HJ.out; omega
           case rel => exact ⟨j + 1, by have := HJ.out; omega, by go_num, HV.out, HB2.out⟩
          | true =>
           rw [hcan] at HCan
           have HOk := hid (okT_fire (N := N) (LL := LL) HTj.out hcan)
           clear hcan
           refine wp_region_quiet_below (by kernel_rfl) (by kernel_rfl) ?_
           repeat (quiet_step (exact Calls.regrown_of (HCan.out _ _)))
           refine wpQuiet_nil ?_
           intro _ hw'
           obtain ⟨⟨dq, osq⟩, hw''⟩ := hw'
           subst hw''
           have HB2 := hid (below_then HBr.out (below_regrown wr dq osq))
           clear a0 a1 a2 a3 a4 HTj
           generalize Sort.grow (redrawn wr dq) osq = w3 at *
           have hbd : Below w3.heap.size w3 w3.drew := (Below.refl _ _).drew
           have HB3 := hid (below_then HB2.out hbd)
           have HNd := hid (HNb.out.below HB3.out)
           have hfi := r21fire_any N A n c Ax nx cx X (j : Int) w3.drew (HIn.out.below HB3.out) HNl.out (by omega) (HZx.out.below HB3.out) HXl.out (by omega)
           rw [show fire21 N X (j : Int) = fireV N X (j : Int) by unfold fire21; rw [HMx.out]; rfl] at hfi
           have HFi := hid hfi
           have hS0 := And.intro HNd.out.cells.1 (And.intro HNd.out.cells.2.1 (And.intro HNd.out.cells.2.2.1 (And.intro HNd.out.cells.2.2.2 (cell_stays HB3.out HQ0.out))))
           clear hfi hbd q0 b0 b1 b2 b3 HCan HB2 HBr HInr HZr
           go_wp2_with fail
           by_cases h0 : (fireV N X (j : Int)).2 = 0
           · have HFy := hid (fv_yes HFi.out h0)
             rw [decide_eq_true h0, Bool.true_and] at HOk
             clear HFi h0
             refine wp_region_held_drew (S := fun w' => w'.cell? ⟨w.heap.size, 0, none⟩ = some (.int .i64 N.pl) ∧ w'.cell? ⟨w.heap.size, 1, none⟩ = some (.slice A n c) ∧ w'.cell? ⟨w.heap.size, 2, none⟩ = some (.int .i64 N.src) ∧ w'.cell? ⟨w.heap.size, 3, none⟩ = some (.int .i64 N.snk) ∧ w'.cell? (al.add k) = some (.slice Ax nx cx)) (by kernel_rfl) hS0 (fun hHeld => ?_)
             clear hS0
             generalize w3.drew = wd at *
             refine tkH 0 ?_; try go_simp
             refine tkH 1 ?_; try go_simp
             refine tkH 2 ?_; try go_simp
             refine tkH 3 ?_; try go_simp
             refine tkH 4 ?_; try go_simp
             refine tkH 5 ?_; try go_simp
             have hS0 := hHeld
             refine tkR 6 (fun K hK => ?_)
             go_simp
             ((refine HFy.out.mono ?_); rintro e w4 ⟨v4, rfl, hS4⟩; obtain ⟨A4, c4, rfl⟩ := hS4.slice)
             refine hK.out _ _ (⟨cell_stays hS4.2 hS0.1, cell_stays hS4.2 hS0.2.1, cell_stays hS4.2 hS0.2.2.1, cell_stays hS4.2 hS0.2.2.2.1, cell_stays hS4.2 hS0.2.2.2.2⟩) (fun hHeld => ?_)
             clear hK K
             try go_simp
             refine tkH 7 ?_; try go_simp
             refine tkH 8 ?_; try go_simp
             refine tkH 9 ?_; try go_simp
             refine tkH 10 ?_; try go_simp
             refine tkH 11 ?_; try go_simp
             refine wpAnyH_done (by kernel_rfl) ?_ _
             have HB4 := hid (below_then HB3.out hS4.2)
             generalize (fireV N X (j : Int)).1 = Y at *
             have HFd := hid (find_any (some al) nl cl LL A4 Y.length c4 Y w4 (HL.out.below HB4.out) HLl.out hl2 (show ZIn w4 A4 Y by obtain ⟨A', c', e, hz, _⟩ := hS4.zin; cases e; exact hz) rfl)
             by_cases hmem : Y ∈ LL
             · have HV := hid (show okS N LL (j + 1) X = true by rw [HSu.out, HPj.out, HOk.out, decide_eq_true hmem]; rfl)
               have hpos : ¬ findR LL Y < 0 := fun hf => find_neg.1 hf hmem
               generalize findR LL Y = fi at *
               clear hmem hHeld hS0 hS4
               go_wp2_with fail
               ((with_reducible refine HFd.out.mono ?_); rintro e w5 ⟨rfl, hb5⟩)
               have HB5 := hid (below_then HB4.out hb5)
               go_wp2_with fail
               go_roundg (gk - 1)
               case measure => have := HJ.out; omega
               case rel => exact ⟨j + 1, by have := HJ.out; omega, by go_num, HV.out, HB5.out⟩
             · have HV := hid (show closedB N M LL = false by
                unfold closedB
                rw [HNo.out (HOn.out (by rw [HOk.out, decide_eq_false hmem]))]; simp)
               have hneg : findR LL Y = -1 := find_no (fun s hs e => hmem (by subst e; exact hs))
               rw [hneg] at HFd
               clear hmem hneg hHeld hS0 hS4
               go_wp2_with fail
               ((with_reducible refine HFd.out.mono ?_); rintro e w5 ⟨rfl, hb5⟩)
               have HB5 := hid (below_then HB4.out hb5)
               go_wp2_with fail
               go_ret
               exact ⟨ret_bool HV.out.symm, HB.out.trans (HB5.out.mono HB.out.size)⟩
           · have HFn := hid (fv_no HFi.out h0)
             have HV := hid (show closedB N M LL = false by
              unfold closedB
              rw [HNo.out (HOn.out (by rw [HOk.out, decide_eq_false h0]; rfl))]; simp)
             have q5 : ((fireV N X (j : Int)).2 != 0) = true := by rw [bne_iff_ne]; exact h0
             clear HFi h0 HOk
             generalize (fireV N X (j : Int)).2 = er at *
             refine wp_region_held_drew (S := fun w' => w'.cell? ⟨w.heap.size, 0, none⟩ = some (.int .i64 N.pl) ∧ w'.cell? ⟨w.heap.size, 1, none⟩ = some (.slice A n c) ∧ w'.cell? ⟨w.heap.size, 2, none⟩ = some (.int .i64 N.src) ∧ w'.cell? ⟨w.heap.size, 3, none⟩ = some (.int .i64 N.snk) ∧ w'.cell? (al.add k) = some (.slice Ax nx cx)) (by kernel_rfl) hS0 (fun hHeld => ?_)
             clear hS0
             generalize w3.drew = wd at *
             refine tkH 0 ?_; try go_simp
             refine tkH 1 ?_; try go_simp
             refine tkH 2 ?_; try go_simp
             refine tkH 3 ?_; try go_simp
             refine tkH 4 ?_; try go_simp
             refine tkH 5 ?_; try go_simp
             have hS0 := hHeld
             refine tkR 6 (fun K hK => ?_)
             go_simp
             ((refine HFn.out.mono ?_); rintro e w4 ⟨rfl, hb4⟩)
             refine hK.out _ _ (⟨cell_stays hb4 hS0.1, cell_stays hb4 hS0.2.1, cell_stays hb4 hS0.2.2.1, cell_stays hb4 hS0.2.2.2.1, cell_stays hb4 hS0.2.2.2.2⟩) (fun hHeld => ?_)
             clear hK K
             try go_simp
             refine tkH 7 ?_; try go_simp
             refine tkH 8 ?_; try go_simp
             refine tkH 9 ?_; try go_simp
             refine tkH 10 ?_; try go_simp
             refine tkH 11 ?_; try go_simp
             refine wpAnyH_done (by kernel_rfl) ?_ _
             have HB4 := hid (below_then HB3.out hb4)
             go_wp2_with fail
             go_ret
             exact ⟨ret_bool HV.out.symm, HB.out.trans (HB4.out.mono HB.out.size)⟩
        · have HV := hid (show (LL.take (k + 1)).all (okS N LL N.tr.length) = true by
           rw [HTk.out, HP.out]
           have h1 := HPj.out
           rw [show j = N.tr.length by rw [HNl.out]; omega] at h1
           rw [h1]; rfl)
          go_wp2_with fail
          go_roundg (go - 1)
          case measure => have := HK.out; omega
          case rel => exact ⟨k + 1, by have := HK.out; omega, by go_num, HV.out, HBr.out⟩
     · have HV := hid (show closedB N M LL = true by
        unfold closedB
        have h1 := HP.out
        rw [List.take_of_length_le (by rw [HLl.out]; omega)] at h1
        rw [decide_eq_true HMem.out, HAll.out, h1]; rfl)
       go_wp2_with fail
       go_ret
       exact ⟨ret_bool HV.out.symm, HB.out.trans (HBr.out.mono HB.out.size)⟩
end Go.Proofs.YtpnhcimmlnjfaaaGreatDoor
