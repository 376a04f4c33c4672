/- closed of reference 24: what a call returns. Check of reference 24: what a call returns. -/
import Derived.Test.YtjojmmabcjccdaaDoorId
import Derived.Test.YtjojmmabcjccdaaDoorDp
import Derived.Test.YtjojmmabcjccdaaDoorHd
namespace Go.Proofs.YtjojmmabcjccdaaDoor
section
open Go.RowKit

/-- a transition at a marking leads to one of a list -/
def okT (N : Nt) (LL : List (List Int)) (s : List Int) (t : Nat) : Bool := match N.tr[t]? with
  | some x => !canT x s || (decide ((fireV N s (t : Int)).2 = 0) && decide ((fireV N s (t : Int)).1 ∈ LL))
  | none => true
def okS (N : Nt) (LL : List (List Int)) (k : Nat) (s : List Int) : Bool := (List.range k).all (okT N LL s)
/-- a list of markings holds one, and what firing gives -/
def closedB (N : Nt) (M : List Int) (LL : List (List Int)) : Bool := decide (M ∈ LL) && (LL.all (mkB N) && LL.all (okS N LL N.tr.length))
theorem okS_succ (N : Nt) (LL : List (List Int)) (k : Nat) (s : List Int) : okS N LL (k + 1) s = (okS N LL k s && okT N LL s k) := by
  unfold okS; rw [List.range_succ, List.all_append]; simp
theorem okS_no {N : Nt} {LL : List (List Int)} {k n : Nat} {s : List Int} (h : k < n) (hk : okT N LL s k = false) : okS N LL n s = false := by
  unfold okS; rw [List.all_eq_false]; exact ⟨k, List.mem_range.2 h, by rw [hk]; decide⟩
theorem okT_can {N : Nt} {LL : List (List Int)} {s : List Int} {t : Nat} {x : Tr} (h : N.tr[t]? = some x) (hc : canT x s = false) : okT N LL s t = true := by
  unfold okT; rw [h]; simp [hc]
theorem okT_fire {N : Nt} {LL : List (List Int)} {s : List Int} {t : Nat} {x : Tr} (h : N.tr[t]? = some x) (hc : canT x s = true) : okT N LL s t = (decide ((fireV N s (t : Int)).2 = 0) && decide ((fireV N s (t : Int)).1 ∈ LL)) := by
  unfold okT; rw [h]; simp [hc]
theorem all_take {α : Type} (f : α → Bool) {L : List α} {k : Nat} (h : k < L.length) : (L.take (k + 1)).all f = ((L.take k).all f && f L[k]) := by
  rw [List.take_succ_eq_append_getElem h, List.all_append]; simp
theorem all_no {α : Type} (f : α → Bool) {L : List α} {x : α} (h : x ∈ L) (hf : f x = false) : L.all f = false := by
  rw [List.all_eq_false]; exact ⟨x, h, by rw [hf]; decide⟩
theorem findR_iff (LL : List (List Int)) (m : List Int) : decide (findR LL m < 0) = !decide (m ∈ LL) := by
  rw [Bool.eq_iff_iff]; simp [find_neg]
set_option maxHeartbeats 12800000 in
set_option maxRecDepth 100000 in
theorem rclosed_any (N : Nt) (A : Option Addr) (n c : Nat) (Am : Option Addr) (m cm : Nat) (M : List Int) (Al : Option Addr) (nl cl : Nat) (LL : List (List Int)) (w : World) (h : NtIn w A N) (hn : N.tr.length = n) (hn2 : n ≤ 9223372036854775806) (hM : ZIn w Am M) (hm : M.length = m) (hv : ntB N = true) (hL : LIn w Al LL) (hl : LL.length = nl) (hl2 : nl ≤ 9223372036854775806) :
    Calls Tryd.prog 51 #[.agg #[.int .i64 N.pl, .slice A n c, .int .i64 N.src, .int .i64 N.snk], .slice Am m cm, .slice Al nl cl] w fun e w' => e = .returned (.bool (closedB N M LL)) ∧ Below w.heap.size w w' := by
  have HB := Lib.hid (below_alloc w (.cells #[.int .i64 N.pl, .slice A n c, .int .i64 N.src, .int .i64 N.snk] 24))
  have HNb := Lib.hid (NB.new w N.pl A n c N.src N.snk)
  have HIn := Lib.hid (h.below HB.out)
  have HM := Lib.hid (hM.below HB.out)
  have HL := Lib.hid (hL.below HB.out)
  have HMl := Lib.hid hm
  have HLl := Lib.hid hl
  have HNl := Lib.hid hn
  have HVt := Lib.hid hv
  clear h hn hM hm hL hl hv
  go_enter Tryd.func51, Tryd.ntmps51
  go_wp2_with fail
  generalize w.alloc _ = w0 at *
  have HFd := Lib.hid (find_any Al nl cl LL Am m cm M w0 HL.out HLl.out hl2 HM.out HMl.out)
  by_cases hmem : ¬ M ∈ LL
  · have HV := Lib.hid (show closedB N M LL = false by unfold closedB; rw [decide_eq_false hmem]; rfl)
    have hneg : findR LL M = -1 := find_no (fun s hs e => hmem (by subst e; exact hs))
    rw [hneg] at HFd
    clear hmem hneg
    ((with_reducible refine HFd.out.mono ?_); rintro e w1 ⟨rfl, hb1⟩)
    have HFn := Lib.hid (below_then HB.out hb1)
    go_wp2_with fail
    go_ret
    exact ⟨ret_bool HV.out.symm, HFn.out⟩
  replace hmem := Classical.not_not.1 hmem
  have HMem := Lib.hid hmem
  have hpos : ¬ findR LL M < 0 := fun hf => find_neg.1 hf hmem
  obtain ⟨fi, hfi⟩ : ∃ fi, fi = findR LL M := ⟨_, rfl⟩
  rw [← hfi] at HFd hpos
  clear hfi hmem
  ((with_reducible refine HFd.out.mono ?_); rintro e w1 ⟨rfl, hb1⟩)
  have HB1 := Lib.hid hb1
  clear hb1 HFd
  go_wp2_with fail
  go_loopg [7] (nl) (fun g iv wr => ∃ k : Nat, k + g = nl ∧ iv = .int .i64 k ∧ (LL.take k).all (mkB N) = true ∧ Below w0.heap.size w0 wr)
  case atStart => exact ⟨0, by omega, rfl, by simp, HB1.out⟩
  case round =>
    clear HB1
    obtain ⟨k, hk, rfl, hp, hB⟩ := hrel
    have HK := Lib.hid hk
    have HP := Lib.hid hp
    have HBr := Lib.hid hB
    have HLr := Lib.hid (HL.out.below hB)
    have hle : k ≤ nl := by omega
    obtain ⟨b0, b1, b2, b3⟩ := (HNb.out.below hB).cells
    clear hk hp hB
    by_cases hlt : k < nl
    · have hlt' : k < LL.length := by rw [HLl.out]; exact hlt
      obtain ⟨al, rfl, hpa, u, q0, Ax, nx, cx, rfl, zx, hx1, hx2, hx3⟩ := HLr.out k hlt'
      have HTk := Lib.hid (all_take (mkB N) hlt')
      have HNo := Lib.hid (all_no (mkB N) (List.getElem_mem hlt'))
      generalize LL[k] = X at *
      have HZx := Lib.hid zx
      have HMk := Lib.hid (show mkB N X = (decide ((nx : Int) = N.pl) && !(X.any badK)) by unfold mkB; rw [HVt.out, hx1]; rfl)
      have HRm := Lib.hid (fun d os => rmarking_any N.pl A n c N.src N.snk Ax nx cx X _ (HZx.out.below (below_regrown wr d os)) hx1 (by omega))
      rw [← HMk.out] at HRm
      clear hlt' zx hx1
      go_wp2_with fail
      have a0 := fun d os => cell_regrown b0 d os
      have a1 := fun d os => cell_regrown b1 d os
      have a2 := fun d os => cell_regrown b2 d os
      have a3 := fun d os => cell_regrown b3 d os
      have a4 := fun d os => cell_regrown q0 d os
      cases hk : mkB N X with
      | false =>
        rw [hk] at HRm
        have HV := Lib.hid (show closedB N M LL = false by unfold closedB; rw [HNo.out hk]; simp)
        clear hk HNo
        refine wp_region_quiet_below (by kernel_rfl) (by kernel_rfl) ?_
        repeat (quiet_step (exact Calls.regrown_of (HRm.out _ _)))
        refine wpQuiet_nil ?_
        intro _ hw'
        obtain ⟨⟨dq, osq⟩, hw''⟩ := hw'
        subst hw''
        have HB2 := Lib.hid (below_then HBr.out (below_regrown wr dq osq))
        clear a0 a1 a2 a3 a4
        go_wp2_with fail
        go_ret
        exact ⟨ret_bool HV.out.symm, HB.out.trans (HB2.out.mono HB.out.size)⟩
      | true =>
        rw [hk] at HRm
        have HV := Lib.hid (show (LL.take (k + 1)).all (mkB N) = true by rw [HTk.out, HP.out, hk]; rfl)
        clear hk HNo
        refine wp_region_quiet_below (by kernel_rfl) (by kernel_rfl) ?_
        repeat (quiet_step (exact Calls.regrown_of (HRm.out _ _)))
        refine wpQuiet_nil ?_
        intro _ hw'
        obtain ⟨⟨dq, osq⟩, hw''⟩ := hw'
        subst hw''
        have HB2 := Lib.hid (below_then HBr.out (below_regrown wr dq osq))
        clear a0 a1 a2 a3 a4
        go_wp2_with fail
        go_roundg (gk - 1)
        case measure => have := HK.out; omega
        case rel => exact ⟨k + 1, by have := HK.out; omega, by go_num, HV.out, HB2.out⟩
    · have HAll := Lib.hid (show LL.all (mkB N) = true by have := HP.out; rwa [List.take_of_length_le (by rw [HLl.out]; omega)] at this)
      clear HP HLr
      go_wp2_with fail
      clear hle b0 b1 b2 b3 hlt HK
      go_loopg [8] (nl) (fun g iv wx => ∃ k : Nat, k + g = nl ∧ iv = .int .i64 k ∧ (LL.take k).all (okS N LL N.tr.length) = true ∧ Below w0.heap.size w0 wx)
      case atStart => exact ⟨0, by omega, rfl, by simp, HBr.out⟩
      case round =>
        clear HBr
        obtain ⟨k, hk, rfl, hp, hB⟩ := hrel
        have HK := Lib.hid hk
        have HP := Lib.hid hp
        have HBr := Lib.hid hB
        have HLr := Lib.hid (HL.out.below hB)
        have hle : k ≤ nl := by omega
        clear hk hp hB
        by_cases hlt : k < nl
        · have hlt' : k < LL.length := by rw [HLl.out]; exact hlt
          have HTk := Lib.hid (all_take (okS N LL N.tr.length) hlt')
          have HNo := Lib.hid (all_no (okS N LL N.tr.length) (List.getElem_mem hlt'))
          have HMx := Lib.hid (List.all_eq_true.1 HAll.out _ (List.getElem_mem hlt'))
          obtain ⟨al, hal, hpa, u, q0, Ax, nx, cx, hu, zx, hx1, hx2, hx3⟩ := HL.out k hlt'
          subst hal hu
          have HQ0 := Lib.hid q0
          generalize LL[k] = X at *
          have HZx := Lib.hid zx
          have HXl := Lib.hid hx1
          clear hlt' zx hx1 q0 HLr
          obtain ⟨go, rfl⟩ : ∃ go, go = gk := ⟨_, rfl⟩
          go_wp2_with fail
          go_loopg [9] (n) (fun g jv wy => ∃ j : Nat, j + g = n ∧ jv = .int .i64 j ∧ okS N LL j X = true ∧ Below w0.heap.size w0 wy)
          case atStart => exact ⟨0, by omega, rfl, rfl, HBr.out⟩
          case round =>
            clear HBr
            obtain ⟨j, hj, rfl, hp, hB⟩ := hrel
            have HJ := Lib.hid hj
            have HPj := Lib.hid hp
            have HBr := Lib.hid hB
            have hjl : j ≤ n := by omega
            obtain ⟨b0, b1, b2, b3⟩ := (HNb.out.below hB).cells
            have q0 := cell_stays hB HQ0.out
            clear hj hp hB
            by_cases hjt : j < n
            · have hjt' : j < N.tr.length := by rw [HNl.out]; exact hjt
              have HTj := Lib.hid (List.getElem?_eq_getElem hjt')
              have hkp : (nx : Int) = N.pl := by rw [← HXl.out]; exact mk_len HMx.out
              have HInT := Lib.hid ((nt_inM HVt.out (m := nx) hkp) _ (List.getElem_mem hjt'))
              have HInr := Lib.hid (HIn.out.below HBr.out)
              have HZr := Lib.hid (HZx.out.below HBr.out)
              have HCan := Lib.hid (fun d os => can21_any N A n c Ax nx cx X j hjt' _ (HInr.out.1.below (below_regrown wr d os)) HNl.out (HZr.out.below (below_regrown wr d os)) HXl.out HInT.out.1 (fun x hx => (mk_nums HMx.out x hx).1))
              have HSu := Lib.hid (okS_succ N LL j X)
              have HOn := Lib.hid (fun (h : okT N LL X j = false) => okS_no (n := N.tr.length) (s := X) hjt' h)
              clear hkp HInT
              go_wp2_with fail
              have a0 := fun d os => cell_regrown b0 d os
              have a1 := fun d os => cell_regrown b1 d os
              have a2 := fun d os => cell_regrown b2 d os
              have a3 := fun d os => cell_regrown b3 d os
              have a4 := fun d os => cell_regrown q0 d os
              cases hcan : canT N.tr[j] X with
              | false =>
                rw [hcan] at HCan
                have HV := Lib.hid (show okS N LL (j + 1) X = true by rw [HSu.out, HPj.out, okT_can HTj.out hcan]; rfl)
                clear hcan
                refine wp_region_quiet_below (by kernel_rfl) (by kernel_rfl) ?_
                repeat (quiet_step (exact Calls.regrown_of (HCan.out _ _)))
                refine wpQuiet_nil ?_
                intro _ hw'
                obtain ⟨⟨dq, osq⟩, hw''⟩ := hw'
                subst hw''
                have HB2 := Lib.hid (below_then HBr.out (below_regrown wr dq osq))
                clear a0 a1 a2 a3 a4
                go_wp2_with fail
                go_roundg (gk - 1)
                case measure => have := HJ.out; omega
                case rel => exact ⟨j + 1, by have := HJ.out; omega, by go_num, HV.out, HB2.out⟩
              | true =>
                rw [hcan] at HCan
                have HOk := Lib.hid (okT_fire (N := N) (LL := LL) HTj.out hcan)
                clear hcan
                refine wp_region_quiet_below (by kernel_rfl) (by kernel_rfl) ?_
                repeat (quiet_step (exact Calls.regrown_of (HCan.out _ _)))
                refine wpQuiet_nil ?_
                intro _ hw'
                obtain ⟨⟨dq, osq⟩, hw''⟩ := hw'
                subst hw''
                have HB2 := Lib.hid (below_then HBr.out (below_regrown wr dq osq))
                clear a0 a1 a2 a3 a4 HTj
                generalize Sort.grow (redrawn wr dq) osq = w3 at *
                have hbd : Below w3.heap.size w3 w3.drew := (Below.refl _ _).drew
                have HB3 := Lib.hid (below_then HB2.out hbd)
                have HNd := Lib.hid (HNb.out.below HB3.out)
                have hfi := r21fire_any N A n c Ax nx cx X (j : Int) w3.drew (HIn.out.below HB3.out) HNl.out (by omega) (HZx.out.below HB3.out) HXl.out (by omega)
                rw [show fire21 N X (j : Int) = fireV N X (j : Int) by unfold fire21; rw [HMx.out]; rfl] at hfi
                have HFi := Lib.hid hfi
                have hS0 := And.intro HNd.out.cells.1 (And.intro HNd.out.cells.2.1 (And.intro HNd.out.cells.2.2.1 (And.intro HNd.out.cells.2.2.2 (cell_stays HB3.out HQ0.out))))
                clear hfi hbd q0 b0 b1 b2 b3 HCan HB2 HBr HInr HZr
                go_wp2_with fail
                by_cases h0 : (fireV N X (j : Int)).2 = 0
                · have HFy := Lib.hid (fv_yes HFi.out h0)
                  rw [decide_eq_true h0, Bool.true_and] at HOk
                  clear HFi h0
                  refine wp_region_held_drew (S := fun w' => w'.cell? ⟨w.heap.size, 0, none⟩ = some (.int .i64 N.pl) ∧ w'.cell? ⟨w.heap.size, 1, none⟩ = some (.slice A n c) ∧ w'.cell? ⟨w.heap.size, 2, none⟩ = some (.int .i64 N.src) ∧ w'.cell? ⟨w.heap.size, 3, none⟩ = some (.int .i64 N.snk) ∧ w'.cell? (al.add k) = some (.slice Ax nx cx)) (by kernel_rfl) hS0 (fun hHeld => ?_)
                  clear hS0
                  generalize w3.drew = wd at *
                  refine wpAnyH_take (i := 0) (v := ?_) rfl (by kernel_rfl) (by kernel_rfl) (by kernel_rfl) (fun _ _ _ h => h) (Or.inl ⟨by rfl, ?_⟩) (by assumption) ?_
                  rotate_left
                  · intro w hSw; (try dsimp only at hSw); go_simp; try (with_reducible rfl)
                  try go_simp
                  refine wpAnyH_take (i := 1) (v := ?_) rfl (by kernel_rfl) (by kernel_rfl) (by kernel_rfl) (fun _ _ _ h => h) (Or.inl ⟨by rfl, ?_⟩) (by assumption) ?_
                  rotate_left
                  · intro w hSw; (try dsimp only at hSw); go_simp; try (with_reducible rfl)
                  try go_simp
                  refine wpAnyH_take (i := 2) (v := ?_) rfl (by kernel_rfl) (by kernel_rfl) (by kernel_rfl) (fun _ _ _ h => h) (Or.inl ⟨by rfl, ?_⟩) (by assumption) ?_
                  rotate_left
                  · intro w hSw; (try dsimp only at hSw); go_simp; try (with_reducible rfl)
                  try go_simp
                  refine wpAnyH_take (i := 3) (v := ?_) rfl (by kernel_rfl) (by kernel_rfl) (by kernel_rfl) (fun _ _ _ h => h) (Or.inl ⟨by rfl, ?_⟩) (by assumption) ?_
                  rotate_left
                  · intro w hSw; (try dsimp only at hSw); go_simp; try (with_reducible rfl)
                  try go_simp
                  refine wpAnyH_take (i := 4) (v := ?_) rfl (by kernel_rfl) (by kernel_rfl) (by kernel_rfl) (fun _ _ _ h => h) (Or.inl ⟨by rfl, ?_⟩) (by assumption) ?_
                  rotate_left
                  · intro w hSw; (try dsimp only at hSw); go_simp; try (with_reducible rfl)
                  try go_simp
                  refine wpAnyH_take (i := 5) (v := ?_) rfl (by kernel_rfl) (by kernel_rfl) (by kernel_rfl) (fun _ _ _ h => h) (Or.inl ⟨by rfl, ?_⟩) (by assumption) ?_
                  rotate_left
                  · intro w hSw; (try dsimp only at hSw); go_simp; try (with_reducible rfl)
                  try go_simp
                  have hS0 := hHeld
                  refine wpAnyH_ready (rs := [6]) (by kernel_rfl) (by simp) ?_
                  refine AllReadyH.cons rfl (fun K hK => ?_) AllReadyH.nil
                  go_simp
                  ((refine HFy.out.mono ?_); rintro e w4 ⟨v4, rfl, hS4⟩; obtain ⟨A4, c4, rfl⟩ := hS4.slice)
                  refine hK.out _ _ (⟨cell_stays hS4.2 hS0.1, cell_stays hS4.2 hS0.2.1, cell_stays hS4.2 hS0.2.2.1, cell_stays hS4.2 hS0.2.2.2.1, cell_stays hS4.2 hS0.2.2.2.2⟩) (fun hHeld => ?_)
                  clear hK K
                  try go_simp
                  refine wpAnyH_take (i := 7) (v := ?_) rfl (by kernel_rfl) (by kernel_rfl) (by kernel_rfl) (fun _ _ _ h => h) (Or.inl ⟨by rfl, ?_⟩) (by assumption) ?_
                  rotate_left
                  · intro w hSw; (try dsimp only at hSw); go_simp; try (with_reducible rfl)
                  try go_simp
                  refine wpAnyH_take (i := 8) (v := ?_) rfl (by kernel_rfl) (by kernel_rfl) (by kernel_rfl) (fun _ _ _ h => h) (Or.inl ⟨by rfl, ?_⟩) (by assumption) ?_
                  rotate_left
                  · intro w hSw; (try dsimp only at hSw); go_simp; try (with_reducible rfl)
                  try go_simp
                  refine wpAnyH_take (i := 9) (v := ?_) rfl (by kernel_rfl) (by kernel_rfl) (by kernel_rfl) (fun _ _ _ h => h) (Or.inl ⟨by rfl, ?_⟩) (by assumption) ?_
                  rotate_left
                  · intro w hSw; (try dsimp only at hSw); go_simp; try (with_reducible rfl)
                  try go_simp
                  refine wpAnyH_take (i := 10) (v := ?_) rfl (by kernel_rfl) (by kernel_rfl) (by kernel_rfl) (fun _ _ _ h => h) (Or.inl ⟨by rfl, ?_⟩) (by assumption) ?_
                  rotate_left
                  · intro w hSw; (try dsimp only at hSw); go_simp; try (with_reducible rfl)
                  try go_simp
                  refine wpAnyH_take (i := 11) (v := ?_) rfl (by kernel_rfl) (by kernel_rfl) (by kernel_rfl) (fun _ _ _ h => h) (Or.inl ⟨by rfl, ?_⟩) (by assumption) ?_
                  rotate_left
                  · intro w hSw; (try dsimp only at hSw); go_simp; try (with_reducible rfl)
                  try go_simp
                  refine wpAnyH_done (by kernel_rfl) ?_ _
                  have HB4 := Lib.hid (below_then HB3.out hS4.2)
                  generalize (fireV N X (j : Int)).1 = Y at *
                  have HFd := Lib.hid (find_any (some al) nl cl LL A4 Y.length c4 Y w4 (HL.out.below HB4.out) HLl.out hl2 (show ZIn w4 A4 Y by obtain ⟨A', c', e, hz, _⟩ := hS4.zin; cases e; exact hz) rfl)
                  by_cases hmem : Y ∈ LL
                  · have HV := Lib.hid (show okS N LL (j + 1) X = true by rw [HSu.out, HPj.out, HOk.out, decide_eq_true hmem]; rfl)
                    have hpos : ¬ findR LL Y < 0 := fun hf => find_neg.1 hf hmem
                    generalize findR LL Y = fi at *
                    clear hmem hHeld hS0 hS4
                    go_wp2_with fail
                    ((with_reducible refine HFd.out.mono ?_); rintro e w5 ⟨rfl, hb5⟩)
                    have HB5 := Lib.hid (below_then HB4.out hb5)
                    go_wp2_with fail
                    go_roundg (gk - 1)
                    case measure => have := HJ.out; omega
                    case rel => exact ⟨j + 1, by have := HJ.out; omega, by go_num, HV.out, HB5.out⟩
                  · have HV := Lib.hid (show closedB N M LL = false by
                      unfold closedB
                      rw [HNo.out (HOn.out (by rw [HOk.out, decide_eq_false hmem]))]; simp)
                    have hneg : findR LL Y = -1 := find_no (fun s hs e => hmem (by subst e; exact hs))
                    rw [hneg] at HFd
                    clear hmem hneg hHeld hS0 hS4
                    go_wp2_with fail
                    ((with_reducible refine HFd.out.mono ?_); rintro e w5 ⟨rfl, hb5⟩)
                    have HB5 := Lib.hid (below_then HB4.out hb5)
                    go_wp2_with fail
                    go_ret
                    exact ⟨ret_bool HV.out.symm, HB.out.trans (HB5.out.mono HB.out.size)⟩
                · have HFn := Lib.hid (fv_no HFi.out h0)
                  have HV := Lib.hid (show closedB N M LL = false by
                    unfold closedB
                    rw [HNo.out (HOn.out (by rw [HOk.out, decide_eq_false h0]; rfl))]; simp)
                  have q5 : ((fireV N X (j : Int)).2 != 0) = true := by rw [bne_iff_ne]; exact h0
                  clear HFi h0 HOk
                  generalize (fireV N X (j : Int)).2 = er at *
                  refine wp_region_held_drew (S := fun w' => w'.cell? ⟨w.heap.size, 0, none⟩ = some (.int .i64 N.pl) ∧ w'.cell? ⟨w.heap.size, 1, none⟩ = some (.slice A n c) ∧ w'.cell? ⟨w.heap.size, 2, none⟩ = some (.int .i64 N.src) ∧ w'.cell? ⟨w.heap.size, 3, none⟩ = some (.int .i64 N.snk) ∧ w'.cell? (al.add k) = some (.slice Ax nx cx)) (by kernel_rfl) hS0 (fun hHeld => ?_)
                  clear hS0
                  generalize w3.drew = wd at *
                  refine wpAnyH_take (i := 0) (v := ?_) rfl (by kernel_rfl) (by kernel_rfl) (by kernel_rfl) (fun _ _ _ h => h) (Or.inl ⟨by rfl, ?_⟩) (by assumption) ?_
                  rotate_left
                  · intro w hSw; (try dsimp only at hSw); go_simp; try (with_reducible rfl)
                  try go_simp
                  refine wpAnyH_take (i := 1) (v := ?_) rfl (by kernel_rfl) (by kernel_rfl) (by kernel_rfl) (fun _ _ _ h => h) (Or.inl ⟨by rfl, ?_⟩) (by assumption) ?_
                  rotate_left
                  · intro w hSw; (try dsimp only at hSw); go_simp; try (with_reducible rfl)
                  try go_simp
                  refine wpAnyH_take (i := 2) (v := ?_) rfl (by kernel_rfl) (by kernel_rfl) (by kernel_rfl) (fun _ _ _ h => h) (Or.inl ⟨by rfl, ?_⟩) (by assumption) ?_
                  rotate_left
                  · intro w hSw; (try dsimp only at hSw); go_simp; try (with_reducible rfl)
                  try go_simp
                  refine wpAnyH_take (i := 3) (v := ?_) rfl (by kernel_rfl) (by kernel_rfl) (by kernel_rfl) (fun _ _ _ h => h) (Or.inl ⟨by rfl, ?_⟩) (by assumption) ?_
                  rotate_left
                  · intro w hSw; (try dsimp only at hSw); go_simp; try (with_reducible rfl)
                  try go_simp
                  refine wpAnyH_take (i := 4) (v := ?_) rfl (by kernel_rfl) (by kernel_rfl) (by kernel_rfl) (fun _ _ _ h => h) (Or.inl ⟨by rfl, ?_⟩) (by assumption) ?_
                  rotate_left
                  · intro w hSw; (try dsimp only at hSw); go_simp; try (with_reducible rfl)
                  try go_simp
                  refine wpAnyH_take (i := 5) (v := ?_) rfl (by kernel_rfl) (by kernel_rfl) (by kernel_rfl) (fun _ _ _ h => h) (Or.inl ⟨by rfl, ?_⟩) (by assumption) ?_
                  rotate_left
                  · intro w hSw; (try dsimp only at hSw); go_simp; try (with_reducible rfl)
                  try go_simp
                  have hS0 := hHeld
                  refine wpAnyH_ready (rs := [6]) (by kernel_rfl) (by simp) ?_
                  refine AllReadyH.cons rfl (fun K hK => ?_) AllReadyH.nil
                  go_simp
                  ((refine HFn.out.mono ?_); rintro e w4 ⟨rfl, hb4⟩)
                  refine hK.out _ _ (⟨cell_stays hb4 hS0.1, cell_stays hb4 hS0.2.1, cell_stays hb4 hS0.2.2.1, cell_stays hb4 hS0.2.2.2.1, cell_stays hb4 hS0.2.2.2.2⟩) (fun hHeld => ?_)
                  clear hK K
                  try go_simp
                  refine wpAnyH_take (i := 7) (v := ?_) rfl (by kernel_rfl) (by kernel_rfl) (by kernel_rfl) (fun _ _ _ h => h) (Or.inl ⟨by rfl, ?_⟩) (by assumption) ?_
                  rotate_left
                  · intro w hSw; (try dsimp only at hSw); go_simp; try (with_reducible rfl)
                  try go_simp
                  refine wpAnyH_take (i := 8) (v := ?_) rfl (by kernel_rfl) (by kernel_rfl) (by kernel_rfl) (fun _ _ _ h => h) (Or.inl ⟨by rfl, ?_⟩) (by assumption) ?_
                  rotate_left
                  · intro w hSw; (try dsimp only at hSw); go_simp; try (with_reducible rfl)
                  try go_simp
                  refine wpAnyH_take (i := 9) (v := ?_) rfl (by kernel_rfl) (by kernel_rfl) (by kernel_rfl) (fun _ _ _ h => h) (Or.inl ⟨by rfl, ?_⟩) (by assumption) ?_
                  rotate_left
                  · intro w hSw; (try dsimp only at hSw); go_simp; try (with_reducible rfl)
                  try go_simp
                  refine wpAnyH_take (i := 10) (v := ?_) rfl (by kernel_rfl) (by kernel_rfl) (by kernel_rfl) (fun _ _ _ h => h) (Or.inl ⟨by rfl, ?_⟩) (by assumption) ?_
                  rotate_left
                  · intro w hSw; (try dsimp only at hSw); go_simp; try (with_reducible rfl)
                  try go_simp
                  refine wpAnyH_take (i := 11) (v := ?_) rfl (by kernel_rfl) (by kernel_rfl) (by kernel_rfl) (fun _ _ _ h => h) (Or.inl ⟨by rfl, ?_⟩) (by assumption) ?_
                  rotate_left
                  · intro w hSw; (try dsimp only at hSw); go_simp; try (with_reducible rfl)
                  try go_simp
                  refine wpAnyH_done (by kernel_rfl) ?_ _
                  have HB4 := Lib.hid (below_then HB3.out hb4)
                  go_wp2_with fail
                  go_ret
                  exact ⟨ret_bool HV.out.symm, HB.out.trans (HB4.out.mono HB.out.size)⟩
            · have HV := Lib.hid (show (LL.take (k + 1)).all (okS N LL N.tr.length) = true by
                rw [HTk.out, HP.out]
                have h1 := HPj.out
                rw [show j = N.tr.length by rw [HNl.out]; omega] at h1
                rw [h1]; rfl)
              go_wp2_with fail
              go_roundg (go - 1)
              case measure => have := HK.out; omega
              case rel => exact ⟨k + 1, by have := HK.out; omega, by go_num, HV.out, HBr.out⟩
        · have HV := Lib.hid (show closedB N M LL = true by
            unfold closedB
            have h1 := HP.out
            rw [List.take_of_length_le (by rw [HLl.out]; omega)] at h1
            rw [decide_eq_true HMem.out, HAll.out, h1]; rfl)
          go_wp2_with fail
          go_ret
          exact ⟨ret_bool HV.out.symm, HB.out.trans (HBr.out.mono HB.out.size)⟩
end
section
open Go.RowKit

/-- a certificate -/
structure Ct where
  cl : Int
  n : Int
  run : List Int
  pump : List Int
  marks : List (List Int)
/-- a certificate as a value -/
def CtIn (w : World) (v : Value) (C : Ct) : Prop :=
  ∃ Ar nr cr Ap np cp Ak nk ck A5 n5 c5 A6 n6 c6 A7 n7 c7, v = .agg #[.int .i64 C.cl, .int .i64 C.n, .slice Ar nr cr, .slice Ap np cp, .slice Ak nk ck, .slice A5 n5 c5, .slice A6 n6 c6, .slice A7 n7 c7] ∧
    (ZIn w Ar C.run ∧ C.run.length = nr) ∧ (ZIn w Ap C.pump ∧ C.pump.length = np) ∧ (LIn w Ak C.marks ∧ C.marks.length = nk ∧ nk ≤ 9223372036854775806)
theorem CtIn.below {w w' : World} {v : Value} {C : Ct} (h : CtIn w v C) (hb : Below w.heap.size w w') : CtIn w' v C := by
  obtain ⟨Ar, nr, cr, Ap, np, cp, Ak, nk, ck, A5, n5, c5, A6, n6, c6, A7, n7, c7, e, ⟨h1, h2⟩, ⟨h3, h4⟩, h5, h6⟩ := h
  exact ⟨Ar, nr, cr, Ap, np, cp, Ak, nk, ck, A5, n5, c5, A6, n6, c6, A7, n7, c7, e, ⟨h1.below hb, h2⟩, ⟨h3.below hb, h4⟩, h5.below hb, h6⟩
/-- the end of a certificate that a net is not bounded -/
def endB (x y : List Int) (k : Int) : Bool := atMost x y && decide (x.getD k.toNat 0 < y.getD k.toNat 0)
/-- a certificate proves that a net is not bounded -/
def pumpB (N : Nt) (M : List Int) (C : Ct) : Bool := decide ((run21 N M C.run).2.2 = 0) && (decide ((run21 N (run21 N M C.run).1 C.pump).2.2 = 0) && endB (run21 N M C.run).1 (run21 N (run21 N M C.run).1 C.pump).1 C.n)
/-- a certificate is not one that a net is not bounded -/
def badC (N : Nt) (C : Ct) : Bool := decide (C.cl ≠ 6) || (decide (C.pump.length = 0) || (decide (C.n < 0) || decide (N.pl ≤ C.n)))
/-- a certificate proves its claim -/
def chkB (N : Nt) (M : List Int) (C : Ct) : Bool := mkB N M && (if C.cl = 5 then closedB N M C.marks else !badC N C && pumpB N M C)
theorem runV_mk {N : Nt} : ∀ (l : List Int) (M : List Int) (k : Nat), mkB N M = true → (runV N M k l).2.2 = 0 → mkB N (runV N M k l).1 = true := by
  intro l
  induction l with
  | nil => intro M k hm _; exact hm
  | cons t l ih =>
    intro M k hm h
    by_cases h0 : (fireV N M t).2 = 0
    · rw [runV_step h0] at h ⊢; exact ih _ _ (fire_mk hm h0) h
    · rw [runV_stop h0] at h; exact absurd h h0
theorem run21_mk {N : Nt} {M l : List Int} (h : (run21 N M l).2.2 = 0) : mkB N (run21 N M l).1 = true := by
  unfold run21 at h ⊢
  by_cases hm : mkB N M = true
  · rw [if_pos hm] at h ⊢
    by_cases hl : 1000 < l.length
    · rw [if_pos hl] at h; simp at h
    · rw [if_neg hl] at h ⊢; exact runV_mk l M 0 hm h
  · rw [if_neg hm] at h; simp at h
set_option maxHeartbeats 12800000 in
set_option maxRecDepth 100000 in
theorem rcheck_any (N : Nt) (A : Option Addr) (n c : Nat) (Am : Option Addr) (m cm : Nat) (M : List Int) (v : Value) (C : Ct) (w : World) (h : NtIn w A N) (hn : N.tr.length = n) (hn2 : n ≤ 9223372036854775807) (hM : ZIn w Am M) (hm : M.length = m) (hm2 : m ≤ 9223372036854775807) (hC : CtIn w v C) :
    Calls Tryd.prog 20 #[.agg #[.int .i64 N.pl, .slice A n c, .int .i64 N.src, .int .i64 N.snk], .slice Am m cm, v] w fun e w' => e = .returned (.bool (chkB N M C)) ∧ Below w.heap.size w w' := by
  obtain ⟨Ar, nr, cr, Ap, np, cp, Ak, nk, ck, A5, n5, c5, A6, n6, c6, A7, n7, c7, rfl, ⟨hr1, hr2⟩, ⟨hp1, hp2⟩, hq1, hq2, hq3⟩ := hC
  have HB := Lib.hid (two_boxes w (.cells #[.int .i64 N.pl, .slice A n c, .int .i64 N.src, .int .i64 N.snk] 24) (.cells #[.int .i64 C.cl, .int .i64 C.n, .slice Ar nr cr, .slice Ap np cp, .slice Ak nk ck, .slice A5 n5 c5, .slice A6 n6 c6, .slice A7 n7 c7] 41))
  have hnew := heap_alloc_new (w.alloc (.cells #[.int .i64 N.pl, .slice A n c, .int .i64 N.src, .int .i64 N.snk] 24)) (.cells #[.int .i64 C.cl, .int .i64 C.n, .slice Ar nr cr, .slice Ap np cp, .slice Ak nk ck, .slice A5 n5 c5, .slice A6 n6 c6, .slice A7 n7 c7] 41)
  rw [World.size_alloc] at hnew
  have HCt := Lib.hid (show CtB _ (w.heap.size + 1) #[.int .i64 C.cl, .int .i64 C.n, .slice Ar nr cr, .slice Ap np cp, .slice Ak nk ck, .slice A5 n5 c5, .slice A6 n6 c6, .slice A7 n7 c7] from hnew)
  have HNb := Lib.hid ((NB.new w N.pl A n c N.src N.snk).below (below_alloc _ (.cells #[.int .i64 C.cl, .int .i64 C.n, .slice Ar nr cr, .slice Ap np cp, .slice Ak nk ck, .slice A5 n5 c5, .slice A6 n6 c6, .slice A7 n7 c7] 41)))
  have HIn := Lib.hid (h.below HB.out)
  have HM := Lib.hid (hM.below HB.out)
  have HR := Lib.hid (hr1.below HB.out)
  have HP := Lib.hid (hp1.below HB.out)
  have HK := Lib.hid (hq1.below HB.out)
  have HRl := Lib.hid hr2
  have HPl := Lib.hid hp2
  have HKl := Lib.hid hq2
  have HMl := Lib.hid hm
  have HNl := Lib.hid hn
  clear h hn hM hm hr1 hp1 hq1 hr2 hp2 hq2 hnew
  go_enter Tryd.func20, Tryd.ntmps20
  go_wp2_with fail
  generalize (w.alloc _).alloc _ = wa at *
  obtain ⟨b0, b1, b2, b3⟩ := HNb.out.cells
  have HVd := Lib.hid (rvalid_any N A n c wa HIn.out HNl.out hn2)
  cases hv : ntB N with
  | false =>
    rw [hv] at HVd
    have HV := Lib.hid (show chkB N M C = false by unfold chkB mkB; rw [hv]; rfl)
    ((with_reducible refine HVd.out.mono ?_); rintro e w1 ⟨rfl, hb1⟩)
    have HFin := Lib.hid (below_then HB.out hb1)
    go_wp2_with fail
    go_ret
    exact ⟨ret_bool HV.out.symm, HFin.out⟩
  | true =>
    rw [hv] at HVd
    ((with_reducible refine HVd.out.mono ?_); rintro e w1 ⟨rfl, hb1⟩)
    have HB1 := Lib.hid (below_then HB.out hb1)
    have HNb1 := Lib.hid (HNb.out.below hb1)
    have HIn1 := Lib.hid (HIn.out.below hb1)
    have HM1 := Lib.hid (HM.out.below hb1)
    have HR1 := Lib.hid (HR.out.below hb1)
    have HP1 := Lib.hid (HP.out.below hb1)
    have HK1 := Lib.hid (HK.out.below hb1)
    have HCt1 := Lib.hid (HCt.out.below hb1)
    have HMk0 := Lib.hid (show mkB N M = (decide ((m : Int) = N.pl) && !(M.any badK)) by unfold mkB; rw [hv, HMl.out]; rfl)
    have HVt := Lib.hid hv
    clear hb1 HVd b0 b1 b2 b3 hv HB HNb HIn HM HR HP HK HCt
    obtain ⟨b0, b1, b2, b3⟩ := HNb1.out.cells
    have HRm := Lib.hid (rmarking_any N.pl A n c N.src N.snk Am m cm M w1 HM1.out HMl.out hm2)
    rw [← HMk0.out] at HRm
    go_wp2_with fail
    cases hk : mkB N M with
    | false =>
      rw [hk] at HRm
      have HV := Lib.hid (show chkB N M C = false by unfold chkB; rw [hk]; rfl)
      ((with_reducible refine HRm.out.mono ?_); rintro e w2 ⟨rfl, hb2⟩)
      have HFin := Lib.hid (below_then HB1.out hb2)
      go_wp2_with fail
      go_ret
      exact ⟨ret_bool HV.out.symm, HFin.out⟩
    | true =>
      rw [hk] at HRm
      have HMk := Lib.hid hk
      have hn60 : n ≤ 60 := by have := nt_small HVt.out; have := HNl.out; omega
      ((with_reducible refine HRm.out.mono ?_); rintro e w2 ⟨rfl, hb2⟩)
      have HB2 := Lib.hid (below_then HB1.out hb2)
      have HNb2 := Lib.hid (HNb1.out.below hb2)
      have HIn2 := Lib.hid (HIn1.out.below hb2)
      have HM2 := Lib.hid (HM1.out.below hb2)
      have HR2 := Lib.hid (HR1.out.below hb2)
      have HP2 := Lib.hid (HP1.out.below hb2)
      have HK2 := Lib.hid (HK1.out.below hb2)
      have HCt2 := Lib.hid (HCt1.out.below hb2)
      clear hb2 HRm b0 b1 b2 b3 hk HB1 HNb1 HIn1 HM1 HR1 HP1 HK1 HCt1
      obtain ⟨b0, b1, b2, b3⟩ := HNb2.out.cells
      obtain ⟨x0, x1, x2, x3, x4, x5, x6, x7⟩ := HCt2.out.cells
      by_cases h5 : C.cl = 5
      · have q1 : (C.cl == 5) = true := by rw [h5]; rfl
        have HX := Lib.hid (show chkB N M C = closedB N M C.marks by unfold chkB; rw [HMk.out, if_pos h5]; rfl)
        have HCl := Lib.hid (rclosed_any N A n c Am m cm M Ak nk ck C.marks w2 HIn2.out HNl.out (by omega) HM2.out HMl.out HVt.out HK2.out HKl.out hq3)
        clear h5
        go_wp2_with fail
        ((with_reducible refine HCl.out.mono ?_); rintro e w3 ⟨rfl, hb3⟩)
        have HB3 := Lib.hid (below_then HB2.out hb3)
        go_wp2_with fail
        go_ret
        exact ⟨ret_bool HX.out.symm, HB3.out⟩
      have q1 : (C.cl == 5) = false := by simpa using h5
      have HX := Lib.hid (show chkB N M C = (!badC N C && pumpB N M C) by unfold chkB; rw [HMk.out, if_neg h5]; rfl)
      clear h5
      by_cases h6 : ¬ C.cl = 6
      · have q2 : (C.cl != 6) = true := by simpa using h6
        have HV := Lib.hid (show chkB N M C = false by rw [HX.out]; unfold badC; rw [decide_eq_true h6]; rfl)
        clear h6
        go_wp2_with fail
        go_ret
        exact ⟨ret_bool HV.out.symm, HB2.out⟩
      replace h6 := Classical.not_not.1 h6
      have q2 : (C.cl != 6) = false := by rw [h6]; rfl
      by_cases hp : np = 0
      · have q3 : ((np : Int) == 0) = true := by rw [hp]; rfl
        have HV := Lib.hid (show chkB N M C = false by rw [HX.out]; unfold badC; rw [HPl.out, decide_eq_true hp]; simp)
        clear h6 hp
        go_wp2_with fail
        go_ret
        exact ⟨ret_bool HV.out.symm, HB2.out⟩
      have q3 : ((np : Int) == 0) = false := by rw [beq_eq_false_iff_ne]; omega
      by_cases hn0 : C.n < 0
      · have q4 : decide (C.n < 0) = true := by simpa using hn0
        have HV := Lib.hid (show chkB N M C = false by rw [HX.out]; unfold badC; rw [decide_eq_true hn0]; simp)
        clear h6 hp hn0
        go_wp2_with fail
        go_ret
        exact ⟨ret_bool HV.out.symm, HB2.out⟩
      have q4 : decide (C.n < 0) = false := by simpa using hn0
      by_cases hn1 : N.pl ≤ C.n
      · have q5 : decide (N.pl ≤ C.n) = true := by simpa using hn1
        have HV := Lib.hid (show chkB N M C = false by rw [HX.out]; unfold badC; rw [decide_eq_true hn1]; simp)
        clear h6 hp hn0 hn1
        go_wp2_with fail
        go_ret
        exact ⟨ret_bool HV.out.symm, HB2.out⟩
      have q5 : decide (N.pl ≤ C.n) = false := by simpa using hn1
      have HY := Lib.hid (show chkB N M C = pumpB N M C by
        rw [HX.out]; unfold badC
        rw [HPl.out, decide_eq_false (show ¬ C.cl ≠ 6 from fun h => h h6), decide_eq_false hp, decide_eq_false hn0, decide_eq_false hn1]; simp)
      have hk0 : 0 ≤ C.n := by omega
      have hk1 : C.n < N.pl := by omega
      clear h6 hp hn0 hn1 HX
      have HRn := Lib.hid (r21run_any N A n c Am m cm M Ar nr cr C.run w2 HIn2.out HNl.out hn2 HM2.out HMl.out hm2 HR2.out HRl.out)
      by_cases hr : ¬ (run21 N M C.run).2.2 = 0
      · have HRx := Lib.hid (rv_no HRn.out hr)
        have HV := Lib.hid (show chkB N M C = false by rw [HY.out]; unfold pumpB; rw [decide_eq_false hr]; rfl)
        have q6 : ((run21 N M C.run).2.2 != 0) = true := by rw [bne_iff_ne]; exact hr
        clear HRn hr HY
        generalize (run21 N M C.run).2.2 = er at *
        generalize (run21 N M C.run).2.1 = ei at *
        go_wp2_with fail
        ((with_reducible refine HRx.out.mono ?_); rintro e w3 ⟨rfl, hb3⟩)
        have HB3 := Lib.hid (below_then HB2.out hb3)
        go_wp2_with fail
        go_ret
        exact ⟨ret_bool HV.out.symm, HB3.out⟩
      replace hr := Classical.not_not.1 hr
      have HRx := Lib.hid (rv_yes HRn.out hr)
      have HMx := Lib.hid (run21_mk hr)
      have HZ := Lib.hid (show chkB N M C = (decide ((run21 N (run21 N M C.run).1 C.pump).2.2 = 0) && endB (run21 N M C.run).1 (run21 N (run21 N M C.run).1 C.pump).1 C.n) by rw [HY.out]; unfold pumpB; rw [decide_eq_true hr]; rfl)
      clear HRn hr HY
      generalize (run21 N M C.run).2.1 = ei at *
      generalize (run21 N M C.run).1 = X at *
      go_wp2_with fail
      ((with_reducible refine HRx.out.mono ?_); rintro e w3 ⟨vx, rfl, hSx⟩)
      have HB3 := Lib.hid (below_then HB2.out hSx.2)
      have HNb3 := Lib.hid (HNb2.out.below hSx.2)
      have HIn3 := Lib.hid (HIn2.out.below hSx.2)
      have HCt3 := Lib.hid (HCt2.out.below hSx.2)
      have HP3 := Lib.hid (HP2.out.below hSx.2)
      have hxl : (X.length : Int) = N.pl := mk_len HMx.out
      obtain ⟨Ax, cx, rfl⟩ := hSx.slice
      have HSx := Lib.hid (show ZIn w3 Ax X by obtain ⟨A', c', e, hz, _⟩ := hSx.zin; cases e; exact hz)
      clear hSx HRx HB2 HNb2 HIn2 HCt2 HP2 HM2 HR2 HK2 b0 b1 b2 b3 x0 x1 x2 x3 x4 x5 x6 x7
      obtain ⟨b0, b1, b2, b3⟩ := HNb3.out.cells
      obtain ⟨x0, x1, x2, x3, x4, x5, x6, x7⟩ := HCt3.out.cells
      have hx40 : X.length ≤ 40 := by have := nt_small (mk_nt HMx.out); omega
      have HXl := Lib.hid hxl
      clear hxl
      have HRn := Lib.hid (r21run_any N A n c Ax X.length cx X Ap np cp C.pump w3 HIn3.out HNl.out hn2 HSx.out rfl (by omega) HP3.out HPl.out)
      by_cases hr : ¬ (run21 N X C.pump).2.2 = 0
      · have HRy := Lib.hid (rv_no HRn.out hr)
        have HV := Lib.hid (show chkB N M C = false by rw [HZ.out, decide_eq_false hr]; rfl)
        have q6 : ((run21 N X C.pump).2.2 == 0) = false := by rw [beq_eq_false_iff_ne]; exact hr
        clear HRn hr HZ
        generalize (run21 N X C.pump).2.2 = er at *
        generalize (run21 N X C.pump).2.1 = ei2 at *
        go_wp2_with fail
        ((with_reducible refine HRy.out.mono ?_); rintro e w4 ⟨rfl, hb4⟩)
        have HB4 := Lib.hid (below_then HB3.out hb4)
        obtain ⟨x0, x1, x2, x3, x4, x5, x6, x7⟩ := HCt3.out.below hb4 |>.cells
        clear b0 b1 b2 b3
        go_wp2_with fail
        have a0 := fun d os => cell_regrown x1 d os
        refine wp_region_quiet_below (by kernel_rfl) (by kernel_rfl) ?_
        repeat (first | go_big_quiet_step (fail) | quiet_step (fail))
        refine wpQuiet_nil ?_
        intro _ hw'
        obtain ⟨⟨dq, osq⟩, hw''⟩ := hw'
        subst hw''
        clear a0
        have HB5 := Lib.hid (below_then HB4.out (below_regrown w4 dq osq))
        go_wp2_with fail
        go_ret
        exact ⟨ret_bool HV.out.symm, HB5.out⟩
      replace hr := Classical.not_not.1 hr
      have HRy := Lib.hid (rv_yes HRn.out hr)
      have HMy := Lib.hid (run21_mk hr)
      have HW := Lib.hid (show chkB N M C = endB X (run21 N X C.pump).1 C.n by rw [HZ.out, decide_eq_true hr]; rfl)
      clear HRn hr HZ
      generalize (run21 N X C.pump).2.1 = ei2 at *
      generalize (run21 N X C.pump).1 = Y at *
      go_wp2_with fail
      ((with_reducible refine HRy.out.mono ?_); rintro e w4 ⟨vy, rfl, hSy⟩)
      have HB4 := Lib.hid (below_then HB3.out hSy.2)
      have HCt4 := Lib.hid (HCt3.out.below hSy.2)
      have HSx4 := Lib.hid (HSx.out.below hSy.2)
      have hyl : (Y.length : Int) = N.pl := mk_len HMy.out
      have hxy : Y.length = X.length := by have := HXl.out; omega
      obtain ⟨Ay, cy, rfl⟩ := hSy.slice
      rw [hxy]
      have HYl := Lib.hid hxy
      have HSy := Lib.hid (show ZIn w4 Ay Y by obtain ⟨A', c', e, hz, _⟩ := hSy.zin; cases e; exact hz)
      obtain ⟨k, hk⟩ := Int.eq_ofNat_of_zero_le hk0
      have hkx : k < X.length := by have := HXl.out; omega
      have hky : k < Y.length := by omega
      have HEn := Lib.hid (show endB X Y C.n = (atMost X Y && decide (X[k] < Y[k])) by unfold endB; rw [hk]; simp [hkx, hky])
      rw [hk] at x1
      clear hSy HRy HB3 HNb3 HIn3 HP3 HSx b0 b1 b2 b3 x0 x1 x2 x3 x4 x5 x6 x7 hyl hxy
      obtain ⟨x0, x1, x2, x3, x4, x5, x6, x7⟩ := HCt4.out.cells
      rw [hk] at x1
      obtain ⟨ax, rfl, hpx, r0⟩ := HSx4.out k hkx
      obtain ⟨ay, rfl, hpy, r1⟩ := HSy.out k hky
      generalize X[k] = xk at *
      generalize Y[k] = yk at *
      have hk0' : (0 : Int) ≤ (k : Int) := by omega
      have hk1' : (k : Int) < (X.length : Int) := by omega
      go_wp2_with fail
      cases ha : atMost X Y with
      | false =>
        have HV := Lib.hid (show chkB N M C = false by rw [HW.out, HEn.out, ha]; rfl)
        have HAm := Lib.hid (fun d os => atmost_any (some ax) X.length cx (some ay) X.length cy X Y _ (HSx4.out.below (below_regrown w4 d os)) rfl (HSy.out.below (below_regrown w4 d os)) HYl.out (Nat.le_refl _) (by omega))
        rw [ha] at HAm
        clear ha
        have a0 := fun d os => cell_regrown x1 d os
        have a1 := fun d os => cell_regrown r0 d os
        have a2 := fun d os => cell_regrown r1 d os
        refine wp_region_quiet_below (by kernel_rfl) (by kernel_rfl) ?_
        repeat (first | go_big_quiet_step (exact Calls.regrown_of (HAm.out _ _)) | quiet_step (exact Calls.regrown_of (HAm.out _ _)))
        refine wpQuiet_nil ?_
        intro _ hw'
        obtain ⟨⟨dq, osq⟩, hw''⟩ := hw'
        subst hw''
        clear a0 a1 a2
        have HB5 := Lib.hid (below_then HB4.out (below_regrown w4 dq osq))
        go_wp2_with fail
        go_ret
        exact ⟨ret_bool HV.out.symm, HB5.out⟩
      | true =>
        have HV := Lib.hid (show chkB N M C = decide (xk < yk) by rw [HW.out, HEn.out, ha]; rfl)
        have HAm := Lib.hid (fun d os => atmost_any (some ax) X.length cx (some ay) X.length cy X Y _ (HSx4.out.below (below_regrown w4 d os)) rfl (HSy.out.below (below_regrown w4 d os)) HYl.out (Nat.le_refl _) (by omega))
        rw [ha] at HAm
        clear ha
        have a0 := fun d os => cell_regrown x1 d os
        have a1 := fun d os => cell_regrown r0 d os
        have a2 := fun d os => cell_regrown r1 d os
        refine wp_region_quiet_below (by kernel_rfl) (by kernel_rfl) ?_
        repeat (first | go_big_quiet_step (exact Calls.regrown_of (HAm.out _ _)) | quiet_step (exact Calls.regrown_of (HAm.out _ _)))
        refine wpQuiet_nil ?_
        intro _ hw'
        obtain ⟨⟨dq, osq⟩, hw''⟩ := hw'
        subst hw''
        clear a0 a1 a2
        have HB5 := Lib.hid (below_then HB4.out (below_regrown w4 dq osq))
        go_wp2_with fail
        go_ret
        exact ⟨ret_bool HV.out.symm, HB5.out⟩
end
end Go.Proofs.YtjojmmabcjccdaaDoor
