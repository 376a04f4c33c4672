/- nearer of reference 28: what a call returns. -/
import Derived.Test.YtpnhcimmlnjfaaaGreatDoorUt
import Derived.Test.YtpnhcimmlnjfaaaGreatDoorYc
namespace Go.Proofs.YtpnhcimmlnjfaaaGreatDoor
open Go.Lib (hid)
open Go.RowKit

/-- firing gives a marking with a lesser number: the reference's way -/
def nearR (K : List (List Int)) (Z : List Int) (i : Nat) (t : Tr) : Bool :=
 canT t (K.getD i []) && (!(bigM (fireT t (K.getD i []))) && (decide (0 ≤ findR K (fireT t (K.getD i []))) && decide (rowV Z (findR K (fireT t (K.getD i []))).toNat < rowV Z i)))
theorem find_lt {K : List (List Int)} {m : List Int} (h : 0 ≤ findR K m) : ∃ i : Nat, findR K m = (i : Int) ∧ i < K.length := by
 unfold findR at h ⊢
 split at h
 · omega
 · rename_i hh
   rw [if_neg hh]
   exact ⟨_, rfl, by have := List.findIdx_le_length (p := fun s => decide (s = m)) (xs := K); omega⟩
set_option maxHeartbeats 12800000 in
set_option maxRecDepth 100000 in
theorem nearer28_any (N : Nt) (A : Option Addr) (n c : Nat) (cl cn : Int) (Ar : Option Addr) (nr cr : Nat) (R : List Int) (Ap : Option Addr) (np cp : Nat) (P : List Int) (Ak : Option Addr) (nk ck : Nat) (K : List (List Int)) (Av : Option Addr) (nv cv : Nat) (V : List Mv) (As : Option Addr) (ns cs : Nat) (S : List (List Int)) (Aw : Option Addr) (nw cw : Nat) (Z : List Int) (i : Nat) (w : World) (h : NtIn w A N) (hn : N.tr.length = n) (hv : ntB N = true) (hC : CfM w Ar nr R Ap np P Ak nk K Av nv V As ns S Aw nw [Z]) (hmk : mksX N.pl false K = true) (hi : i < K.length) (hz : Z.length = K.length) :
 Calls Tryz.prog 121 #[.agg #[.int .i64 N.pl, .slice A n c, .int .i64 N.src, .int .i64 N.snk], .agg #[.int .i64 cl, .int .i64 cn, .slice Ar nr cr, .slice Ap np cp, .slice Ak nk ck, .slice Av nv cv, .slice As ns cs, .slice Aw nw cw], .int .i64 (i : Int)] w fun e w' => e = .returned (.bool (N.tr.any (nearR K Z i))) ∧ Below w.heap.size w w' := by
 have HB0 := hid (two_boxes w (.cells #[.int .i64 N.pl, .slice A n c, .int .i64 N.src, .int .i64 N.snk] 24) (.cells #[.int .i64 cl, .int .i64 cn, .slice Ar nr cr, .slice Ap np cp, .slice Ak nk ck, .slice Av nv cv, .slice As ns cs, .slice Aw nw cw] 29))
 have HNb0 := hid ((NB.new w N.pl A n c N.src N.snk).below (below_alloc _ (.cells #[.int .i64 cl, .int .i64 cn, .slice Ar nr cr, .slice Ap np cp, .slice Ak nk ck, .slice Av nv cv, .slice As ns cs, .slice Aw nw cw] 29)))
 have hcb := heap_alloc_new (w.alloc (.cells #[.int .i64 N.pl, .slice A n c, .int .i64 N.src, .int .i64 N.snk] 24)) (.cells #[.int .i64 cl, .int .i64 cn, .slice Ar nr cr, .slice Ap np cp, .slice Ak nk ck, .slice Av nv cv, .slice As ns cs, .slice Aw nw cw] 29)
 rw [World.size_alloc] at hcb
 have HCb0 := hid (show CtB _ (w.heap.size + 1) #[.int .i64 cl, .int .i64 cn, .slice Ar nr cr, .slice Ap np cp, .slice Ak nk ck, .slice Av nv cv, .slice As ns cs, .slice Aw nw cw] from hcb)
 have HIn0 := hid (h.below HB0.out)
 have HC0 := hid (hC.below HB0.out)
 have HNl := hid hn
 have HV := hid hv
 have hps := nt_small hv
 have hn60 : n ≤ 60 := by omega
 have HMy := hid (List.all_eq_true.1 hmk _ (List.getElem_mem hi))
 have HZl := hid hz
 have hik := hi
 rw [HC0.out.kl] at hik
 obtain ⟨ak, rfl⟩ : ∃ ak, Ak = some ak := by
  obtain ⟨ad, e, _⟩ := HC0.out.k i hi
  exact ⟨ad, e⟩
 obtain ⟨aw, rfl⟩ : ∃ aw, Aw = some aw := by
  obtain ⟨ad, e, _⟩ := HC0.out.x 0 (by simp)
  exact ⟨ad, e⟩
 obtain ⟨Ay, ny, cy, hy0, hzy, hy1, hy2, hy3⟩ := lin_at HC0.out.k hi
 have HRy := hid (fun t => show nearR K Z i t = (canT t K[i] && (!(bigM (fireT t K[i])) && (decide (0 ≤ findR K (fireT t K[i])) && decide (rowV Z (findR K (fireT t K[i])).toNat < rowV Z i)))) by unfold nearR; rw [show K.getD i [] = K[i] by simp [hi]])
 have HY0 := hid (show CA _ (ak.add i) (.slice Ay ny cy) from hy0)
 have HZy := hid hzy
 have HYl := hid hy1
 have HQ := hid (show N.tr.any (nearR K Z i) = N.tr.any (nearR K Z i) from rfl)
 obtain ⟨Q, hQ⟩ : ∃ Q, Q = N.tr.any (nearR K Z i) := ⟨_, rfl⟩
 rw [← hQ]
 replace HQ := hid hQ
 have hIl := hi
 generalize K[i] = Y at *
 have hyp : (ny : Int) = N.pl := by have := mkX_len HMy.out; have := HYl.out; omega
 have HYp := hid hyp
 have hpl40 : N.pl ≤ 40 := hps.2.1
 have hpl1 : 1 ≤ N.pl := hps.1
 have hny : ny ≤ 1000 := by omega
 have hny0 : 0 < ny := by omega
 have HIl := hid hIl
 clear h hn hv hC hps hcb hmk hi hz hy0 hzy hy1 hQ hIl hyp
 go_enter Tryz.func121, Tryz.ntmps121
 go_wp2_with fail
 generalize (w.alloc (.cells #[.int .i64 N.pl, .slice A n c, .int .i64 N.src, .int .i64 N.snk] 24)).alloc (.cells #[.int .i64 cl, .int .i64 cn, .slice Ar nr cr, .slice Ap np cp, .slice (some ak) nk ck, .slice Av nv cv, .slice As ns cs, .slice (some aw) nw cw] 29) = w0 at *
 generalize w.heap.size + 1 = cb at *
 have HBl0 := hid (Below.refl w0.heap.size w0)
 go_loopg [7] (n) (fun g iv wr => ∃ j : Nat, j + g = n ∧ iv = .int .i64 (j : Int) ∧ (N.tr.take j).any (nearR K Z i) = false ∧ Below w0.heap.size w0 wr)
 case atStart => exact ⟨0, by omega, rfl, by simp, HBl0.out⟩
 case round =>
  clear HBl0
  obtain ⟨j, hj, rfl, hp, hB⟩ := hrel
  have HJ := hid hj
  have HP := hid hp
  have HBl20 := hid hB
  have hle : j ≤ n := by omega
  clear hj hp hB
  obtain ⟨w20, rfl⟩ : ∃ w20, w20 = wr := ⟨_, rfl⟩
  have HB20 := hid (HB0.out.trans (HBl20.out.mono HB0.out.size))
  have HNb20 := hid (HNb0.out.below HBl20.out)
  have HCb20 := hid (HCb0.out.below HBl20.out)
  have HIn20 := hid (HIn0.out.below HBl20.out)
  have HC20 := hid (HC0.out.below HBl20.out)
  obtain ⟨b0, b1, b2, b3⟩ := HNb20.out.cells
  obtain ⟨d0, d1, d2, d3, d4, d5, d6, d7⟩ := HCb20.out.cells
  by_cases hlt : j < n
  · have hjt : j < N.tr.length := by rw [HNl.out]; exact hlt
    have HTk := hid (any_step (nearR K Z i) hjt)
    have HYe := hid (fun (hh : nearR K Z i N.tr[j] = true) => show N.tr.any (nearR K Z i) = true from List.any_eq_true.2 ⟨_, List.getElem_mem hjt, hh⟩)
    have HRj := hid (HRy.out N.tr[j])
    have HY20 := hid (HY0.out.below HBl20.out)
    have HEn := hid (fun d os => can28_any N A n c Ay ny cy Y j hjt _ (HIn20.out.below (below_regrown w20 d os)).1 HNl.out ((HZy.out.below HBl20.out).below (below_regrown w20 d os)) HYl.out (nt_inM HV.out (m := ny) HYp.out _ (List.getElem_mem hjt)).1)
    have HFi0 := hid (fun w1 (hw : Below w0.heap.size w0 w1) => fire28_any N A n c Ay ny cy Y j hjt w1 (HIn0.out.below hw).1 HNl.out (HZy.out.below hw) HYl.out hny0 hny (netOk_of HV.out HYp.out j _ (List.getElem?_eq_getElem hjt)) (mkX_bnd HMy.out) (fun p => mkX_le HMy.out p))
    have y0 := HY20.out
    clear d0 d1 d2 d3 d5 d6
    cases hcan : canT N.tr[j] Y with
    | false =>
     rw [hcan] at HEn
     have HNe := hid (show nearR K Z i N.tr[j] = false by rw [HRj.out, hcan]; rfl)
     clear hcan d7
     go_wp2_with fail
     have y0 : w20.cell? (ak.add i) = some (.slice Ay ny cy) := HY20.out
     have a0 := fun d os => cell_regrown b0 d os
     have a1 := fun d os => cell_regrown b1 d os
     have a2 := fun d os => cell_regrown b2 d os
     have a3 := fun d os => cell_regrown b3 d os
     have a4 := fun d os => cell_regrown d4 d os
     have a5 := fun d os => cell_regrown y0 d os
     refine wp_region_quiet_below (by kernel_rfl) (by kernel_rfl) ?_
     repeat (quiet_step (exact Calls.regrown_of (HEn.out _ _)))
     refine wpQuiet_nil ?_
     intro _ hw'
     obtain ⟨⟨dq, osq⟩, hw''⟩ := hw'
     subst hw''
     have HB21 := hid (HB20.out.trans ((below_regrown w20 dq osq).mono HB20.out.size))
     have HNb21 := hid (HNb20.out.below (below_regrown w20 dq osq))
     have HCb21 := hid (HCb20.out.below (below_regrown w20 dq osq))
     have HIn21 := hid (HIn20.out.below (below_regrown w20 dq osq))
     have HC21 := hid (HC20.out.below (below_regrown w20 dq osq))
     have HBl21 := hid (HBl20.out.trans ((below_regrown w20 dq osq).mono HBl20.out.size))
     have HY21 := hid (HY20.out.below (below_regrown w20 dq osq))
     clear a0 a1 a2 a3 a4 a5
     clear HB20 HNb20 HCb20 HIn20 HC20 HBl20 HY20
     clear b0 b1 b2 b3 d4 y0
     generalize Sort.grow (redrawn w20 dq) osq = w21 at *
     go_wp2_with fail
     go_roundg (gk - 1)
     case measure => have := HJ.out; omega
     case rel => exact ⟨j + 1, by have := HJ.out; omega, by go_num, by rw [HTk.out, HP.out, HNe.out]; rfl, HBl21.out⟩
    | true =>
     rw [hcan] at HEn HRj
     clear hcan d7
     go_wp2_with fail
     have y0 : w20.cell? (ak.add i) = some (.slice Ay ny cy) := HY20.out
     have a0 := fun d os => cell_regrown b0 d os
     have a1 := fun d os => cell_regrown b1 d os
     have a2 := fun d os => cell_regrown b2 d os
     have a3 := fun d os => cell_regrown b3 d os
     have a4 := fun d os => cell_regrown d4 d os
     have a5 := fun d os => cell_regrown y0 d os
     refine wp_region_quiet_below (by kernel_rfl) (by kernel_rfl) ?_
     repeat (quiet_step (exact Calls.regrown_of (HEn.out _ _)))
     refine wpQuiet_nil ?_
     intro _ hw'
     obtain ⟨⟨dq, osq⟩, hw''⟩ := hw'
     subst hw''
     have HB21 := hid (HB20.out.trans ((below_regrown w20 dq osq).mono HB20.out.size))
     have HNb21 := hid (HNb20.out.below (below_regrown w20 dq osq))
     have HCb21 := hid (HCb20.out.below (below_regrown w20 dq osq))
     have HIn21 := hid (HIn20.out.below (below_regrown w20 dq osq))
     have HC21 := hid (HC20.out.below (below_regrown w20 dq osq))
     have HBl21 := hid (HBl20.out.trans ((below_regrown w20 dq osq).mono HBl20.out.size))
     have HY21 := hid (HY20.out.below (below_regrown w20 dq osq))
     clear a0 a1 a2 a3 a4 a5
     clear HB20 HNb20 HCb20 HIn20 HC20 HBl20 HY20
     clear b0 b1 b2 b3 d4 y0
     generalize Sort.grow (redrawn w20 dq) osq = w21 at *
     have HFl := hid (show (fireT N.tr[j] Y).length = ny by rw [fireT_len, HYl.out])
     go_wp2_with fail
     cases hbig : bigM (fireT N.tr[j] Y) with
     | true =>
      have HNe := hid (show nearR K Z i N.tr[j] = false by rw [HRj.out, hbig]; rfl)
      obtain ⟨b0, b1, b2, b3⟩ := HNb21.out.cells
      obtain ⟨d0, d1, d2, d3, d4, d5, d6, d7⟩ := HCb21.out.cells
      have y0 : w21.cell? (ak.add i) = some (.slice Ay ny cy) := HY21.out
      clear d0 d1 d2 d3 d5 d6 d7
      have hbd : Below w21.heap.size w21 w21.drew := (Below.refl _ _).drew
      have HB22 := hid (HB21.out.trans (hbd.mono HB21.out.size))
      have HNb22 := hid (HNb21.out.below hbd)
      have HCb22 := hid (HCb21.out.below hbd)
      have HIn22 := hid (HIn21.out.below hbd)
      have HC22 := hid (HC21.out.below hbd)
      have HBl22 := hid (HBl21.out.trans (hbd.mono HBl21.out.size))
      have HY22 := hid (HY21.out.below hbd)
      have hS0 := And.intro (cell_stays hbd b0) (And.intro (cell_stays hbd b1) (And.intro (cell_stays hbd b2) (And.intro (cell_stays hbd b3) (And.intro (cell_stays hbd d4) ((cell_stays hbd y0))))))
      refine wp_region_held_drew (S := fun w' => w'.cell? ⟨w.heap.size, 0, none⟩ = some (.int .i64 N.pl) ∧ w'.cell? ⟨w.heap.size, 1, none⟩ = some (.slice A n c) ∧ w'.cell? ⟨w.heap.size, 2, none⟩ = some (.int .i64 N.src) ∧ w'.cell? ⟨w.heap.size, 3, none⟩ = some (.int .i64 N.snk) ∧ w'.cell? ⟨cb, 4, none⟩ = some (.slice (some ak) nk ck) ∧ w'.cell? (ak.add i) = some (.slice Ay ny cy)) (by kernel_rfl) hS0 (fun hHeld => ?_)
      clear hS0 hbd b0 b1 b2 b3 d4 y0
      clear HB21 HNb21 HCb21 HIn21 HC21 HBl21 HY21
      generalize w21.drew = w22 at *
      refine tkH 0 ?_; try go_simp
      refine tkH 1 ?_; try go_simp
      refine tkH 2 ?_; try go_simp
      refine tkH 3 ?_; try go_simp
      refine tkH 4 ?_; try go_simp
      refine tkH 5 ?_; try go_simp
      refine tkH 6 ?_; try go_simp
      refine tkR 7 (fun K9 hK => ?_)
      go_simp
      ((refine (rf_no (HFi0.out w22 HBl22.out) hbig).mono ?_); rintro e w23 ⟨rfl, hb23⟩)
      have hS9 := hHeld
      refine hK.out _ _ ⟨cell_stays hb23 hS9.1, cell_stays hb23 hS9.2.1, cell_stays hb23 hS9.2.2.1, cell_stays hb23 hS9.2.2.2.1, cell_stays hb23 hS9.2.2.2.2.1, cell_stays hb23 hS9.2.2.2.2.2⟩ (fun hHeld => ?_)
      clear hK K9 hS9
      try go_simp
      have HB23 := hid (HB22.out.trans (hb23.mono HB22.out.size))
      have HNb23 := hid (HNb22.out.below hb23)
      have HCb23 := hid (HCb22.out.below hb23)
      have HIn23 := hid (HIn22.out.below hb23)
      have HC23 := hid (HC22.out.below hb23)
      have HBl23 := hid (HBl22.out.trans (hb23.mono HBl22.out.size))
      have HY23 := hid (HY22.out.below hb23)
      clear HB22 HNb22 HCb22 HIn22 HC22 HBl22 HY22
      clear hb23
      refine tkH 8 ?_; try go_simp
      refine tkH 9 ?_; try go_simp
      refine tkH 10 ?_; try go_simp
      refine tkH 11 ?_; try go_simp
      refine tkH 12 ?_; try go_simp
      refine wpAnyH_done (by kernel_rfl) ?_ _
      clear hHeld
      go_wp2_with fail
      go_roundg (gk - 1)
      case measure => have := HJ.out; omega
      case rel => exact ⟨j + 1, by have := HJ.out; omega, by go_num, by rw [HTk.out, HP.out, HNe.out]; rfl, HBl23.out⟩
     | false =>
      have HRk := hid (show nearR K Z i N.tr[j] = (decide (0 ≤ findR K (fireT N.tr[j] Y)) && decide (rowV Z (findR K (fireT N.tr[j] Y)).toNat < rowV Z i)) by rw [HRj.out, hbig]; rfl)
      clear HRj
      obtain ⟨F, hF⟩ : ∃ F, F = fireT N.tr[j] Y := ⟨_, rfl⟩
      rw [← hF] at HFi0 HRk HFl hbig
      clear hF
      obtain ⟨b0, b1, b2, b3⟩ := HNb21.out.cells
      obtain ⟨d0, d1, d2, d3, d4, d5, d6, d7⟩ := HCb21.out.cells
      have y0 : w21.cell? (ak.add i) = some (.slice Ay ny cy) := HY21.out
      clear d0 d1 d2 d3 d5 d6 d7
      have hbd : Below w21.heap.size w21 w21.drew := (Below.refl _ _).drew
      have HB22 := hid (HB21.out.trans (hbd.mono HB21.out.size))
      have HNb22 := hid (HNb21.out.below hbd)
      have HCb22 := hid (HCb21.out.below hbd)
      have HIn22 := hid (HIn21.out.below hbd)
      have HC22 := hid (HC21.out.below hbd)
      have HBl22 := hid (HBl21.out.trans (hbd.mono HBl21.out.size))
      have HY22 := hid (HY21.out.below hbd)
      have hS0 := And.intro (cell_stays hbd b0) (And.intro (cell_stays hbd b1) (And.intro (cell_stays hbd b2) (And.intro (cell_stays hbd b3) (And.intro (cell_stays hbd d4) ((cell_stays hbd y0))))))
      refine wp_region_held_drew (S := fun w' => w'.cell? ⟨w.heap.size, 0, none⟩ = some (.int .i64 N.pl) ∧ w'.cell? ⟨w.heap.size, 1, none⟩ = some (.slice A n c) ∧ w'.cell? ⟨w.heap.size, 2, none⟩ = some (.int .i64 N.src) ∧ w'.cell? ⟨w.heap.size, 3, none⟩ = some (.int .i64 N.snk) ∧ w'.cell? ⟨cb, 4, none⟩ = some (.slice (some ak) nk ck) ∧ w'.cell? (ak.add i) = some (.slice Ay ny cy)) (by kernel_rfl) hS0 (fun hHeld => ?_)
      clear hS0 hbd b0 b1 b2 b3 d4 y0
      clear HB21 HNb21 HCb21 HIn21 HC21 HBl21 HY21
      generalize w21.drew = w22 at *
      refine tkH 0 ?_; try go_simp
      refine tkH 1 ?_; try go_simp
      refine tkH 2 ?_; try go_simp
      refine tkH 3 ?_; try go_simp
      refine tkH 4 ?_; try go_simp
      refine tkH 5 ?_; try go_simp
      refine tkH 6 ?_; try go_simp
      refine tkR 7 (fun K9 hK => ?_)
      go_simp
      ((refine (rf_yes (HFi0.out w22 HBl22.out) hbig).mono ?_); rintro e w23 ⟨v23, rfl, hS23⟩)
      obtain ⟨A23, c23, rfl⟩ := hS23.slice
      have hb23 := hS23.2
      have hS9 := hHeld
      refine hK.out _ _ ⟨cell_stays hb23 hS9.1, cell_stays hb23 hS9.2.1, cell_stays hb23 hS9.2.2.1, cell_stays hb23 hS9.2.2.2.1, cell_stays hb23 hS9.2.2.2.2.1, cell_stays hb23 hS9.2.2.2.2.2⟩ (fun hHeld => ?_)
      clear hK K9 hS9
      try go_simp
      have HB23 := hid (HB22.out.trans (hb23.mono HB22.out.size))
      have HNb23 := hid (HNb22.out.below hb23)
      have HCb23 := hid (HCb22.out.below hb23)
      have HIn23 := hid (HIn22.out.below hb23)
      have HC23 := hid (HC22.out.below hb23)
      have HBl23 := hid (HBl22.out.trans (hb23.mono HBl22.out.size))
      have HY23 := hid (HY22.out.below hb23)
      clear HB22 HNb22 HCb22 HIn22 HC22 HBl22 HY22
      have HZf23 := hid (show ZIn w23 A23 F by obtain ⟨A', c', e, hz, _⟩ := hS23.zin; cases e; exact hz)
      clear hS23 hb23
      refine tkH 8 ?_; try go_simp
      refine tkH 9 ?_; try go_simp
      refine tkH 10 ?_; try go_simp
      refine tkH 11 ?_; try go_simp
      refine tkH 12 ?_; try go_simp
      refine wpAnyH_done (by kernel_rfl) ?_ _
      clear hHeld
      rw [HFl.out]
      have HAt := hid (at28_any (some ak) nk ck K A23 ny c23 F w23 HC23.out.k HC23.out.kl HC23.out.kb HZf23.out HFl.out)
      obtain ⟨d0, d1, d2, d3, d4, d5, d6, d7⟩ := HCb23.out.cells
      clear d0 d1 d2 d3 d5 d6 hbig
      by_cases h0 : 0 ≤ findR K F
      rotate_left
      · have p0 : decide (0 ≤ findR K F) = false := by simpa using h0
        have HNe := hid (show nearR K Z i N.tr[j] = false by rw [HRk.out, p0]; rfl)
        generalize findR K F = fi at *
        clear h0
        go_wp2_with fail
        ((with_reducible refine HAt.out.mono ?_); rintro e w24 ⟨rfl, hb24⟩)
        have HB24 := hid (HB23.out.trans (hb24.mono HB23.out.size))
        have HNb24 := hid (HNb23.out.below hb24)
        have HCb24 := hid (HCb23.out.below hb24)
        have HIn24 := hid (HIn23.out.below hb24)
        have HC24 := hid (HC23.out.below hb24)
        have HBl24 := hid (HBl23.out.trans (hb24.mono HBl23.out.size))
        have HY24 := hid (HY23.out.below hb24)
        clear HB23 HNb23 HCb23 HIn23 HC23 HBl23 HY23
        clear hb24 d4 d7
        obtain ⟨d0, d1, d2, d3, d4, d5, d6, d7⟩ := HCb24.out.cells
        clear d0 d1 d2 d3 d4 d5 d6
        go_wp2_with fail
        have hbd : Below w24.heap.size w24 w24.drew := (Below.refl _ _).drew
        have HB25 := hid (HB24.out.trans (hbd.mono HB24.out.size))
        have HNb25 := hid (HNb24.out.below hbd)
        have HCb25 := hid (HCb24.out.below hbd)
        have HIn25 := hid (HIn24.out.below hbd)
        have HC25 := hid (HC24.out.below hbd)
        have HBl25 := hid (HBl24.out.trans (hbd.mono HBl24.out.size))
        have HY25 := hid (HY24.out.below hbd)
        have hS0 := (cell_stays hbd d7)
        refine wp_region_held_drew (S := fun w' => w'.cell? ⟨cb, 7, none⟩ = some (.slice (some aw) nw cw)) (by kernel_rfl) hS0 (fun hHeld => ?_)
        clear hS0 hbd d7
        clear HB24 HNb24 HCb24 HIn24 HC24 HBl24 HY24
        generalize w24.drew = w25 at *
        refine tkH 0 ?_; try go_simp
        refine tkH 1 ?_; try go_simp
        refine tkH 2 ?_; try go_simp
        refine tkU 3 ?_; try go_simp
        refine tkU 4 ?_; try go_simp
        refine tkU 5 ?_; try go_simp
        refine tkU 6 ?_; try go_simp
        refine tkU 7 ?_; try go_simp
        refine tkU 8 ?_; try go_simp
        refine tkU 9 ?_; try go_simp
        refine tkU 10 ?_; try go_simp
        refine tkU 11 ?_; try go_simp
        refine tkU 12 ?_; try go_simp
        refine tkU 13 ?_; try go_simp
        refine tkU 14 ?_; try go_simp
        refine tkU 15 ?_; try go_simp
        refine tkU 16 ?_; try go_simp
        refine tkU 17 ?_; try go_simp
        refine tkH 18 ?_; try go_simp
        refine wpAnyH_done (by kernel_rfl) ?_ _
        clear hHeld
        go_wp2_with fail
        go_roundg (gk - 1)
        case measure => have := HJ.out; omega
        case rel => exact ⟨j + 1, by have := HJ.out; omega, by go_num, by rw [HTk.out, HP.out, HNe.out]; rfl, HBl25.out⟩
      obtain ⟨ix, hix, hixk⟩ := find_lt h0
      rw [hix] at HAt HRk
      rw [decide_eq_true (show (0 : Int) ≤ (ix : Int) by omega), Bool.true_and, Int.toNat_natCast] at HRk
      have p0 : decide ((0 : Int) ≤ (ix : Int)) = true := by simp
      clear h0 hix
      go_wp2_with fail
      ((with_reducible refine HAt.out.mono ?_); rintro e w24 ⟨rfl, hb24⟩)
      have HB24 := hid (HB23.out.trans (hb24.mono HB23.out.size))
      have HNb24 := hid (HNb23.out.below hb24)
      have HCb24 := hid (HCb23.out.below hb24)
      have HIn24 := hid (HIn23.out.below hb24)
      have HC24 := hid (HC23.out.below hb24)
      have HBl24 := hid (HBl23.out.trans (hb24.mono HBl23.out.size))
      have HY24 := hid (HY23.out.below hb24)
      clear HB23 HNb23 HCb23 HIn23 HC23 HBl23 HY23
      clear hb24 d4 d7
      obtain ⟨d0, d1, d2, d3, d4, d5, d6, d7⟩ := HCb24.out.cells
      clear d0 d1 d2 d3 d4 d5 d6
      obtain ⟨Az, nz, cz, x0, zz, hz1, hz2, hz3⟩ := lin_at HC24.out.x (i := 0) (by simp)
      replace zz : ZIn w24 Az Z := zz
      replace hz1 : Z.length = nz := hz1
      have hixZ : ix < Z.length := by rw [HZl.out]; exact hixk
      have hiZ : i < Z.length := by rw [HZl.out]; exact HIl.out
      obtain ⟨az, rfl, _, z0⟩ := zz ix hixZ
      obtain ⟨az', e', _, z1⟩ := zz i hiZ
      obtain rfl : az = az' := by cases e'; rfl
      clear e'
      replace x0 : w24.cell? aw = some (.slice (some az) nz cz) := by simpa [CA, Addr.add] using x0
      rw [show rowV Z ix = Z[ix] by simp [rowV, hixZ], show rowV Z i = Z[i] by simp [rowV, hiZ]] at HRk
      generalize Z[ix] = zx at *
      generalize Z[i] = zi at *
      have hix0 : (0 : Int) ≤ (ix : Int) := by omega
      have hix1 : (ix : Int) < (nz : Int) := by omega
      have hi0 : (0 : Int) ≤ (i : Int) := by omega
      have hi1 : (i : Int) < (nz : Int) := by omega
      have hixn : ix < nz := by omega
      have hin : i < nz := by omega
      have hnw : nw = 1 := by have := HC24.out.xl; simpa using this.symm
      subst hnw
      clear zz hz1 hixZ hiZ hixk
      go_wp2_with fail
      have hbd : Below w24.heap.size w24 w24.drew := (Below.refl _ _).drew
      have HB25 := hid (HB24.out.trans (hbd.mono HB24.out.size))
      have HNb25 := hid (HNb24.out.below hbd)
      have HCb25 := hid (HCb24.out.below hbd)
      have HIn25 := hid (HIn24.out.below hbd)
      have HC25 := hid (HC24.out.below hbd)
      have HBl25 := hid (HBl24.out.trans (hbd.mono HBl24.out.size))
      have HY25 := hid (HY24.out.below hbd)
      have hS0 := And.intro (cell_stays hbd d7) (And.intro (cell_stays hbd x0) (And.intro (cell_stays hbd z0) ((cell_stays hbd z1))))
      refine wp_region_held_drew (S := fun w' => w'.cell? ⟨cb, 7, none⟩ = some (.slice (some aw) 1 cw) ∧ w'.cell? aw = some (.slice (some az) nz cz) ∧ w'.cell? (az.add ix) = some (.int .i64 zx) ∧ w'.cell? (az.add i) = some (.int .i64 zi)) (by kernel_rfl) hS0 (fun hHeld => ?_)
      clear hS0 hbd d7 x0 z0 z1
      clear HB24 HNb24 HCb24 HIn24 HC24 HBl24 HY24
      generalize w24.drew = w25 at *
      refine tkH 0 ?_; try go_simp
      refine tkH 1 ?_; try go_simp
      refine tkH 2 ?_; try go_simp
      refine tkH 3 ?_; try go_simp
      refine tkH 4 ?_; try go_simp
      refine tkH 5 ?_; try go_simp
      refine tkH 6 ?_; try go_simp
      refine tkH 7 ?_; try go_simp
      refine tkH 8 ?_; try go_simp
      refine tkH 9 ?_; try go_simp
      refine tkH 10 ?_; try go_simp
      refine tkH 11 ?_; try go_simp
      refine tkH 12 ?_; try go_simp
      refine tkH 13 ?_; try go_simp
      refine tkH 14 ?_; try go_simp
      refine tkH 15 ?_; try go_simp
      refine tkH 16 ?_; try go_simp
      refine tkH 17 ?_; try go_simp
      refine tkH 18 ?_; try go_simp
      refine wpAnyH_done (by kernel_rfl) ?_ _
      clear hHeld
      cases hlz : decide (zx < zi) with
      | true =>
       rw [hlz] at HRk
       rw [HYe.out HRk.out] at HQ
       have HH := hid hlz
       clear HH
       go_wp2_with fail
       go_ret
       exact ⟨ret_bool HQ.out.symm, HB25.out⟩
      | false =>
       rw [hlz] at HRk
       go_wp2_with fail
       go_roundg (gk - 1)
       case measure => have := HJ.out; omega
       case rel => exact ⟨j + 1, by have := HJ.out; omega, by go_num, by rw [HTk.out, HP.out, HRk.out]; rfl, HBl25.out⟩
  · have HV2 := hid (show Q = false by
     rw [HQ.out]
     have h1 := HP.out
     rwa [List.take_of_length_le (by rw [HNl.out]; omega)] at h1)
    go_wp2_with fail
    go_ret
    exact ⟨ret_bool HV2.out.symm, HB20.out⟩
end Go.Proofs.YtpnhcimmlnjfaaaGreatDoor
