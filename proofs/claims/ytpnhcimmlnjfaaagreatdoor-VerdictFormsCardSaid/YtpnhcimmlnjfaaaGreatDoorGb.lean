/- in, Extended, Closed, Cover of reference 29: what a call returns. -/
import Derived.Test.YtpnhcimmlnjfaaaGreatDoorUt
import Derived.Test.YtpnhcimmlnjfaaaGreatDoorGa
import Derived.Test.YtpnhcimmlnjfaaaGreatDoorQk
namespace Go.Proofs.YtpnhcimmlnjfaaaGreatDoor
open Go.Lib (hid)
open Go.RowKit

def sameP (X s : List Int) : Bool := decide (s = X)
theorem inB_any (LL : List (List Int)) (X : List Int) : LL.any (sameP X) = inB LL X := by
 unfold inB sameP; rw [Bool.eq_iff_iff, List.any_eq_true, decide_eq_true_eq]
 constructor
 · rintro ⟨x, hx, h⟩; rw [decide_eq_true_eq] at h; rw [← h]; exact hx
 · intro h; exact ⟨X, h, by simp⟩
set_option maxHeartbeats 3200000 in
set_option maxRecDepth 100000 in
theorem in29s_any (Ax : Option Addr) (nx cx : Nat) (X : List Int) (Al : Option Addr) (nl cl : Nat) (LL : List (List Int)) (w : World) (hx : ZIn w Ax X) (hxl : X.length = nx) (hL : LIn w Al LL) (hl : LL.length = nl) (hl2 : nl ≤ 9223372036854775806) (hxb : nx ≤ 9223372036854775807) :
 Calls Tryz.prog 41 #[.slice Al nl cl, .slice Ax nx cx] w fun e w' => e = .returned (.bool (LL.any (sameP X))) ∧ Below w.heap.size w w' := by
 have HX := hid hx
 have HXl := hid hxl
 have HL := hid hL
 have HLl := hid hl
 have HLe := hid hxb
 clear hx hxl hL hl hxb
 go_enter Tryz.func41, Tryz.ntmps41
 go_wp2_with fail
 go_loopg [5] (nl) (fun g iv wr => ∃ k : Nat, k + g = nl ∧ iv = .int .i64 k ∧ (LL.take k).any (sameP X) = false ∧ Below w.heap.size w wr)
 case atStart => exact ⟨0, by omega, rfl, by simp, Below.refl _ _⟩
 case round =>
  obtain ⟨k, hk, rfl, hp, hB⟩ := hrel
  have HB := hid hB
  have HK := hid hk
  have HP := hid hp
  have HLr := hid (HL.out.below hB)
  have hle : k ≤ nl := by omega
  clear hk hp hB
  by_cases hlt : k < nl
  · have hlt' : k < LL.length := by rw [HLl.out]; exact hlt
    obtain ⟨ad, rfl, hpa, u, q0, Ay, ny, cy, rfl, zy, hy1, hy2, hy3⟩ := HLr.out k hlt'
    have HTk := hid (any_step (sameP X) hlt')
    have HYes := hid (fun (hh : sameP X LL[k] = true) => show LL.any (sameP X) = true from List.any_eq_true.2 ⟨_, List.getElem_mem hlt', hh⟩)
    have hnm := HLe.out
    generalize LL[k] = Y at *
    have HAm := hid (samerow_any Ay ny cy Y Ax nx cx X wr zy hy1 (HX.out.below HB.out) HXl.out (by omega) (by omega))
    rw [show decide (Y = X) = sameP X Y from rfl] at HAm
    clear hlt' zy hy1 hnm
    cases ha : sameP X Y with
    | true =>
     rw [ha] at HAm
     have HV := hid (HYes.out ha)
     clear ha HYes
     go_wp2_with fail
     ((with_reducible refine HAm.out.mono ?_); rintro e w1 ⟨rfl, hb1⟩)
     have HB1 := hid (below_then HB.out hb1)
     go_wp2_with fail
     go_ret
     exact ⟨ret_bool HV.out.symm, HB1.out⟩
    | false =>
     rw [ha] at HAm
     have HV := hid (show (LL.take (k + 1)).any (sameP X) = false by rw [HTk.out, HP.out, ha]; rfl)
     clear ha HYes
     go_wp2_with fail
     ((with_reducible refine HAm.out.mono ?_); rintro e w1 ⟨rfl, hb1⟩)
     have HB1 := hid (below_then HB.out hb1)
     clear hb1
     go_wp2_with fail
     go_roundg (gk - 1)
     case measure => have := HK.out; omega
     case rel => exact ⟨k + 1, by have := HK.out; omega, by go_num, HV.out, HB1.out⟩
  · have HV := hid (show LL.any (sameP X) = false by have := HP.out; rwa [List.take_of_length_le (by rw [HLl.out]; omega)] at this)
    go_wp2_with fail
    go_ret
    exact ⟨ret_bool HV.out.symm, HB.out⟩
theorem in29_any (Al : Option Addr) (nl cl : Nat) (LL : List (List Int)) (Ax : Option Addr) (nx cx : Nat) (X : List Int) (w : World) (hL : LIn w Al LL) (hl : LL.length = nl) (hl2 : nl ≤ 9223372036854775806) (hx : ZIn w Ax X) (hxl : X.length = nx) (hxb : nx ≤ 9223372036854775807) :
 Calls Tryz.prog 41 #[.slice Al nl cl, .slice Ax nx cx] w fun e w' => e = .returned (.bool (inB LL X)) ∧ Below w.heap.size w w' := by
 rw [← inB_any]
 exact in29s_any Ax nx cx X Al nl cl LL w hx hxl hL hl hl2 hxb
theorem mkX_pos {pl : Int} {s : List Int} (h : mkX pl false s = true) : ∀ x ∈ s, 0 ≤ x := by
 intro x hx
 unfold mkX at h
 rw [Bool.and_eq_true, Bool.not_eq_true', List.any_eq_false] at h
 have h2 := h.2 x hx
 unfold badX at h2
 simp at h2
 omega
def RGi (L : List Int) (w : World) (e : Ending) (w' : World) : Prop := if bigM L = true then e = .returned (.tuple #[.slice none 0 0, .int .i64 5]) ∧ Below w.heap.size w w' else ∃ v, e = .returned (.tuple #[v, .int .i64 0]) ∧ NS w w' v L
theorem rg_no {P : Program} {f : FuncId} {args : Array Value} {w : World} {L : List Int} (h : Calls P f args w (RGi L w)) (h0 : bigM L = true) : Calls P f args w fun e w' => e = .returned (.tuple #[.slice none 0 0, .int .i64 5]) ∧ Below w.heap.size w w' :=
 h.mono fun e w' h1 => by unfold RGi at h1; rw [if_pos h0] at h1; exact h1
theorem rg_yes {P : Program} {f : FuncId} {args : Array Value} {w : World} {L : List Int} (h : Calls P f args w (RGi L w)) (h0 : bigM L = false) : Calls P f args w fun e w' => ∃ v, e = .returned (.tuple #[v, .int .i64 0]) ∧ NS w w' v L :=
 h.mono fun e w' h1 => by unfold RGi at h1; rw [if_neg (by rw [h0]; decide)] at h1; exact h1
theorem fire21x_any (N : Nt) (A : Option Addr) (n c : Nat) (Am : Option Addr) (m cm : Nat) (M : List Int) (t : Nat) (ht : t < N.tr.length) (w : World) (h : NtIn w A N) (hn : N.tr.length = n) (hn2 : n ≤ 9223372036854775807) (hM : ZIn w Am M) (hm : M.length = m) (hm2 : m ≤ 9223372036854775807) (hv : mkB N M = true) (hc : canT N.tr[t] M = true) :
 Calls Tryz.prog 40 #[.agg #[.int .i64 N.pl, .slice A n c, .int .i64 N.src, .int .i64 N.snk], .slice Am m cm, .int .i64 (t : Int)] w (RGi (fireT N.tr[t] M) w) := by
 have e : fire21 N M (t : Int) = if bigM (fireT N.tr[t] M) = true then ([], 5) else (fireT N.tr[t] M, 0) := by
  unfold fire21 fireV
  rw [if_pos hv, if_neg (by omega), Int.toNat_natCast, List.getElem?_eq_getElem ht]
  simp only [hc, if_true]
 refine (r21fire_any N A n c Am m cm M (t : Int) w h hn hn2 hM hm hm2).mono fun e1 w' hP => ?_
 rw [e] at hP
 unfold RGi
 unfold FvPo at hP
 by_cases hb : bigM (fireT N.tr[t] M) = true
 · rw [if_pos hb] at hP ⊢; rw [if_neg (by decide)] at hP; exact hP
 · rw [if_neg hb] at hP ⊢; rw [if_pos rfl] at hP; exact hP
theorem ret_bi {a b : Bool} {i j : Int} (h : a = b) (h2 : i = j) : Ending.returned (.tuple #[.bool a, .int .i64 i]) = .returned (.tuple #[.bool b, .int .i64 j]) := by cases h; cases h2; rfl
theorem giv_nt {N : Nt} {L : List (List Int)} {ext : Bool} (h : ntB N = false) : givE N L ext = 1 := by unfold givE; rw [h]; rfl
theorem giv_mk {N : Nt} {L : List (List Int)} {ext : Bool} (h : mksX N.pl ext L = false) : givE N L ext = 1 := by unfold givE; rw [h]; simp
theorem giv_ok {N : Nt} {L : List (List Int)} {ext : Bool} (h : ntB N = true) (h2 : mksX N.pl ext L = true) (h3 : L.length ≤ 2000) : givE N L ext = 0 := by unfold givE; rw [h, h2]; simp; omega
set_option maxHeartbeats 6400000 in
set_option maxRecDepth 100000 in
theorem ext29_any (N : Nt) (A : Option Addr) (n c : Nat) (Ax : Option Addr) (nx cx : Nat) (X : List Int) (w : World) (hX : ZIn w Ax X) (hx : X.length = nx) (hx2 : nx ≤ 9223372036854775807) :
 Calls Tryz.prog 42 #[.agg #[.int .i64 N.pl, .slice A n c, .int .i64 N.src, .int .i64 N.snk], .slice Ax nx cx] w fun e w' => e = .returned (.bool (mkX N.pl true X)) ∧ Below w.heap.size w w' := by
 have HB := hid (below_alloc w (.cells #[.int .i64 N.pl, .slice A n c, .int .i64 N.src, .int .i64 N.snk] 24))
 have HNb := hid (NB.new w N.pl A n c N.src N.snk)
 have HX := hid (hX.below HB.out)
 have HXl := hid hx
 have HMe := hid (show mkX N.pl true X = (decide ((nx : Int) = N.pl) && !(X.any (badX true))) by unfold mkX; rw [hx])
 generalize mkX N.pl true X = Q at *
 clear hX hx
 obtain ⟨b0, b1, b2, b3⟩ := HNb.out.cells
 by_cases hne : (nx : Int) = N.pl
 rotate_left
 · have q2 : ((nx : Int) != N.pl) = true := by rw [bne_iff_ne]; exact hne
   have HV := hid (show Q = false by rw [HMe.out, decide_eq_false hne]; rfl)
   clear hne
   go_enter Tryz.func42, Tryz.ntmps42
   go_wp2_with fail
   go_ret
   exact ⟨ret_bool HV.out.symm, HB.out⟩
 have q2 : ((nx : Int) != N.pl) = false := by rw [← hne]; simp
 rw [decide_eq_true hne, Bool.true_and] at HMe
 clear hne
 go_enter Tryz.func42, Tryz.ntmps42
 go_wp2_with fail
 clear b0 b1 b2 b3 q2
 generalize w.alloc _ = w0 at *
 have HB2 := hid (Below.refl w0.heap.size w0)
 go_loopg [5] (nx) (fun g jv wy => ∃ j : Nat, j + g = nx ∧ jv = .int .i64 j ∧ (X.take j).any (badX true) = false ∧ Below w0.heap.size w0 wy)
 case atStart => exact ⟨0, by omega, rfl, by simp, HB2.out⟩
 case round =>
  clear HB2
  obtain ⟨j, hj, rfl, hp, hB⟩ := hrel
  have HJ := hid hj
  have HPj := hid hp
  have HBr := hid hB
  have hjl : j ≤ nx := by omega
  have HZr := hid (HX.out.below hB)
  clear hj hp hB
  by_cases hjt : j < nx
  · have hjt' : j < X.length := by rw [HXl.out]; exact hjt
    obtain ⟨ax, rfl, hpx, r0⟩ := HZr.out j hjt'
    have HTj := hid (any_step (badX true) hjt')
    have HYe := hid (fun (hh : badX true X[j] = true) => show X.any (badX true) = true from List.any_eq_true.2 ⟨_, List.getElem_mem hjt', hh⟩)
    have HBx := hid (show badX true X[j] = (decide (X[j] < -1) || decide (100 < X[j])) by
     unfold badX
     rw [Bool.eq_iff_iff]; simp; omega)
    generalize X[j] = x at *
    clear hjt' hpx
    by_cases h0 : x < -1
    · have q3 : decide (x < -1) = true := by simpa using h0
      have HV := hid (show Q = false by rw [HMe.out, HYe.out (by rw [HBx.out, q3]; rfl)]; rfl)
      clear h0
      go_wp2_with fail
      go_ret
      exact ⟨ret_bool HV.out.symm, HB.out.trans (HBr.out.mono HB.out.size)⟩
    · have q3 : decide (x < -1) = false := by simpa using h0
      clear h0
      by_cases h1 : 100 < x
      · have q4 : decide (100 < x) = true := by simpa using h1
        have HV := hid (show Q = false by rw [HMe.out, HYe.out (by rw [HBx.out, q4]; simp)]; rfl)
        clear h1
        go_wp2_with fail
        go_ret
        exact ⟨ret_bool HV.out.symm, HB.out.trans (HBr.out.mono HB.out.size)⟩
      · have q4 : decide (100 < x) = false := by simpa using h1
        have HV := hid (show (X.take (j + 1)).any (badX true) = false by rw [HTj.out, HPj.out, HBx.out, q3, q4]; rfl)
        clear h1
        go_wp2_with fail
        go_roundg (gk - 1)
        case measure => have := HJ.out; omega
        case rel => exact ⟨j + 1, by have := HJ.out; omega, by go_num, HV.out, HBr.out⟩
  · have HV := hid (show Q = true by
     rw [HMe.out]
     have := HPj.out
     rw [List.take_of_length_le (by rw [HXl.out]; omega)] at this
     rw [this]; rfl)
    go_wp2_with fail
    go_ret
    exact ⟨ret_bool HV.out.symm, HB.out.trans (HBr.out.mono HB.out.size)⟩
set_option maxHeartbeats 25600000 in
set_option maxRecDepth 100000 in
theorem closed29_any (N : Nt) (A : Option Addr) (n c : Nat) (Al : Option Addr) (nl cl : Nat) (LL : List (List Int)) (w : World) (h : NtIn w A N) (hn : N.tr.length = n) (hn2 : n ≤ 9223372036854775806) (hL : LIn w Al LL) (hl : LL.length = nl) (hl2 : nl ≤ 2000) :
 Calls Tryz.prog 13 #[.agg #[.int .i64 N.pl, .slice A n c, .int .i64 N.src, .int .i64 N.snk], .slice Al nl cl] w fun e w' => e = .returned (.tuple #[.bool (if givE N LL false = 0 then closX N LL else false), .int .i64 (givE N LL false)]) ∧ Below w.heap.size w w' := by
 have HB := hid (below_alloc w (.cells #[.int .i64 N.pl, .slice A n c, .int .i64 N.src, .int .i64 N.snk] 24))
 have HNb := hid (NB.new w N.pl A n c N.src N.snk)
 have HIn := hid (h.below HB.out)
 have HL := hid (hL.below HB.out)
 have HLl := hid hl
 have HNl := hid hn
 have HVd := hid (rvalid_any N A n c _ HIn.out hn (by omega))
 have HGq := hid (show ∃ g, g = givE N LL false from ⟨_, rfl⟩)
 have HQq := hid (show givE N LL false = 0 → (if givE N LL false = 0 then closX N LL else false) = closX N LL from fun hh => if_pos hh)
 have HQn := hid (show givE N LL false = 1 → (if givE N LL false = 0 then closX N LL else false) = false from fun hh => if_neg (by rw [hh]; decide))
 have HG0 := hid (fun h1 => @giv_nt N LL false h1)
 have HG1 := hid (fun h1 => @giv_mk N LL false h1)
 have HG2 := hid (fun h1 h2 => @giv_ok N LL false h1 h2 (by rw [hl]; exact hl2))
 generalize (if givE N LL false = 0 then closX N LL else false) = Q at *
 generalize givE N LL false = G at *
 obtain ⟨b0, b1, b2, b3⟩ := HNb.out.cells
 clear h hn hL hl HGq
 go_enter Tryz.func13, Tryz.ntmps13
 go_wp2_with fail
 generalize w.alloc _ = w0 at *
 ((with_reducible refine HVd.out.mono ?_); rintro e w1 ⟨rfl, hb1⟩)
 have HB1 := hid hb1
 clear hb1 HVd b0 b1 b2 b3
 cases hv : ntB N with
 | false =>
  have HG := hid (HG0.out hv)
  have HV := hid (HQn.out HG.out)
  clear hv
  go_wp2_with fail
  go_ret2
  exact ⟨ret_bi HV.out.symm HG.out.symm, HB.out.trans (HB1.out.mono HB.out.size)⟩
 | true =>
 have HVt := hid hv
 have hps := nt_small hv
 have hn60 : n ≤ 60 := by have := HNl.out; omega
 have hpl1 : 1 ≤ N.pl := hps.1
 have hpl40 : N.pl ≤ 40 := hps.2.1
 clear hv hps
 go_wp2_with fail
 go_loopg [6] (nl) (fun g iv wr => ∃ k : Nat, k + g = nl ∧ iv = .int .i64 (k : Int) ∧ (LL.take k).all (mkX N.pl false) = true ∧ Below w0.heap.size w0 wr)
 case atStart => exact ⟨0, by omega, rfl, by simp, HB1.out⟩
 case round =>
  clear HB1
  obtain ⟨k, hk, rfl, hp, hB⟩ := hrel
  have HK := hid hk
  have HP := hid hp
  have HBr := hid hB
  have hle : k ≤ nl := by omega
  obtain ⟨b0, b1, b2, b3⟩ := (HNb.out.below hB).cells
  clear hk hp hB
  by_cases hlt : k < nl
  · have hlt' : k < LL.length := by rw [HLl.out]; exact hlt
    obtain ⟨al, hal, hpa, u, q0', Ax, nx, cx, hu, zx, hx1, hx2, hx3⟩ := HL.out k hlt'
    subst hal hu
    have q0 := cell_stays HBr.out q0'
    have HTk := hid (all_step (mkX N.pl false) hlt')
    have HNo := hid (fun hh => all_false (f := mkX N.pl false) (List.getElem_mem hlt') hh)
    generalize LL[k] = X at *
    have HZx := hid zx
    have HXl := hid hx1
    have HEx := hid (fun d os => rmarking_any N.pl A n c N.src N.snk Ax nx cx X _ (HZx.out.below (HBr.out.trans ((below_regrown wr d os).mono HBr.out.size))) HXl.out (by omega))
    rw [show (decide ((nx : Int) = N.pl) && !(X.any badK)) = mkX N.pl false X by unfold mkX; rw [HXl.out, show badX false = badK from funext badX_badK]] at HEx
    clear hlt' zx hx1 q0'
    go_wp2_with fail
    have a0 := fun d os => cell_regrown b0 d os
    have a1 := fun d os => cell_regrown b1 d os
    have a2 := fun d os => cell_regrown b2 d os
    have a3 := fun d os => cell_regrown b3 d os
    have a4 := fun d os => cell_regrown q0 d os
    cases hk : mkX N.pl false X with
    | true =>
     rw [hk] at HEx
     have HV := hid (show (LL.take (k + 1)).all (mkX N.pl false) = true by rw [HTk.out, HP.out, hk]; rfl)
     clear hk
     refine wp_region_quiet_below (by kernel_rfl) (by kernel_rfl) ?_
     repeat (quiet_step (exact Calls.regrown_of (HEx.out _ _)))
     refine wpQuiet_nil ?_
     intro _ hw'
     obtain ⟨⟨dq, osq⟩, hw''⟩ := hw'
     subst hw''
     have HB2 := hid (below_then HBr.out (below_regrown wr dq osq))
     clear a0 a1 a2 a3 a4
     go_wp2_with fail
     go_roundg (gk - 1)
     case measure => have := HK.out; omega
     case rel => exact ⟨k + 1, by have := HK.out; omega, by go_num, HV.out, HB2.out⟩
    | false =>
     rw [hk] at HEx
     have HG := hid (HG1.out (show mksX N.pl false LL = false from HNo.out hk))
     have HV := hid (HQn.out HG.out)
     clear hk
     refine wp_region_quiet_below (by kernel_rfl) (by kernel_rfl) ?_
     repeat (quiet_step (exact Calls.regrown_of (HEx.out _ _)))
     refine wpQuiet_nil ?_
     intro _ hw'
     obtain ⟨⟨dq, osq⟩, hw''⟩ := hw'
     subst hw''
     have HB2 := hid (below_then HBr.out (below_regrown wr dq osq))
     clear a0 a1 a2 a3 a4
     go_wp2_with fail
     go_ret2
     exact ⟨ret_bi HV.out.symm HG.out.symm, HB.out.trans (HB2.out.mono HB.out.size)⟩
  · have HAll := hid (show ∀ s ∈ LL, mkX N.pl false s = true from by
     have h1 := HP.out
     rw [List.take_of_length_le (by rw [HLl.out]; omega)] at h1
     exact List.all_eq_true.1 h1)
    have HG := hid (HG2.out HVt.out (by unfold mksX; exact List.all_eq_true.2 HAll.out))
    have q1 : decide ((2000 : Int) < (nl : Int)) = false := by simp; omega
    have HBs := hid HBr.out
    clear HBr HK HP hle HG0 HG1 HG2 HQn
    have HQ := hid (show Q = LL.all (fun s => N.tr.all (okX (inB LL) s)) from HQq.out HG.out)
    clear b0 b1 b2 b3 HQq
    go_wp2_with fail
    go_loopg [7] (nl) (fun g iv wr => ∃ k : Nat, k + g = nl ∧ iv = .int .i64 (k : Int) ∧ (LL.take k).all (fun s => N.tr.all (okX (inB LL) s)) = true ∧ Below w0.heap.size w0 wr)
    case atStart => exact ⟨0, by omega, rfl, by simp, HBs.out⟩
    case round =>
     clear HBs
     obtain ⟨k, hk, rfl, hp, hB⟩ := hrel
     have HK := hid hk
     have HP := hid hp
     have HBr := hid hB
     have hle : k ≤ nl := by omega
     clear hk hp hB
     by_cases hlt : k < nl
     · have hlt' : k < LL.length := by rw [HLl.out]; exact hlt
       obtain ⟨al, hal, hpa, u, q0, Ax, nx, cx, hu, zx, hx1, hx2, hx3⟩ := HL.out k hlt'
       subst hal hu
       have HQ0 := hid q0
       have HTk := hid (all_step (fun s => N.tr.all (okX (inB LL) s)) hlt')
       have HNo := hid (fun hh => all_false (f := fun s => N.tr.all (okX (inB LL) s)) (List.getElem_mem hlt') hh)
       have HMx := hid (HAll.out _ (List.getElem_mem hlt'))
       generalize LL[k] = X at *
       have HZx := hid zx
       have HXl := hid hx1
       have hxp : (nx : Int) = N.pl := by have := mkX_len HMx.out; omega
       have hnx : nx ≤ 1000 := by omega
       have hnx0 : 0 < nx := by omega
       have HOk := hid (netOk_of HVt.out hxp)
       have HInT := hid (nt_inM HVt.out (m := nx) hxp)
       have HBd := hid (mkX_bnd HMx.out)
       have HSp := hid (fun p => mkX_le HMx.out p)
       have HPos := hid (mkX_pos HMx.out)
       have HMk := hid (show mkB N X = true by rw [← mkX_mk HVt.out]; exact HMx.out)
       clear hlt' zx hx1 q0 hpa
       obtain ⟨go, rfl⟩ : ∃ go, go = gk := ⟨_, rfl⟩
       go_wp2_with fail
       go_loopg [8] (n) (fun g jv wy => ∃ j : Nat, j + g = n ∧ jv = .int .i64 (j : Int) ∧ (N.tr.take j).all (okX (inB LL) X) = true ∧ Below w0.heap.size w0 wy)
       case atStart => exact ⟨0, by omega, rfl, by simp, HBr.out⟩
       case round =>
        clear HBr
        obtain ⟨j, hj, rfl, hp, hB⟩ := hrel
        have HJ := hid hj
        have HPj := hid hp
        have HBr := hid hB
        have hjl : j ≤ n := by omega
        obtain ⟨b0, b1, b2, b3⟩ := (HNb.out.below hB).cells
        have q0 := cell_stays hB HQ0.out
        clear hj hp hB
        by_cases hjt : j < n
        · have hjt' : j < N.tr.length := by rw [HNl.out]; exact hjt
          have HTl := hid hjt'
          clear hjt'
          have HTj := hid (all_step (okX (inB LL) X) HTl.out)
          have HNj := hid (fun hh => all_false (f := okX (inB LL) X) (List.getElem_mem HTl.out) hh)
          have HInr := hid (HIn.out.below HBr.out)
          have HZr := hid (HZx.out.below HBr.out)
          have HCan := hid (fun d os => can21_any N A n c Ax nx cx X j HTl.out _ (HInr.out.1.below (below_regrown wr d os)) HNl.out (HZr.out.below (below_regrown wr d os)) HXl.out (HInT.out _ (List.getElem_mem HTl.out)).1 HPos.out)
          go_wp2_with fail
          have a0 := fun d os => cell_regrown b0 d os
          have a1 := fun d os => cell_regrown b1 d os
          have a2 := fun d os => cell_regrown b2 d os
          have a3 := fun d os => cell_regrown b3 d os
          have a4 := fun d os => cell_regrown q0 d os
          have HFt := hid (fun w1 (hw : Below w0.heap.size w0 w1) => fire21x_any N A n c Ax nx cx X j HTl.out w1 (HIn.out.below hw) HNl.out (by omega) (HZx.out.below hw) HXl.out (by omega) HMk.out)
          have HT := hid (show ∃ T, T = N.tr[j]'HTl.out from ⟨_, rfl⟩)
          cases hcan : canT (N.tr[j]'HTl.out) X with
          | false =>
           rw [hcan] at HCan
           have HV := hid (show (N.tr.take (j + 1)).all (okX (inB LL) X) = true by rw [HTj.out, HPj.out, okX_no hcan]; rfl)
           clear hcan HFt
           refine wp_region_quiet_below (by kernel_rfl) (by kernel_rfl) ?_
           repeat (quiet_step (exact Calls.regrown_of (HCan.out _ _)))
           refine wpQuiet_nil ?_
           intro _ hw'
           obtain ⟨⟨dq, osq⟩, hw''⟩ := hw'
           subst hw''
           have HB2 := hid (below_then HBr.out (below_regrown wr dq osq))
           clear a0 a1 a2 a3 a4
           go_wp2_with fail
           go_roundg (gk - 1)
           case measure => have := HJ.out; omega
           case rel => exact ⟨j + 1, by have := HJ.out; omega, by go_num, HV.out, HB2.out⟩
          | true =>
           rw [hcan] at HCan
           refine wp_region_quiet_below (by kernel_rfl) (by kernel_rfl) ?_
           repeat (quiet_step (exact Calls.regrown_of (HCan.out _ _)))
           refine wpQuiet_nil ?_
           intro _ hw'
           obtain ⟨⟨dq, osq⟩, hw''⟩ := hw'
           subst hw''
           have HB2 := hid (below_then HBr.out (below_regrown wr dq osq))
           clear a0 a1 a2 a3 a4 b0 b1 b2 b3 q0 HInr HZr HBr
           generalize Sort.grow (redrawn wr dq) osq = w3 at *
           have hbd : Below w3.heap.size w3 w3.drew := (Below.refl _ _).drew
           have HB3 := hid (below_then HB2.out hbd)
           have HNd := hid (HNb.out.below HB3.out)
           have HFi := hid (HFt.out _ HB3.out hcan)
           have hS0 := And.intro HNd.out.cells.1 (And.intro HNd.out.cells.2.1 (And.intro HNd.out.cells.2.2.1 (And.intro HNd.out.cells.2.2.2 (cell_stays HB3.out HQ0.out))))
           clear hbd HCan HB2 HFt HNd
           go_wp2_with fail
           cases hbig : bigM (fireT (N.tr[j]'HTl.out) X) with
           | true =>
            have HFn := hid (rg_no HFi.out hbig)
            have HV := hid (show Q = false by rw [HQ.out]; exact HNo.out (HNj.out (okX_big hcan hbig)))
            clear HFi hcan hbig
            refine wp_region_held_drew (S := fun w' => w'.cell? ⟨w.heap.size, 0, none⟩ = some (.int .i64 N.pl) ∧ w'.cell? ⟨w.heap.size, 1, none⟩ = some (.slice A n c) ∧ w'.cell? ⟨w.heap.size, 2, none⟩ = some (.int .i64 N.src) ∧ w'.cell? ⟨w.heap.size, 3, none⟩ = some (.int .i64 N.snk) ∧ w'.cell? (al.add k) = some (.slice Ax nx cx)) (by kernel_rfl) hS0 (fun hHeld => ?_)
            clear hS0
            generalize w3.drew = wd at *
            refine tkH 0 ?_; try go_simp
            refine tkH 1 ?_; try go_simp
            refine tkH 2 ?_; try go_simp
            refine tkH 3 ?_; try go_simp
            refine tkH 4 ?_; try go_simp
            refine tkH 5 ?_; try go_simp
            refine tkR 6 (fun K9 hK => ?_)
            go_simp
            ((refine HFn.out.mono ?_); rintro e w4 ⟨rfl, hb4⟩)
            have hS9 := hHeld
            refine hK.out _ _ ⟨cell_stays hb4 hS9.1, cell_stays hb4 hS9.2.1, cell_stays hb4 hS9.2.2.1, cell_stays hb4 hS9.2.2.2.1, cell_stays hb4 hS9.2.2.2.2⟩ (fun hHeld => ?_)
            clear hK K9 hS9
            try go_simp
            refine tkH 7 ?_; try go_simp
            refine tkH 8 ?_; try go_simp
            refine tkH 9 ?_; try go_simp
            refine tkH 10 ?_; try go_simp
            refine tkH 11 ?_; try go_simp
            refine wpAnyH_done (by kernel_rfl) ?_ _
            clear hHeld
            have HB4 := hid (below_then HB3.out hb4)
            go_wp2_with fail
            go_ret2
            exact ⟨ret_bi HV.out.symm HG.out.symm, HB.out.trans (HB4.out.mono HB.out.size)⟩
           | false =>
            have HFy := hid (rg_yes HFi.out hbig)
            have HOx := hid (okX_yes (q := inB LL) hcan hbig)
            have HYl := hid (show (fireT (N.tr[j]'HTl.out) X).length = nx by rw [fireT_len, HXl.out])
            clear HFi hcan hbig
            generalize fireT (N.tr[j]'HTl.out) X = Y at *
            refine wp_region_held_drew (S := fun w' => w'.cell? ⟨w.heap.size, 0, none⟩ = some (.int .i64 N.pl) ∧ w'.cell? ⟨w.heap.size, 1, none⟩ = some (.slice A n c) ∧ w'.cell? ⟨w.heap.size, 2, none⟩ = some (.int .i64 N.src) ∧ w'.cell? ⟨w.heap.size, 3, none⟩ = some (.int .i64 N.snk) ∧ w'.cell? (al.add k) = some (.slice Ax nx cx)) (by kernel_rfl) hS0 (fun hHeld => ?_)
            clear hS0
            generalize w3.drew = wd at *
            refine tkH 0 ?_; try go_simp
            refine tkH 1 ?_; try go_simp
            refine tkH 2 ?_; try go_simp
            refine tkH 3 ?_; try go_simp
            refine tkH 4 ?_; try go_simp
            refine tkH 5 ?_; try go_simp
            refine tkR 6 (fun K9 hK => ?_)
            go_simp
            ((refine HFy.out.mono ?_); rintro e w4 ⟨v4, rfl, hS4⟩; have hb4 := hS4.2; obtain ⟨A4, c4, rfl⟩ := hS4.slice)
            have hS9 := hHeld
            refine hK.out _ _ ⟨cell_stays hb4 hS9.1, cell_stays hb4 hS9.2.1, cell_stays hb4 hS9.2.2.1, cell_stays hb4 hS9.2.2.2.1, cell_stays hb4 hS9.2.2.2.2⟩ (fun hHeld => ?_)
            clear hK K9 hS9
            try go_simp
            refine tkH 7 ?_; try go_simp
            refine tkH 8 ?_; try go_simp
            refine tkH 9 ?_; try go_simp
            refine tkH 10 ?_; try go_simp
            refine tkH 11 ?_; try go_simp
            refine wpAnyH_done (by kernel_rfl) ?_ _
            clear hHeld
            have HB4 := hid (below_then HB3.out hb4)
            have HZ4 := hid (show ZIn w4 A4 Y by obtain ⟨A', c', e, hz, _⟩ := hS4.zin; cases e; exact hz)
            rw [HYl.out]
            clear hb4 hS4
            have HTe := hid (in29_any (some al) nl cl LL A4 nx c4 Y w4 (HL.out.below HB4.out) HLl.out (by omega) HZ4.out HYl.out (by omega))
            cases hin : inB LL Y with
            | true =>
             rw [hin] at HOx
             have HV := hid (show (N.tr.take (j + 1)).all (okX (inB LL) X) = true by rw [HTj.out, HPj.out, HOx.out]; rfl)
             rw [hin] at HTe
             clear hin
             go_wp2_with fail
             ((with_reducible refine HTe.out.mono ?_); rintro e w5 ⟨rfl, hb5⟩)
             have HB5 := hid (below_then HB4.out hb5)
             go_wp2_with fail
             go_roundg (gk - 1)
             case measure => have := HJ.out; omega
             case rel => exact ⟨j + 1, by have := HJ.out; omega, by go_num, HV.out, HB5.out⟩
            | false =>
             rw [hin] at HOx
             have HV := hid (show Q = false by rw [HQ.out]; exact HNo.out (HNj.out HOx.out))
             rw [hin] at HTe
             clear hin
             go_wp2_with fail
             ((with_reducible refine HTe.out.mono ?_); rintro e w5 ⟨rfl, hb5⟩)
             have HB5 := hid (below_then HB4.out hb5)
             go_wp2_with fail
             go_ret2
             exact ⟨ret_bi HV.out.symm HG.out.symm, HB.out.trans (HB5.out.mono HB.out.size)⟩
        · have HV := hid (show (LL.take (k + 1)).all (fun s => N.tr.all (okX (inB LL) s)) = true by
           rw [HTk.out, HP.out]
           have h1 := HPj.out
           rw [List.take_of_length_le (by rw [HNl.out]; omega)] at h1
           rw [Bool.true_and]; exact h1)
          go_wp2_with fail
          go_roundg (go - 1)
          case measure => have := HK.out; omega
          case rel => exact ⟨k + 1, by have := HK.out; omega, by go_num, HV.out, HBr.out⟩
     · have HV := hid (show Q = true by
        rw [HQ.out]
        have h1 := HP.out
        rwa [List.take_of_length_le (by rw [HLl.out]; omega)] at h1)
       go_wp2_with fail
       go_ret2
       exact ⟨ret_bi HV.out.symm HG.out.symm, HB.out.trans (HBr.out.mono HB.out.size)⟩
end Go.Proofs.YtpnhcimmlnjfaaaGreatDoor
