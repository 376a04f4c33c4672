/- Run of reference 21: what a call returns. -/
import Derived.Test.YtpnhcimmlnjfaaaGreatDoorUt
import Derived.Test.YtpnhcimmlnjfaaaGreatDoorIc
namespace Go.Proofs.YtpnhcimmlnjfaaaGreatDoor
open Go.Lib (hid)
open Go.RowKit

theorem fv_yes {P : Program} {f : FuncId} {args : Array Value} {w : World} {r : List Int × Int} (h : Calls P f args w (FvPo r w)) (h0 : r.2 = 0) : Calls P f args w fun e w' => ∃ v, e = .returned (.tuple #[v, .int .i64 0]) ∧ NS w w' v r.1 :=
 h.mono fun e w' h1 => by unfold FvPo at h1; rw [if_pos h0] at h1; exact h1
theorem fv_no {P : Program} {f : FuncId} {args : Array Value} {w : World} {r : List Int × Int} (h : Calls P f args w (FvPo r w)) (h0 : r.2 ≠ 0) : Calls P f args w fun e w' => e = .returned (.tuple #[.slice none 0 0, .int .i64 r.2]) ∧ Below w.heap.size w w' :=
 h.mono fun e w' h1 => by unfold FvPo at h1; rw [if_neg h0] at h1; exact h1
/-- what firing gives is a marking -/
theorem fire_mk {N : Nt} {M : List Int} {t : Int} (hm : mkB N M = true) (h : (fireV N M t).2 = 0) : mkB N (fireV N M t).1 = true := by
 have hml := mk_len hm
 have hok := netOk_of (mk_nt hm) hml
 have hisM := mkM hm
 by_cases ht : t < 0
 · simp [fireV, ht] at h
 cases hx : N.tr[t.toNat]? with
 | none => simp [fireV, ht, hx] at h
 | some x =>
  have e : fireV N M t = if canT x M then (if bigM (fireT x M) then ([], 5) else (fireT x M, 0)) else ([], 12) := by
   unfold fireV; rw [if_neg ht, hx]
  rw [e] at h ⊢
  by_cases hc : canT x M = true
  · rw [if_pos hc] at h ⊢
    by_cases hb : bigM (fireT x M) = true
    · rw [if_pos hb] at h; simp at h
    · rw [if_neg hb]
      have hnn : nonneg (fireT x M) := fun p => by
       obtain ⟨e1, e2⟩ := fire_real (t := x) (x := M) (hok _ x hx) (fun p => (hisM p).1) hc p
       rw [e1]; exact e2
      show mkB N (fireT x M) = true
      unfold mkB
      rw [mk_nt hm, fireT_len, decide_eq_true hml, bad_big hnn]
      simpa using hb
  · rw [if_neg hc] at h; simp at h
theorem runV_step {N : Nt} {M : List Int} {k : Nat} {t : Int} {l : List Int} (h : (fireV N M t).2 = 0) : runV N M k (t :: l) = runV N (fireV N M t).1 (k + 1) l := by
 rw [runV, if_pos h]
theorem runV_stop {N : Nt} {M : List Int} {k : Nat} {t : Int} {l : List Int} (h : (fireV N M t).2 ≠ 0) : runV N M k (t :: l) = ([], k, (fireV N M t).2) := by
 rw [runV, if_neg h]
/-- a run in a net that may be no net -/
def run21 (N : Nt) (M l : List Int) : List Int × Nat × Int := if mkB N M then (if 1000 < l.length then ([], 0, 5) else runV N M 0 l) else ([], 0, 1)
/-- what a call does -/
def RvPo (r : List Int × Nat × Int) (w : World) (e : Ending) (w' : World) : Prop := if r.2.2 = 0 then ∃ v, e = .returned (.tuple #[v, .int .i64 (r.2.1 : Int), .int .i64 0]) ∧ NS w w' v r.1 else e = .returned (.tuple #[.slice none 0 0, .int .i64 (r.2.1 : Int), .int .i64 r.2.2]) ∧ Below w.heap.size w w'
theorem RvPo.no {r : List Int × Nat × Int} {w w' : World} {e : Ending} {k : Int} {i : Nat} (h : r = ([], i, k)) (hk : k ≠ 0) (he : e = .returned (.tuple #[.slice none 0 0, .int .i64 (i : Int), .int .i64 k])) (hb : Below w.heap.size w w') : RvPo r w e w' := by
 subst h; unfold RvPo; rw [if_neg hk]; exact ⟨he, hb⟩
theorem RvPo.yes {r : List Int × Nat × Int} {w w' : World} {e : Ending} {L : List Int} {v : Value} {i : Nat} (h : r = (L, i, 0)) (he : e = .returned (.tuple #[v, .int .i64 (i : Int), .int .i64 0])) (hs : NS w w' v L) : RvPo r w e w' := by
 subst h; unfold RvPo; rw [if_pos rfl]; exact ⟨v, he, hs⟩
theorem rv_yes {P : Program} {f : FuncId} {args : Array Value} {w : World} {r : List Int × Nat × Int} (h : Calls P f args w (RvPo r w)) (h0 : r.2.2 = 0) : Calls P f args w fun e w' => ∃ v, e = .returned (.tuple #[v, .int .i64 (r.2.1 : Int), .int .i64 0]) ∧ NS w w' v r.1 :=
 h.mono fun e w' h1 => by unfold RvPo at h1; rw [if_pos h0] at h1; exact h1
theorem rv_no {P : Program} {f : FuncId} {args : Array Value} {w : World} {r : List Int × Nat × Int} (h : Calls P f args w (RvPo r w)) (h0 : r.2.2 ≠ 0) : Calls P f args w fun e w' => e = .returned (.tuple #[.slice none 0 0, .int .i64 (r.2.1 : Int), .int .i64 r.2.2]) ∧ Below w.heap.size w w' :=
 h.mono fun e w' h1 => by unfold RvPo at h1; rw [if_neg h0] at h1; exact h1
/-- the loop over the run -/
def RnI (N : Nt) (R : List Int × Nat × Int) (l : List Int) (n : Nat) (w0 : World) (g : Nat) (iv ov : Value) (wr : World) : Prop :=
 ∃ (k : Nat) (L : List Int), k + g = n ∧ iv = .int .i64 (k : Int) ∧ NS w0 wr ov L ∧ mkB N L = true ∧ R = runV N L k (l.drop k)
set_option maxHeartbeats 12800000 in
set_option maxRecDepth 100000 in
theorem r21run_any (N : Nt) (A : Option Addr) (n c : Nat) (Am : Option Addr) (m cm : Nat) (M : List Int) (Al : Option Addr) (nl cl : Nat) (l : List Int) (w : World) (h : NtIn w A N) (hn : N.tr.length = n) (hn2 : n ≤ 9223372036854775807) (hM : ZIn w Am M) (hm : M.length = m) (hm2 : m ≤ 9223372036854775807) (hL : ZIn w Al l) (hl : l.length = nl) :
 Calls Tryz.prog 45 #[.agg #[.int .i64 N.pl, .slice A n c, .int .i64 N.src, .int .i64 N.snk], .slice Am m cm, .slice Al nl cl] w (RvPo (run21 N M l) w) := by
 have HB := hid (below_alloc w (.cells #[.int .i64 N.pl, .slice A n c, .int .i64 N.src, .int .i64 N.snk] 24))
 have HNb0 := hid (NB.new w N.pl A n c N.src N.snk)
 have HIn0 := hid (h.below HB.out)
 have HM0 := hid (hM.below HB.out)
 have HL0 := hid (hL.below HB.out)
 have HM := hid hm
 have HLl := hid hl
 have HNl := hid hn
 clear h hn hM hm hL hl
 go_enter Tryz.func45, Tryz.ntmps45
 go_wp2_with fail
 generalize w.alloc _ = wa at *
 obtain ⟨b0, b1, b2, b3⟩ := HNb0.out.cells
 have HVd := hid (rvalid_any N A n c wa HIn0.out HNl.out hn2)
 cases hv : ntB N with
 | false =>
  rw [hv] at HVd
  have HV := hid (show run21 N M l = ([], 0, 1) by unfold run21 mkB; rw [hv]; rfl)
  ((with_reducible refine HVd.out.mono ?_); rintro e w1 ⟨rfl, hb1⟩)
  have HFin := hid (below_then HB.out hb1)
  go_wp2_with fail
  go_ret3
  exact RvPo.no HV.out (by decide) rfl HFin.out
 | true =>
  rw [hv] at HVd
  ((with_reducible refine HVd.out.mono ?_); rintro e w1 ⟨rfl, hb1⟩)
  have HB1 := hid (below_then HB.out hb1)
  have HNb1 := hid (HNb0.out.below hb1)
  have HM1 := hid (HM0.out.below hb1)
  have HL1 := hid (HL0.out.below hb1)
  have HIn1 := hid (HIn0.out.below hb1)
  have HMk := hid (show mkB N M = (decide ((m : Int) = N.pl) && !(M.any badK)) by unfold mkB; rw [hv, HM.out]; rfl)
  clear hb1 HVd b0 b1 b2 b3 hv HB HNb0 HM0 HIn0 HL0
  obtain ⟨b0, b1, b2, b3⟩ := HNb1.out.cells
  have HRm := hid (rmarking_any N.pl A n c N.src N.snk Am m cm M w1 HM1.out HM.out hm2)
  rw [← HMk.out] at HRm
  go_wp2_with fail
  cases hk : mkB N M with
  | false =>
   rw [hk] at HRm
   have HV := hid (show run21 N M l = ([], 0, 1) by unfold run21; rw [hk]; rfl)
   ((with_reducible refine HRm.out.mono ?_); rintro e w2 ⟨rfl, hb2⟩)
   have HFin := hid (below_then HB1.out hb2)
   go_wp2_with fail
   go_ret3
   exact RvPo.no HV.out (by decide) rfl HFin.out
  | true =>
   rw [hk] at HRm
   have HMkt := hid hk
   have hml : (m : Int) = N.pl := by rw [← HM.out]; exact mk_len hk
   have hm40 : m ≤ 40 := by have := nt_small (mk_nt hk); omega
   have HMl := hid hml
   clear hml
   ((with_reducible refine HRm.out.mono ?_); rintro e w0 ⟨rfl, hb2⟩)
   have HB2 := hid (below_then HB1.out hb2)
   have HNb := hid (HNb1.out.below hb2)
   have HM2 := hid (HM1.out.below hb2)
   have HL2 := hid (HL1.out.below hb2)
   have HIn2 := hid (HIn1.out.below hb2)
   clear hb2 HRm b0 b1 b2 b3 HB1 HNb1 HM1 HIn1 HL1
   by_cases hlen : 1000 < nl
   · have HV := hid (show run21 N M l = ([], 0, 5) by unfold run21; rw [hk, if_pos rfl, if_pos (by rw [HLl.out]; exact hlen)])
     clear hk
     go_wp2_with fail
     go_ret3
     exact RvPo.no HV.out (by decide) rfl HB2.out
   have HV := hid (show run21 N M l = runV N M 0 l by unfold run21; rw [hk, if_pos rfl, if_neg (by rw [HLl.out]; exact hlen)])
   have hl1 : nl ≤ 1000 := by omega
   have q3 : decide ((1000 : Int) < (nl : Int)) = false := by simp; omega
   clear hk hlen
   obtain ⟨i0, hi, hz0, hz1, hz2⟩ := info_parts intInfo
   have HI := hid (And.intro hi (And.intro hz0 (And.intro hz1 hz2)))
   clear hi hz0 hz1 hz2
   have HOwn := hid (own_lit0 w0)
   have HAl := hid (below_alloc w0 (.cells #[] 3))
   have HRd0 := hid (rd_of_z (HM2.out.below HAl.out))
   go_wp2_with (at_builtin; refine wpList_append_rd intC_len intC_one _ rfl _ _ 25 rfl w0.heap.size 3 i0 (.int .i64 0) 8 Tryz.underlying25 HI.out.1 HI.out.2.1 HI.out.2.2.1 HI.out.2.2.2 rfl (by decide) (.slice (some ⟨w0.heap.size, 0, none⟩) 0 0) 0 [] rfl HOwn.out Am m cm M rfl HRd0.out HM.out ?c3 ?c4 ?c5 ?_)
   case c3 => unfold maxLen; omega
   case c4 => omega
   case c5 => exact HAl.out.size
   intro v' w1' hown1 hgrow1
   have hS1 := NS.of_app (w := w0) (L := []) (n := 0) HAl.out HOwn.out (by simpa using hown1) hgrow1 rfl HM.out
   rw [List.nil_append] at hS1
   have HS1 := hid hS1
   clear hown1 hgrow1 HRd0 HOwn HAl hS1
   go_wp2_with fail
   go_loopg [10, 9] (nl) (fun g iv ov wr => RnI N (run21 N M l) l nl w0 g iv ov wr)
   case atStart => exact ⟨0, M, by omega, rfl, HS1.out, HMkt.out, by rw [HV.out, List.drop_zero]⟩
   case round =>
    clear HS1 HV
    obtain ⟨k, L, hkg, rfl, hS, hmk, hR⟩ := hrel
    have HK := hid hkg
    have HR := hid hR
    have HMkL := hid hmk
    obtain ⟨Ao, co, rfl⟩ := hS.slice
    have hLl : L.length = m := by have := mk_len hmk; have := HMl.out; omega
    rw [hLl] at hS ⊢
    have HS := hid hS
    have HLL := hid hLl
    have HZo := hid (show ZIn wr Ao L by obtain ⟨A', c', e, hz, _⟩ := hS.zin; rw [hLl] at e; cases e; exact hz)
    have HNbr := hid (HNb.out.below hS.2)
    have HInr := hid (HIn2.out.below hS.2)
    have HLr := hid (HL2.out.below hS.2)
    have hkl : k ≤ nl := by omega
    clear hkg hmk hS hR hLl
    obtain ⟨b0, b1, b2, b3⟩ := HNbr.out.cells
    by_cases hlt : k < nl
    · have hlt' : k < l.length := by rw [HLl.out]; exact hlt
      obtain ⟨al, rfl, hpa, q0⟩ := HLr.out k hlt'
      have HDr := hid (List.drop_eq_getElem_cons hlt')
      generalize l[k] = t at *
      rw [HDr.out] at HR
      have HFe := hid (show fire21 N L t = fireV N L t by unfold fire21; rw [HMkL.out]; rfl)
      go_wp2_with fail
      have hbd : Below wr.heap.size wr wr.drew := (Below.refl _ _).drew
      have HNd := hid (HNbr.out.below hbd)
      have HSd := hid (HS.out.below hbd)
      have hfi := r21fire_any N A n c Ao m co L t wr.drew (HInr.out.below hbd) HNl.out hn2 (HZo.out.below hbd) HLL.out hm2
      rw [HFe.out] at hfi
      have HFi := hid hfi
      have hS0 := And.intro HNd.out.cells.1 (And.intro HNd.out.cells.2.1 (And.intro HNd.out.cells.2.2.1 (And.intro HNd.out.cells.2.2.2 (cell_stays hbd q0))))
      clear hfi hbd HFe HDr hlt' q0 b0 b1 b2 b3 HS HZo HNbr HInr HLr
      by_cases h0 : (fireV N L t).2 = 0
      · have HFy := hid (fv_yes HFi.out h0)
        have HMn := hid (fire_mk HMkL.out h0)
        rw [runV_step h0] at HR
        clear HFi h0
        refine wp_region_held_drew (S := fun w' => w'.cell? ⟨w.heap.size, 0, none⟩ = some (.int .i64 N.pl) ∧ w'.cell? ⟨w.heap.size, 1, none⟩ = some (.slice A n c) ∧ w'.cell? ⟨w.heap.size, 2, none⟩ = some (.int .i64 N.src) ∧ w'.cell? ⟨w.heap.size, 3, none⟩ = some (.int .i64 N.snk) ∧ w'.cell? (al.add k) = some (.int .i64 t)) (by kernel_rfl) hS0 (fun hHeld => ?_)
        clear hS0
        generalize wr.drew = wd at *
        refine tkH 0 ?_; try go_simp
        refine tkH 1 ?_; try go_simp
        refine tkH 2 ?_; try go_simp
        refine tkH 3 ?_; try go_simp
        refine tkH 4 ?_; try go_simp
        refine tkH 5 ?_; try go_simp
        have hS0 := hHeld
        refine tkR 6 (fun K hK => ?_)
        go_simp
        ((refine HFy.out.mono ?_); rintro e w4 ⟨v4, rfl, hS4⟩)
        refine hK.out _ _ (⟨cell_stays hS4.2 hS0.1, cell_stays hS4.2 hS0.2.1, cell_stays hS4.2 hS0.2.2.1, cell_stays hS4.2 hS0.2.2.2.1, cell_stays hS4.2 hS0.2.2.2.2⟩) (fun hHeld => ?_)
        clear hK K
        try go_simp
        refine tkH 7 ?_; try go_simp
        refine tkH 8 ?_; try go_simp
        refine tkH 9 ?_; try go_simp
        refine tkH 10 ?_; try go_simp
        refine tkH 11 ?_; try go_simp
        refine wpAnyH_done (by kernel_rfl) ?_ _
        have HS4 := hid (NS.up HSd.out.2 hS4)
        go_wp2_with fail
        go_roundg (gk - 1)
        case measure => have := HK.out; omega
        case rel => exact ⟨k + 1, _, by have := HK.out; omega, by go_num, HS4.out, HMn.out, HR.out⟩
      · have HFn := hid (fv_no HFi.out h0)
        rw [runV_stop h0] at HR
        have q5 : ((fireV N L t).2 != 0) = true := by rw [bne_iff_ne]; exact h0
        have H0 := hid h0
        clear HFi h0
        generalize (fireV N L t).2 = er at *
        refine wp_region_held_drew (S := fun w' => w'.cell? ⟨w.heap.size, 0, none⟩ = some (.int .i64 N.pl) ∧ w'.cell? ⟨w.heap.size, 1, none⟩ = some (.slice A n c) ∧ w'.cell? ⟨w.heap.size, 2, none⟩ = some (.int .i64 N.src) ∧ w'.cell? ⟨w.heap.size, 3, none⟩ = some (.int .i64 N.snk) ∧ w'.cell? (al.add k) = some (.int .i64 t)) (by kernel_rfl) hS0 (fun hHeld => ?_)
        clear hS0
        generalize wr.drew = wd at *
        refine tkH 0 ?_; try go_simp
        refine tkH 1 ?_; try go_simp
        refine tkH 2 ?_; try go_simp
        refine tkH 3 ?_; try go_simp
        refine tkH 4 ?_; try go_simp
        refine tkH 5 ?_; try go_simp
        have hS0 := hHeld
        refine tkR 6 (fun K hK => ?_)
        go_simp
        ((refine HFn.out.mono ?_); rintro e w4 ⟨rfl, hb4⟩)
        refine hK.out _ _ (⟨cell_stays hb4 hS0.1, cell_stays hb4 hS0.2.1, cell_stays hb4 hS0.2.2.1, cell_stays hb4 hS0.2.2.2.1, cell_stays hb4 hS0.2.2.2.2⟩) (fun hHeld => ?_)
        clear hK K
        try go_simp
        refine tkH 7 ?_; try go_simp
        refine tkH 8 ?_; try go_simp
        refine tkH 9 ?_; try go_simp
        refine tkH 10 ?_; try go_simp
        refine tkH 11 ?_; try go_simp
        refine wpAnyH_done (by kernel_rfl) ?_ _
        have HB4 := hid (below_then HB2.out (below_then HSd.out.2 hb4))
        go_wp2_with fail
        go_ret3
        exact RvPo.no HR.out H0.out rfl HB4.out
    · have HE := hid (show run21 N M l = (L, nl, 0) by rw [HR.out, List.drop_eq_nil_of_le (by rw [HLl.out]; omega), show k = nl by omega]; rfl)
      have HSf := hid (NS.up HB2.out HS.out)
      go_wp2_with fail
      go_ret3
      exact RvPo.yes HE.out rfl HSf.out
end Go.Proofs.YtpnhcimmlnjfaaaGreatDoor
