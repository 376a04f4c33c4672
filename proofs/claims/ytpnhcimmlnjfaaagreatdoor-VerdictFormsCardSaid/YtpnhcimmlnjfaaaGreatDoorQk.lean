/- verdict: given, Closed, Cover, Pump, Opposite: what a call returns. -/
import Derived.Test.YtpnhcimmlnjfaaaGreatDoorQg
namespace Go.Proofs.YtpnhcimmlnjfaaaGreatDoor
open Go.Lib (hid)
open Go.RowKit

/-- what given answers -/
def givE (N : Nt) (L : List (List Int)) (ext : Bool) : Int := if ntB N && mksX N.pl ext L then (if 2000 < L.length then 5 else 0) else 1
theorem giv_zero {N : Nt} {L : List (List Int)} {ext : Bool} (h : givE N L ext = 0) : ntB N = true ∧ mksX N.pl ext L = true ∧ L.length ≤ 2000 := by
 unfold givE at h
 split at h
 · rename_i h1
   rw [Bool.and_eq_true] at h1
   split at h
   · cases h
   · exact ⟨h1.1, h1.2, by omega⟩
 · cases h
set_option maxHeartbeats 3200000 in
set_option maxRecDepth 100000 in
theorem vgiven_any (N : Nt) (A : Option Addr) (n c : Nat) (Al : Option Addr) (nl cl : Nat) (L : List (List Int)) (ext : Bool) (w : World) (h : NtIn w A N) (hn : N.tr.length = n) (hn2 : n ≤ 9223372036854775807) (hL : LIn w Al L) (hl : L.length = nl) (hl2 : nl ≤ 9223372036854775806) :
 Calls Tryz.prog 34 #[.agg #[.int .i64 N.pl, .slice A n c, .int .i64 N.src, .int .i64 N.snk], .slice Al nl cl, .bool ext] w fun e w' => e = .returned (.int .i64 (givE N L ext)) ∧ Below w.heap.size w w' := by
 have HB0 := hid (below_alloc w (.cells #[.int .i64 N.pl, .slice A n c, .int .i64 N.src, .int .i64 N.snk] 24))
 have HNb0 := hid (NB.new w N.pl A n c N.src N.snk)
 have HL0 := hid (hL.below HB0.out)
 have HPv := hid (pvalid_any N A n c _ (h.below HB0.out) hn hn2)
 have HQ := hid (show givE N L ext = if ntB N && mksX N.pl ext L then (if 2000 < nl then 5 else 0) else 1 by unfold givE; rw [hl])
 have HLl := hid hl
 generalize givE N L ext = Q at *
 clear h hn hL hl
 go_enter Tryz.func34, Tryz.ntmps34
 go_wp2_with fail
 generalize w.alloc _ = w0 at *
 ((with_reducible refine HPv.out.mono ?_); rintro e w1 ⟨rfl, hb1⟩)
 have HB1 := hid (HB0.out.trans (hb1.mono HB0.out.size))
 have HNb1 := hid (HNb0.out.below hb1)
 have HMs := hid (vmarkings_any N.pl A n c N.src N.snk Al nl cl L ext w1 (HL0.out.below hb1) HLl.out hl2)
 clear hb1 HPv
 cases hv : ntB N with
 | false =>
  rw [hv] at HQ
  clear hv
  go_wp2_with fail
  go_ret
  exact ⟨ret_int (by rw [HQ.out]; rfl), HB1.out⟩
 | true =>
  rw [hv] at HQ
  clear hv
  obtain ⟨b0, b1, b2, b3⟩ := HNb1.out.cells
  go_wp2_with fail
  ((with_reducible refine HMs.out.mono ?_); rintro e w2 ⟨rfl, hb2⟩)
  have HB2 := hid (HB1.out.trans (hb2.mono HB1.out.size))
  clear b0 b1 b2 b3 hb2 HMs
  cases hm : mksX N.pl ext L with
  | false =>
   rw [hm] at HQ
   clear hm
   go_wp2_with fail
   go_ret
   exact ⟨ret_int (by rw [HQ.out]; rfl), HB2.out⟩
  | true =>
   rw [hm] at HQ
   clear hm
   by_cases hg : 2000 < nl
   · have q1 : decide ((2000 : Int) < (nl : Int)) = true := by simp; omega
     rw [if_pos hg] at HQ
     clear hg
     go_wp2_with fail
     go_ret
     exact ⟨ret_int (by rw [HQ.out]; rfl), HB2.out⟩
   · have q1 : decide ((2000 : Int) < (nl : Int)) = false := by simp; omega
     rw [if_neg hg] at HQ
     clear hg
     go_wp2_with fail
     go_ret
     exact ⟨ret_int (by rw [HQ.out]; rfl), HB2.out⟩
set_option maxHeartbeats 3200000 in
set_option maxRecDepth 100000 in
theorem vClosed_any (N : Nt) (A : Option Addr) (n c : Nat) (Al : Option Addr) (nl cl : Nat) (L : List (List Int)) (w : World) (h : NtIn w A N) (hn : N.tr.length = n) (hn2 : n ≤ 9223372036854775807) (hL : LIn w Al L) (hl : L.length = nl) (hl2 : nl ≤ 9223372036854775806) :
 Calls Tryz.prog 10 #[.agg #[.int .i64 N.pl, .slice A n c, .int .i64 N.src, .int .i64 N.snk], .slice Al nl cl] w fun e w' => e = .returned (.tuple #[.bool (if givE N L false = 0 then closX N L else false), .int .i64 (givE N L false)]) ∧ Below w.heap.size w w' := by
 have HB0 := hid (below_alloc w (.cells #[.int .i64 N.pl, .slice A n c, .int .i64 N.src, .int .i64 N.snk] 24))
 have HNb0 := hid (NB.new w N.pl A n c N.src N.snk)
 have HIn0 := hid (h.below HB0.out)
 have HL0 := hid (hL.below HB0.out)
 have HNl := hid hn
 have HLl := hid hl
 have HGi := hid (vgiven_any N A n c Al nl cl L false _ (h.below HB0.out) hn hn2 (hL.below HB0.out) hl hl2)
 have HGz := hid (fun (hh : givE N L false = 0) => giv_zero hh)
 clear h hn hL hl
 by_cases hg : givE N L false = 0
 · obtain ⟨hv, hm, _⟩ := HGz.out hg
   have HV := hid hv
   have HAll := hid (List.all_eq_true.1 hm)
   rw [hg] at HGi
   rw [if_pos hg, hg]
   generalize hr : closX N L = r at *
   have HR := hid hr
   clear hg hv hm HGz hr
   go_enter Tryz.func10, Tryz.ntmps10
   go_wp2_with fail
   generalize w.alloc _ = w0 at *
   ((with_reducible refine HGi.out.mono ?_); rintro e w1 ⟨rfl, hb1⟩)
   have HB1 := hid (HB0.out.trans (hb1.mono HB0.out.size))
   have HNb1 := hid (HNb0.out.below hb1)
   have HC := hid (vclosed_any N A n c Al nl cl L w1 (HIn0.out.below hb1) HNl.out HV.out (HL0.out.below hb1) HLl.out hl2 HAll.out)
   rw [HR.out] at HC
   obtain ⟨b0, b1, b2, b3⟩ := HNb1.out.cells
   clear hb1 HGi
   go_wp2_with fail
   ((with_reducible refine HC.out.mono ?_); rintro e w2 ⟨rfl, hb2⟩)
   have HB2 := hid (HB1.out.trans (hb2.mono HB1.out.size))
   clear b0 b1 b2 b3
   go_wp2_with fail
   go_ret2
   exact ⟨rfl, HB2.out⟩
 · rw [if_neg hg]
   have q1 : (givE N L false != 0) = true := by rw [bne_iff_ne]; exact hg
   generalize givE N L false = g at *
   clear hg HGz
   go_enter Tryz.func10, Tryz.ntmps10
   go_wp2_with fail
   generalize w.alloc _ = w0 at *
   ((with_reducible refine HGi.out.mono ?_); rintro e w1 ⟨rfl, hb1⟩)
   have HB1 := hid (HB0.out.trans (hb1.mono HB0.out.size))
   clear hb1 HGi
   go_wp2_with fail
   go_ret2
   exact ⟨rfl, HB1.out⟩
set_option maxHeartbeats 3200000 in
set_option maxRecDepth 100000 in
theorem vCover_any (N : Nt) (A : Option Addr) (n c : Nat) (Al : Option Addr) (nl cl : Nat) (L : List (List Int)) (w : World) (h : NtIn w A N) (hn : N.tr.length = n) (hn2 : n ≤ 9223372036854775807) (hL : LIn w Al L) (hl : L.length = nl) (hl2 : nl ≤ 9223372036854775806) :
 Calls Tryz.prog 11 #[.agg #[.int .i64 N.pl, .slice A n c, .int .i64 N.src, .int .i64 N.snk], .slice Al nl cl] w fun e w' => e = .returned (.tuple #[.bool (if givE N L true = 0 then covX N L else false), .int .i64 (givE N L true)]) ∧ Below w.heap.size w w' := by
 have HB0 := hid (below_alloc w (.cells #[.int .i64 N.pl, .slice A n c, .int .i64 N.src, .int .i64 N.snk] 24))
 have HNb0 := hid (NB.new w N.pl A n c N.src N.snk)
 have HIn0 := hid (h.below HB0.out)
 have HL0 := hid (hL.below HB0.out)
 have HNl := hid hn
 have HLl := hid hl
 have HGi := hid (vgiven_any N A n c Al nl cl L true _ (h.below HB0.out) hn hn2 (hL.below HB0.out) hl hl2)
 have HGz := hid (fun (hh : givE N L true = 0) => giv_zero hh)
 clear h hn hL hl
 by_cases hg : givE N L true = 0
 · obtain ⟨hv, hm, _⟩ := HGz.out hg
   have HV := hid hv
   have HAll := hid (List.all_eq_true.1 hm)
   rw [hg] at HGi
   rw [if_pos hg, hg]
   generalize hr : covX N L = r at *
   have HR := hid hr
   clear hg hv hm HGz hr
   go_enter Tryz.func11, Tryz.ntmps11
   go_wp2_with fail
   generalize w.alloc _ = w0 at *
   ((with_reducible refine HGi.out.mono ?_); rintro e w1 ⟨rfl, hb1⟩)
   have HB1 := hid (HB0.out.trans (hb1.mono HB0.out.size))
   have HNb1 := hid (HNb0.out.below hb1)
   have HC := hid (vcovers_any N A n c Al nl cl L w1 (HIn0.out.below hb1) HNl.out HV.out (HL0.out.below hb1) HLl.out hl2 HAll.out)
   rw [HR.out] at HC
   obtain ⟨b0, b1, b2, b3⟩ := HNb1.out.cells
   clear hb1 HGi
   go_wp2_with fail
   ((with_reducible refine HC.out.mono ?_); rintro e w2 ⟨rfl, hb2⟩)
   have HB2 := hid (HB1.out.trans (hb2.mono HB1.out.size))
   clear b0 b1 b2 b3
   go_wp2_with fail
   go_ret2
   exact ⟨rfl, HB2.out⟩
 · rw [if_neg hg]
   have q1 : (givE N L true != 0) = true := by rw [bne_iff_ne]; exact hg
   generalize givE N L true = g at *
   clear hg HGz
   go_enter Tryz.func11, Tryz.ntmps11
   go_wp2_with fail
   generalize w.alloc _ = w0 at *
   ((with_reducible refine HGi.out.mono ?_); rintro e w1 ⟨rfl, hb1⟩)
   have HB1 := hid (HB0.out.trans (hb1.mono HB0.out.size))
   clear hb1 HGi
   go_wp2_with fail
   go_ret2
   exact ⟨rfl, HB1.out⟩
def pumE (N : Nt) (R P : List Int) : Int := if ntB N then (if 1000 < R.length ∨ 1000 < P.length then 5 else 0) else 1
set_option maxHeartbeats 3200000 in
set_option maxRecDepth 100000 in
theorem vPump_any (N : Nt) (A : Option Addr) (n c : Nat) (Ar : Option Addr) (nr cr : Nat) (R : List Int) (Ap : Option Addr) (np cp : Nat) (P : List Int) (w : World) (h : NtIn w A N) (hn : N.tr.length = n) (hn2 : n ≤ 9223372036854775807) (hR : ZIn w Ar R) (hr : R.length = nr) (hP : ZIn w Ap P) (hp : P.length = np) :
 Calls Tryz.prog 12 #[.agg #[.int .i64 N.pl, .slice A n c, .int .i64 N.src, .int .i64 N.snk], .slice Ar nr cr, .slice Ap np cp] w fun e w' => e = .returned (.tuple #[.bool (if pumE N R P = 0 then vpumB N R P else false), .int .i64 (pumE N R P)]) ∧ Below w.heap.size w w' := by
 have HB0 := hid (below_alloc w (.cells #[.int .i64 N.pl, .slice A n c, .int .i64 N.src, .int .i64 N.snk] 24))
 have HNb0 := hid (NB.new w N.pl A n c N.src N.snk)
 have HIn0 := hid (h.below HB0.out)
 have HR0 := hid (hR.below HB0.out)
 have HP0 := hid (hP.below HB0.out)
 have HRl := hid hr
 have HPl := hid hp
 have HNl := hid hn
 have HPv := hid (pvalid_any N A n c _ (h.below HB0.out) hn hn2)
 have HQ := hid (show pumE N R P = if ntB N then (if 1000 < nr ∨ 1000 < np then 5 else 0) else 1 by unfold pumE; rw [hr, hp])
 clear h hn hR hr hP hp
 cases hv : ntB N with
 | false =>
  rw [hv] at HQ HPv
  rw [show pumE N R P = 1 by rw [HQ.out]; rfl, if_neg (show ¬ (1 : Int) = 0 by decide)]
  clear hv
  go_enter Tryz.func12, Tryz.ntmps12
  go_wp2_with fail
  generalize w.alloc _ = w0 at *
  ((with_reducible refine HPv.out.mono ?_); rintro e w1 ⟨rfl, hb1⟩)
  have HB1 := hid (HB0.out.trans (hb1.mono HB0.out.size))
  clear hb1 HPv
  go_wp2_with fail
  go_ret2
  exact ⟨rfl, HB1.out⟩
 | true =>
  have HV := hid hv
  rw [hv] at HQ HPv
  by_cases h1 : 1000 < nr
  · have q1 : decide ((1000 : Int) < (nr : Int)) = true := by simp; omega
    rw [show pumE N R P = 5 by rw [HQ.out, if_pos rfl, if_pos (.inl h1)], if_neg (show ¬ (5 : Int) = 0 by decide)]
    clear hv h1
    go_enter Tryz.func12, Tryz.ntmps12
    go_wp2_with fail
    generalize w.alloc _ = w0 at *
    ((with_reducible refine HPv.out.mono ?_); rintro e w1 ⟨rfl, hb1⟩)
    have HB1 := hid (HB0.out.trans (hb1.mono HB0.out.size))
    clear hb1 HPv
    go_wp2_with fail
    go_ret2
    exact ⟨rfl, HB1.out⟩
  have q1 : decide ((1000 : Int) < (nr : Int)) = false := by simp; omega
  by_cases h2 : 1000 < np
  · have q2 : decide ((1000 : Int) < (np : Int)) = true := by simp; omega
    rw [show pumE N R P = 5 by rw [HQ.out, if_pos rfl, if_pos (.inr h2)], if_neg (show ¬ (5 : Int) = 0 by decide)]
    clear hv h1 h2
    go_enter Tryz.func12, Tryz.ntmps12
    go_wp2_with fail
    generalize w.alloc _ = w0 at *
    ((with_reducible refine HPv.out.mono ?_); rintro e w1 ⟨rfl, hb1⟩)
    have HB1 := hid (HB0.out.trans (hb1.mono HB0.out.size))
    clear hb1 HPv
    go_wp2_with fail
    go_ret2
    exact ⟨rfl, HB1.out⟩
  have q2 : decide ((1000 : Int) < (np : Int)) = false := by simp; omega
  rw [show pumE N R P = 0 by rw [HQ.out, if_pos rfl, if_neg (by omega)], if_pos rfl]
  generalize hr : vpumB N R P = r
  have HR := hid hr
  clear hv h1 h2 hr
  go_enter Tryz.func12, Tryz.ntmps12
  go_wp2_with fail
  generalize w.alloc _ = w0 at *
  ((with_reducible refine HPv.out.mono ?_); rintro e w1 ⟨rfl, hb1⟩)
  have HB1 := hid (HB0.out.trans (hb1.mono HB0.out.size))
  have HNb1 := hid (HNb0.out.below hb1)
  have HPu := hid (vpumps_any N A n c Ar nr cr R Ap np cp P w1 (HIn0.out.below hb1) HNl.out HV.out (HR0.out.below hb1) HRl.out (HP0.out.below hb1) HPl.out)
  rw [HR.out] at HPu
  obtain ⟨b0, b1, b2, b3⟩ := HNb1.out.cells
  clear hb1 HPv
  go_wp2_with fail
  ((with_reducible refine HPu.out.mono ?_); rintro e w2 ⟨rfl, hb2⟩)
  have HB2 := hid (HB1.out.trans (hb2.mono HB1.out.size))
  clear b0 b1 b2 b3
  go_wp2_with fail
  go_ret2
  exact ⟨rfl, HB2.out⟩
/-- the opposite claim -/
def oppV (k : Int) : Int := if 1 ≤ k ∧ k ≤ 10 then (if k % 2 = 1 then k + 1 else k - 1) else 0
def oppE (k : Int) : Int := if 1 ≤ k ∧ k ≤ 10 then 0 else 2
theorem vopp_any (k : Int) (w : World) : Calls Tryz.prog 16 #[.int .i64 k] w fun e w' => e = .returned (.tuple #[.int .i64 (oppV k), .int .i64 (oppE k)]) ∧ Below w.heap.size w w' := by
 by_cases h1 : k < 1
 · have e1 := hid (show oppV k = 0 from if_neg (by omega))
   have e2 := hid (show oppE k = 2 from if_neg (by omega))
   rw [e1.out, e2.out]
   go_enter Tryz.func16, Tryz.ntmps16
   go_wp2
   go_ret2
   exact ⟨rfl, Below.refl _ _⟩
 by_cases h2 : 10 < k
 · have e1 := hid (show oppV k = 0 from if_neg (by omega))
   have e2 := hid (show oppE k = 2 from if_neg (by omega))
   have q1 : decide (k < 1) = false := by simpa using h1
   rw [e1.out, e2.out]
   go_enter Tryz.func16, Tryz.ntmps16
   go_wp2
   go_ret2
   exact ⟨rfl, Below.refl _ _⟩
 have hk : k = 1 ∨ k = 2 ∨ k = 3 ∨ k = 4 ∨ k = 5 ∨ k = 6 ∨ k = 7 ∨ k = 8 ∨ k = 9 ∨ k = 10 := by omega
 rcases hk with rfl | rfl | rfl | rfl | rfl | rfl | rfl | rfl | rfl | rfl
 all_goals
  clear h1 h2
  go_enter Tryz.func16, Tryz.ntmps16
  go_wp2
  go_ret2
  exact ⟨by kernel_rfl, Below.refl _ _⟩
end Go.Proofs.YtpnhcimmlnjfaaaGreatDoor
