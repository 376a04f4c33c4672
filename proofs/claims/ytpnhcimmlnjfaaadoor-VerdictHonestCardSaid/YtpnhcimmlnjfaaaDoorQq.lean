/- verdict.Check: what a call returns. -/
import Derived.Test.YtpnhcimmlnjfaaaDoorUt
import Derived.Test.YtpnhcimmlnjfaaaDoorQp
import Derived.Test.YtpnhcimmlnjfaaaDoorQl
import Derived.Test.YtpnhcimmlnjfaaaDoorQj
namespace Go.Proofs.YtpnhcimmlnjfaaaDoor
open Go.Lib (hid)
open Go.RowKit

/-- a run that ends in a transition -/
def ndB (N : Nt) (cn : Int) (R : List Int) : Bool := decide ((runI N R).2.2 = 0) && (decide (0 < R.length) && decide (R.getD (R.length - 1) 0 = cn))
/-- a certificate proves its claim -/
def ClmP (N : Nt) (cl cn : Int) (R P : List Int) (K : List (List Int)) (V : List Mv) (S X : List (List Int)) : Prop :=
 (1 ≤ cl ∧ cl ≤ 4 → wfP N) ∧ ((cl = 1 ∧ sndB N K V X = true) ∨ (cl = 2 ∧ unsB N cn R P K = true) ∨ (cl = 3 ∧ relB N S = true) ∨ (cl = 4 ∧ nrlB N cn K S = true) ∨ ((cl = 5 ∨ cl = 6) ∧ chkB N (iniM N) ⟨cl, cn, R, P, K⟩ = true) ∨ (cl = 7 ∧ deadB N cn K = true) ∨ (cl = 8 ∧ ndB N cn R = true))
def ChkP (N : Nt) (cl cn : Int) (R P : List Int) (K : List (List Int)) (V : List Mv) (S X : List (List Int)) : Prop :=
 ntB N = true ∧ K.length ≤ 2000 ∧ R.length ≤ 1000 ∧ P.length ≤ 1000 ∧ ClmP N cl cn R P K V S X
def VcPo (Q : Prop) (w : World) (e : Ending) (w' : World) : Prop := (∃ q : Bool, e = .returned (.bool q) ∧ (q = true ↔ Q)) ∧ Below w.heap.size w w'
theorem VcPo.no {Q : Prop} {w w' : World} (h : ¬ Q) (hb : Below w.heap.size w w') : VcPo Q w (.returned (.bool false)) w' := ⟨⟨false, rfl, by simp [h]⟩, hb⟩
theorem VcPo.is {Q : Prop} {w w' : World} {q : Bool} (h : q = true ↔ Q) (hb : Below w.heap.size w w') : VcPo Q w (.returned (.bool q)) w' := ⟨⟨q, rfl, h⟩, hb⟩
theorem clm_out {N : Nt} {cl cn : Int} {R P : List Int} {K : List (List Int)} {V : List Mv} {S X : List (List Int)} (h : cl < 1 ∨ 8 < cl) : ¬ ClmP N cl cn R P K V S X := by
 intro hc
 obtain ⟨_, h1⟩ := hc
 omega
theorem clm_at {N : Nt} {cn : Int} {R P : List Int} {K : List (List Int)} {V : List Mv} {S X : List (List Int)} (hw : wfP N) :
 (ClmP N 1 cn R P K V S X ↔ sndB N K V X = true) ∧ (ClmP N 2 cn R P K V S X ↔ unsB N cn R P K = true) ∧ (ClmP N 3 cn R P K V S X ↔ relB N S = true) ∧ (ClmP N 4 cn R P K V S X ↔ nrlB N cn K S = true) := by
 refine ⟨?_, ?_, ?_, ?_⟩ <;> (unfold ClmP; simp [hw])
theorem clm_no {N : Nt} {cl cn : Int} {R P : List Int} {K : List (List Int)} {V : List Mv} {S X : List (List Int)} (hw : ¬ wfP N) (h1 : 1 ≤ cl) (h4 : cl ≤ 4) : ¬ ClmP N cl cn R P K V S X := fun h => hw (h.1 ⟨h1, h4⟩)
theorem clm_up {N : Nt} {cn : Int} {R P : List Int} {K : List (List Int)} {V : List Mv} {S X : List (List Int)} :
 (ClmP N 5 cn R P K V S X ↔ chkB N (iniM N) ⟨5, cn, R, P, K⟩ = true) ∧ (ClmP N 6 cn R P K V S X ↔ chkB N (iniM N) ⟨6, cn, R, P, K⟩ = true) ∧ (ClmP N 7 cn R P K V S X ↔ deadB N cn K = true) ∧ (ClmP N 8 cn R P K V S X ↔ ndB N cn R = true) := by
 refine ⟨?_, ?_, ?_, ?_⟩ <;> (unfold ClmP; simp)
theorem ini_mk {N : Nt} (hv : ntB N = true) : mkB N (iniM N) = true := one_mk hv _
set_option maxHeartbeats 25600000 in
set_option maxRecDepth 100000 in
theorem vcheck_any (N : Nt) (A : Option Addr) (n c : Nat) (cl cn : Int) (Ar : Option Addr) (nr cr : Nat) (R : List Int) (Ap : Option Addr) (np cp : Nat) (P : List Int) (Ak : Option Addr) (nk ck : Nat) (K : List (List Int)) (Av : Option Addr) (nv cv : Nat) (V : List Mv) (As : Option Addr) (ns cs : Nat) (S : List (List Int)) (Aw : Option Addr) (nw cw : Nat) (X : List (List Int)) (w : World) (ht : Tb w) (h : NtIn w A N) (hn : N.tr.length = n) (hn2 : n ≤ 9223372036854775806) (hC : CfM w Ar nr R Ap np P Ak nk K Av nv V As ns S Aw nw X) (hI6' : ∀ I ∈ S, ∀ ni : Nat, I.length = ni → ni ≤ 1000000) :
 Calls Tryd.prog 9 #[.agg #[.int .i64 N.pl, .slice A n c, .int .i64 N.src, .int .i64 N.snk], .agg #[.int .i64 cl, .int .i64 cn, .slice Ar nr cr, .slice Ap np cp, .slice Ak nk ck, .slice Av nv cv, .slice As ns cs, .slice Aw nw cw]] w (VcPo (ChkP N cl cn R P K V S X) w) := by
 have HB0 := hid (two_boxes w (.cells #[.int .i64 N.pl, .slice A n c, .int .i64 N.src, .int .i64 N.snk] 24) (.cells #[.int .i64 cl, .int .i64 cn, .slice Ar nr cr, .slice Ap np cp, .slice Ak nk ck, .slice Av nv cv, .slice As ns cs, .slice Aw nw cw] 29))
 have HNb0 := hid ((NB.new w N.pl A n c N.src N.snk).below (below_alloc _ (.cells #[.int .i64 cl, .int .i64 cn, .slice Ar nr cr, .slice Ap np cp, .slice Ak nk ck, .slice Av nv cv, .slice As ns cs, .slice Aw nw cw] 29)))
 have hcb := heap_alloc_new (w.alloc (.cells #[.int .i64 N.pl, .slice A n c, .int .i64 N.src, .int .i64 N.snk] 24)) (.cells #[.int .i64 cl, .int .i64 cn, .slice Ar nr cr, .slice Ap np cp, .slice Ak nk ck, .slice Av nv cv, .slice As ns cs, .slice Aw nw cw] 29)
 rw [World.size_alloc] at hcb
 have HCb0 := hid (show CtB _ (w.heap.size + 1) #[.int .i64 cl, .int .i64 cn, .slice Ar nr cr, .slice Ap np cp, .slice Ak nk ck, .slice Av nv cv, .slice As ns cs, .slice Aw nw cw] from hcb)
 have HIn0 := hid (h.below HB0.out)
 have HC0 := hid (hC.below HB0.out)
 have HNl := hid hn
 have HTb := hid ht
 have hI6 := hid hI6'
 have HVa := hid (pvalid_any N A n c _ HIn0.out hn (by omega))
 have HCh := hid (show ChkP N cl cn R P K V S X ↔ (ntB N = true ∧ K.length ≤ 2000 ∧ R.length ≤ 1000 ∧ P.length ≤ 1000 ∧ ClmP N cl cn R P K V S X) from Iff.rfl)
 generalize ChkP N cl cn R P K V S X = Q at *
 clear h hn hC hcb ht hI6'
 go_enter Tryd.func9, Tryd.ntmps9
 go_wp2_with fail
 generalize (w.alloc (.cells #[.int .i64 N.pl, .slice A n c, .int .i64 N.src, .int .i64 N.snk] 24)).alloc (.cells #[.int .i64 cl, .int .i64 cn, .slice Ar nr cr, .slice Ap np cp, .slice Ak nk ck, .slice Av nv cv, .slice As ns cs, .slice Aw nw cw] 29) = w0 at *
 generalize w.heap.size + 1 = cb at *
 obtain ⟨b0, b1, b2, b3⟩ := HNb0.out.cells
 obtain ⟨d0, d1, d2, d3, d4, d5, d6, d7⟩ := HCb0.out.cells
 ((with_reducible refine HVa.out.mono ?_); rintro e w1 ⟨rfl, hb1⟩)
 have HB1 := hid (HB0.out.trans (hb1.mono HB0.out.size))
 have HNb1 := hid (HNb0.out.below hb1)
 have HCb1 := hid (HCb0.out.below hb1)
 have HIn1 := hid (HIn0.out.below hb1)
 have HC1 := hid (HC0.out.below hb1)
 clear HB0 HNb0 HCb0 HIn0 HC0
 clear b0 b1 b2 b3 d0 d1 d2 d3 d4 d5 d6 d7 hb1 HVa
 cases hv : ntB N with
 | false =>
  have HN := hid (show ¬ Q by rw [HCh.out, hv]; simp)
  clear hv
  go_wp2_with fail
  go_ret
  exact VcPo.no HN.out HB1.out
 | true =>
  have HV := hid hv
  have hps := nt_small hv
  have hn60 : n ≤ 60 := by have := HNl.out; omega
  rw [hv] at HCh
  clear hv
  obtain ⟨b0, b1, b2, b3⟩ := HNb1.out.cells
  obtain ⟨d0, d1, d2, d3, d4, d5, d6, d7⟩ := HCb1.out.cells
  by_cases hk : 2000 < nk
  · have q1 : decide ((2000 : Int) < (nk : Int)) = true := by simp; omega
    have q1' : decide (2000 < nk) = true := by simp; omega
    have HN := hid (show ¬ Q by rw [HCh.out, HC1.out.kl]; omega)
    clear hk
    go_wp2_with fail
    go_ret
    exact VcPo.no HN.out HB1.out
  have q1 : decide ((2000 : Int) < (nk : Int)) = false := by simp; omega
  have q1' : decide (2000 < nk) = false := by simp; omega
  by_cases hr : 1000 < nr
  · have q2 : decide ((1000 : Int) < (nr : Int)) = true := by simp; omega
    have q2' : decide (1000 < nr) = true := by simp; omega
    have HN := hid (show ¬ Q by rw [HCh.out, HC1.out.rl]; omega)
    clear hk hr
    go_wp2_with fail
    go_ret
    exact VcPo.no HN.out HB1.out
  have q2 : decide ((1000 : Int) < (nr : Int)) = false := by simp; omega
  have q2' : decide (1000 < nr) = false := by simp; omega
  by_cases hp : 1000 < np
  · have q3 : decide ((1000 : Int) < (np : Int)) = true := by simp; omega
    have q3' : decide (1000 < np) = true := by simp; omega
    have HN := hid (show ¬ Q by rw [HCh.out, HC1.out.pl]; omega)
    clear hk hr hp
    go_wp2_with fail
    go_ret
    exact VcPo.no HN.out HB1.out
  have q3 : decide ((1000 : Int) < (np : Int)) = false := by simp; omega
  have q3' : decide (1000 < np) = false := by simp; omega
  replace HCh := hid (show Q ↔ ClmP N cl cn R P K V S X by
   rw [HCh.out, HC1.out.kl, HC1.out.rl, HC1.out.pl]
   exact ⟨fun h => h.2.2.2.2, fun h => ⟨rfl, by omega, by omega, by omega, h⟩⟩)
  clear hk hr hp
  by_cases hcl : 1 ≤ cl ∧ cl ≤ 4
  · have q4 : decide ((1 : Int) ≤ cl) = true := by simp; omega
    have q5 : decide (cl ≤ 4) = true := by simp; omega
    have HWk := hid (pwork_any N A n c w1 HIn1.out HNl.out (by omega))
    obtain ⟨hcl1, hcl4⟩ := hcl
    have HC14 := hid (And.intro hcl1 hcl4)
    clear hcl1 hcl4
    go_wp2_with fail
    ((with_reducible refine HWk.out.mono ?_); rintro e w3 ⟨⟨q, rfl, hq⟩, hb3⟩)
    have HB3 := hid (HB1.out.trans (hb3.mono HB1.out.size))
    have HNb3 := hid (HNb1.out.below hb3)
    have HCb3 := hid (HCb1.out.below hb3)
    have HIn3 := hid (HIn1.out.below hb3)
    have HC3 := hid (HC1.out.below hb3)
    clear HB1 HNb1 HCb1 HIn1 HC1
    have HQw := hid hq
    clear b0 b1 b2 b3 d0 d1 d2 d3 d4 d5 d6 d7 hb3 HWk hq q1 q1' q2 q2' q3 q3'
    cases q with
    | false =>
     have HN := hid (show ¬ Q by rw [HCh.out]; exact clm_no (fun hw => by have := HQw.out.2 ⟨HV.out, hw⟩; cases this) HC14.out.1 HC14.out.2)
     go_wp2_with fail
     go_ret
     exact VcPo.no HN.out HB3.out
    | true =>
     have HWf := hid (HQw.out.1 rfl).2
     have hcases : cl = 1 ∨ cl = 2 ∨ cl = 3 ∨ cl = 4 := by have := HC14.out; omega
     clear HQw HC14 q4 q5
     rcases hcases with hck | hck | hck | hck
     · subst hck
       have HCa := hid (vsound_any N A n c 1 cn Ar nr cr R Ap np cp P Ak nk ck K Av nv cv V As ns cs S Aw nw cw X w3 HIn3.out HNl.out HV.out HC3.out)
       obtain ⟨b0, b1, b2, b3⟩ := HNb3.out.cells
       obtain ⟨d0, d1, d2, d3, d4, d5, d6, d7⟩ := HCb3.out.cells
       go_wp2_with fail
       ((with_reducible refine HCa.out.mono ?_); rintro e w4 ⟨rfl, hb4⟩)
       have HB4 := hid (HB3.out.trans (hb4.mono HB3.out.size))
       clear b0 b1 b2 b3 d0 d1 d2 d3 d4 d5 d6 d7
       go_wp2_with fail
       go_ret
       exact VcPo.is ((clm_at (cn := cn) (R := R) (P := P) (K := K) (V := V) (S := S) (X := X) HWf.out).1.symm.trans HCh.out.symm) HB4.out
     · subst hck
       have HCa := hid (vunsound_any N A n c 2 cn Ar nr cr R Ap np cp P Ak nk ck K Av nv cv V As ns cs S Aw nw cw X w3 HIn3.out HNl.out HV.out HC3.out)
       obtain ⟨b0, b1, b2, b3⟩ := HNb3.out.cells
       obtain ⟨d0, d1, d2, d3, d4, d5, d6, d7⟩ := HCb3.out.cells
       go_wp2_with fail
       ((with_reducible refine HCa.out.mono ?_); rintro e w4 ⟨rfl, hb4⟩)
       have HB4 := hid (HB3.out.trans (hb4.mono HB3.out.size))
       clear b0 b1 b2 b3 d0 d1 d2 d3 d4 d5 d6 d7
       go_wp2_with fail
       go_ret
       exact VcPo.is ((clm_at (cn := cn) (R := R) (P := P) (K := K) (V := V) (S := S) (X := X) HWf.out).2.1.symm.trans HCh.out.symm) HB4.out
     · subst hck
       have HCa := hid (vrelaxed_any N A n c 3 cn Ar nr cr R Ap np cp P Ak nk ck K Av nv cv V As ns cs S Aw nw cw X w3 HIn3.out HNl.out HV.out HC3.out)
       obtain ⟨b0, b1, b2, b3⟩ := HNb3.out.cells
       obtain ⟨d0, d1, d2, d3, d4, d5, d6, d7⟩ := HCb3.out.cells
       go_wp2_with fail
       ((with_reducible refine HCa.out.mono ?_); rintro e w4 ⟨rfl, hb4⟩)
       have HB4 := hid (HB3.out.trans (hb4.mono HB3.out.size))
       clear b0 b1 b2 b3 d0 d1 d2 d3 d4 d5 d6 d7
       go_wp2_with fail
       go_ret
       exact VcPo.is ((clm_at (cn := cn) (R := R) (P := P) (K := K) (V := V) (S := S) (X := X) HWf.out).2.2.1.symm.trans HCh.out.symm) HB4.out
     · subst hck
       have HCa := hid (vnotRelaxed_any N A n c 4 cn Ar nr cr R Ap np cp P Ak nk ck K Av nv cv V As ns cs S Aw nw cw X w3 HIn3.out HNl.out HV.out HC3.out hI6.out)
       obtain ⟨b0, b1, b2, b3⟩ := HNb3.out.cells
       obtain ⟨d0, d1, d2, d3, d4, d5, d6, d7⟩ := HCb3.out.cells
       go_wp2_with fail
       ((with_reducible refine HCa.out.mono ?_); rintro e w4 ⟨rfl, hb4⟩)
       have HB4 := hid (HB3.out.trans (hb4.mono HB3.out.size))
       clear b0 b1 b2 b3 d0 d1 d2 d3 d4 d5 d6 d7
       go_wp2_with fail
       go_ret
       exact VcPo.is ((clm_at (cn := cn) (R := R) (P := P) (K := K) (V := V) (S := S) (X := X) HWf.out).2.2.2.symm.trans HCh.out.symm) HB4.out
  · have HBn := hid (Below.refl w1.heap.size w1)
    obtain ⟨w3, rfl⟩ : ∃ w3, w3 = w1 := ⟨_, rfl⟩
    have HB3 := HB1
    have HNb3 := HNb1
    have HCb3 := HCb1
    have HIn3 := HIn1
    have HC3 := HC1
    clear HB1 HNb1 HCb1 HIn1 HC1 HBn
    have hgo : cl < 1 ∨ 4 < cl := by omega
    by_cases h5 : cl = 5
    · subst h5
      go_wp2_with fail
      clear b0 b1 b2 b3 d0 d1 d2 d3 d4 d5 d6 d7 q1 q1' q2 q2' q3 q3' hgo hcl
      have hbd : Below w3.heap.size w3 w3.drew := (Below.refl _ _).drew
      have HB4 := hid (HB3.out.trans (hbd.mono HB3.out.size))
      have HNb4 := hid (HNb3.out.below hbd)
      have HCb4 := hid (HCb3.out.below hbd)
      have HIn4 := hid (HIn3.out.below hbd)
      have HC4 := hid (HC3.out.below hbd)
      obtain ⟨b0, b1, b2, b3⟩ := HNb4.out.cells
      obtain ⟨d0, d1, d2, d3, d4, d5, d6, d7⟩ := HCb4.out.cells
      have hS0 := And.intro b0 (And.intro b1 (And.intro b2 (And.intro b3 (And.intro d0 (And.intro d1 (And.intro d2 (And.intro d3 (And.intro d4 (And.intro d5 (And.intro d6 (d7)))))))))))
      refine wp_region_held_drew (S := fun w' => w'.cell? ⟨w.heap.size, 0, none⟩ = some (.int .i64 N.pl) ∧ w'.cell? ⟨w.heap.size, 1, none⟩ = some (.slice A n c) ∧ w'.cell? ⟨w.heap.size, 2, none⟩ = some (.int .i64 N.src) ∧ w'.cell? ⟨w.heap.size, 3, none⟩ = some (.int .i64 N.snk) ∧ w'.cell? ⟨cb, 0, none⟩ = some (.int .i64 5) ∧ w'.cell? ⟨cb, 1, none⟩ = some (.int .i64 cn) ∧ w'.cell? ⟨cb, 2, none⟩ = some (.slice Ar nr cr) ∧ w'.cell? ⟨cb, 3, none⟩ = some (.slice Ap np cp) ∧ w'.cell? ⟨cb, 4, none⟩ = some (.slice Ak nk ck) ∧ w'.cell? ⟨cb, 5, none⟩ = some (.slice Av nv cv) ∧ w'.cell? ⟨cb, 6, none⟩ = some (.slice As ns cs) ∧ w'.cell? ⟨cb, 7, none⟩ = some (.slice Aw nw cw)) (by kernel_rfl) hS0 (fun hHeld => ?_)
      clear hS0 hbd b0 b1 b2 b3 d0 d1 d2 d3 d4 d5 d6 d7
      clear HB3 HNb3 HCb3 HIn3 HC3
      have HTb4 := hid (HTb.out.below (show Below w.heap.size w w3.drew from HB4.out))
      generalize w3.drew = w4 at *
      refine tkH 0 ?_; try go_simp
      refine tkH 1 ?_; try go_simp
      refine tkH 2 ?_; try go_simp
      refine tkH 3 ?_; try go_simp
      refine tkH 5 ?_; try go_simp
      refine tkR 4 (fun K9 hK => ?_)
      go_simp
      ((refine (vsrc_any N A n c HV.out w4).mono ?_); rintro e w5 ⟨v5, rfl, hS5⟩)
      obtain ⟨A5, c5, rfl⟩ := hS5.slice
      have hb5 := hS5.2
      have hS9 := hHeld
      refine hK.out _ _ ⟨cell_stays hb5 hS9.1, cell_stays hb5 hS9.2.1, cell_stays hb5 hS9.2.2.1, cell_stays hb5 hS9.2.2.2.1, cell_stays hb5 hS9.2.2.2.2.1, cell_stays hb5 hS9.2.2.2.2.2.1, cell_stays hb5 hS9.2.2.2.2.2.2.1, cell_stays hb5 hS9.2.2.2.2.2.2.2.1, cell_stays hb5 hS9.2.2.2.2.2.2.2.2.1, cell_stays hb5 hS9.2.2.2.2.2.2.2.2.2.1, cell_stays hb5 hS9.2.2.2.2.2.2.2.2.2.2.1, cell_stays hb5 hS9.2.2.2.2.2.2.2.2.2.2.2⟩ (fun hHeld => ?_)
      clear hK K9 hS9
      try go_simp
      have HB5 := hid (HB4.out.trans (hb5.mono HB4.out.size))
      have HNb5 := hid (HNb4.out.below hb5)
      have HCb5 := hid (HCb4.out.below hb5)
      have HIn5 := hid (HIn4.out.below hb5)
      have HC5 := hid (HC4.out.below hb5)
      clear HB4 HNb4 HCb4 HIn4 HC4
      have HI5 := hid (show ZIn w5 A5 (iniM N) by obtain ⟨A', c', e, hz, _⟩ := hS5.zin; cases e; exact hz)
      have HTb5 := hid (HTb4.out.below hb5)
      clear hS5 hb5
      refine tkR 6 (fun K9 hK => ?_)
      go_simp
      have hci : CtIn w5 (.agg #[.int .i64 5, .int .i64 cn, .slice Ar nr cr, .slice Ap np cp, .slice Ak nk ck, .slice Av nv cv, .slice As ns cs, .slice Aw nw cw]) ⟨5, cn, R, P, K⟩ := ⟨Ar, nr, cr, Ap, np, cp, Ak, nk, ck, Av, nv, cv, As, ns, cs, Aw, nw, cw, rfl, ⟨HC5.out.r, HC5.out.rl⟩, ⟨HC5.out.p, HC5.out.pl⟩, HC5.out.k, HC5.out.kl, HC5.out.kb⟩
      have HCa := ccheck_any N A n c A5 (iniM N).length c5 (iniM N) _ ⟨5, cn, R, P, K⟩ w5 HTb5.out HIn5.out HNl.out (by omega) HI5.out rfl (by have := ini_len HV.out; omega) hci
      ((refine (HCa).mono ?_); rintro e w6 ⟨rfl, hb6⟩)
      have hS9 := hHeld
      refine hK.out _ _ ⟨cell_stays hb6 hS9.1, cell_stays hb6 hS9.2.1, cell_stays hb6 hS9.2.2.1, cell_stays hb6 hS9.2.2.2.1, cell_stays hb6 hS9.2.2.2.2.1, cell_stays hb6 hS9.2.2.2.2.2.1, cell_stays hb6 hS9.2.2.2.2.2.2.1, cell_stays hb6 hS9.2.2.2.2.2.2.2.1, cell_stays hb6 hS9.2.2.2.2.2.2.2.2.1, cell_stays hb6 hS9.2.2.2.2.2.2.2.2.2.1, cell_stays hb6 hS9.2.2.2.2.2.2.2.2.2.2.1, cell_stays hb6 hS9.2.2.2.2.2.2.2.2.2.2.2⟩ (fun hHeld => ?_)
      clear hK K9 hS9
      try go_simp
      have HB6 := hid (HB5.out.trans (hb6.mono HB5.out.size))
      have HNb6 := hid (HNb5.out.below hb6)
      have HCb6 := hid (HCb5.out.below hb6)
      have HIn6 := hid (HIn5.out.below hb6)
      have HC6 := hid (HC5.out.below hb6)
      clear HB5 HNb5 HCb5 HIn5 HC5
      clear hci HCa
      clear hb6
      refine tkH 7 ?_; try go_simp
      refine wpAnyH_done (by kernel_rfl) ?_ _
      clear hHeld
      go_wp2_with fail
      go_ret
      exact VcPo.is ((clm_up (N := N) (cn := cn) (R := R) (P := P) (K := K) (V := V) (S := S) (X := X)).1.symm.trans HCh.out.symm) HB6.out
    by_cases h6 : cl = 6
    · subst h6
      go_wp2_with fail
      clear b0 b1 b2 b3 d0 d1 d2 d3 d4 d5 d6 d7 q1 q1' q2 q2' q3 q3' hgo hcl h5
      have hbd : Below w3.heap.size w3 w3.drew := (Below.refl _ _).drew
      have HB4 := hid (HB3.out.trans (hbd.mono HB3.out.size))
      have HNb4 := hid (HNb3.out.below hbd)
      have HCb4 := hid (HCb3.out.below hbd)
      have HIn4 := hid (HIn3.out.below hbd)
      have HC4 := hid (HC3.out.below hbd)
      obtain ⟨b0, b1, b2, b3⟩ := HNb4.out.cells
      obtain ⟨d0, d1, d2, d3, d4, d5, d6, d7⟩ := HCb4.out.cells
      have hS0 := And.intro b0 (And.intro b1 (And.intro b2 (And.intro b3 (And.intro d0 (And.intro d1 (And.intro d2 (And.intro d3 (And.intro d4 (And.intro d5 (And.intro d6 (d7)))))))))))
      refine wp_region_held_drew (S := fun w' => w'.cell? ⟨w.heap.size, 0, none⟩ = some (.int .i64 N.pl) ∧ w'.cell? ⟨w.heap.size, 1, none⟩ = some (.slice A n c) ∧ w'.cell? ⟨w.heap.size, 2, none⟩ = some (.int .i64 N.src) ∧ w'.cell? ⟨w.heap.size, 3, none⟩ = some (.int .i64 N.snk) ∧ w'.cell? ⟨cb, 0, none⟩ = some (.int .i64 6) ∧ w'.cell? ⟨cb, 1, none⟩ = some (.int .i64 cn) ∧ w'.cell? ⟨cb, 2, none⟩ = some (.slice Ar nr cr) ∧ w'.cell? ⟨cb, 3, none⟩ = some (.slice Ap np cp) ∧ w'.cell? ⟨cb, 4, none⟩ = some (.slice Ak nk ck) ∧ w'.cell? ⟨cb, 5, none⟩ = some (.slice Av nv cv) ∧ w'.cell? ⟨cb, 6, none⟩ = some (.slice As ns cs) ∧ w'.cell? ⟨cb, 7, none⟩ = some (.slice Aw nw cw)) (by kernel_rfl) hS0 (fun hHeld => ?_)
      clear hS0 hbd b0 b1 b2 b3 d0 d1 d2 d3 d4 d5 d6 d7
      clear HB3 HNb3 HCb3 HIn3 HC3
      have HTb4 := hid (HTb.out.below (show Below w.heap.size w w3.drew from HB4.out))
      generalize w3.drew = w4 at *
      refine tkH 0 ?_; try go_simp
      refine tkH 1 ?_; try go_simp
      refine tkH 2 ?_; try go_simp
      refine tkH 3 ?_; try go_simp
      refine tkH 5 ?_; try go_simp
      refine tkR 4 (fun K9 hK => ?_)
      go_simp
      ((refine (vsrc_any N A n c HV.out w4).mono ?_); rintro e w5 ⟨v5, rfl, hS5⟩)
      obtain ⟨A5, c5, rfl⟩ := hS5.slice
      have hb5 := hS5.2
      have hS9 := hHeld
      refine hK.out _ _ ⟨cell_stays hb5 hS9.1, cell_stays hb5 hS9.2.1, cell_stays hb5 hS9.2.2.1, cell_stays hb5 hS9.2.2.2.1, cell_stays hb5 hS9.2.2.2.2.1, cell_stays hb5 hS9.2.2.2.2.2.1, cell_stays hb5 hS9.2.2.2.2.2.2.1, cell_stays hb5 hS9.2.2.2.2.2.2.2.1, cell_stays hb5 hS9.2.2.2.2.2.2.2.2.1, cell_stays hb5 hS9.2.2.2.2.2.2.2.2.2.1, cell_stays hb5 hS9.2.2.2.2.2.2.2.2.2.2.1, cell_stays hb5 hS9.2.2.2.2.2.2.2.2.2.2.2⟩ (fun hHeld => ?_)
      clear hK K9 hS9
      try go_simp
      have HB5 := hid (HB4.out.trans (hb5.mono HB4.out.size))
      have HNb5 := hid (HNb4.out.below hb5)
      have HCb5 := hid (HCb4.out.below hb5)
      have HIn5 := hid (HIn4.out.below hb5)
      have HC5 := hid (HC4.out.below hb5)
      clear HB4 HNb4 HCb4 HIn4 HC4
      have HI5 := hid (show ZIn w5 A5 (iniM N) by obtain ⟨A', c', e, hz, _⟩ := hS5.zin; cases e; exact hz)
      have HTb5 := hid (HTb4.out.below hb5)
      clear hS5 hb5
      refine tkR 6 (fun K9 hK => ?_)
      go_simp
      have hci : CtIn w5 (.agg #[.int .i64 6, .int .i64 cn, .slice Ar nr cr, .slice Ap np cp, .slice Ak nk ck, .slice Av nv cv, .slice As ns cs, .slice Aw nw cw]) ⟨6, cn, R, P, K⟩ := ⟨Ar, nr, cr, Ap, np, cp, Ak, nk, ck, Av, nv, cv, As, ns, cs, Aw, nw, cw, rfl, ⟨HC5.out.r, HC5.out.rl⟩, ⟨HC5.out.p, HC5.out.pl⟩, HC5.out.k, HC5.out.kl, HC5.out.kb⟩
      have HCa := ccheck_any N A n c A5 (iniM N).length c5 (iniM N) _ ⟨6, cn, R, P, K⟩ w5 HTb5.out HIn5.out HNl.out (by omega) HI5.out rfl (by have := ini_len HV.out; omega) hci
      ((refine (HCa).mono ?_); rintro e w6 ⟨rfl, hb6⟩)
      have hS9 := hHeld
      refine hK.out _ _ ⟨cell_stays hb6 hS9.1, cell_stays hb6 hS9.2.1, cell_stays hb6 hS9.2.2.1, cell_stays hb6 hS9.2.2.2.1, cell_stays hb6 hS9.2.2.2.2.1, cell_stays hb6 hS9.2.2.2.2.2.1, cell_stays hb6 hS9.2.2.2.2.2.2.1, cell_stays hb6 hS9.2.2.2.2.2.2.2.1, cell_stays hb6 hS9.2.2.2.2.2.2.2.2.1, cell_stays hb6 hS9.2.2.2.2.2.2.2.2.2.1, cell_stays hb6 hS9.2.2.2.2.2.2.2.2.2.2.1, cell_stays hb6 hS9.2.2.2.2.2.2.2.2.2.2.2⟩ (fun hHeld => ?_)
      clear hK K9 hS9
      try go_simp
      have HB6 := hid (HB5.out.trans (hb6.mono HB5.out.size))
      have HNb6 := hid (HNb5.out.below hb6)
      have HCb6 := hid (HCb5.out.below hb6)
      have HIn6 := hid (HIn5.out.below hb6)
      have HC6 := hid (HC5.out.below hb6)
      clear HB5 HNb5 HCb5 HIn5 HC5
      clear hci HCa
      clear hb6
      refine tkH 7 ?_; try go_simp
      refine wpAnyH_done (by kernel_rfl) ?_ _
      clear hHeld
      go_wp2_with fail
      go_ret
      exact VcPo.is ((clm_up (N := N) (cn := cn) (R := R) (P := P) (K := K) (V := V) (S := S) (X := X)).2.1.symm.trans HCh.out.symm) HB6.out
    by_cases h7 : cl = 7
    · subst h7
      clear b0 b1 b2 b3 d0 d1 d2 d3 d4 d5 d6 d7 hgo hcl h5 h6
      have HCa := hid (vdead_any N A n c 7 cn Ar nr cr R Ap np cp P Ak nk ck K Av nv cv V As ns cs S Aw nw cw X w3 HIn3.out HNl.out HV.out HC3.out)
      obtain ⟨b0, b1, b2, b3⟩ := HNb3.out.cells
      obtain ⟨d0, d1, d2, d3, d4, d5, d6, d7⟩ := HCb3.out.cells
      go_wp2_with fail
      ((with_reducible refine HCa.out.mono ?_); rintro e w4 ⟨rfl, hb4⟩)
      have HB4 := hid (HB3.out.trans (hb4.mono HB3.out.size))
      clear b0 b1 b2 b3 d0 d1 d2 d3 d4 d5 d6 d7
      go_wp2_with fail
      go_ret
      exact VcPo.is ((clm_up (N := N) (cn := cn) (R := R) (P := P) (K := K) (V := V) (S := S) (X := X)).2.2.1.symm.trans HCh.out.symm) HB4.out
    by_cases h8 : cl = 8
    · subst h8
      clear b0 b1 b2 b3 d0 d1 d2 d3 d4 d5 d6 d7 hgo hcl h5 h6 h7
      have HRn := hid (vrun_any N A n c Ar nr cr R w3 HIn3.out HNl.out HV.out HC3.out.r HC3.out.rl)
      obtain ⟨b0, b1, b2, b3⟩ := HNb3.out.cells
      obtain ⟨d0, d1, d2, d3, d4, d5, d6, d7⟩ := HCb3.out.cells
      by_cases hr : (runI N R).2.2 = 0
      rotate_left
      · have HR1 := hid (vr_no HRn.out hr)
        have HNd := hid (show ndB N cn R = false by unfold ndB; rw [decide_eq_false hr]; rfl)
        clear HRn hr
        go_wp2_with fail
        ((with_reducible refine HR1.out.mono ?_); rintro e w4 ⟨rfl, hb4⟩)
        have HB4 := hid (HB3.out.trans (hb4.mono HB3.out.size))
        have HCb4 := hid (HCb3.out.below hb4)
        clear b0 b1 b2 b3 d0 d1 d2 d3 d4 d5 d6 d7 hb4
        go_wp2_with fail
        have hbd : Below w4.heap.size w4 w4.drew := (Below.refl _ _).drew
        have HB5 := hid (HB4.out.trans (hbd.mono HB4.out.size))
        have HCb5 := hid (HCb4.out.below hbd)
        obtain ⟨d0, d1, d2, d3, d4, d5, d6, d7⟩ := HCb5.out.cells
        have hS0 := And.intro d1 (d2)
        refine wp_region_held_drew (S := fun w' => w'.cell? ⟨cb, 1, none⟩ = some (.int .i64 cn) ∧ w'.cell? ⟨cb, 2, none⟩ = some (.slice Ar nr cr)) (by kernel_rfl) hS0 (fun hHeld => ?_)
        clear hS0 hbd d0 d1 d2 d3 d4 d5 d6 d7
        clear HB4 HCb4
        generalize w4.drew = w5 at *
        refine tkH 0 ?_; try go_simp
        refine tkH 1 ?_; try go_simp
        refine tkU 2 ?_; try go_simp
        refine tkU 3 ?_; try go_simp
        refine tkU 4 ?_; try go_simp
        refine tkU 5 ?_; try go_simp
        refine tkH 6 ?_; try go_simp
        refine tkH 7 ?_; try go_simp
        refine tkU 8 ?_; try go_simp
        refine tkU 9 ?_; try go_simp
        refine tkU 10 ?_; try go_simp
        refine tkU 11 ?_; try go_simp
        refine tkU 12 ?_; try go_simp
        refine tkU 13 ?_; try go_simp
        refine tkU 14 ?_; try go_simp
        refine tkU 15 ?_; try go_simp
        refine tkU 16 ?_; try go_simp
        refine tkU 17 ?_; try go_simp
        refine tkU 18 ?_; try go_simp
        refine tkH 19 ?_; try go_simp
        refine tkH 20 ?_; try go_simp
        refine wpAnyH_done (by kernel_rfl) ?_ _
        clear hHeld
        go_wp2_with fail
        go_ret
        exact VcPo.is ((show (false) = true ↔ ndB N cn R = true by rw [HNd.out]).trans ((clm_up (N := N) (cn := cn) (R := R) (P := P) (K := K) (V := V) (S := S) (X := X)).2.2.2.symm.trans HCh.out.symm)) HB5.out
      have HR1 := hid (vr_yes HRn.out hr)
      have hrd := decide_eq_true hr
      clear HRn hr
      go_wp2_with fail
      ((with_reducible refine HR1.out.mono ?_); rintro e w4 ⟨v4, rfl, hS4⟩)
      have hb4 := hS4.2
      have HB4 := hid (HB3.out.trans (hb4.mono HB3.out.size))
      have HCb4 := hid (HCb3.out.below hb4)
      have HC4 := hid (HC3.out.below hb4)
      clear b0 b1 b2 b3 d0 d1 d2 d3 d4 d5 d6 d7 hb4 hS4 HR1
      go_wp2_with fail
      by_cases hr0 : nr = 0
      · have HNd := hid (show ndB N cn R = false by unfold ndB; rw [hrd, HC4.out.rl, hr0]; rfl)
        have q1 : decide ((0 : Int) < (nr : Int)) = false := by simp; omega
        have q2 : ¬ 0 < nr := by omega
        have q3 : decide (0 < nr) = false := by simp; omega
        clear hr0 hrd
        have hbd : Below w4.heap.size w4 w4.drew := (Below.refl _ _).drew
        have HB5 := hid (HB4.out.trans (hbd.mono HB4.out.size))
        have HCb5 := hid (HCb4.out.below hbd)
        obtain ⟨d0, d1, d2, d3, d4, d5, d6, d7⟩ := HCb5.out.cells
        have hS0 := And.intro d1 (d2)
        refine wp_region_held_drew (S := fun w' => w'.cell? ⟨cb, 1, none⟩ = some (.int .i64 cn) ∧ w'.cell? ⟨cb, 2, none⟩ = some (.slice Ar nr cr)) (by kernel_rfl) hS0 (fun hHeld => ?_)
        clear hS0 hbd d0 d1 d2 d3 d4 d5 d6 d7
        clear HB4 HCb4
        generalize w4.drew = w5 at *
        refine tkH 0 ?_; try go_simp
        refine tkH 1 ?_; try go_simp
        refine tkH 2 ?_; try go_simp
        refine tkH 3 ?_; try go_simp
        refine tkH 4 ?_; try go_simp
        refine tkH 5 ?_; try go_simp
        refine tkH 6 ?_; try go_simp
        refine tkH 7 ?_; try go_simp
        refine tkU 8 ?_; try go_simp
        refine tkU 9 ?_; try go_simp
        refine tkU 10 ?_; try go_simp
        refine tkU 11 ?_; try go_simp
        refine tkU 12 ?_; try go_simp
        refine tkU 13 ?_; try go_simp
        refine tkU 14 ?_; try go_simp
        refine tkU 15 ?_; try go_simp
        refine tkU 16 ?_; try go_simp
        refine tkU 17 ?_; try go_simp
        refine tkU 18 ?_; try go_simp
        refine tkH 19 ?_; try go_simp
        refine tkH 20 ?_; try go_simp
        refine wpAnyH_done (by kernel_rfl) ?_ _
        clear hHeld
        go_wp2_with fail
        go_ret
        exact VcPo.is ((show (false) = true ↔ ndB N cn R = true by rw [HNd.out]).trans ((clm_up (N := N) (cn := cn) (R := R) (P := P) (K := K) (V := V) (S := S) (X := X)).2.2.2.symm.trans HCh.out.symm)) HB5.out
      have hr1 : 0 < nr := by omega
      have q1 : decide ((0 : Int) < (nr : Int)) = true := by simp; omega
      have q3 : decide (0 < nr) = true := by simp; omega
      obtain ⟨r, hr2⟩ : ∃ r : Nat, nr = r + 1 := ⟨nr - 1, by omega⟩
      have hrR : r < R.length := by rw [HC4.out.rl]; omega
      obtain ⟨ar, rfl, _, r0⟩ := HC4.out.r r hrR
      have hnd : ndB N cn R = decide (R[r] = cn) := by
       unfold ndB
       rw [hrd, HC4.out.rl, q3, show nr - 1 = r by omega]
       simp [hrR]
      have HNd := hid hnd
      generalize R[r] = rl at *
      have hri : (nr : Int) - 1 = (r : Int) := by omega
      have hkw : IntKind.i64.wrap (r : Int) = (r : Int) := IntWalk.i64_in _ (by have := HC4.out.rb; omega)
      have hr5 : (0 : Int) ≤ (r : Int) := by omega
      have hr6 : (r : Int) < (nr : Int) := by omega
      have hr7 : r < nr := by omega
      clear hr0 hr2 hrR hnd hrd
      by_cases hcn : rl = cn
      · have q4 : (rl == cn) = true := by simp [hcn]
        have hd : decide (rl = cn) = true := decide_eq_true hcn
        rw [hd] at HNd
        clear hcn hd
        have hbd : Below w4.heap.size w4 w4.drew := (Below.refl _ _).drew
        have HB5 := hid (HB4.out.trans (hbd.mono HB4.out.size))
        have HCb5 := hid (HCb4.out.below hbd)
        obtain ⟨d0, d1, d2, d3, d4, d5, d6, d7⟩ := HCb5.out.cells
        replace r0 := cell_stays hbd r0
        have hS0 := And.intro d1 (And.intro d2 (r0))
        refine wp_region_held_drew (S := fun w' => w'.cell? ⟨cb, 1, none⟩ = some (.int .i64 cn) ∧ w'.cell? ⟨cb, 2, none⟩ = some (.slice (some ar) nr cr) ∧ w'.cell? (ar.add r) = some (.int .i64 rl)) (by kernel_rfl) hS0 (fun hHeld => ?_)
        clear hS0 hbd d0 d1 d2 d3 d4 d5 d6 d7
        clear HB4 HCb4
        generalize w4.drew = w5 at *
        clear r0
        refine tkH 0 ?_; try go_simp
        refine tkH 1 ?_; try go_simp
        refine tkH 2 ?_; try go_simp
        refine tkH 3 ?_; try go_simp
        refine tkH 4 ?_; try go_simp
        refine tkH 5 ?_; try go_simp
        refine tkH 6 ?_; try go_simp
        refine tkH 7 ?_; try go_simp
        refine tkH 8 ?_; try go_simp
        refine tkH 9 ?_; try go_simp
        refine tkH 10 ?_; try go_simp
        refine tkH 11 ?_; try go_simp
        refine tkH 12 ?_; try go_simp
        refine tkH 13 ?_; try go_simp
        refine tkH 14 ?_; try go_simp
        refine tkH 15 ?_; try go_simp
        refine tkH 16 ?_; try go_simp
        refine tkH 17 ?_; try go_simp
        refine tkH 18 ?_; try go_simp
        refine tkH 19 ?_; try go_simp
        refine tkH 20 ?_; try go_simp
        refine wpAnyH_done (by kernel_rfl) ?_ _
        clear hHeld
        go_wp2_with fail
        go_ret
        exact VcPo.is ((show (true) = true ↔ ndB N cn R = true by rw [HNd.out]).trans ((clm_up (N := N) (cn := cn) (R := R) (P := P) (K := K) (V := V) (S := S) (X := X)).2.2.2.symm.trans HCh.out.symm)) HB5.out
      · have q4 : (rl == cn) = false := by rw [beq_eq_false_iff_ne]; exact hcn
        have hd : decide (rl = cn) = false := decide_eq_false hcn
        rw [hd] at HNd
        clear hcn hd
        have hbd : Below w4.heap.size w4 w4.drew := (Below.refl _ _).drew
        have HB5 := hid (HB4.out.trans (hbd.mono HB4.out.size))
        have HCb5 := hid (HCb4.out.below hbd)
        obtain ⟨d0, d1, d2, d3, d4, d5, d6, d7⟩ := HCb5.out.cells
        replace r0 := cell_stays hbd r0
        have hS0 := And.intro d1 (And.intro d2 (r0))
        refine wp_region_held_drew (S := fun w' => w'.cell? ⟨cb, 1, none⟩ = some (.int .i64 cn) ∧ w'.cell? ⟨cb, 2, none⟩ = some (.slice (some ar) nr cr) ∧ w'.cell? (ar.add r) = some (.int .i64 rl)) (by kernel_rfl) hS0 (fun hHeld => ?_)
        clear hS0 hbd d0 d1 d2 d3 d4 d5 d6 d7
        clear HB4 HCb4
        generalize w4.drew = w5 at *
        clear r0
        refine tkH 0 ?_; try go_simp
        refine tkH 1 ?_; try go_simp
        refine tkH 2 ?_; try go_simp
        refine tkH 3 ?_; try go_simp
        refine tkH 4 ?_; try go_simp
        refine tkH 5 ?_; try go_simp
        refine tkH 6 ?_; try go_simp
        refine tkH 7 ?_; try go_simp
        refine tkH 8 ?_; try go_simp
        refine tkH 9 ?_; try go_simp
        refine tkH 10 ?_; try go_simp
        refine tkH 11 ?_; try go_simp
        refine tkH 12 ?_; try go_simp
        refine tkH 13 ?_; try go_simp
        refine tkH 14 ?_; try go_simp
        refine tkH 15 ?_; try go_simp
        refine tkH 16 ?_; try go_simp
        refine tkH 17 ?_; try go_simp
        refine tkH 18 ?_; try go_simp
        refine tkH 19 ?_; try go_simp
        refine tkH 20 ?_; try go_simp
        refine wpAnyH_done (by kernel_rfl) ?_ _
        clear hHeld
        go_wp2_with fail
        go_ret
        exact VcPo.is ((show (false) = true ↔ ndB N cn R = true by rw [HNd.out]).trans ((clm_up (N := N) (cn := cn) (R := R) (P := P) (K := K) (V := V) (S := S) (X := X)).2.2.2.symm.trans HCh.out.symm)) HB5.out
    have HN := hid (show ¬ Q by rw [HCh.out]; exact clm_out (by omega))
    have x1 : (cl == 1) = false := by rw [beq_eq_false_iff_ne]; omega
    have x2 : (cl == 2) = false := by rw [beq_eq_false_iff_ne]; omega
    have x3 : (cl == 3) = false := by rw [beq_eq_false_iff_ne]; omega
    have x4 : (cl == 4) = false := by rw [beq_eq_false_iff_ne]; omega
    have x5 : (cl == 5) = false := by rw [beq_eq_false_iff_ne]; omega
    have x6 : (cl == 6) = false := by rw [beq_eq_false_iff_ne]; omega
    have x7 : (cl == 7) = false := by rw [beq_eq_false_iff_ne]; omega
    have x8 : (cl == 8) = false := by rw [beq_eq_false_iff_ne]; omega
    clear hcl h5 h6 h7 h8
    rcases hgo with hg | hg
    · have q4 : decide ((1 : Int) ≤ cl) = false := by simp; omega
      clear hg
      go_wp2_with fail
      go_ret
      exact VcPo.no HN.out HB3.out
    · have q4 : decide ((1 : Int) ≤ cl) = true := by simp; omega
      have q5 : decide (cl ≤ 4) = false := by simp; omega
      clear hg
      go_wp2_with fail
      go_ret
      exact VcPo.no HN.out HB3.out
end Go.Proofs.YtpnhcimmlnjfaaaDoor
