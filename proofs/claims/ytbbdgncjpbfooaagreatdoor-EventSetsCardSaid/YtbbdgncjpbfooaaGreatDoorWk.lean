/- EventSets: what a call returns. -/
import Derived.Test.YtbbdgncjpbfooaaGreatDoorWj
import Derived.Test.YtbbdgncjpbfooaaGreatDoorVe
import Derived.Test.YtbbdgncjpbfooaaGreatDoorEu
import Derived.Deep.DeepCutAuto
namespace Go.Proofs.YtbbdgncjpbfooaaGreatDoor
open Go.RowKit

/-- while EventSets runs: the event's block, the block of the event that is changed, the fields -/
def StS (w wr : World) (e : Ev) (A : Option Addr) (n c : Nat) (Al : Option Addr) (L : List Fd) (bx : Nat) (D : List Fd) (A' : Option Addr) (c' : Nat) : Prop :=
  EB wr w.heap.size e A n c ∧ FdIn wr A e.d ∧ FdIn wr Al L ∧ EB wr bx (e.wd D) A' D.length c' ∧ FdIn wr A' D ∧ w.heap.size < bx ∧ Below w.heap.size w wr
section
variable {w wr w' : World} {e : Ev} {A : Option Addr} {n c : Nat} {Al : Option Addr} {L : List Fd} {bx : Nat} {D : List Fd} {A' : Option Addr} {c' : Nat}
theorem StS.eb (h : StS w wr e A n c Al L bx D A' c') : EB wr w.heap.size e A n c := h.1
theorem StS.fd (h : StS w wr e A n c Al L bx D A' c') : FdIn wr A e.d := h.2.1
theorem StS.fl (h : StS w wr e A n c Al L bx D A' c') : FdIn wr Al L := h.2.2.1
theorem StS.xb (h : StS w wr e A n c Al L bx D A' c') : EB wr bx (e.wd D) A' D.length c' := h.2.2.2.1
theorem StS.fx (h : StS w wr e A n c Al L bx D A' c') : FdIn wr A' D := h.2.2.2.2.1
theorem StS.ne (h : StS w wr e A n c Al L bx D A' c') : w.heap.size < bx := h.2.2.2.2.2.1
theorem StS.bel (h : StS w wr e A n c Al L bx D A' c') : Below w.heap.size w wr := h.2.2.2.2.2.2
theorem StS.below (h : StS w wr e A n c Al L bx D A' c') (hb : Below wr.heap.size wr w') : StS w w' e A n c Al L bx D A' c' :=
  ⟨h.1.below hb, h.2.1.below hb, h.2.2.1.below hb, h.2.2.2.1.below hb, h.2.2.2.2.1.below hb, h.2.2.2.2.2.1, below_then h.2.2.2.2.2.2 hb⟩
end
/-- the first loop -/
def L1R (w wr : World) (e : Ev) (A : Option Addr) (n c : Nat) (Al : Option Addr) (m : Nat) (L : List Fd) (bx : Nat) (g : Nat) (iv : Value) : Prop :=
  ∃ (k : Nat) (D : List Fd) (A' : Option Addr) (c' : Nat), k + g = m ∧ iv = .int .i64 k ∧ D = setsL e.d (L.take k) ∧ (e.wd D).ok = true ∧ StS w wr e A n c Al L bx D A' c'
/-- the second loop -/
def L2R (w wr : World) (e : Ev) (A : Option Addr) (n c : Nat) (Al : Option Addr) (L : List Fd) (bx : Nat) (D : List Fd) (A' : Option Addr) (c' : Nat) (A2 : Option Addr) (t g : Nat) (iv : Value) : Prop :=
  ∃ k : Nat, k + g = t ∧ iv = .int .i64 k ∧ StS w wr e A n c Al L bx D A' c' ∧ FdIn wr A2 (e.d ++ L)
/-- the loop within it -/
def L3R (w0 wr : World) (m : Nat) (L : List Fd) (f : Fd) (bf bw g : Nat) (iv : Value) : Prop :=
  ∃ j : Nat, j + g = m ∧ iv = .int .i64 j ∧ FB wr bf f ∧ VB wr bw (lastV (L.take j) f.nm f.v) ∧ Below w0.heap.size w0 wr
/-- the last loop -/
def L4R (w wr : World) (e : Ev) (A : Option Addr) (n c : Nat) (Al : Option Addr) (L : List Fd) (bx : Nat) (D : List Fd) (A' : Option Addr) (c' : Nat) (g : Nat) (iv : Value) : Prop :=
  ∃ k : Nat, k + g = D.length ∧ iv = .int .i64 k ∧ StS w wr e A n c Al L bx D A' c'
theorem FB.far {w : World} {b : Nat} {f : Fd} (h : FB w b f) {g o : Nat} (hne : b ≠ g) (u : Value) : FB (w.setCell ⟨g, o, none⟩ u) b f := by
  unfold FB at h ⊢
  rw [← h]
  show (w.heap.modify g _)[b]? = _
  simp [Array.getElem?_modify, Ne.symm hne]
theorem fdin_nil (w : World) (A : Option Addr) : FdIn w A ev0.d := fun i hi => by simp [ev0] at hi
theorem set6_keep {w : World} {b : Nat} {e : Ev} {A : Option Addr} {n cap : Nat} (h : EB w b e A n cap) {g : Nat} (hne : b ≠ g) (x0 x1 x2 x3 x4 x5 : Value) :
    EB ((((((w.setCell ⟨g, 0, none⟩ x0).setCell ⟨g, 1, none⟩ x1).setCell ⟨g, 2, none⟩ x2).setCell ⟨g, 3, none⟩ x3).setCell ⟨g, 4, none⟩ x4).setCell ⟨g, 5, none⟩ x5) b e A n cap :=
  (((((h.other hne x0).other hne x1).other hne x2).other hne x3).other hne x4).other hne x5
theorem cell_other {w : World} {a : Addr} {u : Value} (h : w.cell? a = some u) {g o : Nat} (hne : a.block ≠ g) (x : Value) : (w.setCell ⟨g, o, none⟩ x).cell? a = some u := by
  rw [World.cell?_setCell_far _ _ _ _ (Ne.symm hne)]; exact h
/-- a field does not lie in an event's block -/
theorem fd_clash {w : World} {b : Nat} {e : Ev} {A : Option Addr} {n cap : Nat} (h : EB w b e A n cap) {p : Addr} {f : Fd} (hf : FdAt w p f) : p.block ≠ b := by
  rintro rfl
  obtain ⟨blk, off, sp⟩ := p
  obtain ⟨h0, h1, h2, h3⟩ := hf
  unfold EB at h
  simp only [World.cell?, h] at h0 h1 h2 h3
  match off, h0, h1, h2, h3 with
  | 0, _, h1, _, _ => simp at h1
  | 1, _, h1, _, _ => simp at h1
  | 2, _, _, _, h3 => simp at h3
  | 3, h0, _, _, _ => simp at h0
  | 4, h0, _, _, _ => simp at h0
  | 5, h0, _, _, _ => simp at h0
  | k + 6, h0, _, _, _ => simp at h0
theorem fd_set6 {w : World} {A : Option Addr} {L : List Fd} (h : FdIn w A L) {g : Nat} {e : Ev} {B : Option Addr} {n cap : Nat} (hE : EB w g e B n cap) (x0 x1 x2 x3 x4 x5 : Value) :
    FdIn ((((((w.setCell ⟨g, 0, none⟩ x0).setCell ⟨g, 1, none⟩ x1).setCell ⟨g, 2, none⟩ x2).setCell ⟨g, 3, none⟩ x3).setCell ⟨g, 4, none⟩ x4).setCell ⟨g, 5, none⟩ x5) A L := by
  intro i hi
  obtain ⟨ad, e, h1, h2⟩ := h i hi
  have hb := fd_clash hE h2
  obtain ⟨h2, h3, h4, h5⟩ := h2
  have k : ∀ (a : Addr) (u : Value), a.block = (ad.add (i * 4)).block → w.cell? a = some u → ((((((w.setCell ⟨g, 0, none⟩ x0).setCell ⟨g, 1, none⟩ x1).setCell ⟨g, 2, none⟩ x2).setCell ⟨g, 3, none⟩ x3).setCell ⟨g, 4, none⟩ x4).setCell ⟨g, 5, none⟩ x5).cell? a = some u := fun a u ha hc => by
    have hn : a.block ≠ g := by rw [ha]; exact hb
    exact cell_other (cell_other (cell_other (cell_other (cell_other (cell_other hc hn x0) hn x1) hn x2) hn x3) hn x4) hn x5
  exact ⟨ad, e, by simpa using h1, k _ _ rfl h2, k _ _ rfl h3, k _ _ rfl h4, k _ _ rfl h5⟩
set_option maxHeartbeats 12800000 in
set_option maxRecDepth 100000 in
theorem eventSets_walk (e : Ev) (A : Option Addr) (n c : Nat) (Al : Option Addr) (m cl : Nat) (L : List Fd) (w : World) (hP : PW w) (h : FdIn w A e.d) (hn : e.d.length = n) (hc : n ≤ c) (hcm : c ≤ 9223372036854775807) (hf : e.fit 9223372036854775807)
    (hL : FdIn w Al L) (hm : L.length = m) (hmc : m ≤ cl) (_ : cl ≤ 9223372036854775807) (hfL : ∀ f ∈ L, f.nm.size ≤ 9223372036854775807 ∧ f.v.s.size ≤ 9223372036854775807) :
    Calls Tryz.prog 6 #[.agg #[.string e.c, .string e.a, .string e.r, .int .i64 e.life, .int .i64 e.time, .slice A n c], .slice Al m cl] w fun x w' => x = .returned (.bool true) ∧ Below w.heap.size w w' := by
  have HG := Lib.hid (fun w h => great_any e A n c w h hn (by omega) hf)
  have HE := Lib.hid (EB.new w e A n c)
  have HB := Lib.hid (below_alloc w (.cells #[.string e.c, .string e.a, .string e.r, .int .i64 e.life, .int .i64 e.time, .slice A n c] 24))
  have HP := Lib.hid (hP.below HB.out)
  have H0 := Lib.hid h
  have HL0 := Lib.hid hL
  have HFit := Lib.hid (fun h => fit_of (e := e) h)
  have HN := Lib.hid hn
  have HM := Lib.hid hm
  have HFL := Lib.hid hfL
  clear hP h hn hf hL hm hfL
  go_enter Tryz.func6, Tryz.ntmps6
  go_wp2_with fail
  generalize w.alloc (.cells #[.string e.c, .string e.a, .string e.r, .int .i64 e.life, .int .i64 e.time, .slice A n c] 24) = w0 at *
  ((with_reducible refine (awake_any _ HP.out).mono ?_); rintro x w1 ⟨rfl, hb1⟩)
  replace HE := Lib.hid (HE.out.below hb1)
  replace HB := Lib.hid (below_then HB.out hb1)
  clear hb1 HP
  obtain ⟨x0, x1, x2, x3, x4, x5⟩ := HE.out.cells
  cases hg : grE e with
  | true =>
    rw [hg] at HG
    clear hg
    go_wp2_with fail
    ((with_reducible refine (HG.out _ (H0.out.below HB.out)).mono ?_); rintro x w2 ⟨rfl, hb2⟩)
    go_wp2_with fail
    go_ret
    exact ⟨rfl, below_then HB.out hb2⟩
  | false =>
    obtain ⟨hfit, hl⟩ := HFit.out hg
    have HFIT := Lib.hid hfit
    rw [hg] at HG
    clear hg hfit HFit
    by_cases hm12 : 12 < m
    · have q : (12 : Int) < (m : Int) := by omega
      clear hm12
      go_wp2_with fail
      ((with_reducible refine (HG.out _ (H0.out.below HB.out)).mono ?_); rintro x w2 ⟨rfl, hb2⟩)
      go_wp2_with fail
      go_ret
      exact ⟨rfl, below_then HB.out hb2⟩
    · have q : (m : Int) ≤ 12 := by omega
      have q' : decide ((12 : Int) < (m : Int)) = false := by simp; omega
      go_wp2_with fail
      ((with_reducible refine (HG.out _ (H0.out.below HB.out)).mono ?_); rintro x w2 ⟨rfl, hb2⟩)
      replace HE := Lib.hid (HE.out.below hb2)
      replace HB := Lib.hid (below_then HB.out hb2)
      clear hb2 HG x0 x1 x2 x3 x4 x5
      obtain ⟨x0, x1, x2, x3, x4, x5⟩ := HE.out.cells
      have HV := Lib.hid (fun w h => revalid_any e A n c w h HN.out (by have := HN.out; omega) HFIT.out)
      go_wp2_with fail
      ((with_reducible refine (HV.out _ (H0.out.below HB.out)).mono ?_); rintro x w3 ⟨rfl, hb3⟩)
      replace HE := Lib.hid (HE.out.below hb3)
      replace HB := Lib.hid (below_then HB.out hb3)
      clear hb3 HV x0 x1 x2 x3 x4 x5
      cases hok : e.ok with
      | false =>
        clear hok
        go_wp2_with fail
        go_ret
        exact ⟨rfl, HB.out⟩
      | true =>
        have HOk := Lib.hid hok
        have HC := Lib.hid (fcont_bad Al m cl L w3 (HL0.out.below HB.out) HM.out (by omega) HFL.out)
        clear hok
        cases hbad : L.any badF with
        | true =>
          rw [hbad] at HC
          clear hbad
          go_wp2_with fail
          ((with_reducible refine HC.out.mono ?_); rintro x w4 ⟨rfl, hb4⟩)
          go_wp2_with fail
          go_ret
          exact ⟨rfl, below_then HB.out hb4⟩
        | false =>
          rw [hbad] at HC
          have HBad := Lib.hid (show ∀ f ∈ L, badF f = false from fun f hf => by
            cases hb : badF f with
            | false => rfl
            | true => rw [List.any_eq_true.2 ⟨f, hf, hb⟩] at hbad; cases hbad)
          clear hbad
          go_wp2_with fail
          ((with_reducible refine HC.out.mono ?_); rintro x w4 ⟨rfl, hb4⟩)
          have HE4 := Lib.hid (HE.out.below hb4)
          have HB4 := Lib.hid (below_then HB.out hb4)
          clear hb4 HC HE HB
          obtain ⟨x0, x1, x2, x3, x4, x5⟩ := HE4.out.cells
          have HS := Lib.hid (show StS w (w4.alloc (.cells #[.string e.c, .string e.a, .string e.r, .int .i64 e.life, .int .i64 e.time, .slice A n c] 24)) e A n c Al L w4.heap.size e.d A c from by
            have ha := below_alloc w4 (.cells #[.string e.c, .string e.a, .string e.r, .int .i64 e.life, .int .i64 e.time, .slice A n c] 24)
            have hbb := below_then HB4.out ha
            refine ⟨HE4.out.below ha, H0.out.below hbb, HL0.out.below hbb, ?_, H0.out.below hbb, HE4.out.lt, hbb⟩
            have := EB.new w4 e A n c
            rw [HN.out]; exact this)
          have HOK0 := Lib.hid (show (e.wd e.d).ok = true from HOk.out)
          have hbx := HS.out.ne
          go_wp2_with fail
          generalize w4.alloc (.cells #[.string e.c, .string e.a, .string e.r, .int .i64 e.life, .int .i64 e.time, .slice A n c] 24) = w5 at *
          obtain ⟨bx, hbxe⟩ : ∃ bx, bx = w4.heap.size := ⟨_, rfl⟩
          rw [← hbxe] at HS hbx ⊢
          clear hbxe HE4 HB4 x0 x1 x2 x3 x4 x5
          go_loopg [40] (m) (fun g iv wr => L1R w wr e A n c Al m L bx g iv)
          case atStart => exact ⟨0, e.d, A, c, by omega, rfl, rfl, HOK0.out, HS.out⟩
          case round =>
            obtain ⟨k, D, A', c', hk, rfl, hD, hok, hS⟩ := hrel
            have HK := Lib.hid hk
            have HD := Lib.hid hD
            have HOK := Lib.hid hok
            have HS2 := Lib.hid hS
            have hle : k ≤ m := by omega
            clear hk hD hok hS HS HOK0
            obtain ⟨x0, x1, x2, x3, x4, x5⟩ := HS2.out.xb.cells
            obtain ⟨y0, y1, y2, y3, y4, y5⟩ := HS2.out.xb.fr
            simp only [Ev.wd] at x0 x1 x2 x3 x4 x5
            have hbxl := HS2.out.xb.lt
            by_cases hlt : k < m
            · have hlt' : k < L.length := by rw [HM.out]; exact hlt
              obtain ⟨ad, rfl, hpa, m0, m1, m2, m3⟩ := HS2.out.fl k hlt'
              have HSn := Lib.hid (sets_snoc e.d L k hlt')
              rw [← HD.out] at HSn
              have hst := set_step e D L[k] HOk.out HOK.out (HBad.out _ (List.getElem_mem hlt'))
              have hbf := HBad.out _ (List.getElem_mem hlt')
              have HSt := Lib.hid hst
              have hsm : L[k].nm.size ≤ 9223372036854775000 ∧ L[k].v.s.size ≤ 9223372036854775000 := by
                obtain ⟨b1, b2⟩ := badF_no hbf
                have := (name_pr _ b1).2.1
                have := val_small _ b2
                rw [len_byte] at *
                omega
              clear hst hbf
              generalize L[k] = f at *
              clear hlt'
              obtain ⟨fn, fk, fi, fs⟩ := f
              simp only at m0 m1 m2 m3 hsm HSt HSn
              have HWI := Lib.hid (fun w h => (show Calls Tryz.prog 19 #[.agg #[.string e.c, .string e.a, .string e.r, .int .i64 e.life, .int .i64 e.time, .slice A' D.length c'], .string fn, .agg #[.int .i64 fk, .int .i64 fi, .string fs]] w (EpPost (wiR (e.wd D) fn ⟨fk, fi, fs⟩) w) from
                ewith_any (e.wd D) A' D.length c' fn ⟨fk, fi, fs⟩ w h rfl (by have : D.length ≤ 8 := (ok_small _ HOK.out).2.1; omega) (ok_small _ HOK.out).1 hsm.1 (by show fs.size ≤ _; omega)))
              have HSa := Lib.hid (HS2.out.below (below_alloc wr (.cells #[.string fn, .int .i64 fk, .int .i64 fi, .string fs] 49)))
              rcases HSt.out with ⟨hR, h8⟩ | ⟨hR, hok'⟩
              · have q8 : ((D.length : Int) == 8) = true := by rw [h8]; rfl
                rw [hR] at HWI
                clear hR h8 HSt HSn
                go_wp2_with fail
                ((with_reducible refine (HWI.out _ HSa.out.fx).mono ?_); rintro x w6 ⟨hx, hb6⟩)
                have hx' : x = .returned (.tuple #[.agg #[.string ⟨#[]⟩, .string ⟨#[]⟩, .string ⟨#[]⟩, .int .i64 0, .int .i64 0, .slice none 0 0], .int .i64 5]) := hx
                clear hx; subst hx'
                have HSb := Lib.hid ((HSa.out.below hb6).below (below_alloc w6 (.cells #[.string ⟨#[]⟩, .string ⟨#[]⟩, .string ⟨#[]⟩, .int .i64 0, .int .i64 0, .slice none 0 0] 24)))
                have hsm2 := rsame_any ev0 ev0 none none 0 0 0 0 (w6.alloc (.cells #[.string ⟨#[]⟩, .string ⟨#[]⟩, .string ⟨#[]⟩, .int .i64 0, .int .i64 0, .slice none 0 0] 24)) (fdin_nil _ none) (fdin_nil _ none) rfl rfl (by omega) (by omega)
                rw [sameE_refl] at hsm2
                have HSM := Lib.hid (show Calls Tryz.prog 13 #[.agg #[.string ⟨#[]⟩, .string ⟨#[]⟩, .string ⟨#[]⟩, .int .i64 0, .int .i64 0, .slice none 0 0], .agg #[.string ⟨#[]⟩, .string ⟨#[]⟩, .string ⟨#[]⟩, .int .i64 0, .int .i64 0, .slice none 0 0]] (w6.alloc (.cells #[.string ⟨#[]⟩, .string ⟨#[]⟩, .string ⟨#[]⟩, .int .i64 0, .int .i64 0, .slice none 0 0] 24)) (fun x w' => x = .returned (.bool true) ∧ Below (w6.alloc (.cells #[.string ⟨#[]⟩, .string ⟨#[]⟩, .string ⟨#[]⟩, .int .i64 0, .int .i64 0, .slice none 0 0] 24)).heap.size (w6.alloc (.cells #[.string ⟨#[]⟩, .string ⟨#[]⟩, .string ⟨#[]⟩, .int .i64 0, .int .i64 0, .slice none 0 0] 24)) w') from hsm2)
                clear hb6 hsm2 x0 x1 x2 x3 x4 x5 y0 y1 y2 y3 y4 y5 m0 m1 m2 m3
                go_wp2_with fail
                ((with_reducible refine HSM.out.mono ?_); rintro x w7 ⟨rfl, hb7⟩)
                have HSc := Lib.hid (HSb.out.below hb7)
                clear hb7
                obtain ⟨x0, x1, x2, x3, x4, x5⟩ := HSc.out.xb.cells
                simp only [Ev.wd] at x0 x1 x2 x3 x4 x5
                go_wp2_with fail
                go_ret
                exact ⟨rfl, HSc.out.bel⟩
              · rw [hR] at HWI
                generalize setF D fn ⟨fk, fi, fs⟩ = DD at *
                have HOK2 := Lib.hid hok'
                clear hR hok' HSt
                go_wp2_with fail
                ((with_reducible refine (HWI.out _ HSa.out.fx).mono ?_); rintro x w6 ⟨A6, c6, hx, hf6, hb6⟩)
                have hx' : x = .returned (.tuple #[.agg #[.string e.c, .string e.a, .string e.r, .int .i64 e.life, .int .i64 e.time, .slice A6 DD.length c6], .int .i64 0]) := hx
                clear hx; subst hx'
                have HSb := Lib.hid ((HSa.out.below hb6).below (below_alloc w6 (.cells #[.string e.c, .string e.a, .string e.r, .int .i64 e.life, .int .i64 e.time, .slice A6 DD.length c6] 24)))
                have HF6 := Lib.hid (show FdIn (w6.alloc (.cells #[.string e.c, .string e.a, .string e.r, .int .i64 e.life, .int .i64 e.time, .slice A6 DD.length c6] 24)) A6 DD from FdIn.below (show FdIn w6 A6 DD from hf6) (below_alloc w6 (.cells #[.string e.c, .string e.a, .string e.r, .int .i64 e.life, .int .i64 e.time, .slice A6 DD.length c6] 24)))
                have HY := Lib.hid (show EB (w6.alloc (.cells #[.string e.c, .string e.a, .string e.r, .int .i64 e.life, .int .i64 e.time, .slice A6 DD.length c6] 24)) w6.heap.size (e.wd DD) A6 DD.length c6 from EB.new w6 (e.wd DD) A6 DD.length c6)
                have hv1 := fun w h => evalid_any (e.wd DD) A6 DD.length c6 w h rfl (by have : DD.length ≤ 8 := (ok_small _ HOK2.out).2.1; omega) (ok_small _ HOK2.out).1
                have hv2 := fun w h => revalid_any (e.wd DD) A6 DD.length c6 w h rfl (by have : DD.length ≤ 8 := (ok_small _ HOK2.out).2.1; omega) (ok_small _ HOK2.out).1
                rw [HOK2.out] at hv1 hv2
                have HV1 := Lib.hid (fun w h => (show Calls Tryz.prog 14 #[.agg #[.string e.c, .string e.a, .string e.r, .int .i64 e.life, .int .i64 e.time, .slice A6 DD.length c6]] w (fun x w' => x = .returned (.bool true) ∧ Below w.heap.size w w') from hv1 w h))
                have HV2 := Lib.hid (fun w h => (show Calls Tryz.prog 15 #[.agg #[.string e.c, .string e.a, .string e.r, .int .i64 e.life, .int .i64 e.time, .slice A6 DD.length c6]] w (fun x w' => x = .returned (.bool true) ∧ Below w.heap.size w w') from hv2 w h))
                clear hf6 hb6 hv1 hv2 x0 x1 x2 x3 x4 x5 y0 y1 y2 y3 y4 y5 m0 m1 m2 m3
                go_wp2_with fail
                ((with_reducible refine (HV1.out _ HF6.out).mono ?_); rintro x w7 ⟨rfl, hb7⟩)
                replace HSb := Lib.hid (HSb.out.below hb7)
                replace HF6 := Lib.hid (HF6.out.below hb7)
                replace HY := Lib.hid (HY.out.below hb7)
                clear hb7
                obtain ⟨x0, x1, x2, x3, x4, x5⟩ := HY.out.cells
                simp only [Ev.wd] at x0 x1 x2 x3 x4 x5
                go_wp2_with fail
                ((with_reducible refine (HV2.out _ HF6.out).mono ?_); rintro x w8 ⟨rfl, hb8⟩)
                replace HSb := Lib.hid (HSb.out.below hb8)
                replace HF6 := Lib.hid (HF6.out.below hb8)
                replace HY := Lib.hid (HY.out.below hb8)
                clear hb8 x0 x1 x2 x3 x4 x5
                obtain ⟨x0, x1, x2, x3, x4, x5⟩ := HY.out.cells
                obtain ⟨y0, y1, y2, y3, y4, y5⟩ := HSb.out.xb.fr
                obtain ⟨z0, z1, z2, z3, z4, z5⟩ := HSb.out.xb.cells
                simp only [Ev.wd] at x0 x1 x2 x3 x4 x5 z0 z1 z2 z3 z4 z5
                go_wp2_with fail
                have HFin := Lib.hid (show StS w ((((((w8.setCell ⟨bx, 0, none⟩ (.string e.c)).setCell ⟨bx, 1, none⟩ (.string e.a)).setCell ⟨bx, 2, none⟩ (.string e.r)).setCell ⟨bx, 3, none⟩ (.int .i64 e.life)).setCell ⟨bx, 4, none⟩ (.int .i64 e.time)).setCell ⟨bx, 5, none⟩ (.slice A6 DD.length c6)) e A n c (some ad) L bx DD A6 c6 from by
                  have hb := bset6 HSb.out.bel (show w.heap.size ≤ bx by omega) (.string e.c) (.string e.a) (.string e.r) (.int .i64 e.life) (.int .i64 e.time) (.slice A6 DD.length c6)
                  exact ⟨set6_keep HSb.out.eb (by omega) _ _ _ _ _ _, H0.out.below hb, HL0.out.below hb, HSb.out.xb.set e.c e.a e.r e.life e.time A6 DD.length c6 DD, fd_set6 HF6.out HSb.out.xb _ _ _ _ _ _, hbx, hb⟩)
                go_roundg (gk - 1)
                case measure => have := HK.out; omega
                case rel => exact ⟨k + 1, DD, A6, c6, by have := HK.out; omega, by go_num, HSn.out.symm, HOK2.out, HFin.out⟩
            · obtain rfl : k = m := by omega
              have HD2 := Lib.hid (show D = setsL e.d L from by rw [HD.out, List.take_of_length_le (by rw [HM.out]; omega)])
              have HSq := HS2
              clear HK HD HS2 y0 y1 y2 y3 y4 y5 x0 x1 x2 x3 x4 x5
              have HCc := Lib.hid (fconcat_any wr.heap.size A Al n c k cl e.d L (wr.alloc (.cells #[.slice A n c, .slice Al k cl] 22)) (heap_alloc_new wr _) (HSq.out.fd.below (below_alloc wr (.cells #[.slice A n c, .slice Al k cl] 22))) (HSq.out.fl.below (below_alloc wr (.cells #[.slice A n c, .slice Al k cl] 22))) HN.out HM.out (by have := HN.out; omega) (by omega))
              have HSr := Lib.hid (HSq.out.below (below_alloc wr (.cells #[.slice A n c, .slice Al k cl] 22)))
              obtain ⟨x0, x1, x2, x3, x4, x5⟩ := HSq.out.eb.cells
              go_wp2_with fail
              ((with_reducible refine HCc.out.mono ?_); rintro x w6 ⟨v2, rfl, hown, hb6⟩)
              have HSt := Lib.hid (HSr.out.below hb6)
              obtain ⟨A2, c2, rfl, hfd2, hl2, _, _⟩ := own_fdin hown
              have HF2 := Lib.hid hfd2
              have HL2 := Lib.hid hl2
              clear hown hb6 hfd2 hl2 HSr HSq HCc x0 x1 x2 x3 x4 x5
              go_wp2_with fail
              go_loopg [84] (n + k) (fun g iv wr => L2R w wr e A n c Al L bx D A' c' A2 (n + k) g iv)
              case atStart => exact ⟨0, by omega, rfl, HSt.out, HF2.out⟩
              case round =>
                obtain ⟨i, hi, rfl, hS, hF⟩ := hrel
                obtain ⟨go, rfl⟩ : ∃ go, go = gk := ⟨_, rfl⟩
                have HK := Lib.hid hi
                have HSq := Lib.hid hS
                have HFq := Lib.hid hF
                have hle2 : i ≤ n + k := by omega
                have hbq := hS.xb.lt
                clear hi hS hF HSt HF2
                by_cases hlt2 : i < n + k
                · have hlti : (i : Int) < (n : Int) + (k : Int) := by omega
                  have hlt' : i < (e.d ++ L).length := by rw [HL2.out]; exact hlt2
                  obtain ⟨ad, rfl, hpa, m0, m1, m2, m3⟩ := HFq.out i hlt'
                  have HLast := Lib.hid (sets_last e.d L (ok_small e HOk.out).2.2.1 _ (List.getElem_mem hlt'))
                  rw [← HD2.out] at HLast
                  generalize (e.d ++ L)[i] = f at *
                  clear hlt'
                  obtain ⟨fn, fk, fi, fs⟩ := f
                  simp only at m0 m1 m2 m3 HLast
                  have HFB := Lib.hid (show FB ((wr.alloc (.cells #[.string fn, .int .i64 fk, .int .i64 fi, .string fs] 49)).alloc (.cells #[.int .i64 fk, .int .i64 fi, .string fs] 39)) wr.heap.size ⟨fn, ⟨fk, fi, fs⟩⟩ from FB.below (FB.new wr ⟨fn, ⟨fk, fi, fs⟩⟩) (below_alloc _ _))
                  have hvb := VB.new (wr.alloc (.cells #[.string fn, .int .i64 fk, .int .i64 fi, .string fs] 49)) ⟨fk, fi, fs⟩
                  rw [World.size_alloc] at hvb
                  have HVB := Lib.hid (show VB ((wr.alloc (.cells #[.string fn, .int .i64 fk, .int .i64 fi, .string fs] 49)).alloc (.cells #[.int .i64 fk, .int .i64 fi, .string fs] 39)) (wr.heap.size + 1) ⟨fk, fi, fs⟩ from hvb)
                  have HBl := Lib.hid (two_boxes wr (.cells #[.string fn, .int .i64 fk, .int .i64 fi, .string fs] 49) (.cells #[.int .i64 fk, .int .i64 fi, .string fs] 39))
                  clear hvb
                  go_wp2_with fail
                  generalize (wr.alloc (.cells #[.string fn, .int .i64 fk, .int .i64 fi, .string fs] 49)).alloc (.cells #[.int .i64 fk, .int .i64 fi, .string fs] 39) = w8 at HFB HVB HBl ⊢
                  clear m0 m1 m2 m3
                  go_loopg [92] (k) (fun g iv wx => L3R wr wx k L ⟨fn, ⟨fk, fi, fs⟩⟩ wr.heap.size (wr.heap.size + 1) g iv)
                  case atStart => exact ⟨0, by omega, rfl, HFB.out, HVB.out, HBl.out⟩
                  case round =>
                    obtain ⟨j, hj, rfl, hFb, hVb, hB3⟩ := hrel
                    have HJ := Lib.hid hj
                    have HFb := Lib.hid hFb
                    have HB3 := Lib.hid hB3
                    have hjle : j ≤ k := by omega
                    have HSw := Lib.hid (HSq.out.below hB3)
                    have hzf := hFb.lt
                    have hzv := VB.lt hVb
                    have hf0 := hFb.cells.1
                    simp only at hVb
                    clear HFB HVB HBl hj hFb hB3
                    by_cases hj2 : j < k
                    · have hlt' : j < L.length := by rw [HM.out]; exact hj2
                      have HLs := Lib.hid (last_snoc L fn ⟨fk, fi, fs⟩ j hlt')
                      generalize lastV (L.take j) fn ⟨fk, fi, fs⟩ = vv at hVb HLs
                      have HVb := Lib.hid hVb
                      obtain ⟨d0, d1, d2, g0, g1, g2⟩ := hVb.cells
                      clear hVb
                      obtain ⟨ad, rfl, hpa, m0, m1, m2, m3⟩ := HSw.out.fl j hlt'
                      generalize L[j] = gg at *
                      clear hlt'
                      obtain ⟨gn, gk1, gi, gs⟩ := gg
                      simp only at m0 m1 m2 m3 HLs
                      by_cases hq : gn = fn
                      · have q1 : (gn.toList == fn.toList) = true := by rw [hq]; exact beq_self_eq_true _
                        rw [if_pos hq] at HLs
                        clear hq
                        go_wp2_with fail
                        go_roundg (gk - 1)
                        case measure => have := HJ.out; omega
                        case rel => exact ⟨j + 1, by have := HJ.out; omega, by go_num, FB.below (FB.far (FB.far (FB.far HFb.out (Nat.ne_of_lt (Nat.lt_succ_self _)) _) (Nat.ne_of_lt (Nat.lt_succ_self _)) _) (Nat.ne_of_lt (Nat.lt_succ_self _)) _) (below_alloc _ _), by rw [HLs.out]; exact VB.below (VB.set HVb.out gk1 gi gs) (below_alloc _ _), below_then (bset3 HB3.out (Nat.le_succ _) _ _ _) (below_alloc _ _)⟩
                      · have q1 : (gn.toList == fn.toList) = false := str_ne _ _ (fun h => hq (bytes_ext h))
                        rw [if_neg hq] at HLs
                        clear hq
                        go_wp2_with fail
                        go_roundg (gk - 1)
                        case measure => have := HJ.out; omega
                        case rel => exact ⟨j + 1, by have := HJ.out; omega, by go_num, HFb.out.below (below_alloc _ _), by rw [HLs.out]; exact VB.below HVb.out (below_alloc _ _), below_then HB3.out (below_alloc _ _)⟩
                    · obtain rfl : j = k := by omega
                      rw [List.take_of_length_le (by rw [HM.out]; omega)] at hVb
                      generalize lastV L fn ⟨fk, fi, fs⟩ = vv at hVb HLast
                      have HVb := Lib.hid hVb
                      clear hVb
                      have hget := fun w h => eget_any (e.wd D) A' D.length c' fn w h rfl (by have : D.length ≤ 8 := (ok_small _ HOK.out).2.1; omega) (ok_small _ HOK.out).1
                      rw [gR_some HOK.out (show getF (e.wd D).d fn = some vv from HLast.out)] at hget
                      have HGet := Lib.hid (fun w h => (show Calls Tryz.prog 17 #[.agg #[.string e.c, .string e.a, .string e.r, .int .i64 e.life, .int .i64 e.time, .slice A' D.length c'], .string fn] w (fun x w' => x = .returned (.tuple #[.agg #[.int .i64 vv.k, .int .i64 vv.n, .string vv.s], .int .i64 0]) ∧ Below w.heap.size w w') from hget w h))
                      obtain ⟨x0, x1, x2, x3, x4, x5⟩ := HSw.out.xb.cells
                      simp only [Ev.wd] at x0 x1 x2 x3 x4 x5
                      clear hget
                      go_wp2_with fail
                      ((with_reducible refine (HGet.out _ HSw.out.fx).mono ?_); rintro x w9 ⟨rfl, hb9⟩)
                      have HSx := Lib.hid (HSw.out.below hb9)
                      have HVx := Lib.hid (VB.below HVb.out hb9)
                      have HFx := Lib.hid ((HFq.out.below HB3.out).below hb9)
                      clear hb9 x0 x1 x2 x3 x4 x5 hf0 hzf hzv
                      obtain ⟨d0, d1, d2, g0, g1, g2⟩ := HVx.out.cells
                      have hzv := VB.lt HVx.out
                      go_wp2_with fail
                      go_roundg (go - 1)
                      case measure => have := HK.out; omega
                      case rel => exact ⟨i + 1, by have := HK.out; omega, by go_num, HSx.out.below (below_alloc _ _), HFx.out.below (below_alloc _ _)⟩
                · obtain rfl : i = n + k := by omega
                  obtain ⟨x0, x1, x2, x3, x4, x5⟩ := HSq.out.xb.cells
                  simp only [Ev.wd] at x0 x1 x2 x3 x4 x5
                  have HSz := HSq
                  have hD8 : D.length ≤ 8 := (ok_small _ HOK.out).2.1
                  clear HFq HK HSq
                  go_wp2_with fail
                  clear x0 x1 x2 x3 x4 x5
                  go_loopg [122] (D.length) (fun g iv wr => L4R w wr e A n c Al L bx D A' c' g iv)
                  case atStart => exact ⟨0, by omega, rfl, HSz.out⟩
                  case round =>
                    obtain ⟨j, hj, rfl, hS⟩ := hrel
                    have HJ := Lib.hid hj
                    have HSq := Lib.hid hS
                    have hbq2 := hS.xb.lt
                    have hebl := hS.eb.lt
                    have hjle : j ≤ D.length := by omega
                    clear hj hS HSz
                    obtain ⟨z0, z1, z2, z3, z4, z5⟩ := HSq.out.eb.cells
                    by_cases hj2 : j < D.length
                    · obtain ⟨ad, rfl, hpa, m0, m1, m2, m3⟩ := HSq.out.fx j hj2
                      have HAny := Lib.hid (show (e.d ++ L).any (eqF D[j]) = true from by
                        have := sets_from L e.d D[j] (by rw [← HD2.out]; exact List.getElem_mem hj2)
                        exact this)
                      generalize D[j] = f at m0 m1 m2 m3 HAny
                      obtain ⟨fn, fk, fi, fs⟩ := f
                      simp only at m0 m1 m2 m3
                      have HFB := Lib.hid (FB.below (FB.new wr ⟨fn, ⟨fk, fi, fs⟩⟩) (below_alloc (wr.alloc (.cells #[.string fn, .int .i64 fk, .int .i64 fi, .string fs] 49)) (.cells #[.slice A n c, .slice Al k cl] 22)))
                      have HSr := Lib.hid (HSq.out.below (two_boxes wr (.cells #[.string fn, .int .i64 fk, .int .i64 fi, .string fs] 49) (.cells #[.slice A n c, .slice Al k cl] 22)))
                      have HCc := fconcat_any (wr.heap.size + 1) A Al n c k cl e.d L ((wr.alloc (.cells #[.string fn, .int .i64 fk, .int .i64 fi, .string fs] 49)).alloc (.cells #[.slice A n c, .slice Al k cl] 22)) (by have := heap_alloc_new (wr.alloc (.cells #[.string fn, .int .i64 fk, .int .i64 fi, .string fs] 49)) (.cells #[.slice A n c, .slice Al k cl] 22); rw [World.size_alloc] at this; exact this) HSr.out.fd HSr.out.fl HN.out HM.out (by have := HN.out; omega) (by omega)
                      have HCC := Lib.hid HCc
                      clear HCc
                      go_wp2_with fail
                      ((with_reducible refine HCC.out.mono ?_); rintro x w9 ⟨v3, rfl, hown, hb9⟩)
                      have HSt := Lib.hid (HSr.out.below hb9)
                      have HFb := Lib.hid (FB.below HFB.out hb9)
                      obtain ⟨A3, c3, rfl, hfd3, hl3, _, _⟩ := own_fdin hown
                      have HCt := fcont_eq A3 (n + k) c3 (e.d ++ L) w9 hfd3 hl3 (by have := HN.out; omega) ⟨fn, ⟨fk, fi, fs⟩⟩ wr.heap.size HFb.out
                      rw [HAny.out] at HCt
                      have HCT := Lib.hid HCt
                      clear hown hb9 hfd3 HCt HSr HCC HFB m0 m1 m2 m3 z0 z1 z2 z3 z4 z5
                      go_wp2_with fail
                      ((with_reducible refine HCT.out.mono ?_); rintro x w10 ⟨rfl, hb10⟩)
                      have HSu := Lib.hid (HSt.out.below hb10)
                      clear hb10
                      go_wp2_with fail
                      go_roundg (gk - 1)
                      case measure => have := HJ.out; omega
                      case rel => exact ⟨j + 1, by have := HJ.out; omega, by go_num, HSu.out⟩
                    · obtain ⟨x0, x1, x2, x3, x4, x5⟩ := HSq.out.xb.cells
                      simp only [Ev.wd] at x0 x1 x2 x3 x4 x5
                      go_wp2_with fail
                      go_ret
                      exact ⟨ret_bool (by simp), HSq.out.bel⟩
end Go.Proofs.YtbbdgncjpbfooaaGreatDoor
