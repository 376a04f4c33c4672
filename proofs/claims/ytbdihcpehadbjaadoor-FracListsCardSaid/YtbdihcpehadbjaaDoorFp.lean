/- Dot of package frac and of the reference: what a call returns. -/
import Derived.Test.YtbdihcpehadbjaaDoorFo
namespace Go.Proofs.YtbdihcpehadbjaaDoor
open Go.RowKit Go.Sort

/-- the sum of the products of what is left, from a sum on -/
def dotGo : List (Int × Int) → List (Int × Int) → Int → Int → Int × Int × Int
  | x :: s, y :: t, p, q =>
    if (mulv x.1 x.2 y.1 y.2).2.2 = 0 then
      (if (addv p q (mulv x.1 x.2 y.1 y.2).1 (mulv x.1 x.2 y.1 y.2).2.1).2.2 = 0 then dotGo s t (addv p q (mulv x.1 x.2 y.1 y.2).1 (mulv x.1 x.2 y.1 y.2).2.1).1 (addv p q (mulv x.1 x.2 y.1 y.2).1 (mulv x.1 x.2 y.1 y.2).2.1).2.1
       else (0, 0, (addv p q (mulv x.1 x.2 y.1 y.2).1 (mulv x.1 x.2 y.1 y.2).2.1).2.2))
    else (0, 0, (mulv x.1 x.2 y.1 y.2).2.2)
  | [], _, p, q => (p, q, 0)
  | _ :: _, [], p, q => (p, q, 0)
theorem dotGo_cons (x y : Int × Int) (s t : List (Int × Int)) (p q m1 m2 m3 r1 r2 r3 : Int) (hm : mulv x.1 x.2 y.1 y.2 = (m1, m2, m3)) (hr : addv p q m1 m2 = (r1, r2, r3)) :
    dotGo (x :: s) (y :: t) p q = if m3 = 0 then (if r3 = 0 then dotGo s t r1 r2 else (0, 0, r3)) else (0, 0, m3) := by
  rw [dotGo, hm]; simp only; rw [hr]
def dotv (la lb : List (Int × Int)) : Int × Int × Int :=
  if vldL la && vldL lb then (if la.length ≤ 1000 ∧ lb.length ≤ 1000 then (if la.length = lb.length then dotGo la lb 0 1 else (0, 0, 29)) else (0, 0, 5)) else (0, 0, 1)

theorem Bw.set {w1 : World} {C : Nat} {a b : Int} (h : Bw w1 C a b) (x y : Int) : Bw ((w1.setCell ⟨C, 0, none⟩ (.int .i64 x)).setCell ⟨C, 1, none⟩ (.int .i64 y)) C x y :=
  ⟨h.1.set x y, by simpa [go_sem] using h.2.1, by simpa [go_sem] using h.2.2⟩

set_option maxRecDepth 100000 in
set_option maxHeartbeats 1600000 in
theorem dot_bad (ao bo : Option Addr) (ca cb : Nat) (la lb : List (Int × Int)) (w : World) (hla : la.length ≤ 9223372036854775807) (hlb : lb.length ≤ 9223372036854775807) (hVa : FrV w (.slice ao la.length ca) la) (hVb : FrV w (.slice bo lb.length cb) lb) (hA : FrA w ao la) (hC : FrA w bo lb)
    (hbad : ¬ (vldL la = true ∧ vldL lb = true ∧ la.length ≤ 1000 ∧ lb.length ≤ 1000 ∧ la.length = lb.length)) :
    Calls Tryd.prog 32 #[.slice ao la.length ca, .slice bo lb.length cb] w fun e w' => e = ret3 (dotv la lb) ∧ RowKit.Below w.heap.size w w' := by
  have HA := Lib.hid hA; clear hA
  have HC := Lib.hid hC; clear hC
  have HVa := Lib.hid hVa; clear hVa
  have HVb := Lib.hid hVb; clear hVb
  cases hva : vldL la
  · have HR := Lib.hid (show dotv la lb = (0, 0, 1) by unfold dotv; rw [hva]; rfl)
    have HB := Lib.hid (Bw.new w 0 0)
    have hw := below_alloc w (.cells #[.int .i64 0, .int .i64 0] 24)
    have z1 := trivial
    have k0 := trivial
    have k1 := trivial
    have t0 := trivial
    have t1 := trivial
    go_enter Tryd.func32, Tryd.ntmps32
    go_wp2_with fail
    ((with_reducible refine (validV_any _ la _ (HVa.out.below hw)).mono ?_); rintro e wn ⟨rfl, hbn⟩)
    replace hw := below_then hw hbn
    replace HB := Lib.hid (HB.out.below hbn)
    clear hbn z1 k0 k1 t0 t1
    obtain ⟨⟨z1, k0, k1⟩, t0, t1⟩ := HB.out
    go_wp2_with fail
    exact bodyPost_ret (v := .tuple #[.agg #[.int .i64 0, .int .i64 0], .int .i64 1]) (by simp [results, Tryd.results32, go_sem, k0, k1]) rfl ⟨by rw [HR.out]; rfl, (hw.setCell (by simp) _).setCell (by simp) _⟩
  · cases hvb : vldL lb
    · have HR := Lib.hid (show dotv la lb = (0, 0, 1) by unfold dotv; rw [hva, hvb]; rfl)
      have HB := Lib.hid (Bw.new w 0 0)
      have hw := below_alloc w (.cells #[.int .i64 0, .int .i64 0] 24)
      have z1 := trivial
      have k0 := trivial
      have k1 := trivial
      have t0 := trivial
      have t1 := trivial
      go_enter Tryd.func32, Tryd.ntmps32
      go_wp2_with fail
      ((with_reducible refine (validV_any _ la _ (HVa.out.below hw)).mono ?_); rintro e wn ⟨rfl, hbn⟩)
      replace hw := below_then hw hbn
      replace HB := Lib.hid (HB.out.below hbn)
      clear hbn z1 k0 k1 t0 t1
      obtain ⟨⟨z1, k0, k1⟩, t0, t1⟩ := HB.out
      go_wp2_with fail
      ((with_reducible refine (validV_any _ lb _ (HVb.out.below hw)).mono ?_); rintro e wn ⟨rfl, hbn⟩)
      replace hw := below_then hw hbn
      replace HB := Lib.hid (HB.out.below hbn)
      clear hbn z1 k0 k1 t0 t1
      obtain ⟨⟨z1, k0, k1⟩, t0, t1⟩ := HB.out
      go_wp2_with fail
      exact bodyPost_ret (v := .tuple #[.agg #[.int .i64 0, .int .i64 0], .int .i64 1]) (by simp [results, Tryd.results32, go_sem, k0, k1]) rfl ⟨by rw [HR.out]; rfl, (hw.setCell (by simp) _).setCell (by simp) _⟩
    · by_cases h1 : la.length ≤ 1000
      · by_cases h2 : lb.length ≤ 1000
        · have h3 : la.length ≠ lb.length := fun e => hbad ⟨hva, hvb, h1, h2, e⟩
          have HR := Lib.hid (show dotv la lb = (0, 0, 29) by unfold dotv; rw [hva, hvb, Bool.and_self, if_pos rfl, if_pos ⟨h1, h2⟩, if_neg h3])
          have d1 : decide ((1000 : Int) < (la.length : Int)) = false := by simp; omega
          have d2 : decide ((1000 : Int) < (lb.length : Int)) = false := by simp; omega
          have d3 : ((la.length : Int) != (lb.length : Int)) = true := by simp; omega
          have d4 : (la.length != lb.length) = true := by simp [h3]
          clear h3 hbad
          have HB := Lib.hid (Bw.new w 0 0)
          have hw := below_alloc w (.cells #[.int .i64 0, .int .i64 0] 24)
          have z1 := trivial
          have k0 := trivial
          have k1 := trivial
          have t0 := trivial
          have t1 := trivial
          go_enter Tryd.func32, Tryd.ntmps32
          go_wp2_with fail
          ((with_reducible refine (validV_any _ la _ (HVa.out.below hw)).mono ?_); rintro e wn ⟨rfl, hbn⟩)
          replace hw := below_then hw hbn
          replace HB := Lib.hid (HB.out.below hbn)
          clear hbn z1 k0 k1 t0 t1
          obtain ⟨⟨z1, k0, k1⟩, t0, t1⟩ := HB.out
          go_wp2_with fail
          ((with_reducible refine (validV_any _ lb _ (HVb.out.below hw)).mono ?_); rintro e wn ⟨rfl, hbn⟩)
          replace hw := below_then hw hbn
          replace HB := Lib.hid (HB.out.below hbn)
          clear hbn z1 k0 k1 t0 t1
          obtain ⟨⟨z1, k0, k1⟩, t0, t1⟩ := HB.out
          go_wp2_with fail
          exact bodyPost_ret (v := .tuple #[.agg #[.int .i64 0, .int .i64 0], .int .i64 29]) (by simp [results, Tryd.results32, go_sem, k0, k1]) rfl ⟨by rw [HR.out]; rfl, (hw.setCell (by simp) _).setCell (by simp) _⟩
        · have HR := Lib.hid (show dotv la lb = (0, 0, 5) by unfold dotv; rw [hva, hvb, Bool.and_self, if_pos rfl, if_neg (fun h => h2 h.2)])
          have d1 : decide ((1000 : Int) < (la.length : Int)) = false := by simp; omega
          have d2 : decide ((1000 : Int) < (lb.length : Int)) = true := by simp; omega
          clear hbad
          have HB := Lib.hid (Bw.new w 0 0)
          have hw := below_alloc w (.cells #[.int .i64 0, .int .i64 0] 24)
          have z1 := trivial
          have k0 := trivial
          have k1 := trivial
          have t0 := trivial
          have t1 := trivial
          go_enter Tryd.func32, Tryd.ntmps32
          go_wp2_with fail
          ((with_reducible refine (validV_any _ la _ (HVa.out.below hw)).mono ?_); rintro e wn ⟨rfl, hbn⟩)
          replace hw := below_then hw hbn
          replace HB := Lib.hid (HB.out.below hbn)
          clear hbn z1 k0 k1 t0 t1
          obtain ⟨⟨z1, k0, k1⟩, t0, t1⟩ := HB.out
          go_wp2_with fail
          ((with_reducible refine (validV_any _ lb _ (HVb.out.below hw)).mono ?_); rintro e wn ⟨rfl, hbn⟩)
          replace hw := below_then hw hbn
          replace HB := Lib.hid (HB.out.below hbn)
          clear hbn z1 k0 k1 t0 t1
          obtain ⟨⟨z1, k0, k1⟩, t0, t1⟩ := HB.out
          go_wp2_with fail
          exact bodyPost_ret (v := .tuple #[.agg #[.int .i64 0, .int .i64 0], .int .i64 5]) (by simp [results, Tryd.results32, go_sem, k0, k1]) rfl ⟨by rw [HR.out]; rfl, (hw.setCell (by simp) _).setCell (by simp) _⟩
      · have HR := Lib.hid (show dotv la lb = (0, 0, 5) by unfold dotv; rw [hva, hvb, Bool.and_self, if_pos rfl, if_neg (fun h => h1 h.1)])
        have d1 : decide ((1000 : Int) < (la.length : Int)) = true := by simp; omega
        clear hbad
        have HB := Lib.hid (Bw.new w 0 0)
        have hw := below_alloc w (.cells #[.int .i64 0, .int .i64 0] 24)
        have z1 := trivial
        have k0 := trivial
        have k1 := trivial
        have t0 := trivial
        have t1 := trivial
        go_enter Tryd.func32, Tryd.ntmps32
        go_wp2_with fail
        ((with_reducible refine (validV_any _ la _ (HVa.out.below hw)).mono ?_); rintro e wn ⟨rfl, hbn⟩)
        replace hw := below_then hw hbn
        replace HB := Lib.hid (HB.out.below hbn)
        clear hbn z1 k0 k1 t0 t1
        obtain ⟨⟨z1, k0, k1⟩, t0, t1⟩ := HB.out
        go_wp2_with fail
        ((with_reducible refine (validV_any _ lb _ (HVb.out.below hw)).mono ?_); rintro e wn ⟨rfl, hbn⟩)
        replace hw := below_then hw hbn
        replace HB := Lib.hid (HB.out.below hbn)
        clear hbn z1 k0 k1 t0 t1
        obtain ⟨⟨z1, k0, k1⟩, t0, t1⟩ := HB.out
        go_wp2_with fail
        exact bodyPost_ret (v := .tuple #[.agg #[.int .i64 0, .int .i64 0], .int .i64 5]) (by simp [results, Tryd.results32, go_sem, k0, k1]) rfl ⟨by rw [HR.out]; rfl, (hw.setCell (by simp) _).setCell (by simp) _⟩

set_option maxRecDepth 100000 in
set_option maxHeartbeats 3200000 in
theorem dot_ok (ao bo : Option Addr) (ca cb : Nat) (la lb : List (Int × Int)) (w : World) (hla : la.length ≤ 9223372036854775807) (hlb : lb.length ≤ 9223372036854775807) (hVa : FrV w (.slice ao la.length ca) la) (hVb : FrV w (.slice bo lb.length cb) lb) (hA : FrA w ao la) (hC : FrA w bo lb)
    (hva : vldL la = true) (hvb : vldL lb = true) (h1 : la.length ≤ 1000) (h2 : lb.length ≤ 1000) (h3 : la.length = lb.length) :
    Calls Tryd.prog 32 #[.slice ao la.length ca, .slice bo lb.length cb] w fun e w' => e = ret3 (dotv la lb) ∧ RowKit.Below w.heap.size w w' := by
  have HA := Lib.hid hA; clear hA
  have HC := Lib.hid hC; clear hC
  have HVa := Lib.hid hVa; clear hVa
  have HVb := Lib.hid hVb; clear hVb
  have HR := Lib.hid (show dotGo la lb 0 1 = dotv la lb by unfold dotv; rw [hva, hvb, Bool.and_self, if_pos rfl, if_pos ⟨h1, h2⟩, if_pos h3])
  have d1 : decide ((1000 : Int) < (la.length : Int)) = false := by simp; omega
  have d2 : decide ((1000 : Int) < (lb.length : Int)) = false := by simp; omega
  have d3 : ((la.length : Int) != (lb.length : Int)) = false := by simp [h3]
  have d4 : (la.length != lb.length) = false := by simp [h3]
  have h4 : la.length ≤ lb.length := by omega
  have H3 := Lib.hid h3; clear h3
  have HB := Lib.hid (Bw.new w 0 0)
  have hw := below_alloc w (.cells #[.int .i64 0, .int .i64 0] 24)
  have z1 := trivial
  have k0 := trivial
  have k1 := trivial
  have t0 := trivial
  have t1 := trivial
  go_enter Tryd.func32, Tryd.ntmps32
  go_wp2_with fail
  ((with_reducible refine (validV_any _ la _ (HVa.out.below hw)).mono ?_); rintro e wn ⟨rfl, hbn⟩)
  replace hw := below_then hw hbn
  replace HB := Lib.hid (HB.out.below hbn)
  clear hbn z1 k0 k1 t0 t1
  obtain ⟨⟨z1, k0, k1⟩, t0, t1⟩ := HB.out
  go_wp2_with fail
  ((with_reducible refine (validV_any _ lb _ (HVb.out.below hw)).mono ?_); rintro e wn ⟨rfl, hbn⟩)
  replace hw := below_then hw hbn
  replace HB := Lib.hid (HB.out.below hbn)
  clear hbn z1 k0 k1 t0 t1
  obtain ⟨⟨z1, k0, k1⟩, t0, t1⟩ := HB.out
  go_wp2_with fail
  have HST := Lib.hid (⟨below_then hw (below_alloc wn (.cells #[.int .i64 0, .int .i64 1] 24)), Nat.le_refl _, z1, HB.out.below (below_alloc wn (.cells #[.int .i64 0, .int .i64 1] 24)), Bw.new wn 0 1⟩ : SumS w (wn.alloc (.cells #[.int .i64 0, .int .i64 1] 24)) w.heap.size wn.heap.size 0 1)
  generalize wn.alloc (.cells #[.int .i64 0, .int .i64 1] 24) = ws at HST ⊢
  generalize wn.heap.size = O at HST ⊢
  clear d1 d2 d3 d4 z1 k0 k1 t0 t1 HB hw
  go_loopw [40] (fun i wr => ∃ (k : Nat) (p q : Int), k ≤ la.length ∧ i = .int .i64 k ∧ i64p (p, q) ∧ SumS w wr w.heap.size O p q ∧ dotGo (la.drop k) (lb.drop k) p q = dotv la lb) (fun i _ => la.length - (intOf i).toNat)
  case atStart => exact ⟨0, 0, 1, Nat.zero_le _, rfl, by unfold i64p; decide, HST.out, HR.out⟩
  case round =>
    clear HST
    obtain ⟨k, p, q, hk, rfl, hpq, hS, hg⟩ := hrel
    have HG := Lib.hid hg; clear hg
    have HB := Lib.hid hS
    obtain ⟨hw, hR1, hR2, ⟨⟨zr, r0, r1⟩, rf0, rf1⟩, ⟨⟨zo, o0, o1⟩, of0, of1⟩⟩ := hS
    by_cases hlt : k < la.length
    · have hlt2 : k < lb.length := by omega
      obtain ⟨b, off, rfl, hbb, hin, hc0, hc1⟩ := (HA.out.below hw) k hlt
      obtain ⟨b', off', rfl, hbb', hin', hc0', hc1'⟩ := (HC.out.below hw) k hlt2
      have e0 : la.getD k (0, 0) = la[k] := by simp [hlt]
      have e1 : lb.getD k (0, 0) = lb[k] := by simp [hlt2]
      rw [e0] at hin hc0 hc1
      rw [e1] at hin' hc0' hc1'
      clear e0 e1
      obtain ⟨m1, m2, m3, hm⟩ : ∃ s1 s2 s3, mulv la[k].1 la[k].2 lb[k].1 lb[k].2 = (s1, s2, s3) := ⟨_, _, _, rfl⟩
      obtain ⟨s1, s2, s3, hs⟩ : ∃ s1 s2 s3, addv p q m1 m2 = (s1, s2, s3) := ⟨_, _, _, rfl⟩
      have HG2 := Lib.hid (show (if m3 = 0 then (if s3 = 0 then dotGo (la.drop (k + 1)) (lb.drop (k + 1)) s1 s2 else (0, 0, s3)) else (0, 0, m3)) = dotv la lb by rw [← HG.out, List.drop_eq_getElem_cons hlt, List.drop_eq_getElem_cons hlt2, dotGo_cons _ _ _ _ _ _ _ _ _ _ _ _ hm hs])
      have hs64 := addv_i64 hs
      have hm64 := mulv_i64 hm
      have HS1 := Lib.hid hs; clear hs
      have HM1 := Lib.hid hm; clear hm HG
      have i0 : (0 : Int) ≤ (k : Int) := by omega
      have i1 : (k : Int) < (la.length : Int) := by omega
      have i2 : (k : Int) < (lb.length : Int) := by omega
      have hx : i64p (la[k].1, la[k].2) := hin
      have hy : i64p (lb[k].1, lb[k].2) := hin'
      clear hin hin'
      go_upto_region 11 with fail
      generalize la[k].1 = x1 at *
      generalize la[k].2 = x2 at *
      generalize lb[k].1 = y1 at *
      generalize lb[k].2 = y2 at *
      go_cut [8, 9] (fun s8 s9 wx => ∃ B : Nat, s8 = .pointer (some ⟨B, 0, none⟩) ∧ s9 = .int .i64 m3 ∧ O < B ∧ SumS w wx w.heap.size O p q ∧ Bw wx B m1 m2)
      case first =>
        go_region_held3 (fun w' => w'.cell? ⟨b, off + k * 2, none⟩ = some (.int .i64 x1) ∧ w'.cell? ⟨b, off + k * 2 + 1, none⟩ = some (.int .i64 x2) ∧ w'.cell? ⟨b', off' + k * 2, none⟩ = some (.int .i64 y1) ∧ w'.cell? ⟨b', off' + k * 2 + 1, none⟩ = some (.int .i64 y2))
          (first | exact ⟨by assumption, by assumption, by assumption, by assumption⟩ | exact ⟨keep2 l05 hbb, keep2 l15 hbb, keep2 l05' hbb', keep2 l15' hbb'⟩ | (go_keep; done))
          (first | (go_at_call 25; refine (mul_any _ _ _ _ _ hx hy).mono ?_; rintro e w5 ⟨rfl, hb5⟩; have hbq : RowKit.Below wr.heap.size wr w5 := (by first | exact ⟨hb5.os, hb5.tape, hb5.output, hb5.size, hb5.block⟩ | exact below_then (below_alloc wr _) ⟨hb5.os, hb5.tape, hb5.output, hb5.size, hb5.block⟩); have nb := (bcell hb5).1; have nf := (bcell hb5).2; have l05 := ((bcell hbq).1 b (off + k * 2) hbb).trans hc0; have l15 := ((bcell hbq).1 b (off + k * 2 + 1) hbb).trans hc1; have l05' := ((bcell hbq).1 b' (off' + k * 2) hbb').trans hc0'; have l15' := ((bcell hbq).1 b' (off' + k * 2 + 1) hbb').trans hc1'; rw [HM1.out]; unfold ret3))
        all_goals
          go_wp2_with fail
          go_meet
          first
            | exact ⟨w5.heap.size, rfl, rfl, Nat.lt_of_lt_of_le zo hbq.size, (HB.out.below hbq).below (below_alloc _ _), Bw.new w5 m1 m2⟩
            | exact ⟨wr.heap.size, rfl, rfl, zo, (HB.out.below hbq).far zo _ _, ((Bw.new wr 0 0).below ⟨hb5.os, hb5.tape, hb5.output, hb5.size, hb5.block⟩).set m1 m2⟩
      case rest =>
        obtain ⟨B, rfl, rfl, hOB, hSS, hBB⟩ := hcut
        clear hw zr r0 r1 rf0 rf1 zo o0 o1 of0 of1 hc0 hc1 hbb hc0' hc1' hbb' HB
        have HB := Lib.hid hSS
        have HP := Lib.hid hBB
        obtain ⟨hw, hR1, hR2, ⟨⟨zr, r0, r1⟩, rf0, rf1⟩, ⟨⟨zo, o0, o1⟩, of0, of1⟩⟩ := hSS
        obtain ⟨⟨zb, b0, b1⟩, bf0, bf1⟩ := hBB
        by_cases hm3 : m3 = 0
        · have hb3 : (m3 != 0) = false := by simp [hm3]
          go_wp2_with fail
          ((with_reducible refine (add_any _ _ _ _ _ hpq hm64).mono ?_); rintro e wm ⟨rfl, hbm⟩)
          rw [HS1.out]
          clear hw zr r0 r1 rf0 rf1 zo o0 o1 of0 of1 zb b0 b1 bf0 bf1
          replace HB := Lib.hid (HB.out.below hbm)
          replace HP := Lib.hid (HP.out.below hbm)
          clear hbm
          have HB2 := Lib.hid (HB.out.set s1 s2)
          obtain ⟨hw, hR1, hR2, ⟨⟨zr, r0, r1⟩, rf0, rf1⟩, ⟨⟨zo, o0, o1⟩, of0, of1⟩⟩ := HB.out
          obtain ⟨hw2, -, -, ⟨⟨zr2, r02, r12⟩, rf02, rf12⟩, -⟩ := HB2.out
          unfold ret3
          by_cases hs3 : s3 = 0
          · have hb5 : (s3 != 0) = false := by simp [hs3]
            have HG3 := Lib.hid (show dotGo (la.drop (k + 1)) (lb.drop (k + 1)) s1 s2 = dotv la lb by have := HG2.out; rwa [if_pos hm3, if_pos hs3] at this)
            clear hs3 hm3 HG2
            go_wp2_with fail
            go_roundw
            case rel => exact ⟨k + 1, s1, s2, by omega, by go_num, hs64, HB2.out, HG3.out⟩
            case measure => simp [intOf]; omega
          · have hb5 : (s3 != 0) = true := by simp [hs3]
            have HG3 := Lib.hid (show dotv la lb = (0, 0, s3) by have := HG2.out; rw [if_pos hm3, if_neg hs3] at this; exact this.symm)
            clear hs3 hm3 HG2
            go_wp2_with fail
            exact bodyPost_ret (v := .tuple #[.agg #[.int .i64 0, .int .i64 0], .int .i64 s3]) (by simp [results, Tryd.results32, go_sem, r02, r12]) rfl ⟨by rw [HG3.out]; rfl, (hw2.setCell (by simp) _).setCell (by simp) _⟩
        · have hb3 : (m3 != 0) = true := by simp [hm3]
          have HG3 := Lib.hid (show dotv la lb = (0, 0, m3) by have := HG2.out; rw [if_neg hm3] at this; exact this.symm)
          clear hm3 HG2
          go_wp2_with fail
          exact bodyPost_ret (v := .tuple #[.agg #[.int .i64 0, .int .i64 0], .int .i64 m3]) (by simp [results, Tryd.results32, go_sem, r0, r1]) rfl ⟨by rw [HG3.out]; rfl, (hw.setCell (by simp) _).setCell (by simp) _⟩
    · have HG3 := Lib.hid (show dotv la lb = (p, q, 0) by rw [← HG.out, List.drop_eq_nil_of_le (by omega)]; rfl)
      go_wp2_with fail
      exact bodyPost_ret (v := .tuple #[.agg #[.int .i64 p, .int .i64 q], .int .i64 0]) (by simp [results, Tryd.results32, go_sem, r0, r1]) rfl ⟨by rw [HG3.out]; rfl, (hw.setCell (by simp) _).setCell (by simp) _⟩

theorem dot_any (ao bo : Option Addr) (ca cb : Nat) (la lb : List (Int × Int)) (w : World) (hla : la.length ≤ 9223372036854775807) (hlb : lb.length ≤ 9223372036854775807) (hVa : FrV w (.slice ao la.length ca) la) (hVb : FrV w (.slice bo lb.length cb) lb) (hA : FrA w ao la) (hC : FrA w bo lb) :
    Calls Tryd.prog 32 #[.slice ao la.length ca, .slice bo lb.length cb] w fun e w' => e = ret3 (dotv la lb) ∧ RowKit.Below w.heap.size w w' := by
  by_cases hbad : vldL la = true ∧ vldL lb = true ∧ la.length ≤ 1000 ∧ lb.length ≤ 1000 ∧ la.length = lb.length
  · exact dot_ok ao bo ca cb la lb w hla hlb hVa hVb hA hC hbad.1 hbad.2.1 hbad.2.2.1 hbad.2.2.2.1 hbad.2.2.2.2
  · exact dot_bad ao bo ca cb la lb w hla hlb hVa hVb hA hC hbad

end Go.Proofs.YtbdihcpehadbjaaDoor
