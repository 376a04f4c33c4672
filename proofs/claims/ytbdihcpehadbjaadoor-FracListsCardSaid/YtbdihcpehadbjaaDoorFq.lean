/- Dot of the reference: what a call returns. -/
import Derived.Test.YtbdihcpehadbjaaDoorFp
namespace Go.Proofs.YtbdihcpehadbjaaDoor
open Go.RowKit Go.Sort

set_option maxRecDepth 100000 in
set_option maxHeartbeats 1600000 in
theorem rdot_bad (ao bo : Option Addr) (ca cb : Nat) (la lb : List (Int × Int)) (w : World) (hla : la.length ≤ 9223372036854775807) (hlb : lb.length ≤ 9223372036854775807) (hA : FrA w ao la) (hC : FrA w bo lb)
    (hbad : ¬ (vldL la = true ∧ vldL lb = true ∧ la.length ≤ 1000 ∧ lb.length ≤ 1000 ∧ la.length = lb.length)) :
    Calls Tryd.prog 34 #[.slice ao la.length ca, .slice bo lb.length cb] w fun e w' => e = ret3 (dotv la lb) ∧ RowKit.Below w.heap.size w w' := by
  have HA := Lib.hid hA; clear hA
  have HC := Lib.hid hC; clear hC
  cases hva : vldL la
  · have HR := Lib.hid (show dotv la lb = (0, 0, 1) by unfold dotv; rw [hva]; rfl)
    have HB := Lib.hid (Bw.new w 0 0)
    have hw := below_alloc w (.cells #[.int .i64 0, .int .i64 0] 24)
    have z1 := trivial
    have k0 := trivial
    have k1 := trivial
    have t0 := trivial
    have t1 := trivial
    go_enter Tryd.func34, Tryd.ntmps34
    go_wp2_with fail
    ((with_reducible refine (rvalidall_any ao ca la _ hla (HA.out.below hw)).mono ?_); rintro e wn ⟨rfl, hbn⟩)
    replace hw := below_then hw hbn
    replace HB := Lib.hid (HB.out.below hbn)
    clear hbn z1 k0 k1 t0 t1
    obtain ⟨⟨z1, k0, k1⟩, t0, t1⟩ := HB.out
    go_wp2_with fail
    exact bodyPost_ret (v := .tuple #[.agg #[.int .i64 0, .int .i64 0], .int .i64 1]) (by simp [results, Tryd.results34, go_sem, k0, k1]) rfl ⟨by rw [HR.out]; rfl, (hw.setCell (by simp) _).setCell (by simp) _⟩
  · cases hvb : vldL lb
    · have HR := Lib.hid (show dotv la lb = (0, 0, 1) by unfold dotv; rw [hva, hvb]; rfl)
      have HB := Lib.hid (Bw.new w 0 0)
      have hw := below_alloc w (.cells #[.int .i64 0, .int .i64 0] 24)
      have z1 := trivial
      have k0 := trivial
      have k1 := trivial
      have t0 := trivial
      have t1 := trivial
      go_enter Tryd.func34, Tryd.ntmps34
      go_wp2_with fail
      ((with_reducible refine (rvalidall_any ao ca la _ hla (HA.out.below hw)).mono ?_); rintro e wn ⟨rfl, hbn⟩)
      replace hw := below_then hw hbn
      replace HB := Lib.hid (HB.out.below hbn)
      clear hbn z1 k0 k1 t0 t1
      obtain ⟨⟨z1, k0, k1⟩, t0, t1⟩ := HB.out
      go_wp2_with fail
      ((with_reducible refine (rvalidall_any bo cb lb _ hlb (HC.out.below hw)).mono ?_); rintro e wn ⟨rfl, hbn⟩)
      replace hw := below_then hw hbn
      replace HB := Lib.hid (HB.out.below hbn)
      clear hbn z1 k0 k1 t0 t1
      obtain ⟨⟨z1, k0, k1⟩, t0, t1⟩ := HB.out
      go_wp2_with fail
      exact bodyPost_ret (v := .tuple #[.agg #[.int .i64 0, .int .i64 0], .int .i64 1]) (by simp [results, Tryd.results34, go_sem, k0, k1]) rfl ⟨by rw [HR.out]; rfl, (hw.setCell (by simp) _).setCell (by simp) _⟩
    · by_cases h1 : la.length ≤ 1000
      · by_cases h2 : lb.length ≤ 1000
        · have h3 : la.length ≠ lb.length := fun e => hbad ⟨hva, hvb, h1, h2, e⟩
          have HR := Lib.hid (show dotv la lb = (0, 0, 29) by unfold dotv; rw [hva, hvb, Bool.and_self, if_pos rfl, if_pos ⟨h1, h2⟩, if_neg h3])
          have d1 : decide ((1000 : Int) < (la.length : Int)) = false := by simp; omega
          have d2 : decide ((1000 : Int) < (lb.length : Int)) = false := by simp; omega
          have d3 : ((la.length : Int) != (lb.length : Int)) = true := by simp; omega
          have d4 : (la.length != lb.length) = true := by simp [h3]
          clear h3 hbad
          have HB := Lib.hid (Bw.new w 0 0)
          have hw := below_alloc w (.cells #[.int .i64 0, .int .i64 0] 24)
          have z1 := trivial
          have k0 := trivial
          have k1 := trivial
          have t0 := trivial
          have t1 := trivial
          go_enter Tryd.func34, Tryd.ntmps34
          go_wp2_with fail
          ((with_reducible refine (rvalidall_any ao ca la _ hla (HA.out.below hw)).mono ?_); rintro e wn ⟨rfl, hbn⟩)
          replace hw := below_then hw hbn
          replace HB := Lib.hid (HB.out.below hbn)
          clear hbn z1 k0 k1 t0 t1
          obtain ⟨⟨z1, k0, k1⟩, t0, t1⟩ := HB.out
          go_wp2_with fail
          ((with_reducible refine (rvalidall_any bo cb lb _ hlb (HC.out.below hw)).mono ?_); rintro e wn ⟨rfl, hbn⟩)
          replace hw := below_then hw hbn
          replace HB := Lib.hid (HB.out.below hbn)
          clear hbn z1 k0 k1 t0 t1
          obtain ⟨⟨z1, k0, k1⟩, t0, t1⟩ := HB.out
          go_wp2_with fail
          exact bodyPost_ret (v := .tuple #[.agg #[.int .i64 0, .int .i64 0], .int .i64 29]) (by simp [results, Tryd.results34, go_sem, k0, k1]) rfl ⟨by rw [HR.out]; rfl, (hw.setCell (by simp) _).setCell (by simp) _⟩
        · have HR := Lib.hid (show dotv la lb = (0, 0, 5) by unfold dotv; rw [hva, hvb, Bool.and_self, if_pos rfl, if_neg (fun h => h2 h.2)])
          have d1 : decide ((1000 : Int) < (la.length : Int)) = false := by simp; omega
          have d2 : decide ((1000 : Int) < (lb.length : Int)) = true := by simp; omega
          clear hbad
          have HB := Lib.hid (Bw.new w 0 0)
          have hw := below_alloc w (.cells #[.int .i64 0, .int .i64 0] 24)
          have z1 := trivial
          have k0 := trivial
          have k1 := trivial
          have t0 := trivial
          have t1 := trivial
          go_enter Tryd.func34, Tryd.ntmps34
          go_wp2_with fail
          ((with_reducible refine (rvalidall_any ao ca la _ hla (HA.out.below hw)).mono ?_); rintro e wn ⟨rfl, hbn⟩)
          replace hw := below_then hw hbn
          replace HB := Lib.hid (HB.out.below hbn)
          clear hbn z1 k0 k1 t0 t1
          obtain ⟨⟨z1, k0, k1⟩, t0, t1⟩ := HB.out
          go_wp2_with fail
          ((with_reducible refine (rvalidall_any bo cb lb _ hlb (HC.out.below hw)).mono ?_); rintro e wn ⟨rfl, hbn⟩)
          replace hw := below_then hw hbn
          replace HB := Lib.hid (HB.out.below hbn)
          clear hbn z1 k0 k1 t0 t1
          obtain ⟨⟨z1, k0, k1⟩, t0, t1⟩ := HB.out
          go_wp2_with fail
          exact bodyPost_ret (v := .tuple #[.agg #[.int .i64 0, .int .i64 0], .int .i64 5]) (by simp [results, Tryd.results34, go_sem, k0, k1]) rfl ⟨by rw [HR.out]; rfl, (hw.setCell (by simp) _).setCell (by simp) _⟩
      · have HR := Lib.hid (show dotv la lb = (0, 0, 5) by unfold dotv; rw [hva, hvb, Bool.and_self, if_pos rfl, if_neg (fun h => h1 h.1)])
        have d1 : decide ((1000 : Int) < (la.length : Int)) = true := by simp; omega
        clear hbad
        have HB := Lib.hid (Bw.new w 0 0)
        have hw := below_alloc w (.cells #[.int .i64 0, .int .i64 0] 24)
        have z1 := trivial
        have k0 := trivial
        have k1 := trivial
        have t0 := trivial
        have t1 := trivial
        go_enter Tryd.func34, Tryd.ntmps34
        go_wp2_with fail
        ((with_reducible refine (rvalidall_any ao ca la _ hla (HA.out.below hw)).mono ?_); rintro e wn ⟨rfl, hbn⟩)
        replace hw := below_then hw hbn
        replace HB := Lib.hid (HB.out.below hbn)
        clear hbn z1 k0 k1 t0 t1
        obtain ⟨⟨z1, k0, k1⟩, t0, t1⟩ := HB.out
        go_wp2_with fail
        ((with_reducible refine (rvalidall_any bo cb lb _ hlb (HC.out.below hw)).mono ?_); rintro e wn ⟨rfl, hbn⟩)
        replace hw := below_then hw hbn
        replace HB := Lib.hid (HB.out.below hbn)
        clear hbn z1 k0 k1 t0 t1
        obtain ⟨⟨z1, k0, k1⟩, t0, t1⟩ := HB.out
        go_wp2_with fail
        exact bodyPost_ret (v := .tuple #[.agg #[.int .i64 0, .int .i64 0], .int .i64 5]) (by simp [results, Tryd.results34, go_sem, k0, k1]) rfl ⟨by rw [HR.out]; rfl, (hw.setCell (by simp) _).setCell (by simp) _⟩

set_option maxRecDepth 100000 in
set_option maxHeartbeats 3200000 in
theorem rdot_ok (ao bo : Option Addr) (ca cb : Nat) (la lb : List (Int × Int)) (w : World) (hla : la.length ≤ 9223372036854775807) (hlb : lb.length ≤ 9223372036854775807) (hA : FrA w ao la) (hC : FrA w bo lb)
    (hva : vldL la = true) (hvb : vldL lb = true) (h1 : la.length ≤ 1000) (h2 : lb.length ≤ 1000) (h3 : la.length = lb.length) :
    Calls Tryd.prog 34 #[.slice ao la.length ca, .slice bo lb.length cb] w fun e w' => e = ret3 (dotv la lb) ∧ RowKit.Below w.heap.size w w' := by
  have HA := Lib.hid hA; clear hA
  have HC := Lib.hid hC; clear hC
  have HR := Lib.hid (show dotGo la lb 0 1 = dotv la lb by unfold dotv; rw [hva, hvb, Bool.and_self, if_pos rfl, if_pos ⟨h1, h2⟩, if_pos h3])
  have d1 : decide ((1000 : Int) < (la.length : Int)) = false := by simp; omega
  have d2 : decide ((1000 : Int) < (lb.length : Int)) = false := by simp; omega
  have d3 : ((la.length : Int) != (lb.length : Int)) = false := by simp [h3]
  have d4 : (la.length != lb.length) = false := by simp [h3]
  have h4 : la.length ≤ lb.length := by omega
  have H3 := Lib.hid h3; clear h3
  have HB := Lib.hid (Bw.new w 0 0)
  have hw := below_alloc w (.cells #[.int .i64 0, .int .i64 0] 24)
  have z1 := trivial
  have k0 := trivial
  have k1 := trivial
  have t0 := trivial
  have t1 := trivial
  go_enter Tryd.func34, Tryd.ntmps34
  go_wp2_with fail
  ((with_reducible refine (rvalidall_any ao ca la _ hla (HA.out.below hw)).mono ?_); rintro e wn ⟨rfl, hbn⟩)
  replace hw := below_then hw hbn
  replace HB := Lib.hid (HB.out.below hbn)
  clear hbn z1 k0 k1 t0 t1
  obtain ⟨⟨z1, k0, k1⟩, t0, t1⟩ := HB.out
  go_wp2_with fail
  ((with_reducible refine (rvalidall_any bo cb lb _ hlb (HC.out.below hw)).mono ?_); rintro e wn ⟨rfl, hbn⟩)
  replace hw := below_then hw hbn
  replace HB := Lib.hid (HB.out.below hbn)
  clear hbn z1 k0 k1 t0 t1
  obtain ⟨⟨z1, k0, k1⟩, t0, t1⟩ := HB.out
  go_wp2_with fail
  ((with_reducible refine (rof_any _ _).mono ?_); rintro e wn ⟨rfl, hbn⟩)
  replace hw := below_then hw hbn
  replace HB := Lib.hid (HB.out.below hbn)
  clear hbn z1 k0 k1 t0 t1
  obtain ⟨⟨z1, k0, k1⟩, t0, t1⟩ := HB.out
  have HST := Lib.hid (⟨below_then hw (below_alloc wn (.cells #[.int .i64 0, .int .i64 1] 24)), Nat.le_refl _, z1, HB.out.below (below_alloc wn (.cells #[.int .i64 0, .int .i64 1] 24)), Bw.new wn 0 1⟩ : SumS w (wn.alloc (.cells #[.int .i64 0, .int .i64 1] 24)) w.heap.size wn.heap.size 0 1)
  go_wp2_with fail
  generalize wn.alloc (.cells #[.int .i64 0, .int .i64 1] 24) = ws at HST ⊢
  generalize wn.heap.size = O at HST ⊢
  clear d1 d2 d3 d4 z1 k0 k1 t0 t1 HB hw
  go_loopw [7] (fun i wr => ∃ (k : Nat) (p q : Int), k ≤ la.length ∧ i = .int .i64 k ∧ i64p (p, q) ∧ SumS w wr w.heap.size O p q ∧ dotGo (la.drop k) (lb.drop k) p q = dotv la lb) (fun i _ => la.length - (intOf i).toNat)
  case atStart => exact ⟨0, 0, 1, Nat.zero_le _, rfl, by unfold i64p; decide, HST.out, HR.out⟩
  case round =>
    clear HST
    obtain ⟨k, p, q, hk, rfl, hpq, hS, hg⟩ := hrel
    have HG := Lib.hid hg; clear hg
    have HB := Lib.hid hS
    obtain ⟨hw, hR1, hR2, ⟨⟨zr, r0, r1⟩, rf0, rf1⟩, ⟨⟨zo, o0, o1⟩, of0, of1⟩⟩ := hS
    by_cases hlt : k < la.length
    · have hlt2 : k < lb.length := by omega
      obtain ⟨b, off, rfl, hbb, hin, hc0, hc1⟩ := (HA.out.below hw) k hlt
      obtain ⟨b', off', rfl, hbb', hin', hc0', hc1'⟩ := (HC.out.below hw) k hlt2
      have e0 : la.getD k (0, 0) = la[k] := by simp [hlt]
      have e1 : lb.getD k (0, 0) = lb[k] := by simp [hlt2]
      rw [e0] at hin hc0 hc1
      rw [e1] at hin' hc0' hc1'
      clear e0 e1
      obtain ⟨m1, m2, m3, hm⟩ : ∃ s1 s2 s3, mulv la[k].1 la[k].2 lb[k].1 lb[k].2 = (s1, s2, s3) := ⟨_, _, _, rfl⟩
      obtain ⟨s1, s2, s3, hs⟩ : ∃ s1 s2 s3, addv p q m1 m2 = (s1, s2, s3) := ⟨_, _, _, rfl⟩
      have HG2 := Lib.hid (show (if m3 = 0 then (if s3 = 0 then dotGo (la.drop (k + 1)) (lb.drop (k + 1)) s1 s2 else (0, 0, s3)) else (0, 0, m3)) = dotv la lb by rw [← HG.out, List.drop_eq_getElem_cons hlt, List.drop_eq_getElem_cons hlt2, dotGo_cons _ _ _ _ _ _ _ _ _ _ _ _ hm hs])
      have hs64 := addv_i64 hs
      have hm64 := mulv_i64 hm
      have HS1 := Lib.hid hs; clear hs
      have HM1 := Lib.hid hm; clear hm HG
      have i0 : (0 : Int) ≤ (k : Int) := by omega
      have i1 : (k : Int) < (la.length : Int) := by omega
      have i2 : (k : Int) < (lb.length : Int) := by omega
      have hx : i64p (la[k].1, la[k].2) := hin
      have hy : i64p (lb[k].1, lb[k].2) := hin'
      clear hin hin'
      go_upto_region 11 with fail
      generalize la[k].1 = x1 at *
      generalize la[k].2 = x2 at *
      generalize lb[k].1 = y1 at *
      generalize lb[k].2 = y2 at *
      go_cut [8, 9] (fun s8 s9 wx => ∃ B : Nat, s8 = .pointer (some ⟨B, 0, none⟩) ∧ s9 = .int .i64 m3 ∧ O < B ∧ SumS w wx w.heap.size O p q ∧ Bw wx B m1 m2)
      case first =>
        go_region_held3 (fun w' => w'.cell? ⟨b, off + k * 2, none⟩ = some (.int .i64 x1) ∧ w'.cell? ⟨b, off + k * 2 + 1, none⟩ = some (.int .i64 x2) ∧ w'.cell? ⟨b', off' + k * 2, none⟩ = some (.int .i64 y1) ∧ w'.cell? ⟨b', off' + k * 2 + 1, none⟩ = some (.int .i64 y2))
          (first | exact ⟨by assumption, by assumption, by assumption, by assumption⟩ | exact ⟨keep2 l05 hbb, keep2 l15 hbb, keep2 l05' hbb', keep2 l15' hbb'⟩ | (go_keep; done))
          (first | (go_at_call 29; refine (rmul_any _ _ _ _ _ hx hy).mono ?_; rintro e w5 ⟨rfl, hb5⟩; have hbq : RowKit.Below wr.heap.size wr w5 := (by first | exact ⟨hb5.os, hb5.tape, hb5.output, hb5.size, hb5.block⟩ | exact below_then (below_alloc wr _) ⟨hb5.os, hb5.tape, hb5.output, hb5.size, hb5.block⟩); have nb := (bcell hb5).1; have nf := (bcell hb5).2; have l05 := ((bcell hbq).1 b (off + k * 2) hbb).trans hc0; have l15 := ((bcell hbq).1 b (off + k * 2 + 1) hbb).trans hc1; have l05' := ((bcell hbq).1 b' (off' + k * 2) hbb').trans hc0'; have l15' := ((bcell hbq).1 b' (off' + k * 2 + 1) hbb').trans hc1'; rw [HM1.out]; unfold ret3))
        all_goals
          go_wp2_with fail
          go_meet
          first
            | exact ⟨w5.heap.size, rfl, rfl, Nat.lt_of_lt_of_le zo hbq.size, (HB.out.below hbq).below (below_alloc _ _), Bw.new w5 m1 m2⟩
            | exact ⟨wr.heap.size, rfl, rfl, zo, (HB.out.below hbq).far zo _ _, ((Bw.new wr 0 0).below ⟨hb5.os, hb5.tape, hb5.output, hb5.size, hb5.block⟩).set m1 m2⟩
      case rest =>
        obtain ⟨B, rfl, rfl, hOB, hSS, hBB⟩ := hcut
        clear hw zr r0 r1 rf0 rf1 zo o0 o1 of0 of1 hc0 hc1 hbb hc0' hc1' hbb' HB
        have HB := Lib.hid hSS
        have HP := Lib.hid hBB
        obtain ⟨hw, hR1, hR2, ⟨⟨zr, r0, r1⟩, rf0, rf1⟩, ⟨⟨zo, o0, o1⟩, of0, of1⟩⟩ := hSS
        obtain ⟨⟨zb, b0, b1⟩, bf0, bf1⟩ := hBB
        by_cases hm3 : m3 = 0
        · have hb3 : (m3 == 0) = true := by simp [hm3]
          go_wp2_with fail
          ((with_reducible refine (radd_any _ _ _ _ _ hpq hm64).mono ?_); rintro e wm ⟨rfl, hbm⟩)
          rw [HS1.out]
          clear hw zr r0 r1 rf0 rf1 zo o0 o1 of0 of1 zb b0 b1 bf0 bf1
          replace HB := Lib.hid (HB.out.below hbm)
          replace HP := Lib.hid (HP.out.below hbm)
          clear hbm
          have q0 : ((wm.setCell ⟨B, 0, none⟩ (.int .i64 s1)).setCell ⟨B, 1, none⟩ (.int .i64 s2)).cell? ⟨B, 0, none⟩ = some (.int .i64 s1) := (HP.out.set s1 s2).1.2.1
          have q1 : ((wm.setCell ⟨B, 0, none⟩ (.int .i64 s1)).setCell ⟨B, 1, none⟩ (.int .i64 s2)).cell? ⟨B, 1, none⟩ = some (.int .i64 s2) := (HP.out.set s1 s2).1.2.2
          obtain ⟨⟨zb, b0, b1⟩, bf0, bf1⟩ := HP.out
          replace HB := Lib.hid (HB.out.far hOB (.int .i64 s1) (.int .i64 s2))
          obtain ⟨hw, hR1, hR2, ⟨⟨zr, r0, r1⟩, rf0, rf1⟩, ⟨⟨zo, o0, o1⟩, of0, of1⟩⟩ := HB.out
          unfold ret3
          by_cases hs3 : s3 = 0
          · have hb5 : (s3 != 0) = false := by simp [hs3]
            have HG3 := Lib.hid (show dotGo (la.drop (k + 1)) (lb.drop (k + 1)) s1 s2 = dotv la lb by have := HG2.out; rwa [if_pos hm3, if_pos hs3] at this)
            clear hs3 hm3 HG2
            go_wp2_with fail
            go_roundw
            case rel => exact ⟨k + 1, s1, s2, by omega, by go_num, hs64, HB.out.set s1 s2, HG3.out⟩
            case measure => simp [intOf]; omega
          · have hb5 : (s3 != 0) = true := by simp [hs3]
            have HG3 := Lib.hid (show dotv la lb = (0, 0, s3) by have := HG2.out; rw [if_pos hm3, if_neg hs3] at this; exact this.symm)
            clear hs3 hm3 HG2
            go_wp2_with fail
            exact bodyPost_ret (v := .tuple #[.agg #[.int .i64 0, .int .i64 0], .int .i64 s3]) (by simp [results, Tryd.results34, go_sem, r0, r1]) rfl ⟨by rw [HG3.out]; rfl, (hw.setCell (by simp) _).setCell (by simp) _⟩
        · have hb3 : (m3 == 0) = false := by simp [hm3]
          have hb4 : (m3 != 0) = true := by simp [hm3]
          have HG3 := Lib.hid (show dotv la lb = (0, 0, m3) by have := HG2.out; rw [if_neg hm3] at this; exact this.symm)
          clear hm3 HG2
          go_wp2_with fail
          exact bodyPost_ret (v := .tuple #[.agg #[.int .i64 0, .int .i64 0], .int .i64 m3]) (by simp [results, Tryd.results34, go_sem, r0, r1]) rfl ⟨by rw [HG3.out]; rfl, (hw.setCell (by simp) _).setCell (by simp) _⟩
    · have HG3 := Lib.hid (show dotv la lb = (p, q, 0) by rw [← HG.out, List.drop_eq_nil_of_le (by omega)]; rfl)
      go_wp2_with fail
      exact bodyPost_ret (v := .tuple #[.agg #[.int .i64 p, .int .i64 q], .int .i64 0]) (by simp [results, Tryd.results34, go_sem, r0, r1]) rfl ⟨by rw [HG3.out]; rfl, (hw.setCell (by simp) _).setCell (by simp) _⟩

theorem rdot_any (ao bo : Option Addr) (ca cb : Nat) (la lb : List (Int × Int)) (w : World) (hla : la.length ≤ 9223372036854775807) (hlb : lb.length ≤ 9223372036854775807) (hA : FrA w ao la) (hC : FrA w bo lb) :
    Calls Tryd.prog 34 #[.slice ao la.length ca, .slice bo lb.length cb] w fun e w' => e = ret3 (dotv la lb) ∧ RowKit.Below w.heap.size w w' := by
  by_cases hbad : vldL la = true ∧ vldL lb = true ∧ la.length ≤ 1000 ∧ lb.length ≤ 1000 ∧ la.length = lb.length
  · exact rdot_ok ao bo ca cb la lb w hla hlb hA hC hbad.1 hbad.2.1 hbad.2.2.1 hbad.2.2.2.1 hbad.2.2.2.2
  · exact rdot_bad ao bo ca cb la lb w hla hlb hA hC hbad

end Go.Proofs.YtbdihcpehadbjaaDoor
