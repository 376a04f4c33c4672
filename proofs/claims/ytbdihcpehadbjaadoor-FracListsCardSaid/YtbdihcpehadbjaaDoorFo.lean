/- ValidAll, Of and Sum of the reference: what a call returns. -/
import Derived.Test.YtbdihcpehadbjaaDoorFn
namespace Go.Proofs.YtbdihcpehadbjaaDoor
open Go.RowKit Go.Sort

theorem SumS.far {w w1 : World} {R O C : Nat} {p q : Int} (h : SumS w w1 R O p q) (hC : O < C) (x y : Value) : SumS w ((w1.setCell ⟨C, 0, none⟩ x).setCell ⟨C, 1, none⟩ y) R O p q := by
  obtain ⟨h1, h2, h3, ⟨⟨r1, r2, r3⟩, r4, r5⟩, ⟨⟨o1, o2, o3⟩, o4, o5⟩⟩ := h
  exact ⟨(h1.setCell (by simp; omega) _).setCell (by simp; omega) _, h2, h3, ⟨⟨by simpa using r1, keep2 r2 (by omega), keep2 r3 (by omega)⟩, by simpa [go_sem] using r4, by simpa [go_sem] using r5⟩, ⟨⟨by simpa using o1, keep2 o2 hC, keep2 o3 hC⟩, by simpa [go_sem] using o4, by simpa [go_sem] using o5⟩⟩
theorem Bx.set {w1 : World} {C : Nat} {a b : Int} (h : Bx w1 C a b) (x y : Int) : Bx ((w1.setCell ⟨C, 0, none⟩ (.int .i64 x)).setCell ⟨C, 1, none⟩ (.int .i64 y)) C x y := by
  obtain ⟨o1, o2, o3⟩ := h
  exact ⟨by simpa using o1, by simp [go_sem, o2], by simp [go_sem, o3]⟩

set_option maxHeartbeats 800000 in
theorem rof_any (n : Int) (w : World) :
    Calls Tryd.prog 44 #[.int .i64 n] w fun e w' => e = .returned (.agg #[.int .i64 n, .int .i64 1]) ∧ Below w.heap.size w w' := by
  go_enter Tryd.func44, Tryd.ntmps44
  go_wp2_with fail
  exact bodyPost_ret (v := .agg #[.int .i64 n, .int .i64 1]) (by simp [results, Tryd.results44, go_sem]) rfl ⟨rfl, (Below.refl _ _).alloc (Nat.le_refl _) _⟩

set_option maxHeartbeats 800000 in
theorem rvalidall_any (ao : Option Addr) (cap : Nat) (l : List (Int × Int)) (w : World) (hl : l.length ≤ 9223372036854775807) (hA : FrA w ao l) :
    Calls Tryd.prog 43 #[.slice ao l.length cap] w fun e w' => e = .returned (.bool (vldL l)) ∧ Below w.heap.size w w' := by
  have HF := Lib.hid hA; clear hA
  go_enter Tryd.func43, Tryd.ntmps43
  go_wp2_with fail
  go_loopw [3] (fun i wr => ∃ k : Nat, k ≤ l.length ∧ i = .int .i64 k ∧ ((l.take k).all fun p => vldB p.1 p.2) = true ∧ Below w.heap.size w wr) (fun i _ => l.length - (intOf i).toNat)
  case atStart => exact ⟨0, Nat.zero_le _, rfl, rfl, Below.refl _ _⟩
  case round =>
    obtain ⟨k, hk, rfl, hall, hbl⟩ := hrel
    have HA := Lib.hid hall; clear hall
    by_cases hlt : k < l.length
    · obtain ⟨b, off, rfl, hbb, hin, hc0, hc1⟩ := (HF.out.below hbl) k hlt
      have e0 : l.getD k (0, 0) = l[k] := by simp [hlt]
      rw [e0] at hin hc0 hc1
      clear e0
      cases hv : vldB l[k].1 l[k].2
      · have HN := Lib.hid (show vldL l = false by
          cases h : vldL l
          · rfl
          · unfold vldL at h; have := List.all_eq_true.1 h l[k] (List.getElem_mem hlt); rw [hv] at this; cases this)
        go_wp2_with fail
        ((with_reducible refine (rvalid_any _ _ _ hin).mono ?_); rintro e w1 ⟨rfl, hb1⟩)
        go_wp2_with fail
        go_ret
        exact ⟨ret_bool HN.out.symm, below_then hbl hb1⟩
      · have HS := Lib.hid (show ((l.take (k + 1)).all fun p => vldB p.1 p.2) = true by rw [List.take_succ_eq_append_getElem hlt, List.all_append, HA.out]; simp [hv])
        go_wp2_with fail
        ((with_reducible refine (rvalid_any _ _ _ hin).mono ?_); rintro e w1 ⟨rfl, hb1⟩)
        go_wp2_with fail
        go_roundw
        case rel => exact ⟨k + 1, by omega, by go_num, HS.out, below_then hbl hb1⟩
        case measure => simp [intOf]; omega
    · have HL := Lib.hid (show vldL l = true by have := HA.out; rwa [List.take_of_length_le (by omega)] at this)
      go_wp2_with fail
      go_ret
      exact ⟨ret_bool HL.out.symm, hbl⟩

set_option maxRecDepth 100000 in
set_option maxHeartbeats 1600000 in
theorem rsum_any (ao : Option Addr) (cap : Nat) (l : List (Int × Int)) (w : World) (hl : l.length ≤ 9223372036854775807) (hA : FrA w ao l) :
    Calls Tryd.prog 33 #[.slice ao l.length cap] w fun e w' => e = ret3 (sumv l) ∧ Below w.heap.size w w' := by
  have HA := Lib.hid hA; clear hA
  cases hv : vldL l
  · have HR := Lib.hid (show sumv l = (0, 0, 1) by unfold sumv; rw [hv]; rfl)
    go_enter Tryd.func33, Tryd.ntmps33
    go_wp2_with fail
    ((with_reducible refine (rvalidall_any ao cap l _ hl (HA.out.below (below_alloc _ _))).mono ?_); rintro e wn ⟨rfl, hbn⟩)
    have hK := (Bw.new w 0 0).below hbn
    have hw := below_then (below_alloc w _) hbn
    clear hbn
    obtain ⟨⟨z1, k0, k1⟩, t0, t1⟩ := hK
    go_wp2_with fail
    exact bodyPost_ret (v := .tuple #[.agg #[.int .i64 0, .int .i64 0], .int .i64 1]) (by simp [results, Tryd.results33, go_sem, k0, k1]) rfl ⟨by rw [HR.out]; rfl, (hw.setCell (by simp) _).setCell (by simp) _⟩
  · by_cases hlen : l.length ≤ 1000
    · have HR := Lib.hid (show sumGo l 0 1 = sumv l by unfold sumv; rw [hv, if_pos hlen]; rfl)
      have hd : decide ((1000 : Int) < (l.length : Int)) = false := by simp; omega
      go_enter Tryd.func33, Tryd.ntmps33
      go_wp2_with fail
      ((with_reducible refine (rvalidall_any ao cap l _ hl (HA.out.below (below_alloc _ _))).mono ?_); rintro e wn ⟨rfl, hbn⟩)
      have hK := (Bw.new w 0 0).below hbn
      have hw := below_then (below_alloc w _) hbn
      clear hbn
      go_wp2_with fail
      ((with_reducible refine (rof_any _ _).mono ?_); rintro e wo ⟨rfl, hbo⟩)
      replace hK := hK.below hbo
      replace hw := below_then hw hbo
      have hz : w.heap.size < wo.heap.size := hK.1.1
      clear hbo
      have HST := Lib.hid (⟨below_then hw (below_alloc wo (.cells #[.int .i64 0, .int .i64 1] 24)), Nat.le_refl _, hz, hK.below (below_alloc wo (.cells #[.int .i64 0, .int .i64 1] 24)), Bw.new wo 0 1⟩ : SumS w (wo.alloc (.cells #[.int .i64 0, .int .i64 1] 24)) w.heap.size wo.heap.size 0 1)
      clear hK hw hz
      go_wp2_with fail
      generalize wo.alloc (.cells #[.int .i64 0, .int .i64 1] 24) = ws at HST ⊢
      generalize wo.heap.size = O at HST ⊢
      clear hd
      go_loopw [5] (fun i wr => ∃ (k : Nat) (p q : Int), k ≤ l.length ∧ i = .int .i64 k ∧ i64p (p, q) ∧ SumS w wr w.heap.size O p q ∧ sumGo (l.drop k) p q = sumv l) (fun i _ => l.length - (intOf i).toNat)
      case atStart => exact ⟨0, 0, 1, Nat.zero_le _, rfl, by unfold i64p; decide, HST.out, HR.out⟩
      case round =>
        clear HST
        obtain ⟨k, p, q, hk, rfl, hpq, hS, hg⟩ := hrel
        have HG := Lib.hid hg; clear hg
        have HB := Lib.hid hS
        obtain ⟨hw, hR1, hR2, ⟨⟨zr, r0, r1⟩, rf0, rf1⟩, ⟨⟨zo, o0, o1⟩, of0, of1⟩⟩ := hS
        by_cases hlt : k < l.length
        · obtain ⟨b, off, rfl, hbb, hin, hc0, hc1⟩ := (HA.out.below hw) k hlt
          have e0 : l.getD k (0, 0) = l[k] := by simp [hlt]
          rw [e0] at hin hc0 hc1
          clear e0
          obtain ⟨s1, s2, s3, hs⟩ : ∃ s1 s2 s3, addv p q l[k].1 l[k].2 = (s1, s2, s3) := ⟨_, _, _, rfl⟩
          have HG2 := Lib.hid (show (if s3 = 0 then sumGo (l.drop (k + 1)) s1 s2 else (0, 0, s3)) = sumv l by rw [← HG.out, List.drop_eq_getElem_cons hlt, sumGo_cons _ _ _ _ _ _ _ hs])
          have hs64 := addv_i64 hs
          have HS1 := Lib.hid hs; clear hs HG
          have i0 : (0 : Int) ≤ (k : Int) := by omega
          have i1 : (k : Int) < (l.length : Int) := by omega
          have hin' : i64p (l[k].1, l[k].2) := hin
          clear hin
          go_upto_region 9 with fail
          generalize l[k].1 = x1 at *
          generalize l[k].2 = x2 at *
          go_cut [6, 7] (fun s6 s7 wx => ∃ B : Nat, s6 = .pointer (some ⟨B, 0, none⟩) ∧ s7 = .int .i64 s3 ∧ SumS w wx w.heap.size O p q ∧ Bx wx B s1 s2)
          case first =>
            go_region_held3 (fun w' => w'.cell? ⟨O, 0, none⟩ = some (.int .i64 p) ∧ w'.cell? ⟨O, 1, none⟩ = some (.int .i64 q) ∧ w'.cell? ⟨b, off + k * 2, none⟩ = some (.int .i64 x1) ∧ w'.cell? ⟨b, off + k * 2 + 1, none⟩ = some (.int .i64 x2))
              (first | exact ⟨by assumption, by assumption, by assumption, by assumption⟩ | exact ⟨keep2 o05 zo, keep2 o15 zo, keep2 l05 hbb, keep2 l15 hbb⟩ | (go_keep; done))
              (first | (go_at_call 27; refine (radd_any _ _ _ _ _ hpq hin').mono ?_; rintro e w5 ⟨rfl, hb5⟩; have hbq : RowKit.Below wr.heap.size wr w5 := (by first | exact ⟨hb5.os, hb5.tape, hb5.output, hb5.size, hb5.block⟩ | exact below_then (below_alloc wr _) ⟨hb5.os, hb5.tape, hb5.output, hb5.size, hb5.block⟩); have nb := (bcell hb5).1; have nf := (bcell hb5).2; obtain ⟨hw5, hR15, hR25, ⟨⟨zr5, r05, r15⟩, rf05, rf15⟩, ⟨⟨zo5, o05, o15⟩, of05, of15⟩⟩ := HB.out.below hbq; have l05 := ((bcell hbq).1 b (off + k * 2) hbb).trans hc0; have l15 := ((bcell hbq).1 b (off + k * 2 + 1) hbb).trans hc1; rw [HS1.out]; unfold ret3))
            all_goals
              go_wp2_with fail
              go_meet
              first
                | exact ⟨w5.heap.size, rfl, rfl, (HB.out.below hbq).below (below_alloc _ _), Bx.new w5 s1 s2⟩
                | exact ⟨wr.heap.size, rfl, rfl, (HB.out.below hbq).far zo _ _, ((Bx.new wr 0 0).below ⟨hb5.os, hb5.tape, hb5.output, hb5.size, hb5.block⟩).set s1 s2⟩
          case rest =>
            obtain ⟨B, rfl, rfl, hSS, hBB⟩ := hcut
            clear hw zr r0 r1 rf0 rf1 zo o0 o1 of0 of1 hc0 hc1 hbb HB
            have HB := Lib.hid hSS
            obtain ⟨hw, hR1, hR2, ⟨⟨zr, r0, r1⟩, rf0, rf1⟩, ⟨⟨zo, o0, o1⟩, of0, of1⟩⟩ := hSS
            obtain ⟨zb, b0, b1⟩ := hBB
            by_cases hs3 : s3 = 0
            · have hb3 : (s3 != 0) = false := by simp [hs3]
              have HG3 := Lib.hid (show sumGo (l.drop (k + 1)) s1 s2 = sumv l by have := HG2.out; rwa [if_pos hs3] at this)
              clear hs3 HG2
              go_wp2_with fail
              go_roundw
              case rel => exact ⟨k + 1, s1, s2, by omega, by go_num, hs64, HB.out.set s1 s2, HG3.out⟩
              case measure => simp [intOf]; omega
            · have hb3 : (s3 != 0) = true := by simp [hs3]
              have HG3 := Lib.hid (show sumv l = (0, 0, s3) by have := HG2.out; rw [if_neg hs3] at this; exact this.symm)
              clear hs3 HG2
              go_wp2_with fail
              exact bodyPost_ret (v := .tuple #[.agg #[.int .i64 0, .int .i64 0], .int .i64 s3]) (by simp [results, Tryd.results33, go_sem, r0, r1]) rfl ⟨by rw [HG3.out]; rfl, (hw.setCell (by simp) _).setCell (by simp) _⟩
        · have HG3 := Lib.hid (show sumv l = (p, q, 0) by rw [← HG.out, List.drop_eq_nil_of_le (by omega)]; rfl)
          go_wp2_with fail
          exact bodyPost_ret (v := .tuple #[.agg #[.int .i64 p, .int .i64 q], .int .i64 0]) (by simp [results, Tryd.results33, go_sem, r0, r1]) rfl ⟨by rw [HG3.out]; rfl, (hw.setCell (by simp) _).setCell (by simp) _⟩
    · have HR := Lib.hid (show sumv l = (0, 0, 5) by unfold sumv; rw [hv, if_neg hlen]; rfl)
      have hd : decide ((1000 : Int) < (l.length : Int)) = true := by simp; omega
      go_enter Tryd.func33, Tryd.ntmps33
      go_wp2_with fail
      ((with_reducible refine (rvalidall_any ao cap l _ hl (HA.out.below (below_alloc _ _))).mono ?_); rintro e wn ⟨rfl, hbn⟩)
      have hK := (Bw.new w 0 0).below hbn
      have hw := below_then (below_alloc w _) hbn
      clear hbn
      obtain ⟨⟨z1, k0, k1⟩, t0, t1⟩ := hK
      go_wp2_with fail
      exact bodyPost_ret (v := .tuple #[.agg #[.int .i64 0, .int .i64 0], .int .i64 5]) (by simp [results, Tryd.results33, go_sem, k0, k1]) rfl ⟨by rw [HR.out]; rfl, (hw.setCell (by simp) _).setCell (by simp) _⟩
end Go.Proofs.YtbdihcpehadbjaaDoor
