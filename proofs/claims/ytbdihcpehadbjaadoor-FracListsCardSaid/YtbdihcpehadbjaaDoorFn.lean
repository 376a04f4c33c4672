/- Sum and Dot of package frac and of the reference: what a call returns. -/
import Derived.Test.YtbdihcpehadbjaaDoorLf
namespace Go.Proofs.YtbdihcpehadbjaaDoor
open Go.RowKit Go.Sort

/-- a slice of fractions, nil or not -/
def FrA (w : World) (ao : Option Addr) (l : List (Int × Int)) : Prop :=
  ∀ i, i < l.length → ∃ b off, ao = some ⟨b, off, none⟩ ∧ b < w.heap.size ∧ i64p (l.getD i (0, 0)) ∧ w.cell? ⟨b, off + i * 2, none⟩ = some (.int .i64 (l.getD i (0, 0)).1) ∧ w.cell? ⟨b, off + i * 2 + 1, none⟩ = some (.int .i64 (l.getD i (0, 0)).2)
theorem FrA.below {w w' : World} {ao : Option Addr} {l : List (Int × Int)} (h : FrA w ao l) (hb : Below w.heap.size w w') : FrA w' ao l := by
  intro i hi
  obtain ⟨b, off, h1, h2, h3, h4, h5⟩ := h i hi
  exact ⟨b, off, h1, Nat.lt_of_lt_of_le h2 hb.size, h3, by rw [hb.cell (p := ⟨b, off + i * 2, none⟩) h2]; exact h4, by rw [hb.cell (p := ⟨b, off + i * 2 + 1, none⟩) h2]; exact h5⟩
/-- a slice value of fractions: empty, or fractions in memory -/
def FrV (w : World) (v : Value) (l : List (Int × Int)) : Prop := (∃ ao cap, v = .slice ao 0 cap ∧ l = []) ∨ FrS w v l
theorem FrV.below {w w' : World} {v : Value} {l : List (Int × Int)} (h : FrV w v l) (hb : Below w.heap.size w w') : FrV w' v l := by
  rcases h with h | h
  · exact .inl h
  · exact .inr (h.below hb)
theorem FrV.opened {w : World} {v : Value} {l : List (Int × Int)} (h : FrV w v l) : ∃ ao cap, v = .slice ao l.length cap ∧ FrA w ao l ∧ l.length ≤ 9223372036854775807 := by
  rcases h with ⟨ao, cap, rfl, rfl⟩ | ⟨rfl, rfl⟩ | ⟨b, off, cap, rfl, h2, h3, h4⟩
  · exact ⟨ao, cap, rfl, fun i hi => by simp at hi, by simp⟩
  · exact ⟨none, 0, rfl, fun i hi => by simp at hi, by simp⟩
  · exact ⟨some ⟨b, off, none⟩, cap, rfl, fun i hi => ⟨b, off, rfl, h2, h3 i hi⟩, h4⟩

set_option maxHeartbeats 800000 in
theorem indexf_zero (ao : Option Addr) (cap : Nat) (w : World) :
    Calls Tryd.prog 56 #[.slice ao 0 cap, .func (.func 51) #[] #[]] w fun e w' => e = .returned (.int .i64 (-1)) ∧ Below w.heap.size w w' := by
  go_enter Tryd.func56, Tryd.ntmps56
  go_wp2_with fail
  go_loopw [5, 8] (fun _ i wr => i = .int .i64 0 ∧ Below w.heap.size w wr) (fun _ i _ => 0 - (intOf i).toNat)
  case atStart => exact ⟨rfl, Below.refl _ _⟩
  case round =>
    obtain ⟨rfl, hbl⟩ := hrel
    go_wp2_with fail
    go_ret
    exact ⟨rfl, hbl⟩
set_option maxHeartbeats 800000 in
theorem containsf_zero (ao : Option Addr) (cap : Nat) (w : World) :
    Calls Tryd.prog 50 #[.slice ao 0 cap, .func (.func 51) #[] #[]] w fun e w' => e = .returned (.bool false) ∧ Below w.heap.size w w' := by
  go_enter Tryd.func50, Tryd.ntmps50
  go_wp2_with fail
  ((with_reducible refine (indexf_zero _ _ _).mono ?_); rintro e w1 ⟨rfl, hb1⟩)
  go_wp2_with fail
  go_ret
  exact ⟨rfl, hb1⟩
set_option maxHeartbeats 800000 in
theorem valid_zero (ao : Option Addr) (cap : Nat) (w : World) :
    Calls Tryd.prog 42 #[.slice ao 0 cap] w fun e w' => e = .returned (.bool true) ∧ Below w.heap.size w w' := by
  go_enter Tryd.func42, Tryd.ntmps42
  go_wp2_with fail
  ((with_reducible refine (containsf_zero _ _ _).mono ?_); rintro e w1 ⟨rfl, hb1⟩)
  go_wp2_with fail
  go_ret
  exact ⟨rfl, hb1⟩
theorem validV_any (v : Value) (l : List (Int × Int)) (w : World) (h : FrV w v l) :
    Calls Tryd.prog 42 #[v] w fun e w' => e = .returned (.bool (vldL l)) ∧ Below w.heap.size w w' := by
  rcases h with ⟨ao, cap, rfl, rfl⟩ | h
  · exact valid_zero ao cap w
  · exact valid_any v l w h

/-- the sum of what is left, from a sum on -/
def sumGo : List (Int × Int) → Int → Int → Int × Int × Int
  | [], p, q => (p, q, 0)
  | x :: t, p, q => if (addv p q x.1 x.2).2.2 = 0 then sumGo t (addv p q x.1 x.2).1 (addv p q x.1 x.2).2.1 else (0, 0, (addv p q x.1 x.2).2.2)
def sumv (l : List (Int × Int)) : Int × Int × Int := if vldL l then (if l.length ≤ 1000 then sumGo l 0 1 else (0, 0, 5)) else (0, 0, 1)

/-- inside Sum: the result's block and the block of the sum so far -/
def SumS (w wr : World) (R O : Nat) (p q : Int) : Prop := Below w.heap.size w wr ∧ w.heap.size ≤ R ∧ R < O ∧ Bw wr R 0 0 ∧ Bw wr O p q
theorem SumS.below {w w1 w2 : World} {R O : Nat} {p q : Int} (h : SumS w w1 R O p q) (hb : Below w1.heap.size w1 w2) : SumS w w2 R O p q :=
  ⟨below_then h.1 hb, h.2.1, h.2.2.1, h.2.2.2.1.below hb, h.2.2.2.2.below hb⟩
theorem SumS.set {w w1 : World} {R O : Nat} {p q : Int} (h : SumS w w1 R O p q) (p' q' : Int) : SumS w ((w1.setCell ⟨O, 0, none⟩ (.int .i64 p')).setCell ⟨O, 1, none⟩ (.int .i64 q')) R O p' q' := by
  obtain ⟨h1, h2, h3, ⟨⟨r1, r2, r3⟩, r4, r5⟩, ⟨⟨o1, o2, o3⟩, o4, o5⟩⟩ := h
  refine ⟨(h1.setCell (by simp; omega) _).setCell (by simp; omega) _, h2, h3, ⟨⟨by simpa using r1, keep2 r2 h3, keep2 r3 h3⟩, by simpa [go_sem] using r4, by simpa [go_sem] using r5⟩, ⟨⟨by simpa using o1, ?_, ?_⟩, by simpa [go_sem] using o4, by simpa [go_sem] using o5⟩⟩
  · simp [go_sem, o2]
  · simp [go_sem, o3]

theorem sumGo_cons (x : Int × Int) (t : List (Int × Int)) (p q s1 s2 s3 : Int) (h : addv p q x.1 x.2 = (s1, s2, s3)) : sumGo (x :: t) p q = if s3 = 0 then sumGo t s1 s2 else (0, 0, s3) := by
  rw [sumGo, h]

set_option maxRecDepth 100000 in
set_option maxHeartbeats 1600000 in
theorem sum_any (ao : Option Addr) (cap : Nat) (l : List (Int × Int)) (w : World) (hl : l.length ≤ 9223372036854775807) (hS : FrV w (.slice ao l.length cap) l) (hA : FrA w ao l) :
    Calls Tryd.prog 31 #[.slice ao l.length cap] w fun e w' => e = ret3 (sumv l) ∧ Below w.heap.size w w' := by
  have HA := Lib.hid hA; clear hA
  have HS := Lib.hid hS; clear hS
  cases hv : vldL l
  · have HR := Lib.hid (show sumv l = (0, 0, 1) by unfold sumv; rw [hv]; rfl)
    go_enter Tryd.func31, Tryd.ntmps31
    go_wp2_with fail
    ((with_reducible refine (validV_any _ l _ (HS.out.below (below_alloc _ _))).mono ?_); rintro e wn ⟨rfl, hbn⟩)
    have hK := (Bw.new w 0 0).below hbn
    have hw := below_then (below_alloc w _) hbn
    clear hbn
    obtain ⟨⟨z1, k0, k1⟩, t0, t1⟩ := hK
    go_wp2_with fail
    exact bodyPost_ret (v := .tuple #[.agg #[.int .i64 0, .int .i64 0], .int .i64 1]) (by simp [results, Tryd.results31, go_sem, k0, k1]) rfl ⟨by rw [HR.out]; rfl, (hw.setCell (by simp) _).setCell (by simp) _⟩
  · by_cases hlen : l.length ≤ 1000
    · have HR := Lib.hid (show sumGo l 0 1 = sumv l by unfold sumv; rw [hv, if_pos hlen]; rfl)
      have hd : decide ((1000 : Int) < (l.length : Int)) = false := by simp; omega
      go_enter Tryd.func31, Tryd.ntmps31
      go_wp2_with fail
      ((with_reducible refine (validV_any _ l _ (HS.out.below (below_alloc _ _))).mono ?_); rintro e wn ⟨rfl, hbn⟩)
      have hK := (Bw.new w 0 0).below hbn
      have hw := below_then (below_alloc w _) hbn
      have hz : w.heap.size < wn.heap.size := hK.1.1
      clear hbn
      have HST := Lib.hid (⟨below_then hw (below_alloc wn (.cells #[.int .i64 0, .int .i64 1] 24)), Nat.le_refl _, hz, hK.below (below_alloc wn (.cells #[.int .i64 0, .int .i64 1] 24)), Bw.new wn 0 1⟩ : SumS w (wn.alloc (.cells #[.int .i64 0, .int .i64 1] 24)) w.heap.size wn.heap.size 0 1)
      clear hK hw hz
      go_wp2_with fail
      generalize wn.alloc (.cells #[.int .i64 0, .int .i64 1] 24) = ws at HST ⊢
      generalize wn.heap.size = O at HST ⊢
      clear hd
      go_loopw [22] (fun i wr => ∃ (k : Nat) (p q : Int), k ≤ l.length ∧ i = .int .i64 k ∧ i64p (p, q) ∧ SumS w wr w.heap.size O p q ∧ sumGo (l.drop k) p q = sumv l) (fun i _ => l.length - (intOf i).toNat)
      case atStart => exact ⟨0, 0, 1, Nat.zero_le _, rfl, by unfold i64p; decide, HST.out, HR.out⟩
      case round =>
        clear HST
        obtain ⟨k, p, q, hk, rfl, hpq, hS, hg⟩ := hrel
        have HG := Lib.hid hg; clear hg
        have HB := Lib.hid hS
        obtain ⟨hw, hR1, hR2, ⟨⟨zr, r0, r1⟩, rf0, rf1⟩, ⟨⟨zo, o0, o1⟩, of0, of1⟩⟩ := hS
        by_cases hlt : k < l.length
        · obtain ⟨b, off, rfl, hbb, hin, hc0, hc1⟩ := (HA.out.below hw) k hlt
          have e0 : l.getD k (0, 0) = l[k] := by simp [hlt]
          rw [e0] at hin hc0 hc1
          clear e0
          obtain ⟨s1, s2, s3, hs⟩ : ∃ s1 s2 s3, addv p q l[k].1 l[k].2 = (s1, s2, s3) := ⟨_, _, _, rfl⟩
          have HG2 := Lib.hid (show (if s3 = 0 then sumGo (l.drop (k + 1)) s1 s2 else (0, 0, s3)) = sumv l by rw [← HG.out, List.drop_eq_getElem_cons hlt, sumGo_cons _ _ _ _ _ _ _ hs])
          have hs64 := addv_i64 hs
          have HS1 := Lib.hid hs; clear hs HG
          go_wp2_with fail
          ((with_reducible refine (add_any _ _ _ _ _ hpq hin).mono ?_); rintro e wm ⟨rfl, hbm⟩)
          rw [HS1.out]
          clear hw zr r0 r1 rf0 rf1 zo o0 o1 of0 of1 hc0 hc1 hbb
          replace HB := Lib.hid ((HB.out.below (below_alloc wr (.cells #[.int .i64 l[k].1, .int .i64 l[k].2] 24))).below hbm)
          clear hbm
          obtain ⟨hw, hR1, hR2, ⟨⟨zr, r0, r1⟩, rf0, rf1⟩, ⟨⟨zo, o0, o1⟩, of0, of1⟩⟩ := HB.out
          unfold ret3
          by_cases hs3 : s3 = 0
          · have hb3 : (s3 != 0) = false := by simp [hs3]
            have HG3 := Lib.hid (show sumGo (l.drop (k + 1)) s1 s2 = sumv l by have := HG2.out; rwa [if_pos hs3] at this)
            clear hs3 HG2
            go_wp2_with fail
            go_roundw
            case rel => exact ⟨k + 1, s1, s2, by omega, by go_num, hs64, (HB.out.set s1 s2).below (below_alloc _ _), HG3.out⟩
            case measure => simp [intOf]; omega
          · have hb3 : (s3 != 0) = true := by simp [hs3]
            have HG3 := Lib.hid (show sumv l = (0, 0, s3) by have := HG2.out; rw [if_neg hs3] at this; exact this.symm)
            clear hs3 HG2
            go_wp2_with fail
            exact bodyPost_ret (v := .tuple #[.agg #[.int .i64 0, .int .i64 0], .int .i64 s3]) (by simp [results, Tryd.results31, go_sem, r0, r1, zr]) rfl ⟨by rw [HG3.out]; rfl, ((hw.setCell (by simp) _).setCell (by simp) _).alloc (by simp; omega) _⟩
        · have HG3 := Lib.hid (show sumv l = (p, q, 0) by rw [← HG.out, List.drop_eq_nil_of_le (by omega)]; rfl)
          go_wp2_with fail
          exact bodyPost_ret (v := .tuple #[.agg #[.int .i64 p, .int .i64 q], .int .i64 0]) (by simp [results, Tryd.results31, go_sem, r0, r1]) rfl ⟨by rw [HG3.out]; rfl, (hw.setCell (by simp) _).setCell (by simp) _⟩
    · have HR := Lib.hid (show sumv l = (0, 0, 5) by unfold sumv; rw [hv, if_neg hlen]; rfl)
      have hd : decide ((1000 : Int) < (l.length : Int)) = true := by simp; omega
      go_enter Tryd.func31, Tryd.ntmps31
      go_wp2_with fail
      ((with_reducible refine (validV_any _ l _ (HS.out.below (below_alloc _ _))).mono ?_); rintro e wn ⟨rfl, hbn⟩)
      have hK := (Bw.new w 0 0).below hbn
      have hw := below_then (below_alloc w _) hbn
      clear hbn
      obtain ⟨⟨z1, k0, k1⟩, t0, t1⟩ := hK
      go_wp2_with fail
      exact bodyPost_ret (v := .tuple #[.agg #[.int .i64 0, .int .i64 0], .int .i64 5]) (by simp [results, Tryd.results31, go_sem, k0, k1]) rfl ⟨by rw [HR.out]; rfl, (hw.setCell (by simp) _).setCell (by simp) _⟩
end Go.Proofs.YtbdihcpehadbjaaDoor
