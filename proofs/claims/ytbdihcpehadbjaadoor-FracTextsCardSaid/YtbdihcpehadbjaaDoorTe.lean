/- Parse of package frac: what a call returns. -/
import Derived.Test.YtbdihcpehadbjaaDoorTd
namespace Go.Proofs.YtbdihcpehadbjaaDoor
open Go.RowKit

theorem size_mk (l : List UInt8) : (⟨l.toArray⟩ : ByteArray).size = l.length := rfl
theorem cut_sizes (l : List UInt8) (a b : List UInt8) (c : Bool) (h : Lib.cut l [47] = (a, b, c)) : a.length ≤ l.length ∧ b.length ≤ l.length := by
  unfold Lib.cut at h
  split at h
  · simp only [Prod.mk.injEq] at h
    obtain ⟨rfl, rfl, _⟩ := h
    exact ⟨List.length_take_le' _ _, by simp⟩
  · simp only [Prod.mk.injEq] at h
    obtain ⟨rfl, rfl, _⟩ := h
    simp

set_option maxRecDepth 100000 in
set_option maxHeartbeats 1600000 in
theorem parse_long (s : ByteArray) (w : World) (hs : 30 < s.size) (hs2 : s.size ≤ 281474976710656) :
    Calls Tryd.prog 35 #[.string s] w fun e w' => e = ret3 (0, 0, 3) ∧ Below w.heap.size w w' := by
  have hd : decide ((30 : Int) < (s.size : Int)) = true := by simp; omega
  go_enter Tryd.func35, Tryd.ntmps35
  go_wp2_with fail
  exact bodyPost_ret (v := .tuple #[.agg #[.int .i64 0, .int .i64 0], .int .i64 3]) (by simp [results, Tryd.results35, go_sem]) rfl ⟨rfl, (Below.refl _ _).alloc (Nat.le_refl _) _⟩

theorem atoi_bd {l : List UInt8} {v : Int} (h : Lib.atoiAll l = .ok v) : -9223372036854775808 ≤ v ∧ v ≤ 9223372036854775807 := by
  unfold Lib.atoiAll at h
  split at h
  · cases h
  · simp only at h
    split at h
    · cases h
    · cases h
    · split at h
      · cases h
      · split at h
        · cases h
        · injection h with h
          subst h
          split <;> omega

/-- what Parse makes of a guess -/
def parseR (l : List UInt8) (n d : Int) : Int × Int × Int := if vldB n d = true ∧ textv n d = l then (n, d, 0) else (0, 0, 3)
set_option maxRecDepth 100000 in
set_option maxHeartbeats 1600000 in
theorem parse_whole (s : ByteArray) (a b : List UInt8) (v : Int) (w : World) (hs : s.size ≤ 30) (hp : PW w) (hc : Lib.cut s.data.toList [47] = (a, b, false)) (ha : Lib.atoiAll a = .ok v) :
    Calls Tryd.prog 35 #[.string s] w fun e w' => e = ret3 (parseR s.data.toList v 1) ∧ Below w.heap.size w w' := by
  have hd : decide ((30 : Int) < (s.size : Int)) = false := by simp; omega
  have hal := (cut_sizes _ _ _ _ hc).1
  have hbl := (cut_sizes _ _ _ _ hc).2
  have hsz : s.data.toList.length = s.size := (Lib.size_eq s).symm
  have hal' : a.length ≤ 30 := by omega
  have hbl' : b.length ≤ 30 := by omega
  clear hsz hal hbl
  have HC := Lib.hid hc; clear hc
  obtain ⟨hb1, hb2⟩ := atoi_bd ha
  have hb3 : -9223372036854775808 ≤ (1 : Int) := by decide
  have hb4 : (1 : Int) ≤ 9223372036854775807 := by decide
  have HA := Lib.hid ha; clear ha
  go_enter Tryd.func35, Tryd.ntmps35
  go_wp2_with fail
  ((with_reducible refine (cut_any s _ (by omega) (hp.below (below_alloc _ _)) a b false HC.out).mono ?_); rintro e w1 ⟨rfl, hbw⟩)
  have hK := (Bv.new w 0 0).below hbw
  have hw := below_then (below_alloc w _) hbw
  clear hbw
  go_wp2_with fail
  ((with_reducible refine (atoi_good ⟨a.toArray⟩ v _ (by rw [size_mk]; omega) HA.out).mono ?_); rintro e w2 ⟨rfl, hbw⟩)
  replace hK := hK.below hbw
  replace hw := below_then hw hbw
  clear hbw
  have hi64 : i64p (v, 1) := ⟨hb1, hb2, hb3, hb4⟩
  have HK := Lib.hid hK
  obtain ⟨⟨zr, r0, r1⟩, t0, t1⟩ := hK
  go_wp2_with fail
  have hw3 := below_then hw (below_alloc w2 (.cells #[.int .i64 v, .int .i64 1] 24))
  cases hv : vldB v 1
  · ((with_reducible refine (text_bad _ _ _ hi64 hv).mono ?_); rintro e w4 ⟨rfl, hbw⟩)
    have hX := (Bx.new w2 v 1).below hbw
    have hR := (HK.out.below (below_alloc w2 (.cells #[.int .i64 v, .int .i64 1] 24))).below hbw
    replace hw3 := below_then hw3 hbw
    clear hbw zr r0 r1 t0 t1
    obtain ⟨zx, x0, x1⟩ := hX
    obtain ⟨⟨zr, r0, r1⟩, t0, t1⟩ := hR
    go_wp2_with fail
    exact bodyPost_ret (v := .tuple #[.agg #[.int .i64 0, .int .i64 0], .int .i64 3]) (by simp [results, Tryd.results35, go_sem, r0, r1]) rfl ⟨by unfold parseR; rw [if_neg (fun h => by rw [hv] at h; cases h.1)]; rfl, (hw3.setCell (by simp) _).setCell (by simp) _⟩
  · ((with_reducible refine (text_ok _ _ _ hv ((hp.below hw3).tb)).mono ?_); rintro e w4 ⟨rfl, hbw⟩)
    have hX := (Bx.new w2 v 1).below hbw
    have hR := (HK.out.below (below_alloc w2 (.cells #[.int .i64 v, .int .i64 1] 24))).below hbw
    replace hw3 := below_then hw3 hbw
    clear hbw zr r0 r1 t0 t1
    obtain ⟨zx, x0, x1⟩ := hX
    obtain ⟨⟨zr, r0, r1⟩, t0, t1⟩ := hR
    by_cases ht : textv v 1 = s.data.toList
    · have hte := eq_of_lists ht
      have HTX := Lib.hid ht; clear ht
      rw [hte]
      clear hte
      go_wp2_with fail
      exact bodyPost_ret (v := .tuple #[.agg #[.int .i64 v, .int .i64 1], .int .i64 0]) (by simp [results, Tryd.results35, go_sem, r0, r1]) rfl ⟨by unfold parseR; rw [if_pos ⟨hv, HTX.out⟩]; rfl, (hw3.setCell (by simp) _).setCell (by simp) _⟩
    · have hne := ne_of_lists ht
      generalize hB : (⟨(textv v 1).toArray⟩ : ByteArray) = tb at *
      have hnb : (tb.toList == s.toList) = false := by simp [list_ne hne]
      clear hB hne
      go_wp2_with fail
      exact bodyPost_ret (v := .tuple #[.agg #[.int .i64 0, .int .i64 0], .int .i64 3]) (by simp [results, Tryd.results35, go_sem, r0, r1]) rfl ⟨by unfold parseR; rw [if_neg (fun h => ht h.2)]; rfl, (hw3.setCell (by simp) _).setCell (by simp) _⟩

set_option maxRecDepth 100000 in
set_option maxHeartbeats 1600000 in
theorem parse_whole_bad (s : ByteArray) (a b : List UInt8) (w : World) (hs : s.size ≤ 30) (hp : PW w) (hc : Lib.cut s.data.toList [47] = (a, b, false)) (ha : ∀ v, Lib.atoiAll a ≠ .ok v) :
    Calls Tryd.prog 35 #[.string s] w fun e w' => e = ret3 (0, 0, 3) ∧ Below w.heap.size w w' := by
  have hd : decide ((30 : Int) < (s.size : Int)) = false := by simp; omega
  have hal := (cut_sizes _ _ _ _ hc).1
  have hbl := (cut_sizes _ _ _ _ hc).2
  have hsz : s.data.toList.length = s.size := (Lib.size_eq s).symm
  have hal' : a.length ≤ 30 := by omega
  have hbl' : b.length ≤ 30 := by omega
  clear hsz hal hbl
  have HC := Lib.hid hc; clear hc
  have HA := Lib.hid ha; clear ha
  go_enter Tryd.func35, Tryd.ntmps35
  go_wp2_with fail
  ((with_reducible refine (cut_any s _ (by omega) (hp.below (below_alloc _ _)) a b false HC.out).mono ?_); rintro e w1 ⟨rfl, hbw⟩)
  have hK := (Bv.new w 0 0).below hbw
  have hw := below_then (below_alloc w _) hbw
  clear hbw
  go_wp2_with fail
  ((with_reducible refine (atoi_bad ⟨a.toArray⟩ _ (by rw [size_mk]; omega) (hp.below hw) HA.out).mono ?_); rintro e w2 ⟨nx, Nx, rfl, hbw⟩)
  replace hK := hK.below hbw
  replace hw := below_then hw hbw
  clear hbw
  obtain ⟨⟨zr, r0, r1⟩, t0, t1⟩ := hK
  go_wp2_with fail
  exact bodyPost_ret (v := .tuple #[.agg #[.int .i64 0, .int .i64 0], .int .i64 3]) (by simp [results, Tryd.results35, go_sem, r0, r1]) rfl ⟨rfl, (hw.setCell (by simp) _).setCell (by simp) _⟩

set_option maxRecDepth 100000 in
set_option maxHeartbeats 1600000 in
theorem parse_two (s : ByteArray) (a b : List UInt8) (v u : Int) (w : World) (hs : s.size ≤ 30) (hp : PW w) (hc : Lib.cut s.data.toList [47] = (a, b, true)) (ha : Lib.atoiAll a = .ok v) (hb : Lib.atoiAll b = .ok u) :
    Calls Tryd.prog 35 #[.string s] w fun e w' => e = ret3 (parseR s.data.toList v u) ∧ Below w.heap.size w w' := by
  have hd : decide ((30 : Int) < (s.size : Int)) = false := by simp; omega
  have hal := (cut_sizes _ _ _ _ hc).1
  have hbl := (cut_sizes _ _ _ _ hc).2
  have hsz : s.data.toList.length = s.size := (Lib.size_eq s).symm
  have hal' : a.length ≤ 30 := by omega
  have hbl' : b.length ≤ 30 := by omega
  clear hsz hal hbl
  have HC := Lib.hid hc; clear hc
  obtain ⟨hb1, hb2⟩ := atoi_bd ha
  obtain ⟨hb3, hb4⟩ := atoi_bd hb
  have HA := Lib.hid ha; clear ha
  have HU := Lib.hid hb; clear hb
  go_enter Tryd.func35, Tryd.ntmps35
  go_wp2_with fail
  ((with_reducible refine (cut_any s _ (by omega) (hp.below (below_alloc _ _)) a b true HC.out).mono ?_); rintro e w1 ⟨rfl, hbw⟩)
  have hK := (Bv.new w 0 0).below hbw
  have hw := below_then (below_alloc w _) hbw
  clear hbw
  go_wp2_with fail
  ((with_reducible refine (atoi_good ⟨a.toArray⟩ v _ (by rw [size_mk]; omega) HA.out).mono ?_); rintro e w2 ⟨rfl, hbw⟩)
  replace hK := hK.below hbw
  replace hw := below_then hw hbw
  clear hbw
  go_wp2_with fail
  ((with_reducible refine (atoi_good ⟨b.toArray⟩ u _ (by rw [size_mk]; omega) HU.out).mono ?_); rintro e w2 ⟨rfl, hbw⟩)
  replace hK := hK.below hbw
  replace hw := below_then hw hbw
  clear hbw
  have hi64 : i64p (v, u) := ⟨hb1, hb2, hb3, hb4⟩
  have HK := Lib.hid hK
  obtain ⟨⟨zr, r0, r1⟩, t0, t1⟩ := hK
  go_wp2_with fail
  have hw3 := below_then hw (below_alloc w2 (.cells #[.int .i64 v, .int .i64 u] 24))
  cases hv : vldB v u
  · ((with_reducible refine (text_bad _ _ _ hi64 hv).mono ?_); rintro e w4 ⟨rfl, hbw⟩)
    have hX := (Bx.new w2 v u).below hbw
    have hR := (HK.out.below (below_alloc w2 (.cells #[.int .i64 v, .int .i64 u] 24))).below hbw
    replace hw3 := below_then hw3 hbw
    clear hbw zr r0 r1 t0 t1
    obtain ⟨zx, x0, x1⟩ := hX
    obtain ⟨⟨zr, r0, r1⟩, t0, t1⟩ := hR
    go_wp2_with fail
    exact bodyPost_ret (v := .tuple #[.agg #[.int .i64 0, .int .i64 0], .int .i64 3]) (by simp [results, Tryd.results35, go_sem, r0, r1]) rfl ⟨by unfold parseR; rw [if_neg (fun h => by rw [hv] at h; cases h.1)]; rfl, (hw3.setCell (by simp) _).setCell (by simp) _⟩
  · ((with_reducible refine (text_ok _ _ _ hv ((hp.below hw3).tb)).mono ?_); rintro e w4 ⟨rfl, hbw⟩)
    have hX := (Bx.new w2 v u).below hbw
    have hR := (HK.out.below (below_alloc w2 (.cells #[.int .i64 v, .int .i64 u] 24))).below hbw
    replace hw3 := below_then hw3 hbw
    clear hbw zr r0 r1 t0 t1
    obtain ⟨zx, x0, x1⟩ := hX
    obtain ⟨⟨zr, r0, r1⟩, t0, t1⟩ := hR
    by_cases ht : textv v u = s.data.toList
    · have hte := eq_of_lists ht
      have HTX := Lib.hid ht; clear ht
      rw [hte]
      clear hte
      go_wp2_with fail
      exact bodyPost_ret (v := .tuple #[.agg #[.int .i64 v, .int .i64 u], .int .i64 0]) (by simp [results, Tryd.results35, go_sem, r0, r1]) rfl ⟨by unfold parseR; rw [if_pos ⟨hv, HTX.out⟩]; rfl, (hw3.setCell (by simp) _).setCell (by simp) _⟩
    · have hne := ne_of_lists ht
      generalize hB : (⟨(textv v u).toArray⟩ : ByteArray) = tb at *
      have hnb : (tb.toList == s.toList) = false := by simp [list_ne hne]
      clear hB hne
      go_wp2_with fail
      exact bodyPost_ret (v := .tuple #[.agg #[.int .i64 0, .int .i64 0], .int .i64 3]) (by simp [results, Tryd.results35, go_sem, r0, r1]) rfl ⟨by unfold parseR; rw [if_neg (fun h => ht h.2)]; rfl, (hw3.setCell (by simp) _).setCell (by simp) _⟩

set_option maxRecDepth 100000 in
set_option maxHeartbeats 1600000 in
theorem parse_two_bad1 (s : ByteArray) (a b : List UInt8) (w : World) (hs : s.size ≤ 30) (hp : PW w) (hc : Lib.cut s.data.toList [47] = (a, b, true)) (ha : ∀ v, Lib.atoiAll a ≠ .ok v) (u : Int) (hb : Lib.atoiAll b = .ok u) :
    Calls Tryd.prog 35 #[.string s] w fun e w' => e = ret3 (0, 0, 3) ∧ Below w.heap.size w w' := by
  have hd : decide ((30 : Int) < (s.size : Int)) = false := by simp; omega
  have hal := (cut_sizes _ _ _ _ hc).1
  have hbl := (cut_sizes _ _ _ _ hc).2
  have hsz : s.data.toList.length = s.size := (Lib.size_eq s).symm
  have hal' : a.length ≤ 30 := by omega
  have hbl' : b.length ≤ 30 := by omega
  clear hsz hal hbl
  have HC := Lib.hid hc; clear hc
  have HA := Lib.hid ha; clear ha
  have HU := Lib.hid hb; clear hb
  go_enter Tryd.func35, Tryd.ntmps35
  go_wp2_with fail
  ((with_reducible refine (cut_any s _ (by omega) (hp.below (below_alloc _ _)) a b true HC.out).mono ?_); rintro e w1 ⟨rfl, hbw⟩)
  have hK := (Bv.new w 0 0).below hbw
  have hw := below_then (below_alloc w _) hbw
  clear hbw
  go_wp2_with fail
  ((with_reducible refine (atoi_bad ⟨a.toArray⟩ _ (by rw [size_mk]; omega) (hp.below hw) HA.out).mono ?_); rintro e w2 ⟨nx, Nx, rfl, hbw⟩)
  replace hK := hK.below hbw
  replace hw := below_then hw hbw
  clear hbw
  go_wp2_with fail
  ((with_reducible refine (atoi_good ⟨b.toArray⟩ u _ (by rw [size_mk]; omega) HU.out).mono ?_); rintro e w2 ⟨rfl, hbw⟩)
  replace hK := hK.below hbw
  replace hw := below_then hw hbw
  clear hbw
  obtain ⟨⟨zr, r0, r1⟩, t0, t1⟩ := hK
  go_wp2_with fail
  exact bodyPost_ret (v := .tuple #[.agg #[.int .i64 0, .int .i64 0], .int .i64 3]) (by simp [results, Tryd.results35, go_sem, r0, r1]) rfl ⟨rfl, (hw.setCell (by simp) _).setCell (by simp) _⟩

set_option maxRecDepth 100000 in
set_option maxHeartbeats 1600000 in
theorem parse_two_bad2 (s : ByteArray) (a b : List UInt8) (v : Int) (w : World) (hs : s.size ≤ 30) (hp : PW w) (hc : Lib.cut s.data.toList [47] = (a, b, true)) (ha : Lib.atoiAll a = .ok v) (hb : ∀ u, Lib.atoiAll b ≠ .ok u) :
    Calls Tryd.prog 35 #[.string s] w fun e w' => e = ret3 (0, 0, 3) ∧ Below w.heap.size w w' := by
  have hd : decide ((30 : Int) < (s.size : Int)) = false := by simp; omega
  have hal := (cut_sizes _ _ _ _ hc).1
  have hbl := (cut_sizes _ _ _ _ hc).2
  have hsz : s.data.toList.length = s.size := (Lib.size_eq s).symm
  have hal' : a.length ≤ 30 := by omega
  have hbl' : b.length ≤ 30 := by omega
  clear hsz hal hbl
  have HC := Lib.hid hc; clear hc
  have HA := Lib.hid ha; clear ha
  have HU := Lib.hid hb; clear hb
  go_enter Tryd.func35, Tryd.ntmps35
  go_wp2_with fail
  ((with_reducible refine (cut_any s _ (by omega) (hp.below (below_alloc _ _)) a b true HC.out).mono ?_); rintro e w1 ⟨rfl, hbw⟩)
  have hK := (Bv.new w 0 0).below hbw
  have hw := below_then (below_alloc w _) hbw
  clear hbw
  go_wp2_with fail
  ((with_reducible refine (atoi_good ⟨a.toArray⟩ v _ (by rw [size_mk]; omega) HA.out).mono ?_); rintro e w2 ⟨rfl, hbw⟩)
  replace hK := hK.below hbw
  replace hw := below_then hw hbw
  clear hbw
  go_wp2_with fail
  ((with_reducible refine (atoi_bad ⟨b.toArray⟩ _ (by rw [size_mk]; omega) (hp.below hw) HU.out).mono ?_); rintro e w2 ⟨nx, Nx, rfl, hbw⟩)
  replace hK := hK.below hbw
  replace hw := below_then hw hbw
  clear hbw
  obtain ⟨⟨zr, r0, r1⟩, t0, t1⟩ := hK
  go_wp2_with fail
  exact bodyPost_ret (v := .tuple #[.agg #[.int .i64 0, .int .i64 0], .int .i64 3]) (by simp [results, Tryd.results35, go_sem, r0, r1]) rfl ⟨rfl, (hw.setCell (by simp) _).setCell (by simp) _⟩

set_option maxRecDepth 100000 in
set_option maxHeartbeats 1600000 in
theorem parse_two_bad3 (s : ByteArray) (a b : List UInt8) (w : World) (hs : s.size ≤ 30) (hp : PW w) (hc : Lib.cut s.data.toList [47] = (a, b, true)) (ha : ∀ v, Lib.atoiAll a ≠ .ok v) (hb : ∀ u, Lib.atoiAll b ≠ .ok u) :
    Calls Tryd.prog 35 #[.string s] w fun e w' => e = ret3 (0, 0, 3) ∧ Below w.heap.size w w' := by
  have hd : decide ((30 : Int) < (s.size : Int)) = false := by simp; omega
  have hal := (cut_sizes _ _ _ _ hc).1
  have hbl := (cut_sizes _ _ _ _ hc).2
  have hsz : s.data.toList.length = s.size := (Lib.size_eq s).symm
  have hal' : a.length ≤ 30 := by omega
  have hbl' : b.length ≤ 30 := by omega
  clear hsz hal hbl
  have HC := Lib.hid hc; clear hc
  have HA := Lib.hid ha; clear ha
  have HU := Lib.hid hb; clear hb
  go_enter Tryd.func35, Tryd.ntmps35
  go_wp2_with fail
  ((with_reducible refine (cut_any s _ (by omega) (hp.below (below_alloc _ _)) a b true HC.out).mono ?_); rintro e w1 ⟨rfl, hbw⟩)
  have hK := (Bv.new w 0 0).below hbw
  have hw := below_then (below_alloc w _) hbw
  clear hbw
  go_wp2_with fail
  ((with_reducible refine (atoi_bad ⟨a.toArray⟩ _ (by rw [size_mk]; omega) (hp.below hw) HA.out).mono ?_); rintro e w2 ⟨nx, Nx, rfl, hbw⟩)
  replace hK := hK.below hbw
  replace hw := below_then hw hbw
  clear hbw
  go_wp2_with fail
  ((with_reducible refine (atoi_bad ⟨b.toArray⟩ _ (by rw [size_mk]; omega) (hp.below hw) HU.out).mono ?_); rintro e w2 ⟨nx, Nx, rfl, hbw⟩)
  replace hK := hK.below hbw
  replace hw := below_then hw hbw
  clear hbw
  obtain ⟨⟨zr, r0, r1⟩, t0, t1⟩ := hK
  go_wp2_with fail
  exact bodyPost_ret (v := .tuple #[.agg #[.int .i64 0, .int .i64 0], .int .i64 3]) (by simp [results, Tryd.results35, go_sem, r0, r1]) rfl ⟨rfl, (hw.setCell (by simp) _).setCell (by simp) _⟩

end Go.Proofs.YtbdihcpehadbjaaDoor
