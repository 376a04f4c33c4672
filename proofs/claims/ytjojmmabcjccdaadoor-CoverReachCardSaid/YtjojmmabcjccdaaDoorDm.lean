/- cover.begin and cover.Graph: what a call returns. -/
import Derived.Test.YtjojmmabcjccdaaDoorDl
namespace Go.Proofs.YtjojmmabcjccdaaDoor
open Go.RowKit

/-- the numbers are out of range -/
def badR (N : Nt) (place most : Int) : Bool := decide (place < 0) || (decide (N.pl ≤ place) || (decide (most < 1) || decide (1000 < most)))
/-- what a call does -/
def BePo (N : Nt) (LL : List (List Int)) (place most : Int) (w : World) (e : Ending) (w' : World) : Prop :=
  if LL.all (mkB N) then (if badR N place most then e = .returned (.tuple #[.pointer none, .int .i64 2]) ∧ Below w.heap.size w w' else GrPo (growT N (LL.headD []) most.toNat) w e w')
  else e = .returned (.tuple #[.pointer none, .int .i64 1]) ∧ Below w.heap.size w w'
theorem BePo.arg {N : Nt} {LL : List (List Int)} {place most : Int} {w w' : World} {e : Ending} (h : LL.all (mkB N) = false) (he : e = .returned (.tuple #[.pointer none, .int .i64 1])) (hb : Below w.heap.size w w') : BePo N LL place most w e w' := by
  unfold BePo; rw [if_neg (by rw [h]; decide)]; exact ⟨he, hb⟩
theorem BePo.range {N : Nt} {LL : List (List Int)} {place most : Int} {w w' : World} {e : Ending} (h : LL.all (mkB N) = true) (h2 : badR N place most = true) (he : e = .returned (.tuple #[.pointer none, .int .i64 2])) (hb : Below w.heap.size w w') : BePo N LL place most w e w' := by
  unfold BePo; rw [if_pos h, if_pos h2]; exact ⟨he, hb⟩
theorem BePo.grow {N : Nt} {LL : List (List Int)} {place most : Int} {w w' : World} {e : Ending} (h : LL.all (mkB N) = true) (h2 : badR N place most = false) (hg : GrPo (growT N (LL.headD []) most.toNat) w e w') : BePo N LL place most w e w' := by
  unfold BePo; rw [if_pos h, if_neg (by rw [h2]; decide)]; exact hg
theorem add0 (ad : Addr) : ad.add 0 = ad := by simp [Addr.add]
theorem GrPo.up {R : Option TS} {w w1 w' : World} {e : Ending} (hb : Below w.heap.size w w1) (h : GrPo R w1 e w') : GrPo R w e w' := by
  cases R with
  | none => exact ⟨h.1, below_then hb h.2⟩
  | some T =>
    obtain ⟨tb, vN, vS, NL, SL, h1, h2⟩ : ∃ tb vN vS NL SL, e = .returned (.tuple #[.pointer (some ⟨tb, 0, none⟩), .int .i64 0]) ∧ GP w1 w' tb vN vS NL SL T := h
    exact ⟨tb, vN, vS, NL, SL, h1, h2.up hb⟩
set_option maxHeartbeats 6400000 in
set_option maxRecDepth 100000 in
theorem begin_any (N : Nt) (A : Option Addr) (n c : Nat) (Ak : Option Addr) (nk ck : Nat) (LL : List (List Int)) (place most : Int) (w : World) (h : NtIn w A N) (hn : N.tr.length = n) (hn2 : n ≤ 9223372036854775807) (hL : LIn w Ak LL) (hk : LL.length = nk) (hk0 : 0 < nk) (hk2 : nk ≤ 9223372036854775807) (ht : Tb w) :
    Calls Tryd.prog 42 #[.agg #[.int .i64 N.pl, .slice A n c, .int .i64 N.src, .int .i64 N.snk], .slice Ak nk ck, .int .i64 place, .int .i64 most] w (BePo N LL place most w) := by
  have HB := Lib.hid (below_alloc w (.cells #[.int .i64 N.pl, .slice A n c, .int .i64 N.src, .int .i64 N.snk] 24))
  have HNb := Lib.hid (NB.new w N.pl A n c N.src N.snk)
  have HIn := Lib.hid (h.below HB.out)
  have HL := Lib.hid (hL.below HB.out)
  have HT := Lib.hid (ht.below HB.out)
  have HLn := Lib.hid hn
  have HLk := Lib.hid hk
  clear h hn hL hk ht
  go_enter Tryd.func42, Tryd.ntmps42
  go_wp2_with fail
  generalize w.alloc _ = w0 at *
  go_loopg [16] (nk) (fun g iv wr => ∃ k : Nat, k + g = nk ∧ iv = .int .i64 k ∧ (LL.take k).all (mkB N) = true ∧ Below w0.heap.size w0 wr)
  case atStart => exact ⟨0, by omega, rfl, by simp, Below.refl _ _⟩
  case round =>
    obtain ⟨k, hkg, rfl, hall, hB⟩ := hrel
    have HK := Lib.hid hkg
    have HAll := Lib.hid hall
    have HBr := Lib.hid hB
    have hle : k ≤ nk := by omega
    clear hkg hall hB
    obtain ⟨b0, b1, b2, b3⟩ := (HNb.out.below HBr.out).cells
    by_cases hlt : k < nk
    · have hlt' : k < LL.length := by rw [HLk.out]; exact hlt
      obtain ⟨ak, rfl, hpa, u, q0, Am, m, cm, rfl, zm, hm1, hm2, hm3⟩ := (HL.out.below HBr.out) k hlt'
      have HTk := Lib.hid (List.take_succ_eq_append_getElem hlt')
      have HMm := Lib.hid (List.getElem_mem hlt')
      generalize LL[k] = M at *
      have HEn := Lib.hid (penabled_any N A n c Am m cm M wr (HIn.out.below HBr.out) HLn.out hn2 zm hm1 (by omega))
      clear hlt' zm hm1
      cases hv : mkB N M with
      | false =>
        have HX := Lib.hid (show LL.all (mkB N) = false by rw [List.all_eq_false]; exact ⟨M, HMm.out, by rw [hv]; decide⟩)
        have HE := Lib.hid (show enE N M = 1 by unfold enE; rw [hv]; rfl)
        clear hv
        go_wp2_with fail
        ((with_reducible refine HEn.out.mono ?_); rintro e w1 ⟨v, rfl, hS⟩)
        obtain ⟨Av, cv, rfl⟩ := hS.slice
        have HB1 := Lib.hid (below_then HB.out (below_then HBr.out hS.2))
        rw [HE.out]
        clear hS
        go_wp2_with fail
        go_ret2
        exact BePo.arg HX.out rfl HB1.out
      | true =>
        have HX := Lib.hid (show (LL.take (k + 1)).all (mkB N) = true by rw [HTk.out, List.all_append, HAll.out]; simp [hv])
        have HE := Lib.hid (show enE N M = 0 by unfold enE; rw [hv]; rfl)
        clear hv
        go_wp2_with fail
        ((with_reducible refine HEn.out.mono ?_); rintro e w1 ⟨v, rfl, hS⟩)
        obtain ⟨Av, cv, rfl⟩ := hS.slice
        have HB1 := Lib.hid (below_then HBr.out hS.2)
        rw [HE.out]
        clear hS
        go_wp2_with fail
        go_roundg (gk - 1)
        case measure => have := HK.out; omega
        case rel => exact ⟨k + 1, by have := HK.out; omega, by go_num, HX.out, HB1.out⟩
    · have HA := Lib.hid (show LL.all (mkB N) = true by have := HAll.out; rwa [List.take_of_length_le (by rw [HLk.out]; omega)] at this)
      clear HK HAll
      have HBw := Lib.hid (below_then HB.out HBr.out)
      have HBad := Lib.hid (show badR N place most = (decide (place < 0) || (decide (N.pl ≤ place) || (decide (most < 1) || decide (1000 < most)))) from rfl)
      by_cases h1 : place < 0
      · have HX := Lib.hid (show badR N place most = true by rw [HBad.out, decide_eq_true h1]; rfl)
        go_wp2_with fail
        go_ret2
        exact BePo.range HA.out HX.out rfl HBw.out
      have d1 : decide (place < 0) = false := by simpa using h1
      have g1 : 0 ≤ place := by omega
      by_cases h2 : N.pl ≤ place
      · have HX := Lib.hid (show badR N place most = true by rw [HBad.out, d1, decide_eq_true h2]; rfl)
        clear h1
        go_wp2_with fail
        go_ret2
        exact BePo.range HA.out HX.out rfl HBw.out
      have d2 : decide (N.pl ≤ place) = false := by simpa using h2
      by_cases h3 : most < 1
      · have HX := Lib.hid (show badR N place most = true by rw [HBad.out, d1, d2, decide_eq_true h3]; rfl)
        clear h1 h2
        go_wp2_with fail
        go_ret2
        exact BePo.range HA.out HX.out rfl HBw.out
      have d3 : decide (most < 1) = false := by simpa using h3
      by_cases h4 : 1000 < most
      · have HX := Lib.hid (show badR N place most = true by rw [HBad.out, d1, d2, d3, decide_eq_true h4]; rfl)
        clear h1 h2 h3
        go_wp2_with fail
        go_ret2
        exact BePo.range HA.out HX.out rfl HBw.out
      have d4 : decide (1000 < most) = false := by simpa using h4
      have HX := Lib.hid (show badR N place most = false by rw [HBad.out, d1, d2, d3, d4]; rfl)
      have hlt0 : 0 < LL.length := by rw [HLk.out]; exact hk0
      obtain ⟨ak, rfl, hpa, u, q0, Am, m, cm, rfl, zm, hm1, hm2, hm3⟩ := (HL.out.below HBr.out) 0 hlt0
      rw [add0] at q0
      have hM0 : mkB N LL[0] = true := by have := HA.out; rw [List.all_eq_true] at this; exact this _ (List.getElem_mem hlt0)
      have HHd := Lib.hid (show LL.headD [] = LL[0] by cases LL with | nil => simp at hlt0 | cons a l => rfl)
      have HM0 := Lib.hid hM0
      clear h1 h2 h3 h4
      obtain ⟨mo, rfl⟩ := Int.eq_ofNat_of_zero_le (show 0 ≤ most by have := of_decide_eq_false d3; omega)
      generalize LL[0] = M at *
      have hkk : (0 : Int) < (nk : Int) := by omega
      go_wp2_with fail
      have hbd : Below wr.heap.size wr wr.drew := (Below.refl _ _).drew
      have HBd := Lib.hid (below_then HBr.out hbd)
      have HInd := Lib.hid (HIn.out.below HBd.out)
      have HZd := Lib.hid (zm.below hbd)
      have HTd := Lib.hid (HT.out.below HBd.out)
      have HNd := Lib.hid (HNb.out.below HBd.out)
      have hS0 := And.intro HNd.out.cells.1 (And.intro HNd.out.cells.2.1 (And.intro HNd.out.cells.2.2.1 (And.intro HNd.out.cells.2.2.2 (cell_stays hbd q0))))
      refine wp_region_held_drew (S := fun w' => w'.cell? ⟨w.heap.size, 0, none⟩ = some (.int .i64 N.pl) ∧ w'.cell? ⟨w.heap.size, 1, none⟩ = some (.slice A n c) ∧ w'.cell? ⟨w.heap.size, 2, none⟩ = some (.int .i64 N.src) ∧ w'.cell? ⟨w.heap.size, 3, none⟩ = some (.int .i64 N.snk) ∧ w'.cell? ak = some (.slice Am m cm)) (by kernel_rfl) hS0 (fun hHeld => ?_)
      clear hS0 hbd HBr HBw zm q0 b0 b1 b2 b3 hM0
      generalize wr.drew = wd at *
      refine wpAnyH_take (i := 0) (v := ?_) rfl (by kernel_rfl) (by kernel_rfl) (by kernel_rfl) (fun _ _ _ h => h) (Or.inl ⟨by rfl, ?_⟩) (by assumption) ?_
      rotate_left
      · intro w hSw; (try dsimp only at hSw); go_simp; try (with_reducible rfl)
      try go_simp
      refine wpAnyH_take (i := 1) (v := ?_) rfl (by kernel_rfl) (by kernel_rfl) (by kernel_rfl) (fun _ _ _ h => h) (Or.inl ⟨by rfl, ?_⟩) (by assumption) ?_
      rotate_left
      · intro w hSw; (try dsimp only at hSw); go_simp; try (with_reducible rfl)
      try go_simp
      refine wpAnyH_take (i := 2) (v := ?_) rfl (by kernel_rfl) (by kernel_rfl) (by kernel_rfl) (fun _ _ _ h => h) (Or.inl ⟨by rfl, ?_⟩) (by assumption) ?_
      rotate_left
      · intro w hSw; (try dsimp only at hSw); go_simp; try (with_reducible rfl)
      try go_simp
      refine wpAnyH_take (i := 3) (v := ?_) rfl (by kernel_rfl) (by kernel_rfl) (by kernel_rfl) (fun _ _ _ h => h) (Or.inl ⟨by rfl, ?_⟩) (by assumption) ?_
      rotate_left
      · intro w hSw; (try dsimp only at hSw); go_simp; try (with_reducible rfl)
      try go_simp
      refine wpAnyH_take (i := 4) (v := ?_) rfl (by kernel_rfl) (by kernel_rfl) (by kernel_rfl) (fun _ _ _ h => h) (Or.inl ⟨by rfl, ?_⟩) (by assumption) ?_
      rotate_left
      · intro w hSw; (try dsimp only at hSw); go_simp; try (with_reducible rfl)
      try go_simp
      have hS1 := hHeld
      cases hg : growT N M mo with
      | none =>
        have HG := Lib.hid (grow_any N A n c Am m cm M mo wd HInd.out.1 HLn.out HZd.out hm1 HM0.out HTd.out)
        rw [hg] at HG
        refine wpAnyH_ready (rs := [5]) (by kernel_rfl) (by simp) ?_
        refine AllReadyH.cons rfl (fun K hK => ?_) AllReadyH.nil
        go_simp
        ((refine (HG.out).mono ?_); rintro e w4 ⟨rfl, hb4⟩)
        refine hK.out _ _ (⟨cell_stays hb4 hS1.1, cell_stays hb4 hS1.2.1, cell_stays hb4 hS1.2.2.1, cell_stays hb4 hS1.2.2.2.1, cell_stays hb4 hS1.2.2.2.2⟩) (fun hHeld => ?_)
        clear hK K
        try go_simp
        refine wpAnyH_take (i := 6) (v := ?_) rfl (by kernel_rfl) (by kernel_rfl) (by kernel_rfl) (fun _ _ _ h => h) (Or.inl ⟨by rfl, ?_⟩) (by assumption) ?_
        rotate_left
        · intro w hSw; (try dsimp only at hSw); go_simp; try (with_reducible rfl)
        try go_simp
        refine wpAnyH_take (i := 7) (v := ?_) rfl (by kernel_rfl) (by kernel_rfl) (by kernel_rfl) (fun _ _ _ h => h) (Or.inl ⟨by rfl, ?_⟩) (by assumption) ?_
        rotate_left
        · intro w hSw; (try dsimp only at hSw); go_simp; try (with_reducible rfl)
        try go_simp
        refine wpAnyH_take (i := 8) (v := ?_) rfl (by kernel_rfl) (by kernel_rfl) (by kernel_rfl) (fun _ _ _ h => h) (Or.inl ⟨by rfl, ?_⟩) (by assumption) ?_
        rotate_left
        · intro w hSw; (try dsimp only at hSw); go_simp; try (with_reducible rfl)
        try go_simp
        refine wpAnyH_take (i := 9) (v := ?_) rfl (by kernel_rfl) (by kernel_rfl) (by kernel_rfl) (fun _ _ _ h => h) (Or.inl ⟨by rfl, ?_⟩) (by assumption) ?_
        rotate_left
        · intro w hSw; (try dsimp only at hSw); go_simp; try (with_reducible rfl)
        try go_simp
        refine wpAnyH_done (by kernel_rfl) ?_ _
        go_wp2_with fail
        go_ret2
        exact BePo.grow HA.out HX.out (GrPo.no (by rw [HHd.out]; exact hg) rfl (below_then HB.out (below_then HBd.out hb4)))
      | some T =>
        have HG := Lib.hid (grow_any N A n c Am m cm M mo wd HInd.out.1 HLn.out HZd.out hm1 HM0.out HTd.out)
        rw [hg] at HG
        refine wpAnyH_ready (rs := [5]) (by kernel_rfl) (by simp) ?_
        refine AllReadyH.cons rfl (fun K hK => ?_) AllReadyH.nil
        go_simp
        ((refine (HG.out).mono ?_); rintro e w4 ⟨tb, vN, vS, NL, SL, rfl, hgp⟩)
        refine hK.out _ _ (⟨cell_stays hgp.bel hS1.1, cell_stays hgp.bel hS1.2.1, cell_stays hgp.bel hS1.2.2.1, cell_stays hgp.bel hS1.2.2.2.1, cell_stays hgp.bel hS1.2.2.2.2⟩) (fun hHeld => ?_)
        clear hK K
        try go_simp
        refine wpAnyH_take (i := 6) (v := ?_) rfl (by kernel_rfl) (by kernel_rfl) (by kernel_rfl) (fun _ _ _ h => h) (Or.inl ⟨by rfl, ?_⟩) (by assumption) ?_
        rotate_left
        · intro w hSw; (try dsimp only at hSw); go_simp; try (with_reducible rfl)
        try go_simp
        refine wpAnyH_take (i := 7) (v := ?_) rfl (by kernel_rfl) (by kernel_rfl) (by kernel_rfl) (fun _ _ _ h => h) (Or.inl ⟨by rfl, ?_⟩) (by assumption) ?_
        rotate_left
        · intro w hSw; (try dsimp only at hSw); go_simp; try (with_reducible rfl)
        try go_simp
        refine wpAnyH_take (i := 8) (v := ?_) rfl (by kernel_rfl) (by kernel_rfl) (by kernel_rfl) (fun _ _ _ h => h) (Or.inl ⟨by rfl, ?_⟩) (by assumption) ?_
        rotate_left
        · intro w hSw; (try dsimp only at hSw); go_simp; try (with_reducible rfl)
        try go_simp
        refine wpAnyH_take (i := 9) (v := ?_) rfl (by kernel_rfl) (by kernel_rfl) (by kernel_rfl) (fun _ _ _ h => h) (Or.inl ⟨by rfl, ?_⟩) (by assumption) ?_
        rotate_left
        · intro w hSw; (try dsimp only at hSw); go_simp; try (with_reducible rfl)
        try go_simp
        refine wpAnyH_done (by kernel_rfl) ?_ _
        go_wp2_with fail
        go_ret2
        refine BePo.grow HA.out HX.out ?_
        rw [HHd.out, Int.toNat_natCast, hg]
        exact ⟨tb, vN, vS, NL, SL, rfl, hgp.up (below_then HB.out HBd.out)⟩
end Go.Proofs.YtjojmmabcjccdaaDoor
