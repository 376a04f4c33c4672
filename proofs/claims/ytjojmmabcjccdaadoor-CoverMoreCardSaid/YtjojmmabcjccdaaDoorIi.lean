/- IndexFunc and ContainsFunc on lists of lists; none, fits of the statements: what a call returns. -/
import Derived.Test.YtjojmmabcjccdaaDoorIh
namespace Go.Proofs.YtjojmmabcjccdaaDoor
open Go.RowKit

/-- the index of the first list that a test finds -/
def lidx (p : List Int → Bool) (L : List (List Int)) : Int := if L.findIdx p = L.length then -1 else ((L.findIdx p : Nat) : Int)
theorem lidx_at {p : List Int → Bool} {L : List (List Int)} {k : Nat} (h : k < L.length) (hp : p L[k] = true) (hno : ∀ s ∈ L.take k, p s = false) : lidx p L = (k : Int) := by
  have e : L.findIdx p = k := by
    rw [List.findIdx_eq h]
    exact ⟨hp, fun j hj => hno _ (by rw [List.mem_take_iff_getElem]; exact ⟨j, by omega, rfl⟩)⟩
  unfold lidx
  rw [e, if_neg (by omega)]
theorem lidx_no {p : List Int → Bool} {L : List (List Int)} (h : ∀ s ∈ L, p s = false) : lidx p L = -1 := by
  unfold lidx
  rw [if_pos (List.findIdx_eq_length_of_false h)]
theorem lidx_any (p : List Int → Bool) (L : List (List Int)) : decide (0 ≤ lidx p L) = L.any p := by
  rw [Bool.eq_iff_iff, decide_eq_true_eq, List.any_eq_true]
  constructor
  · intro h
    apply Classical.byContradiction
    intro hno
    rw [lidx_no (fun s hs => by
      cases hv : p s with
      | false => rfl
      | true => exact absurd ⟨s, hs, hv⟩ hno)] at h
    omega
  · rintro ⟨s, hs, hp⟩
    have := List.findIdx_lt_length_of_exists ⟨s, hs, hp⟩
    unfold lidx
    rw [if_neg (by omega)]; omega
/-- a marking is too long -/
def longM (s : List Int) : Bool := decide (40 < s.length)
theorem fits1_any (Ax : Option Addr) (nx cx : Nat) (X : List Int) (w : World) (hl : X.length = nx) : Calls Tryd.prog 50 #[.slice Ax nx cx] w fun e w' => e = .returned (.bool (longM X)) ∧ Below w.heap.size w w' := by
  have HV := Lib.hid (show decide ((40 : Int) < (nx : Int)) = longM X by unfold longM; rw [hl, Bool.eq_iff_iff]; simp; omega)
  clear hl
  go_enter Tryd.func50, Tryd.ntmps50
  go_wp2_with fail
  go_ret
  exact ⟨ret_bool HV.out, Below.refl _ _⟩
set_option maxHeartbeats 3200000 in
set_option maxRecDepth 100000 in
theorem lindex_ft (A : Option Addr) (n cap : Nat) (L : List (List Int)) (w : World) (h : LIn w A L) (hn : L.length = n) (hn4 : n ≤ 9223372036854775806) :
    Calls Tryd.prog 53 #[.slice A n cap, .func (.func 50) #[] #[]] w fun e w' => e = .returned (.int .i64 (lidx longM L)) ∧ Below w.heap.size w w' := by
  have H0 := Lib.hid h; clear h
  have HN := Lib.hid hn; clear hn
  skip
  go_enter Tryd.func53, Tryd.ntmps53
  go_wp2_with fail
  go_loopg [8] (n) (fun g i wr => ∃ k : Nat, k + g = n ∧ i = .int .i64 k ∧ (∀ s ∈ L.take k, longM s = false) ∧ Below w.heap.size w wr)
  case atStart => exact ⟨0, by omega, rfl, by simp, Below.refl _ _⟩
  case round =>
    obtain ⟨k, hk, rfl, hno, hB⟩ := hrel
    have HK := Lib.hid hk
    have HNo := Lib.hid hno
    have HB := Lib.hid hB
    have HT := Lib.hid (H0.out.below hB)
    have hle : k ≤ n := by omega
    clear hk hno hB
    by_cases hlt : k < n
    · have hlt' : k < L.length := by rw [HN.out]; exact hlt
      obtain ⟨ad, rfl, hp, u, c0, Ax, nx, cx, rfl, zx, hxl, hxc, hxd⟩ := HT.out k hlt'
      have HTk := Lib.hid (List.take_succ_eq_append_getElem hlt')
      have HAt := Lib.hid (lidx_at (p := longM) hlt')
      have hXm := List.getElem_mem hlt'
      generalize L[k] = X at *
      have HX := Lib.hid (fits1_any Ax nx cx X wr hxl)
      clear hlt' zx hxl hXm
      cases hv : longM X with
      | true =>
        rw [hv] at HX
        have HV := Lib.hid (HAt.out hv HNo.out); clear hv
        go_wp2_with fail
        ((with_reducible refine HX.out.mono ?_); rintro e w1 ⟨rfl, hb1⟩)
        have HB1 := Lib.hid (below_then HB.out hb1)
        go_wp2_with fail
        go_ret
        exact ⟨ret_int HV.out.symm, HB1.out⟩
      | false =>
        rw [hv] at HX
        have HV := Lib.hid hv; clear hv HAt
        go_wp2_with fail
        ((with_reducible refine HX.out.mono ?_); rintro e w1 ⟨rfl, hb1⟩)
        have HB1 := Lib.hid (below_then HB.out hb1)
        clear hb1
        go_wp2_with fail
        go_roundg (gk - 1)
        case measure => have := HK.out; omega
        case rel => exact ⟨k + 1, by have := HK.out; omega, by go_num, by
          rw [HTk.out]; intro s hs
          rcases List.mem_append.1 hs with h1 | h1
          · exact HNo.out s h1
          · have : s = X := by simpa using h1
            rw [this]; exact HV.out, HB1.out⟩
    · have HV := Lib.hid (show lidx longM L = -1 from lidx_no (by have := HNo.out; rwa [List.take_of_length_le (by rw [HN.out]; omega)] at this))
      go_wp2_with fail
      go_ret
      exact ⟨ret_int HV.out.symm, HB.out⟩
set_option maxHeartbeats 800000 in
theorem lcont_ft (A : Option Addr) (n cap : Nat) (L : List (List Int)) (w : World) (h : LIn w A L) (hn : L.length = n) (hn4 : n ≤ 9223372036854775806) :
    Calls Tryd.prog 31 #[.slice A n cap, .func (.func 50) #[] #[]] w fun e w' => e = .returned (.bool (L.any longM)) ∧ Below w.heap.size w w' := by
  have HI := Lib.hid (lindex_ft A n cap L w h hn hn4)
  have HE := Lib.hid (lidx_any longM L)
  clear h hn
  generalize lidx longM L = r at HI HE
  go_enter Tryd.func31, Tryd.ntmps31
  go_wp2_with fail
  ((with_reducible refine HI.out.mono ?_); rintro e w1 ⟨rfl, hb1⟩)
  have HB1 := Lib.hid hb1
  go_wp2_with fail
  go_ret
  exact ⟨ret_bool HE.out, HB1.out⟩
/-- a certificate is short -/
def fitB (C : Ct) : Bool := decide (C.run.length ≤ 1000) && (decide (C.pump.length ≤ 1000) && (decide (C.marks.length ≤ 300) && !C.marks.any longM))
set_option maxHeartbeats 6400000 in
set_option maxRecDepth 100000 in
theorem fits_any (v : Value) (C : Ct) (w : World) (hC : CtIn w v C) : Calls Tryd.prog 19 #[v] w fun e w' => e = .returned (.bool (fitB C)) ∧ Below w.heap.size w w' := by
  obtain ⟨Ar, nr, cr, Ap, np, cp, Ak, nk, ck, A5, n5, c5, A6, n6, c6, A7, n7, c7, rfl, ⟨hr1, hr2⟩, ⟨hp1, hp2⟩, hq1, hq2, hq3⟩ := hC
  have HB := Lib.hid (below_alloc w (.cells #[.int .i64 C.cl, .int .i64 C.n, .slice Ar nr cr, .slice Ap np cp, .slice Ak nk ck, .slice A5 n5 c5, .slice A6 n6 c6, .slice A7 n7 c7] 41))
  have HLc := Lib.hid (lcont_ft Ak nk ck C.marks _ (hq1.below HB.out) hq2 hq3)
  have HF := Lib.hid (show fitB C = (decide (nr ≤ 1000) && (decide (np ≤ 1000) && (decide (nk ≤ 300) && !C.marks.any longM))) by unfold fitB; rw [hr2, hp2, hq2])
  clear hr1 hr2 hp1 hp2 hq1 hq2
  by_cases h1 : nr ≤ 1000
  · have q1 : decide ((nr : Int) ≤ 1000) = true := by simp; omega
    by_cases h2 : np ≤ 1000
    · have q2 : decide ((np : Int) ≤ 1000) = true := by simp; omega
      by_cases h3 : nk ≤ 300
      · have q3 : decide ((nk : Int) ≤ 300) = true := by simp; omega
        have HV := Lib.hid (show fitB C = !C.marks.any longM by rw [HF.out, decide_eq_true h1, decide_eq_true h2, decide_eq_true h3]; rfl)
        clear h1 h2 h3
        generalize C.marks.any longM = b at *
        go_enter Tryd.func19, Tryd.ntmps19
        go_wp2_with fail
        ((with_reducible refine HLc.out.mono ?_); rintro e w1 ⟨rfl, hb1⟩)
        have HB1 := Lib.hid (below_then HB.out hb1)
        go_wp2_with fail
        go_ret
        exact ⟨ret_bool HV.out.symm, HB1.out⟩
      · have q3 : decide ((nk : Int) ≤ 300) = false := by simp; omega
        have HV := Lib.hid (show fitB C = false by rw [HF.out, decide_eq_false h3]; simp)
        clear h1 h2 h3
        go_enter Tryd.func19, Tryd.ntmps19
        go_wp2_with fail
        go_ret
        exact ⟨ret_bool HV.out.symm, HB.out⟩
    · have q2 : decide ((np : Int) ≤ 1000) = false := by simp; omega
      have HV := Lib.hid (show fitB C = false by rw [HF.out, decide_eq_false h2]; simp)
      clear h1 h2
      go_enter Tryd.func19, Tryd.ntmps19
      go_wp2_with fail
      go_ret
      exact ⟨ret_bool HV.out.symm, HB.out⟩
  · have q1 : decide ((nr : Int) ≤ 1000) = false := by simp; omega
    have HV := Lib.hid (show fitB C = false by rw [HF.out, decide_eq_false h1]; rfl)
    clear h1
    go_enter Tryd.func19, Tryd.ntmps19
    go_wp2_with fail
    go_ret
    exact ⟨ret_bool HV.out.symm, HB.out⟩
set_option maxHeartbeats 1600000 in
theorem none_z (w : World) : Calls Tryd.prog 17 #[zCt] w fun e w' => e = .returned (.bool true) ∧ Below w.heap.size w w' := by
  have HB := Lib.hid (below_alloc w (.cells #[.int .i64 0, .int .i64 0, .slice none 0 0, .slice none 0 0, .slice none 0 0, .slice none 0 0, .slice none 0 0, .slice none 0 0] 41))
  unfold zCt
  go_enter Tryd.func17, Tryd.ntmps17
  go_wp2_with fail
  go_ret
  exact ⟨rfl, HB.out⟩
end Go.Proofs.YtjojmmabcjccdaaDoor
