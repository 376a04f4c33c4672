/- ContainsFunc on numbers; petri.marking: what a call returns. Marking of the reference: what a call returns. -/
import Derived.Test.YtpnhcimmlnjfaaaDoorCh
namespace Go.Proofs.YtpnhcimmlnjfaaaDoor
open Go.Lib (hid)
section
open Go.RowKit

/-- IndexFunc's answer says whether there is such a byte -/
def BIdx (r : Bool) (w : World) (e : Ending) (w' : World) : Prop := (if r then e = .returned (.int .i64 (-1)) else ∃ i : Nat, e = .returned (.int .i64 i)) ∧ Below w.heap.size w w'
theorem BIdx.yes {r : Bool} {w w' : World} {e : Ending} {i : Nat} (h : r = false) (he : e = .returned (.int .i64 i)) (hb : Below w.heap.size w w') : BIdx r w e w' := by subst h; exact ⟨⟨i, he⟩, hb⟩
theorem BIdx.no {r : Bool} {w w' : World} {e : Ending} (h : r = true) (he : e = .returned (.int .i64 (-1))) (hb : Below w.heap.size w w') : BIdx r w e w' := by subst h; exact ⟨he, hb⟩
/-- not a number of tokens -/
def badK (k : Int) : Bool := decide (k < 0) || decide (100 < k)
theorem mk1_any (k : Int) (w : World) : Calls Tryd.prog 89 #[.int .i64 k] w fun e w' => e = .returned (.bool (badK k)) ∧ Below w.heap.size w w' := by
 by_cases h : k < 0
 · have HV := hid (show badK k = true by unfold badK; rw [decide_eq_true h]; rfl)
   go_enter Tryd.func89, Tryd.ntmps89
   go_wp2_with fail
   go_ret
   exact ⟨ret_bool HV.out.symm, Below.refl _ _⟩
 · have HV := hid (show badK k = decide (100 < k) by unfold badK; rw [decide_eq_false h]; rfl)
   have d0 : decide (k < 0) = false := by simpa using h
   clear h
   go_enter Tryd.func89, Tryd.ntmps89
   go_wp2_with fail
   go_ret
   exact ⟨ret_bool (by rw [HV.out]), Below.refl _ _⟩
set_option maxHeartbeats 3200000 in
set_option maxRecDepth 100000 in
theorem iindex_mk (A : Option Addr) (n cap : Nat) (L : List Int) (w : World) (h : ZIn w A L) (hn : L.length = n) (hn4 : n ≤ 9223372036854775807) :
 Calls Tryd.prog 87 #[.slice A n cap, .func (.func 89) #[] #[]] w (BIdx (!(L.any badK)) w) := by
 have H0 := hid h; clear h
 have HN := hid hn; clear hn
 skip
 go_enter Tryd.func87, Tryd.ntmps87
 go_wp2_with fail
 go_loopg [8] (n) (fun g i wr => ∃ k : Nat, k + g = n ∧ i = .int .i64 k ∧ (L.take k).any badK = false ∧ Below w.heap.size w wr)
 case atStart => exact ⟨0, by omega, rfl, by simp, Below.refl _ _⟩
 case round =>
  obtain ⟨k, hk, rfl, hno, hB⟩ := hrel
  have HK := hid hk
  have HNo := hid hno
  have HB := hid hB
  have HT := hid (H0.out.below hB)
  have hle : k ≤ n := by omega
  clear hk hno hB
  by_cases hlt : k < n
  · have hlt' : k < L.length := by rw [HN.out]; exact hlt
    obtain ⟨ad, rfl, hp, c0⟩ := HT.out k hlt'
    have HTk := hid (List.take_succ_eq_append_getElem hlt')
    have HM := hid (List.getElem_mem hlt')
    generalize L[k] = x at *
    clear hlt'
    have HX := hid (mk1_any x wr)
    cases hv : badK x with
    | true =>
     rw [hv] at HX
     have HV := hid hv; clear hv
     go_wp2_with fail
     ((with_reducible refine HX.out.mono ?_); rintro e w1 ⟨rfl, hb1⟩)
     go_wp2_with fail
     go_ret
     refine BIdx.yes ?_ rfl (below_then HB.out hb1)
     rw [List.any_eq_true.2 ⟨x, HM.out, HV.out⟩]; rfl
    | false =>
     rw [hv] at HX
     have HV := hid hv; clear hv
     go_wp2_with fail
     ((with_reducible refine HX.out.mono ?_); rintro e w1 ⟨rfl, hb1⟩)
     have HB1 := hid (below_then HB.out hb1)
     clear hb1
     go_wp2_with fail
     go_roundg (gk - 1)
     case measure => have := HK.out; omega
     case rel => exact ⟨k + 1, by have := HK.out; omega, by go_num, by rw [HTk.out, List.any_append, HNo.out]; simp [HV.out], HB1.out⟩
  · have HE := hid (show L.take k = L from List.take_of_length_le (by have := HN.out; omega))
    go_wp2_with fail
    go_ret
    refine BIdx.no ?_ rfl HB.out
    rw [← HE.out, HNo.out]; rfl
set_option maxHeartbeats 800000 in
theorem icont_mk (A : Option Addr) (n cap : Nat) (L : List Int) (w : World) (h : ZIn w A L) (hn : L.length = n) (hn4 : n ≤ 9223372036854775807) :
 Calls Tryd.prog 68 #[.slice A n cap, .func (.func 89) #[] #[]] w fun e w' => e = .returned (.bool (L.any badK)) ∧ Below w.heap.size w w' := by
 have HI := hid (iindex_mk A n cap L w h hn hn4)
 clear h hn
 generalize L.any badK = r at HI ⊢
 cases r with
 | false =>
  go_enter Tryd.func68, Tryd.ntmps68
  go_wp2_with fail
  ((with_reducible refine HI.out.mono ?_); rintro e w1 hP)
  obtain ⟨he, hb⟩ := hP
  have he' : e = .returned (.int .i64 (-1)) := he
  clear he; subst he'
  go_wp2_with fail
  go_ret
  exact ⟨rfl, hb⟩
 | true =>
  go_enter Tryd.func68, Tryd.ntmps68
  go_wp2_with fail
  ((with_reducible refine HI.out.mono ?_); rintro e w1 hP)
  obtain ⟨he, hb⟩ := hP
  obtain ⟨i, he'⟩ : ∃ i : Nat, e = .returned (.int .i64 i) := he
  subst he'
  go_wp2_with fail
  go_ret
  exact ⟨rfl, hb⟩
/-- a marking of a valid net -/
def mkB (N : Nt) (m : List Int) : Bool := ntB N && (decide ((m.length : Int) = N.pl) && !(m.any badK))
set_option maxHeartbeats 3200000 in
set_option maxRecDepth 100000 in
theorem pmarking_any (N : Nt) (A : Option Addr) (n c : Nat) (Am : Option Addr) (m cm : Nat) (M : List Int) (w : World) (h : NtIn w A N) (hn : N.tr.length = n) (hn2 : n ≤ 9223372036854775807) (hM : ZIn w Am M) (hm : M.length = m) (hm2 : m ≤ 9223372036854775807) :
 Calls Tryd.prog 73 #[.agg #[.int .i64 N.pl, .slice A n c, .int .i64 N.src, .int .i64 N.snk], .slice Am m cm] w fun e w' => e = .returned (.bool (mkB N M)) ∧ Below w.heap.size w w' := by
 have HB := hid (below_alloc w (.cells #[.int .i64 N.pl, .slice A n c, .int .i64 N.src, .int .i64 N.snk] 24))
 have HN := hid (NB.new w N.pl A n c N.src N.snk)
 have HV := hid (pvalid_any N A n c (w.alloc (.cells #[.int .i64 N.pl, .slice A n c, .int .i64 N.src, .int .i64 N.snk] 24)) (h.below HB.out) hn hn2)
 have H0 := hid (hM.below HB.out)
 have HR := hid (show mkB N M = (ntB N && (decide ((m : Int) = N.pl) && !(M.any badK))) by unfold mkB; rw [hm])
 have HM := hid hm
 generalize mkB N M = R at *
 clear h hn hM hm
 go_enter Tryd.func73, Tryd.ntmps73
 go_wp2_with fail
 generalize w.alloc _ = w0 at HB HN HV H0 ⊢
 ((with_reducible refine HV.out.mono ?_); rintro e w1 ⟨rfl, hb1⟩)
 have HB1 := hid (below_then HB.out hb1)
 have HN1 := hid (HN.out.below hb1)
 have HC := hid (icont_mk Am m cm M w1 (H0.out.below hb1) HM.out hm2)
 clear hb1 HV HN HB H0
 obtain ⟨c0, c1, c2, c3⟩ := HN1.out.cells
 cases hv : ntB N with
 | false =>
  rw [hv] at HR
  clear hv
  go_wp2_with fail
  go_ret
  exact ⟨ret_bool (by rw [HR.out]; rfl), HB1.out⟩
 | true =>
  rw [hv] at HR
  clear hv
  by_cases hl : (m : Int) = N.pl
  · have q1 : ((m : Int) == N.pl) = true := by rw [hl]; exact beq_self_eq_true _
    rw [decide_eq_true hl] at HR
    clear hl
    go_wp2_with fail
    ((with_reducible refine HC.out.mono ?_); rintro e w2 ⟨rfl, hb2⟩)
    go_wp2_with fail
    go_ret
    exact ⟨ret_bool (by rw [HR.out]; rfl), below_then HB1.out hb2⟩
  · have q1 : ((m : Int) == N.pl) = false := by rw [beq_eq_false_iff_ne]; exact hl
    rw [decide_eq_false hl] at HR
    clear hl
    go_wp2_with fail
    go_ret
    exact ⟨ret_bool (by rw [HR.out]; rfl), HB1.out⟩
end
section
open Go.RowKit

set_option maxHeartbeats 3200000 in
set_option maxRecDepth 100000 in
theorem rmarking_any (pl : Int) (A : Option Addr) (n c : Nat) (src snk : Int) (Am : Option Addr) (m cm : Nat) (M : List Int) (w : World) (hM : ZIn w Am M) (hm : M.length = m) (hm2 : m ≤ 9223372036854775807) :
 Calls Tryd.prog 34 #[.agg #[.int .i64 pl, .slice A n c, .int .i64 src, .int .i64 snk], .slice Am m cm] w fun e w' => e = .returned (.bool (decide ((m : Int) = pl) && !(M.any badK))) ∧ Below w.heap.size w w' := by
 have HB := hid (below_alloc w (.cells #[.int .i64 pl, .slice A n c, .int .i64 src, .int .i64 snk] 24))
 have HN := hid (NB.new w pl A n c src snk)
 have H0 := hid (hM.below HB.out)
 have HM := hid hm
 obtain ⟨R, hR⟩ : ∃ R, R = (decide ((m : Int) = pl) && !(M.any badK)) := ⟨_, rfl⟩
 have HR := hid hR
 rw [← hR]
 clear hM hm hR
 by_cases hl : (m : Int) = pl
 · have q1 : ((m : Int) != pl) = false := by simp [hl]
   rw [decide_eq_true hl] at HR
   clear hl
   go_enter Tryd.func34, Tryd.ntmps34
   go_wp2_with fail
   generalize w.alloc _ = w0 at HB HN H0 ⊢
   go_loopg [5] (m) (fun g iv wr => ∃ k : Nat, k + g = m ∧ iv = .int .i64 k ∧ (M.take k).any badK = false ∧ w0 = wr)
   case atStart => exact ⟨0, by omega, rfl, by simp, rfl⟩
   case round =>
    obtain ⟨k, hk, rfl, hno, rfl⟩ := hrel
    have HK := hid hk
    have HNo := hid hno
    have hle : k ≤ m := by omega
    clear hk hno
    by_cases hlt : k < m
    · have hlt' : k < M.length := by rw [HM.out]; exact hlt
      obtain ⟨ad, rfl, hp, c0⟩ := H0.out k hlt'
      have HTk := hid (List.take_succ_eq_append_getElem hlt')
      have HMm := hid (List.getElem_mem hlt')
      generalize M[k] = x at *
      clear hlt'
      by_cases h1 : x < 0
      · have HV := hid (show R = false by rw [HR.out, List.any_eq_true.2 ⟨x, HMm.out, by unfold badK; rw [decide_eq_true h1]; rfl⟩]; rfl)
        go_wp2_with fail
        go_ret
        exact ⟨ret_bool HV.out.symm, HB.out⟩
      · have d1 : decide (x < 0) = false := by simpa using h1
        by_cases h2 : 100 < x
        · have HV := hid (show R = false by rw [HR.out, List.any_eq_true.2 ⟨x, HMm.out, by unfold badK; rw [decide_eq_true h2]; simp⟩]; rfl)
          clear h1
          go_wp2_with fail
          go_ret
          exact ⟨ret_bool HV.out.symm, HB.out⟩
        · have d2 : decide (100 < x) = false := by simpa using h2
          have HV := hid (show badK x = false by unfold badK; rw [d1, d2]; rfl)
          clear h1 h2
          go_wp2_with fail
          go_roundg (gk - 1)
          case measure => have := HK.out; omega
          case rel => exact ⟨k + 1, by have := HK.out; omega, by go_num, by rw [HTk.out, List.any_append, HNo.out]; simp [HV.out], rfl⟩
    · have HE := hid (show R = true by
       have h3 := HNo.out
       rw [List.take_of_length_le (by rw [HM.out]; omega)] at h3
       rw [HR.out, h3]; rfl)
      go_wp2_with fail
      go_ret
      exact ⟨ret_bool HE.out.symm, HB.out⟩
 · have q1 : ((m : Int) != pl) = true := by simp [hl]
   have HV := hid (show R = false by rw [HR.out, decide_eq_false hl]; rfl)
   clear hl
   go_enter Tryd.func34, Tryd.ntmps34
   go_wp2_with fail
   go_ret
   exact ⟨ret_bool HV.out.symm, HB.out⟩
end
end Go.Proofs.YtpnhcimmlnjfaaaDoor
