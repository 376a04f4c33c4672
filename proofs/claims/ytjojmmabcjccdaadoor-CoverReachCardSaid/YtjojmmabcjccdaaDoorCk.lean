/- enabled of petri and cover: what a call returns. -/
import Derived.Test.YtjojmmabcjccdaaDoorCj
import Derived.Test.YtjojmmabcjccdaaDoorCd
namespace Go.Proofs.YtjojmmabcjccdaaDoor
open Go.RowKit

/-- a captured slice of numbers -/
def MB (w : World) (pb : Nat) (Am : Option Addr) (m cm : Nat) (M : List Int) : Prop := w.heap[pb]? = some (.cells #[.slice Am m cm] 25 (0, 0)) ∧ ZIn w Am M ∧ M.length = m
theorem MB.below {w w' : World} {pb : Nat} {Am : Option Addr} {m cm : Nat} {M : List Int} (h : MB w pb Am m cm M) (hb : Below w.heap.size w w') : MB w' pb Am m cm M := by
  obtain ⟨h1, h2, h3⟩ := h
  exact ⟨by rw [hb.block pb (Array.getElem?_eq_some_iff.1 h1).1]; exact h1, h2.below hb, h3⟩
def zeroP (M : List Int) (p : Int) : Bool := decide (M.getD p.toNat 0 = 0)
theorem can_any (t : Tr) (M : List Int) : canT t M = !(t.i.any (zeroP M)) := by
  unfold canT zeroP
  rw [List.not_any_eq_all_not]
  congr 1; funext p; simp
/-- the places of a transition lie in a marking -/
def inM (l : List Int) (m : Nat) : Prop := ∀ p ∈ l, 0 ≤ p ∧ p < (m : Int)
set_option maxHeartbeats 800000 in
theorem en1_petri (p : Int) (pb : Nat) (Am : Option Addr) (m cm : Nat) (M : List Int) (w : World) (h : MB w pb Am m cm M) (hp : 0 ≤ p ∧ p < (m : Int)) : Calls Tryd.prog 79 #[.int .i64 p, .pointer (some ⟨pb, 0, none⟩)] w fun e w' => e = .returned (.bool (zeroP M p)) ∧ Below w.heap.size w w' := by
  obtain ⟨k, rfl⟩ := Int.eq_ofNat_of_zero_le hp.1
  have hk : k < m := by omega
  have hk' : k < M.length := by rw [h.2.2]; exact hk
  obtain ⟨ad, rfl, hpa, c0⟩ := h.2.1 k hk'
  have hc : w.cell? ⟨pb, 0, none⟩ = some (.slice (some ad) m cm) := by simp [World.cell?, h.1]
  have HV := Lib.hid (show zeroP M (k : Int) = decide (M[k] = 0) by unfold zeroP; simp [hk'])
  generalize zeroP M (k : Int) = R at *
  generalize M[k] = x at *
  clear h hp hk'
  by_cases h0 : x = 0
  · have q1 : (x == 0) = true := by rw [h0]; rfl
    rw [decide_eq_true h0] at HV
    clear h0
    go_enter Tryd.func79, Tryd.ntmps79
    go_wp2_with fail
    go_ret
    exact ⟨ret_bool (by rw [HV.out]), Below.refl _ _⟩
  · have q1 : (x == 0) = false := by rw [beq_eq_false_iff_ne]; exact h0
    rw [decide_eq_false h0] at HV
    clear h0
    go_enter Tryd.func79, Tryd.ntmps79
    go_wp2_with fail
    go_ret
    exact ⟨ret_bool (by rw [HV.out]), Below.refl _ _⟩
set_option maxHeartbeats 3200000 in
set_option maxRecDepth 100000 in
theorem iindex_petri (A : Option Addr) (n cap : Nat) (L : List Int) (w : World) (h : ZIn w A L) (hn : L.length = n) (hn4 : n ≤ 9223372036854775807) (pb : Nat) (Am : Option Addr) (m cm : Nat) (M : List Int) (hS : MB w pb Am m cm M ∧ inM L m) :
    Calls Tryd.prog 85 #[.slice A n cap, .func (.func 79) #[] #[.pointer (some ⟨pb, 0, none⟩)]] w (BIdx (!(L.any (zeroP M))) w) := by
  have H0 := Lib.hid h; clear h
  have HN := Lib.hid hn; clear hn
  have HSt := Lib.hid hS; clear hS
  go_enter Tryd.func85, Tryd.ntmps85
  go_wp2_with fail
  go_loopg [8] (n) (fun g i wr => ∃ k : Nat, k + g = n ∧ i = .int .i64 k ∧ (L.take k).any (zeroP M) = false ∧ Below w.heap.size w wr)
  case atStart => exact ⟨0, by omega, rfl, by simp, Below.refl _ _⟩
  case round =>
    obtain ⟨k, hk, rfl, hno, hB⟩ := hrel
    have HK := Lib.hid hk
    have HNo := Lib.hid hno
    have HB := Lib.hid hB
    have HT := Lib.hid (H0.out.below hB)
    have hle : k ≤ n := by omega
    clear hk hno hB
    by_cases hlt : k < n
    · have hlt' : k < L.length := by rw [HN.out]; exact hlt
      obtain ⟨ad, rfl, hp, c0⟩ := HT.out k hlt'
      have HTk := Lib.hid (List.take_succ_eq_append_getElem hlt')
      have HM := Lib.hid (List.getElem_mem hlt')
      generalize L[k] = x at *
      clear hlt'
      have HX := Lib.hid (en1_petri x pb Am m cm M wr (HSt.out.1.below HB.out) (HSt.out.2 x HM.out))
      cases hv : (zeroP M) x with
      | true =>
        rw [hv] at HX
        have HV := Lib.hid hv; clear hv
        go_wp2_with fail
        ((with_reducible refine HX.out.mono ?_); rintro e w1 ⟨rfl, hb1⟩)
        go_wp2_with fail
        go_ret
        refine BIdx.yes ?_ rfl (below_then HB.out hb1)
        rw [List.any_eq_true.2 ⟨x, HM.out, HV.out⟩]; rfl
      | false =>
        rw [hv] at HX
        have HV := Lib.hid hv; clear hv
        go_wp2_with fail
        ((with_reducible refine HX.out.mono ?_); rintro e w1 ⟨rfl, hb1⟩)
        have HB1 := Lib.hid (below_then HB.out hb1)
        clear hb1
        go_wp2_with fail
        go_roundg (gk - 1)
        case measure => have := HK.out; omega
        case rel => exact ⟨k + 1, by have := HK.out; omega, by go_num, by rw [HTk.out, List.any_append, HNo.out]; simp [HV.out], HB1.out⟩
    · have HE := Lib.hid (show L.take k = L from List.take_of_length_le (by have := HN.out; omega))
      go_wp2_with fail
      go_ret
      refine BIdx.no ?_ rfl HB.out
      rw [← HE.out, HNo.out]; rfl
set_option maxHeartbeats 800000 in
theorem icont_petri (A : Option Addr) (n cap : Nat) (L : List Int) (w : World) (h : ZIn w A L) (hn : L.length = n) (hn4 : n ≤ 9223372036854775807) (pb : Nat) (Am : Option Addr) (m cm : Nat) (M : List Int) (hS : MB w pb Am m cm M ∧ inM L m) :
    Calls Tryd.prog 73 #[.slice A n cap, .func (.func 79) #[] #[.pointer (some ⟨pb, 0, none⟩)]] w fun e w' => e = .returned (.bool (L.any (zeroP M))) ∧ Below w.heap.size w w' := by
  have HI := Lib.hid (iindex_petri A n cap L w h hn hn4 pb Am m cm M hS)
  clear h hn hS
  generalize L.any (zeroP M) = r at HI ⊢
  cases r with
  | false =>
    go_enter Tryd.func73, Tryd.ntmps73
    go_wp2_with fail
    ((with_reducible refine HI.out.mono ?_); rintro e w1 hP)
    obtain ⟨he, hb⟩ := hP
    have he' : e = .returned (.int .i64 (-1)) := he
    clear he; subst he'
    go_wp2_with fail
    go_ret
    exact ⟨rfl, hb⟩
  | true =>
    go_enter Tryd.func73, Tryd.ntmps73
    go_wp2_with fail
    ((with_reducible refine HI.out.mono ?_); rintro e w1 hP)
    obtain ⟨he, hb⟩ := hP
    obtain ⟨i, he'⟩ : ∃ i : Nat, e = .returned (.int .i64 i) := he
    subst he'
    go_wp2_with fail
    go_ret
    exact ⟨rfl, hb⟩
set_option maxHeartbeats 1600000 in
set_option maxRecDepth 100000 in
theorem enabled_petri (lb : ByteArray) (Ai Ao Am : Option Addr) (ni ci no co m cm : Nat) (li lo M : List Int) (w : World) (hi : ZIn w Ai li) (hni : li.length = ni) (hni2 : ni ≤ 9223372036854775807) (hM : ZIn w Am M) (hm : M.length = m) (hin : inM li m) :
    Calls Tryd.prog 70 #[.agg #[.string lb, .slice Ai ni ci, .slice Ao no co], .slice Am m cm] w fun e w' => e = .returned (.bool (canT ⟨lb, li, lo⟩ M)) ∧ Below w.heap.size w w' := by
  have HB := Lib.hid (two_boxes w (.cells #[.string lb, .slice Ai ni ci, .slice Ao no co] 70) (.cells #[.slice Am m cm] 25))
  have hmb : MB ((w.alloc (.cells #[.string lb, .slice Ai ni ci, .slice Ao no co] 70)).alloc (.cells #[.slice Am m cm] 25)) (w.heap.size + 1) Am m cm M := by
    refine ⟨?_, hM.below HB.out, hm⟩
    have := heap_alloc_new (w.alloc (.cells #[.string lb, .slice Ai ni ci, .slice Ao no co] 70)) (.cells #[.slice Am m cm] 25)
    rw [World.size_alloc] at this; exact this
  have HC := Lib.hid (icont_petri Ai ni ci li _ (hi.below HB.out) hni hni2 (w.heap.size + 1) Am m cm M ⟨hmb, hin⟩)
  have HR := Lib.hid (can_any ⟨lb, li, lo⟩ M)
  generalize canT ⟨lb, li, lo⟩ M = R at HR ⊢
  simp only at HR
  clear hi hni hM hm hin hmb
  go_enter Tryd.func70, Tryd.ntmps70
  go_wp2_with fail
  ((with_reducible refine HC.out.mono ?_); rintro e w1 ⟨rfl, hb1⟩)
  go_wp2_with fail
  go_ret
  exact ⟨ret_bool (by rw [HR.out]), below_then HB.out hb1⟩
set_option maxHeartbeats 800000 in
theorem en1_cover (p : Int) (pb : Nat) (Am : Option Addr) (m cm : Nat) (M : List Int) (w : World) (h : MB w pb Am m cm M) (hp : 0 ≤ p ∧ p < (m : Int)) : Calls Tryd.prog 86 #[.int .i64 p, .pointer (some ⟨pb, 0, none⟩)] w fun e w' => e = .returned (.bool (zeroP M p)) ∧ Below w.heap.size w w' := by
  obtain ⟨k, rfl⟩ := Int.eq_ofNat_of_zero_le hp.1
  have hk : k < m := by omega
  have hk' : k < M.length := by rw [h.2.2]; exact hk
  obtain ⟨ad, rfl, hpa, c0⟩ := h.2.1 k hk'
  have hc : w.cell? ⟨pb, 0, none⟩ = some (.slice (some ad) m cm) := by simp [World.cell?, h.1]
  have HV := Lib.hid (show zeroP M (k : Int) = decide (M[k] = 0) by unfold zeroP; simp [hk'])
  generalize zeroP M (k : Int) = R at *
  generalize M[k] = x at *
  clear h hp hk'
  by_cases h0 : x = 0
  · have q1 : (x == 0) = true := by rw [h0]; rfl
    rw [decide_eq_true h0] at HV
    clear h0
    go_enter Tryd.func86, Tryd.ntmps86
    go_wp2_with fail
    go_ret
    exact ⟨ret_bool (by rw [HV.out]), Below.refl _ _⟩
  · have q1 : (x == 0) = false := by rw [beq_eq_false_iff_ne]; exact h0
    rw [decide_eq_false h0] at HV
    clear h0
    go_enter Tryd.func86, Tryd.ntmps86
    go_wp2_with fail
    go_ret
    exact ⟨ret_bool (by rw [HV.out]), Below.refl _ _⟩
set_option maxHeartbeats 3200000 in
set_option maxRecDepth 100000 in
theorem iindex_cover (A : Option Addr) (n cap : Nat) (L : List Int) (w : World) (h : ZIn w A L) (hn : L.length = n) (hn4 : n ≤ 9223372036854775807) (pb : Nat) (Am : Option Addr) (m cm : Nat) (M : List Int) (hS : MB w pb Am m cm M ∧ inM L m) :
    Calls Tryd.prog 85 #[.slice A n cap, .func (.func 86) #[] #[.pointer (some ⟨pb, 0, none⟩)]] w (BIdx (!(L.any (zeroP M))) w) := by
  have H0 := Lib.hid h; clear h
  have HN := Lib.hid hn; clear hn
  have HSt := Lib.hid hS; clear hS
  go_enter Tryd.func85, Tryd.ntmps85
  go_wp2_with fail
  go_loopg [8] (n) (fun g i wr => ∃ k : Nat, k + g = n ∧ i = .int .i64 k ∧ (L.take k).any (zeroP M) = false ∧ Below w.heap.size w wr)
  case atStart => exact ⟨0, by omega, rfl, by simp, Below.refl _ _⟩
  case round =>
    obtain ⟨k, hk, rfl, hno, hB⟩ := hrel
    have HK := Lib.hid hk
    have HNo := Lib.hid hno
    have HB := Lib.hid hB
    have HT := Lib.hid (H0.out.below hB)
    have hle : k ≤ n := by omega
    clear hk hno hB
    by_cases hlt : k < n
    · have hlt' : k < L.length := by rw [HN.out]; exact hlt
      obtain ⟨ad, rfl, hp, c0⟩ := HT.out k hlt'
      have HTk := Lib.hid (List.take_succ_eq_append_getElem hlt')
      have HM := Lib.hid (List.getElem_mem hlt')
      generalize L[k] = x at *
      clear hlt'
      have HX := Lib.hid (en1_cover x pb Am m cm M wr (HSt.out.1.below HB.out) (HSt.out.2 x HM.out))
      cases hv : (zeroP M) x with
      | true =>
        rw [hv] at HX
        have HV := Lib.hid hv; clear hv
        go_wp2_with fail
        ((with_reducible refine HX.out.mono ?_); rintro e w1 ⟨rfl, hb1⟩)
        go_wp2_with fail
        go_ret
        refine BIdx.yes ?_ rfl (below_then HB.out hb1)
        rw [List.any_eq_true.2 ⟨x, HM.out, HV.out⟩]; rfl
      | false =>
        rw [hv] at HX
        have HV := Lib.hid hv; clear hv
        go_wp2_with fail
        ((with_reducible refine HX.out.mono ?_); rintro e w1 ⟨rfl, hb1⟩)
        have HB1 := Lib.hid (below_then HB.out hb1)
        clear hb1
        go_wp2_with fail
        go_roundg (gk - 1)
        case measure => have := HK.out; omega
        case rel => exact ⟨k + 1, by have := HK.out; omega, by go_num, by rw [HTk.out, List.any_append, HNo.out]; simp [HV.out], HB1.out⟩
    · have HE := Lib.hid (show L.take k = L from List.take_of_length_le (by have := HN.out; omega))
      go_wp2_with fail
      go_ret
      refine BIdx.no ?_ rfl HB.out
      rw [← HE.out, HNo.out]; rfl
set_option maxHeartbeats 800000 in
theorem icont_cover (A : Option Addr) (n cap : Nat) (L : List Int) (w : World) (h : ZIn w A L) (hn : L.length = n) (hn4 : n ≤ 9223372036854775807) (pb : Nat) (Am : Option Addr) (m cm : Nat) (M : List Int) (hS : MB w pb Am m cm M ∧ inM L m) :
    Calls Tryd.prog 73 #[.slice A n cap, .func (.func 86) #[] #[.pointer (some ⟨pb, 0, none⟩)]] w fun e w' => e = .returned (.bool (L.any (zeroP M))) ∧ Below w.heap.size w w' := by
  have HI := Lib.hid (iindex_cover A n cap L w h hn hn4 pb Am m cm M hS)
  clear h hn hS
  generalize L.any (zeroP M) = r at HI ⊢
  cases r with
  | false =>
    go_enter Tryd.func73, Tryd.ntmps73
    go_wp2_with fail
    ((with_reducible refine HI.out.mono ?_); rintro e w1 hP)
    obtain ⟨he, hb⟩ := hP
    have he' : e = .returned (.int .i64 (-1)) := he
    clear he; subst he'
    go_wp2_with fail
    go_ret
    exact ⟨rfl, hb⟩
  | true =>
    go_enter Tryd.func73, Tryd.ntmps73
    go_wp2_with fail
    ((with_reducible refine HI.out.mono ?_); rintro e w1 hP)
    obtain ⟨he, hb⟩ := hP
    obtain ⟨i, he'⟩ : ∃ i : Nat, e = .returned (.int .i64 i) := he
    subst he'
    go_wp2_with fail
    go_ret
    exact ⟨rfl, hb⟩
set_option maxHeartbeats 1600000 in
set_option maxRecDepth 100000 in
theorem enabled_cover (lb : ByteArray) (Ai Ao Am : Option Addr) (ni ci no co m cm : Nat) (li lo M : List Int) (w : World) (hi : ZIn w Ai li) (hni : li.length = ni) (hni2 : ni ≤ 9223372036854775807) (hM : ZIn w Am M) (hm : M.length = m) (hin : inM li m) :
    Calls Tryd.prog 77 #[.agg #[.string lb, .slice Ai ni ci, .slice Ao no co], .slice Am m cm] w fun e w' => e = .returned (.bool (canT ⟨lb, li, lo⟩ M)) ∧ Below w.heap.size w w' := by
  have HB := Lib.hid (two_boxes w (.cells #[.string lb, .slice Ai ni ci, .slice Ao no co] 70) (.cells #[.slice Am m cm] 25))
  have hmb : MB ((w.alloc (.cells #[.string lb, .slice Ai ni ci, .slice Ao no co] 70)).alloc (.cells #[.slice Am m cm] 25)) (w.heap.size + 1) Am m cm M := by
    refine ⟨?_, hM.below HB.out, hm⟩
    have := heap_alloc_new (w.alloc (.cells #[.string lb, .slice Ai ni ci, .slice Ao no co] 70)) (.cells #[.slice Am m cm] 25)
    rw [World.size_alloc] at this; exact this
  have HC := Lib.hid (icont_cover Ai ni ci li _ (hi.below HB.out) hni hni2 (w.heap.size + 1) Am m cm M ⟨hmb, hin⟩)
  have HR := Lib.hid (can_any ⟨lb, li, lo⟩ M)
  generalize canT ⟨lb, li, lo⟩ M = R at HR ⊢
  simp only at HR
  clear hi hni hM hm hin hmb
  go_enter Tryd.func77, Tryd.ntmps77
  go_wp2_with fail
  ((with_reducible refine HC.out.mono ?_); rintro e w1 ⟨rfl, hb1⟩)
  go_wp2_with fail
  go_ret
  exact ⟨ret_bool (by rw [HR.out]), below_then HB.out hb1⟩
end Go.Proofs.YtjojmmabcjccdaaDoor
