/- measure and Valid of trees, both packages', and the law's count: what a call returns. -/
import Derived.Test.YtpiihmbeedlpkaaGreatDoorPUu
import Derived.Test.YtpiihmbeedlpkaaGreatDoorPUk
namespace Go.Proofs.YtpiihmbeedlpkaaGreatDoor
set_option maxRecDepth 100000
set_option maxHeartbeats 6400000
open Go.Lib (hid)
open Go.RowKit

theorem szL_succ : ∀ (l : List Tre) (k : Nat) (hk : k < l.length), szL (l.take (k + 1)) = szL (l.take k) + szT l[k]
 | [], k, hk => by simp at hk
 | t :: l, 0, _ => by simp [szL]
 | t :: l, k + 1, hk => by
  have := szL_succ l k (by simpa using hk);simp only [List.take_succ_cons, szL, List.getElem_cons_succ];omega
theorem okTl_succ (l : List Tre) (k : Nat) (hk : k < l.length) (h : okTl (l.take k)) (h2 : okTr l[k]) : okTl (l.take (k + 1)) := by
 rw [okTl_iff] at h ⊢;intro t ht;rw [List.take_succ_eq_append_getElem hk] at ht;rcases List.mem_append.1 ht with h1 | h1
 · exact h t h1
 · rw [List.mem_singleton.1 h1]; exact h2
def MsPo (t : Tre) (most : Int) (w : World) (e : Ending) (w' : World) : Prop := ((∃ m : Nat, e = .returned (.tuple #[.int .i64 (m : Int), .bool true]) ∧ okTr t ∧ m = szT t ∧ (m : Int) ≤ most) ∨ e = .returned (.tuple #[.int .i64 0, .bool false])) ∧ Below w.heap.size w w'
def RcPo (lo hi : Int) (w : World) (e : Ending) (w' : World) : Prop := ∃ r : Int, e = .returned (.int .i64 r) ∧ lo ≤ r ∧ r ≤ hi ∧ Below w.heap.size w w'
def BxPo (w : World) (e : Ending) (w' : World) : Prop := ∃ q : Bool, e = .returned (.bool q) ∧ Below w.heap.size w w'
theorem measure_any : ∀ (k : Nat) (t : Tre), szT t ≤ k → ∀ (c0 c1 c2 : Value) (most depth : Int) (w : World), TrM w t c0 c1 c2 → 0 ≤ most → most ≤ 10000 → 0 ≤ depth → depth ≤ 1000 → Calls Tryz.prog 31 #[.agg #[c0, c1, c2], .int .i64 most, .int .i64 depth] w (MsPo t most w) := by
 intro k
 induction k with
 | zero => intro t h; have := szT_pos t; omega
 | succ k ih =>
  intro t hk c0 c1 c2 most depth w h hm0 hm1 hd0 hd1;obtain ⟨op, act, l⟩ := t;obtain ⟨A, n, c, rfl, rfl, rfl, hop, hac, hl, hnc, hcm, hL⟩ := h.out;have HB := hid (below_alloc w (.cells #[.int .i64 op, .string act, .slice A n c] 24));have HT := hid (TBx.new w (.int .i64 op) (.string act) (.slice A n c));have H0 := hid (TlM.below HB.out l A 0 hL);have HIh := hid (fun (j : Nat) (hj : j < l.length) => ih l[j] (by have := sz_at l j hj; rw [szT] at hk; omega));have HM := hid hl;have HN := hid (show n ≤ 9223372036854775807 by omega);have hnm : n ≤ 9223372036854775807 := HN.out;have HRg := hid (fun w => pright_any op act A n c w hac (by omega));clear ih h hk hop hac hL hl hnc hcm;by_cases h1 : most < 1
  · have q1 : decide (most < 1) = true := decide_eq_true h1;go_enter Tryz.func31, Tryz.ntmps31;go_wp2_with fail;go_ret2;exact ⟨.inr rfl, HB.out⟩
  have q1 : decide (most < 1) = false := decide_eq_false h1;by_cases h2 : 60 < depth
  · have q2 : decide (60 < depth) = true := decide_eq_true h2;go_enter Tryz.func31, Tryz.ntmps31;go_wp2_with fail;go_ret2;exact ⟨.inr rfl, HB.out⟩
  have q2 : decide (60 < depth) = false := decide_eq_false h2;go_enter Tryz.func31, Tryz.ntmps31;obtain ⟨b0, b1, b2⟩ := HT.out.cells;go_wp2_with fail;generalize hw0 : w.alloc (.cells #[.int .i64 op, .string act, .slice A n c] 24) = w0 at *;clear hw0;((with_reducible refine (HRg.out _).mono ?_); rintro e w1 ⟨q, rfl, hq, hb1⟩)
  have HQ := hid hq;replace HB := hid (below_then HB.out hb1);replace HT := hid (HT.out.below hb1);replace H0 := hid (TlM.below hb1 l A 0 H0.out);clear hq hb1 HRg b0 b1 b2;obtain ⟨b0, b1, b2⟩ := HT.out.cells;cases q with
  | false =>
   go_wp2_with fail;go_ret2;exact ⟨.inr rfl, HB.out⟩
  | true =>
   have HR := hid (HQ.out rfl);clear HQ;go_wp2_with fail;clear b0 b1 b2;go_loopg [27, 8] (n) (fun g iv nv wr => ∃ (k m : Nat), k + g = n ∧ iv = .int .i64 (k : Int) ∧ nv = .int .i64 (m : Int) ∧ m = 1 + szL (l.take k) ∧ okTl (l.take k) ∧ (m : Int) ≤ most ∧ Below w1.heap.size w1 wr);case atStart => exact ⟨0, 1, by omega, rfl, rfl, by simp [szL], by simp [okTl], by omega, Below.refl _ _⟩
   case round =>
    obtain ⟨k, m, hkg, rfl, rfl, hm, hok, hle, hB⟩ := hrel;have HK := hid hkg;have HMv := hid hm;have HOk := hid hok;have HBr := hid hB;have H0r := hid (TlM.below hB l A 0 H0.out);have hkn : k ≤ n := by omega
    clear hkg hm hok hB;by_cases hlt : k < n
    · have hlt' : k < l.length := by rw [HM.out]; exact hlt
      have HIk := hid (HIh.out k hlt');obtain ⟨ad, op', act', A', n', c', rfl, hpa, m0, m1, m2, htm⟩ := TlM.at0 H0r.out k hlt';have HTm := hid htm;have HSz := hid (szL_succ l k hlt');have HOs := hid (okTl_succ l k hlt' HOk.out);have HA := hid (below_alloc wr (.cells #[.int .i64 op', .string act', .slice A' n' c'] 24));generalize l[k] = t at *;clear hlt' htm;go_wp2_with fail;((with_reducible refine (HIk.out _ _ _ (most - (m : Int)) (depth + 1) _ (TrM.below HA.out _ _ _ _ HTm.out) (by omega) (by omega) (by omega) (by omega)).mono ?_); rintro e w2 ⟨(⟨m2, rfl, ho2, hm2, hl2⟩ | rfl), hb2⟩)
      · have HM2 := hid hm2;have HO2 := hid ho2;have HB2 := hid (below_then HBr.out (below_then HA.out hb2));clear hm2 ho2 hb2;go_wp2_with fail;go_roundg (gk - 1);case measure => have := HK.out; omega
        case rel => exact ⟨k + 1, m + m2, by have := HK.out; omega, by go_num, by go_num, by rw [HSz.out, HM2.out, HMv.out]; omega, HOs.out HO2.out, by omega, HB2.out⟩
      · have HB2 := hid (below_then HB.out (below_then HBr.out (below_then HA.out hb2)));clear hb2;go_wp2_with fail;go_ret2;exact ⟨.inr rfl, HB2.out⟩
    · have HB2 := hid (below_then HB.out HBr.out);have HF := hid (show l.take k = l from List.take_of_length_le (by rw [HM.out]; omega));go_wp2_with fail;go_ret2;refine ⟨.inl ⟨m, rfl, ?_, ?_, hle⟩, HB2.out⟩
      · rw [okTr]; exact ⟨by rw [HM.out]; exact HR.out, by have := HOk.out; rw [HF.out] at this; exact this⟩
      · rw [szT, HMv.out, HF.out]
theorem rcount19_any : ∀ (k : Nat) (t : Tre), szT t ≤ k → ∀ (c0 c1 c2 : Value) (depth left : Int) (w : World), TrM w t c0 c1 c2 → 0 ≤ left → left ≤ 10000 → 0 ≤ depth → depth ≤ 1000 → Calls Tryz.prog 11 #[.agg #[c0, c1, c2], .int .i64 depth, .int .i64 left] w (RcPo (-1) left w) := by
 intro k
 induction k with
 | zero => intro t h; have := szT_pos t; omega
 | succ k ih =>
  intro t hk c0 c1 c2 depth left w h hm0 hm1 hd0 hd1;obtain ⟨op, act, l⟩ := t;obtain ⟨A, n, c, rfl, rfl, rfl, hop, hac, hl, hnc, hcm, hL⟩ := h.out;have HB := hid (below_alloc w (.cells #[.int .i64 op, .string act, .slice A n c] 24));have HT := hid (TBx.new w (.int .i64 op) (.string act) (.slice A n c));have H0 := hid (TlM.below HB.out l A 0 hL);have HIh := hid (fun (j : Nat) (hj : j < l.length) => ih l[j] (by have := sz_at l j hj; rw [szT] at hk; omega));have HM := hid hl;have HN := hid (show n ≤ 9223372036854775807 by omega);have hnm : n ≤ 9223372036854775807 := HN.out;have HRg := hid (fun w => rright_any op act A n c w hac (by omega));clear ih h hk hop hac hL hl hnc hcm;by_cases h1 : left ≤ 0
  · have q1 : decide (left ≤ 0) = true := decide_eq_true h1;go_enter Tryz.func11, Tryz.ntmps11;go_wp2_with fail;go_ret;exact ⟨-1, rfl, by omega, by omega, HB.out⟩
  have q1 : decide (left ≤ 0) = false := decide_eq_false h1;by_cases h2 : 60 < depth
  · have q2 : decide (60 < depth) = true := decide_eq_true h2;go_enter Tryz.func11, Tryz.ntmps11;go_wp2_with fail;go_ret;exact ⟨-1, rfl, by omega, by omega, HB.out⟩
  have q2 : decide (60 < depth) = false := decide_eq_false h2;go_enter Tryz.func11, Tryz.ntmps11;obtain ⟨b0, b1, b2⟩ := HT.out.cells;go_wp2_with fail;generalize hw0 : w.alloc (.cells #[.int .i64 op, .string act, .slice A n c] 24) = w0 at *;clear hw0;((with_reducible refine (HRg.out _).mono ?_); rintro e w1 ⟨q, rfl, hq, hb1⟩)
  replace HB := hid (below_then HB.out hb1);replace HT := hid (HT.out.below hb1);replace H0 := hid (TlM.below hb1 l A 0 H0.out);clear hq hb1 HRg b0 b1 b2;obtain ⟨b0, b1, b2⟩ := HT.out.cells;cases q with
  | false =>
   go_wp2_with fail;go_ret;exact ⟨-1, rfl, by omega, by omega, HB.out⟩
  | true =>
   go_wp2_with fail;clear b0 b1 b2;go_loopg [7, 2] (n) (fun g iv lv wr => ∃ (k : Nat) (m : Int), k + g = n ∧ iv = .int .i64 (k : Int) ∧ lv = .int .i64 m ∧ 0 ≤ m ∧ m ≤ left - 1 ∧ Below w1.heap.size w1 wr);case atStart => exact ⟨0, left - 1, by omega, rfl, rfl, by omega, by omega, Below.refl _ _⟩
   case round =>
    obtain ⟨k, m, hkg, rfl, rfl, hml, hle, hB⟩ := hrel;have HK := hid hkg;have HBr := hid hB;have H0r := hid (TlM.below hB l A 0 H0.out);have hkn : k ≤ n := by omega
    obtain ⟨b0, b1, b2⟩ := (HT.out.below hB).cells;clear hkg hB;by_cases hlt : k < n
    · have hlt' : k < l.length := by rw [HM.out]; exact hlt
      have HIk := hid (HIh.out k hlt');obtain ⟨ad, op', act', A', n', c', rfl, hpa, m0, m1, m2, htm⟩ := TlM.at0 H0r.out k hlt';have HTm := hid htm;generalize l[k] = t at *;clear hlt' htm;go_wp2_with fail;((with_reducible refine (HIk.out _ _ _ (depth + 1) m _ HTm.out (by omega) (by omega) (by omega) (by omega)).mono ?_); rintro e w2 ⟨m2, rfl, hlo, hhi, hb2⟩)
      have HB2 := hid (below_then HBr.out hb2);clear hb2;by_cases h9 : m2 < 0
      · have q9 : decide (m2 < 0) = true := decide_eq_true h9;go_wp2_with fail;go_ret;exact ⟨m2, rfl, by omega, by omega, below_then HB.out HB2.out⟩
      · have q9 : decide (m2 < 0) = false := decide_eq_false h9;go_wp2_with fail;go_roundg (gk - 1);case measure => have := HK.out; omega
        case rel => exact ⟨k + 1, m2, by have := HK.out; omega, by go_num, rfl, by omega, by omega, HB2.out⟩
    · go_wp2_with fail;go_ret;exact ⟨m, rfl, by omega, by omega, below_then HB.out HBr.out⟩
theorem lcount28_any : ∀ (k : Nat) (t : Tre), szT t ≤ k → ∀ (c0 c1 c2 : Value) (most depth : Int) (w : World), TrM w t c0 c1 c2 → 1 ≤ most → most ≤ 10 → 0 ≤ depth → depth ≤ 1000 → Calls Tryz.prog 5 #[.agg #[c0, c1, c2], .int .i64 most, .int .i64 depth] w (RcPo 1 most w) := by
 intro k
 induction k with
 | zero => intro t h; have := szT_pos t; omega
 | succ k ih =>
  intro t hk c0 c1 c2 most depth w h hm0 hm1 hd0 hd1;obtain ⟨op, act, l⟩ := t;obtain ⟨A, n, c, rfl, rfl, rfl, hop, hac, hl, hnc, hcm, hL⟩ := h.out;have HB := hid (below_alloc w (.cells #[.int .i64 op, .string act, .slice A n c] 24));have HT := hid (TBx.new w (.int .i64 op) (.string act) (.slice A n c));have H0 := hid (TlM.below HB.out l A 0 hL);have HIh := hid (fun (j : Nat) (hj : j < l.length) => ih l[j] (by have := sz_at l j hj; rw [szT] at hk; omega));have HM := hid hl;have HN := hid (show n ≤ 9223372036854775807 by omega);have hnm : n ≤ 9223372036854775807 := HN.out;clear ih h hk hop  hL hl hnc hcm;by_cases h1 : 70 < depth
  · have q1 : decide (70 < depth) = true := decide_eq_true h1;go_enter Tryz.func5, Tryz.ntmps5;go_wp2_with fail;go_ret;exact ⟨most, rfl, by omega, by omega, HB.out⟩
  have q1 : decide (70 < depth) = false := decide_eq_false h1;by_cases h2 : 100 < act.size
  · have q2 : decide ((100 : Int) < (act.size : Int)) = true := decide_eq_true (by omega);go_enter Tryz.func5, Tryz.ntmps5;go_wp2_with fail;go_ret;exact ⟨most, rfl, by omega, by omega, HB.out⟩
  have q2 : decide ((100 : Int) < (act.size : Int)) = false := decide_eq_false (by omega);by_cases h3 : most < (n : Int)
  · have q3 : decide (most < (n : Int)) = true := decide_eq_true h3;go_enter Tryz.func5, Tryz.ntmps5;go_wp2_with fail;go_ret;exact ⟨most, rfl, by omega, by omega, HB.out⟩
  have q3 : decide (most < (n : Int)) = false := decide_eq_false h3;go_enter Tryz.func5, Tryz.ntmps5;go_wp2_with fail;generalize hw0 : w.alloc (.cells #[.int .i64 op, .string act, .slice A n c] 24) = w0 at *;clear hw0;go_loopg [29, 7] (n) (fun g iv nv wr => ∃ (k : Nat) (m : Int), k + g = n ∧ iv = .int .i64 (k : Int) ∧ nv = .int .i64 m ∧ 1 ≤ m ∧ m ≤ most ∧ Below w0.heap.size w0 wr);case atStart => exact ⟨0, 1, by omega, rfl, rfl, by omega, by omega, Below.refl _ _⟩
  case round =>
   obtain ⟨k, m, hkg, rfl, rfl, hml, hle, hB⟩ := hrel;have HK := hid hkg;have HBr := hid hB;have H0r := hid (TlM.below hB l A 0 H0.out);have hkn : k ≤ n := by omega
   clear hkg hB;by_cases hlt : k < n
   · have hlt' : k < l.length := by rw [HM.out]; exact hlt
     have HIk := hid (HIh.out k hlt');obtain ⟨ad, op', act', A', n', c', rfl, hpa, m0, m1, m2, htm⟩ := TlM.at0 H0r.out k hlt';have HTm := hid htm;have HA := hid (below_alloc wr (.cells #[.int .i64 op', .string act', .slice A' n' c'] 24));generalize l[k] = t at *;clear hlt' htm;by_cases h9 : most ≤ m
     · have q9 : decide (most ≤ m) = true := decide_eq_true h9;go_wp2_with fail;go_ret;exact ⟨most, rfl, by omega, by omega, below_then HB.out (below_then HBr.out HA.out)⟩
     have q9 : decide (most ≤ m) = false := decide_eq_false h9;go_wp2_with fail;((with_reducible refine (HIk.out _ _ _ (most - m) (depth + 1) _ (TrM.below HA.out _ _ _ _ HTm.out) (by omega) (by omega) (by omega) (by omega)).mono ?_); rintro e w2 ⟨m2, rfl, hlo, hhi, hb2⟩)
     have HB2 := hid (below_then HBr.out (below_then HA.out hb2));clear hb2;go_wp2_with fail;go_roundg (gk - 1);case measure => have := HK.out; omega
     case rel => exact ⟨k + 1, m + m2, by have := HK.out; omega, by go_num, by go_num, by omega, by omega, HB2.out⟩
   · go_wp2_with fail;go_ret;exact ⟨_, rfl, by omega, by omega, below_then HB.out HBr.out⟩
theorem pvalidT_any (t : Tre) (c0 c1 c2 : Value) (w : World) (h : TrM w t c0 c1 c2) : Calls Tryz.prog 12 #[.agg #[c0, c1, c2]] w fun e w' => (e = .returned (.bool true) ∧ okTr t ∧ szT t ≤ 400 ∨ e = .returned (.bool false)) ∧ Below w.heap.size w w' := by
 obtain ⟨op, act, l⟩ := t;obtain ⟨A, n, c, rfl, rfl, rfl, hop, hac, hl, hnc, hcm, hL⟩ := h.out;have HB := hid (below_alloc w (.cells #[.int .i64 op, .string act, .slice A n c] 24));have HC := hid (measure_any _ _ (Nat.le_refl _) _ _ _ 400 1 _ (TrM.below HB.out _ _ _ _ h) (by omega) (by omega) (by omega) (by omega));clear h hop hac hl hnc hcm hL;go_enter Tryz.func12, Tryz.ntmps12;go_wp2_with fail;((with_reducible refine HC.out.mono ?_); rintro e w1 ⟨(⟨m2, rfl, ho2, hm2, hl2⟩ | rfl), hb1⟩)
 · have HO := hid (And.intro ho2 hm2);have HB1 := hid (below_then HB.out hb1);clear hb1 ho2 hm2;go_wp2_with fail;go_ret;exact ⟨.inl ⟨rfl, HO.out.1, by have := HO.out.2; omega⟩, HB1.out⟩
 · have HB1 := hid (below_then HB.out hb1);clear hb1;go_wp2_with fail;go_ret;exact ⟨.inr rfl, HB1.out⟩
theorem rvalidT_any (t : Tre) (c0 c1 c2 : Value) (w : World) (h : TrM w t c0 c1 c2) : Calls Tryz.prog 6 #[.agg #[c0, c1, c2]] w (BxPo w) := by
 obtain ⟨op, act, l⟩ := t;obtain ⟨A, n, c, rfl, rfl, rfl, hop, hac, hl, hnc, hcm, hL⟩ := h.out;have HB := hid (below_alloc w (.cells #[.int .i64 op, .string act, .slice A n c] 24));have HC := hid (rcount19_any _ _ (Nat.le_refl _) _ _ _ 1 400 _ (TrM.below HB.out _ _ _ _ h) (by omega) (by omega) (by omega) (by omega));clear h hop hac hl hnc hcm hL;go_enter Tryz.func6, Tryz.ntmps6;go_wp2_with fail;((with_reducible refine HC.out.mono ?_); rintro e w1 ⟨r, rfl, hlo, hhi, hb1⟩)
 have HB1 := hid (below_then HB.out hb1);clear hb1;go_wp2_with fail;go_ret;exact ⟨_, rfl, HB1.out⟩
end Go.Proofs.YtpiihmbeedlpkaaGreatDoor
