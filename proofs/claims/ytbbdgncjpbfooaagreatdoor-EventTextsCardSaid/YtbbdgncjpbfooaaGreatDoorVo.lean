/- casebookref11.Parse: what a call returns. -/
import Derived.Test.YtbbdgncjpbfooaaGreatDoorVm
import Derived.Test.YtbbdgncjpbfooaaGreatDoorVn
namespace Go.Proofs.YtbbdgncjpbfooaaGreatDoor
open Go.RowKit

set_option maxHeartbeats 800000 in
theorem rwords_any (s : ByteArray) (w : World) (h : s.size ≤ 16384) : Calls Tryz.prog 44 #[.string s] w (WPost (words s.data.toList) w) := by
  cases hp : s.data.toList.all isPr with
  | true =>
    have e : words s.data.toList = wordsX (wordsA (s.data.toList.length + 1) s.data.toList []) := by
      unfold words; rw [if_neg (by rw [len_byte]; omega), hp]; rfl
    rw [e]; exact rwords_walk s w h hp
  | false =>
    have e : words s.data.toList = .error 3 := by
      unfold words; rw [if_neg (by rw [len_byte]; omega), hp]; rfl
    have HE := Lib.hid e
    have HP := Lib.hid (sprintable_any s w (by omega))
    rw [hp] at HP
    have q0 : (s.size : Int) ≤ 16384 := by omega
    clear hp e
    go_enter Tryz.func44, Tryz.ntmps44
    go_wp2_with fail
    ((with_reducible refine HP.out.mono ?_); rintro e w1 ⟨rfl, rfl⟩)
    go_wp2_with fail
    go_ret2
    exact WPost.err HE.out rfl (Below.refl _ _)
theorem evR_bad {s : List UInt8} (hs : s.length ≤ 16384) (h : ∀ g : Ev, g.ok = true → g.tx = s → False) : evR s = .error 3 := by
  refine evR_none hs ?_
  cases hv : evP s with
  | none => rfl
  | some g => exact (h g (evP_some s g hv).1 (evP_some s g hv).2).elim
theorem evR_good {s : List UInt8} {e : Ev} (hs : s.length ≤ 16384) (h1 : e.ok = true) (h2 : e.tx = s) : evR s = .ok e := evR_some hs (by rw [← h2]; exact evP_tx e h1)
theorem lifeB_inj (n m : Int) (h1 : 1 ≤ n) (h2 : n ≤ 6) (h3 : 1 ≤ m) (h4 : m ≤ 6) (h : lifeB n = lifeB m) : n = m := by
  rw [← lifeI_word n h1 h2, h, lifeI_word m h3 h4]
theorem ws_parts (s : List UInt8) (b0 b1 b2 b3 b4 : ByteArray) (rest : List (List UInt8)) (hw : words s = .ok (b0.data.toList :: b1.data.toList :: b2.data.toList :: b3.data.toList :: b4.data.toList :: rest)) (g : Ev) (hg : g.ok = true) (ht : g.tx = s) :
    g.c = b0 ∧ g.a = b1 ∧ g.r = b2 ∧ b3 = lifeB g.life ∧ b4.data.toList = Lib.itoa g.time ∧ g.d.map Fd.tx = rest := by
  rw [← ht, words_ev g hg] at hw
  have h := Except.ok.inj hw
  unfold Ev.ws at h
  simp only [List.cons_append, List.nil_append, List.cons.injEq] at h
  obtain ⟨h0, h1, h2, h3, h4, h5⟩ := h
  exact ⟨bytes_ext h0, bytes_ext h1, bytes_ext h2, bytes_ext h3.symm, h4.symm, h5⟩
/-- the fields that were read, if the text is one of an event -/
def RInv (s : List UInt8) (k : Nat) (d : List Fd) (o : Bool) : Prop := ∀ g : Ev, g.ok = true → g.tx = s → d = g.d.take k ∧ o = true
theorem RInv.step {s : List UInt8} {k : Nat} {d : List Fd} {o : Bool} (h : RInv s k d o) (rest : List (List UInt8)) (hr : ∀ g : Ev, g.ok = true → g.tx = s → g.d.map Fd.tx = rest) (hk : k < rest.length) (f : Fd) (b : Bool)
    (hf : ∀ g : Fd, isNameB g.nm.data.toList = true → g.v.ok = true → rest[k] = g.tx → f = g ∧ b = true) : RInv s (k + 1) (d ++ [f]) (o && b) := by
  intro g hg ht
  obtain ⟨h1, h2⟩ := h g hg ht
  have h3 := hr g hg ht
  have hlen : k < g.d.length := by rw [← h3, List.length_map] at hk; exact hk
  obtain ⟨h4, h5⟩ := ev_names g hg g.d[k] (List.getElem_mem hlen)
  obtain ⟨h6, h7⟩ := hf g.d[k] h4 h5 (by subst h3; simp)
  refine ⟨?_, by rw [h2, h7]; rfl⟩
  rw [List.take_succ_eq_append_getElem hlen, ← h1, h6]
theorem num_one (l : List UInt8) : ∃ (T : Nat) (o : Bool), (∀ w e w', NumPost (numX l) w e w' → e = .returned (.tuple #[.int .i64 (T : Int), .bool o]) ∧ w = w') ∧ ∀ t : Int, 0 ≤ t → t ≤ 1099511627776 → l = Lib.itoa t → (T : Int) = t ∧ o = true := by
  cases hn : numX l with
  | none => exact ⟨0, false, fun w e w' h => h, fun t h0 h1 h => by
      obtain ⟨m, hm, _⟩ := numX_itoa t h0 h1
      rw [← h, hn] at hm; cases hm⟩
  | some n => exact ⟨n, true, fun w e w' h => h, fun t h0 h1 h => by
      obtain ⟨m, hm, hm2⟩ := numX_itoa t h0 h1
      rw [← h, hn] at hm; cases hm; exact ⟨hm2, rfl⟩⟩
theorem cand_eq {s : List UInt8} {b0 b1 b2 b3 b4 : ByteArray} {rest : List (List UInt8)} {life T : Int} {d : List Fd} {o : Bool} {k : Nat}
    (hP : ∀ g : Ev, g.ok = true → g.tx = s → g.c = b0 ∧ g.a = b1 ∧ g.r = b2 ∧ b3 = lifeB g.life ∧ b4.data.toList = Lib.itoa g.time ∧ g.d.map Fd.tx = rest)
    (hl : ∀ n : Int, 1 ≤ n → n ≤ 6 → b3 = lifeB n → life = n) (hT : ∀ t : Int, 0 ≤ t → t ≤ 1099511627776 → b4.data.toList = Lib.itoa t → T = t) (hri : RInv s k d o) (hk : k = rest.length) :
    ∀ g : Ev, g.ok = true → g.tx = s → (⟨b0, b1, b2, life, T, d⟩ : Ev) = g ∧ o = true := by
  intro g hg ht
  obtain ⟨p0, p1, p2, p3, p4, p5⟩ := hP g hg ht
  obtain ⟨h1, h6, ht0, ht1, _⟩ := ev_head g hg
  obtain ⟨h2, h3⟩ := hri g hg ht
  have hlen : g.d.length = k := by rw [hk, ← p5, List.length_map]
  rw [List.take_of_length_le (by omega)] at h2
  refine ⟨?_, h3⟩
  rw [hl g.life h1 h6 p3, hT g.time ht0 ht1 p4, h2, ← p0, ← p1, ← p2]
theorem EB.set3 {w : World} {b : Nat} {e : Ev} {A : Option Addr} {n cap : Nat} (h : EB w b e A n cap) (x : Int) : EB (w.setCell ⟨b, 3, none⟩ (.int .i64 x)) b ⟨e.c, e.a, e.r, x, e.time, e.d⟩ A n cap := (six_set h (.int .i64 x)).2.2.2.1
theorem EB.set4 {w : World} {b : Nat} {e : Ev} {A : Option Addr} {n cap : Nat} (h : EB w b e A n cap) (x : Int) : EB (w.setCell ⟨b, 4, none⟩ (.int .i64 x)) b ⟨e.c, e.a, e.r, e.life, x, e.d⟩ A n cap := (six_set h (.int .i64 x)).2.2.2.2.1
set_option maxHeartbeats 1600000 in
theorem rparse_bad (s : ByteArray) (w : World) (h : s.size ≤ 16384) (k : Nat) (hw : words s.data.toList = .error k) : Calls Tryz.prog 12 #[.string s] w (EpPost (evR s.data.toList) w) := by
  have HR := Lib.hid (evR_none (by rw [len_byte]; exact h) (evP_err _ k hw))
  have HW := Lib.hid (fun w => rwords_any s w h)
  rw [hw] at HW
  have hk : ((k : Int) != 0) = true := by have := words_code _ _ hw; simp; omega
  have HO := Lib.hid (below_alloc w (.cells #[.string ⟨#[]⟩, .string ⟨#[]⟩, .string ⟨#[]⟩, .int .i64 0, .int .i64 0, .slice none 0 0] 24))
  have HE := Lib.hid (show EB (w.alloc (.cells #[.string ⟨#[]⟩, .string ⟨#[]⟩, .string ⟨#[]⟩, .int .i64 0, .int .i64 0, .slice none 0 0] 24)) w.heap.size ev0 none 0 0 from EB.new w ev0 none 0 0)
  have q : (s.size : Int) ≤ 16384 := by omega
  clear h hw
  go_enter Tryz.func12, Tryz.ntmps12
  go_wp2_with fail
  ((with_reducible refine (HW.out _).mono ?_); rintro e w1 ⟨rfl, hb1⟩)
  have HB := Lib.hid (below_then HO.out hb1)
  have HE1 := Lib.hid (HE.out.below hb1)
  clear hb1
  obtain ⟨c0, c1, c2, c3, c4, c5⟩ := HE1.out.cells
  obtain ⟨f0, f1, f2, f3, f4, f5⟩ := HE1.out.fr
  simp only [ev0] at c0 c1 c2 c3 c4 c5
  go_wp2_with fail
  exact bodyPost_ret (v := .tuple #[.agg #[.string ⟨#[]⟩, .string ⟨#[]⟩, .string ⟨#[]⟩, .int .i64 0, .int .i64 0, .slice none 0 0], .int .i64 3]) (by simp [results, Tryz.results12, go_sem, c0, c1, c2, c3, c4, c5]) rfl (EpPost.err HR.out rfl (bset6 HB.out (Nat.le_refl _) _ _ _ _ _ _))
set_option maxHeartbeats 1600000 in
theorem rparse_short (s : ByteArray) (w : World) (h : s.size ≤ 16384) (L : List (List UInt8)) (hw : words s.data.toList = .ok L) (h5 : L.length < 5) : Calls Tryz.prog 12 #[.string s] w (EpPost (evR s.data.toList) w) := by
  have HR := Lib.hid (evR_none (by rw [len_byte]; exact h) (evP_no _ L hw (candE_short L h5)))
  have HW := Lib.hid (fun w => rwords_any s w h)
  rw [hw] at HW
  have HO := Lib.hid (below_alloc w (.cells #[.string ⟨#[]⟩, .string ⟨#[]⟩, .string ⟨#[]⟩, .int .i64 0, .int .i64 0, .slice none 0 0] 24))
  have HE := Lib.hid (show EB (w.alloc (.cells #[.string ⟨#[]⟩, .string ⟨#[]⟩, .string ⟨#[]⟩, .int .i64 0, .int .i64 0, .slice none 0 0] 24)) w.heap.size ev0 none 0 0 from EB.new w ev0 none 0 0)
  have q : (s.size : Int) ≤ 16384 := by omega
  have q5 : (L.length : Int) < 5 := by omega
  clear h hw
  go_enter Tryz.func12, Tryz.ntmps12
  go_wp2_with fail
  ((with_reducible refine (HW.out _).mono ?_); rintro e w1 ⟨v, rfl, hown, hb1⟩)
  obtain ⟨A, cap, rfl, _⟩ := words_mem hown
  have HB := Lib.hid (below_then HO.out hb1)
  have HE1 := Lib.hid (HE.out.below hb1)
  clear hb1 hown
  obtain ⟨c0, c1, c2, c3, c4, c5⟩ := HE1.out.cells
  obtain ⟨f0, f1, f2, f3, f4, f5⟩ := HE1.out.fr
  simp only [ev0] at c0 c1 c2 c3 c4 c5
  go_wp2_with fail
  exact bodyPost_ret (v := .tuple #[.agg #[.string ⟨#[]⟩, .string ⟨#[]⟩, .string ⟨#[]⟩, .int .i64 0, .int .i64 0, .slice none 0 0], .int .i64 3]) (by simp [results, Tryz.results12, go_sem, c0, c1, c2, c3, c4, c5]) rfl (EpPost.err HR.out rfl (bset6 HB.out (Nat.le_refl _) _ _ _ _ _ _))
end Go.Proofs.YtbbdgncjpbfooaaGreatDoor
