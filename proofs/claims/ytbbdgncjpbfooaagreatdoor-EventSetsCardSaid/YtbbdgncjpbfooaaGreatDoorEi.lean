/- name.Unquote at a text that begins with a double quote; value.Parse of the program: what a call returns. -/
import Derived.Test.YtbbdgncjpbfooaaGreatDoorEh
namespace Go.Proofs.YtbbdgncjpbfooaaGreatDoor
open Go.RowKit

/-- what the library's variables hold -/
def PW (w : World) : Prop := Tb w ∧ (∃ m, w.cell? ⟨0, 0, none⟩ = some (.int .i64 m)) ∧ (∃ tp p, w.var? Tryz.prog "strconv.ErrSyntax" = some #[.iface tp p]) ∧ PR w
theorem gSyn : Tryz.prog.globalNamed "strconv.ErrSyntax" = some 2 := by kernel_rfl
theorem PW.below {w w' : World} (h : PW w) (hb : Below w.heap.size w w') : PW w' := by
  obtain ⟨h1, ⟨m, h2⟩, ⟨tp, p, h3⟩, h4⟩ := h
  refine ⟨h1.below hb, ⟨m, ?_⟩, ⟨tp, p, var?_below hb gSyn (var_lt gSyn h3) h3⟩, h4.below hb⟩
  rw [hb.cell (p := ⟨0, 0, none⟩) (World.block_lt_of_cell? w _ h2)]; exact h2
theorem PW.tb {w : World} (h : PW w) : Tb w := h.1
theorem atoi_bad (s : ByteArray) (w : World) (hs : s.size ≤ 281474976710656) (hp : PW w) (h : ∀ v, Lib.atoiAll s.data.toList ≠ .ok v) :
    Calls Tryz.prog 77 #[.string s] w fun e w' => ∃ (n : Int) (N : Nat), e = .returned (.tuple #[.int .i64 n, .iface 141 (.pointer (some ⟨N, 0, none⟩))]) ∧ Below w.heap.size w w' := by
  obtain ⟨_, _, ⟨tp, p, h3⟩, ⟨tq, q, h4⟩⟩ := hp
  cases hA : Lib.atoiAll s.data.toList
  · rename_i v; exact absurd hA (h v)
  · exact (Any.strconv_Atoi_syntax_var Tryz.laysC172 s hs hA tp p w h3).mono fun e w' ⟨N, h1, _, _, h2⟩ => ⟨0, N, h1, h2⟩
  · exact (Any.strconv_Atoi_range_var Tryz.laysC172 s hs hA tq q w h4).mono fun e w' ⟨N, h1, _, _, h2⟩ => ⟨_, N, h1, h2⟩
/-- a text behind a double quote, read whole -/
def unq (m : List UInt8) : Except Nat (List UInt8) := if m.all isPr then (match litF m with | .error k => .error k | .ok (t, n) => if n = m.length then .ok t else .error 3) else .error 3
def unqRet (R : Except Nat (List UInt8)) : Ending := match R with | .ok t => .returned (.tuple #[.string ⟨t.toArray⟩, .int .i64 0]) | .error k => .returned (.tuple #[.string ⟨#[]⟩, .int .i64 (k : Int)])
theorem unq_code (m : List UInt8) (k : Nat) (h : unq m = .error k) : 1 ≤ k := by
  unfold unq at h
  split at h
  · cases hl : litF m with
    | error e => rw [hl] at h; cases h; exact litF_code _ _ (Nat.le_refl _) _ hl
    | ok x =>
      obtain ⟨t, n⟩ := x
      rw [hl] at h
      simp only at h
      split at h
      · cases h
      · cases h; omega
  · cases h; omega
theorem unq_ok (m t : List UInt8) (h : unq m = .ok t) : m.all isPr = true ∧ litF m = .ok (t, m.length) := by
  unfold unq at h
  split at h
  · rename_i hp
    refine ⟨hp, ?_⟩
    cases hl : litF m with
    | error e => rw [hl] at h; cases h
    | ok x =>
      obtain ⟨t', n⟩ := x
      rw [hl] at h
      simp only at h
      split at h
      · rename_i hn; cases h; rw [hn]
      · cases h
  · cases h
set_option maxHeartbeats 3200000 in
theorem unquote_any (s : ByteArray) (m : List UInt8) (w : World) (hs : s.size ≤ 16384) (hm : s.data.toList = 34 :: m) :
    Calls Tryz.prog 76 #[.string s] w fun e w' => e = unqRet (unq m) ∧ Below w.heap.size w w' := by
  have hml : m.length + 1 = s.size := by rw [← len_byte s, hm]; simp
  have HPre := Lib.hid (show Lib.hasPrefix s.data.toList (⟨#[34]⟩ : ByteArray).data.toList = true by rw [hm]; rfl)
  have HAll := Lib.hid (show s.data.toList.all isPr = m.all isPr by rw [hm, List.all_cons, show isPr 34 = true by decide, Bool.true_and])
  cases hp : m.all isPr with
  | false =>
    have HR := Lib.hid (show unq m = .error 3 by unfold unq; rw [hp]; rfl)
    rw [hp] at HAll
    clear hp hm
    go_enter Tryz.func76, Tryz.ntmps76
    go_wp2_with fail
    ((with_reducible refine (Tryz.strings_HasPrefix s ⟨#[34]⟩ _).mono ?_); rintro e wn ⟨rfl, rfl⟩)
    rw [HPre.out]
    go_wp2_with fail
    ((with_reducible refine (nprintable_any s _ (by omega)).mono ?_); rintro e wn ⟨rfl, rfl⟩)
    rw [HAll.out]
    go_wp2_with fail
    go_ret2
    exact ⟨by rw [HR.out]; rfl, Below.refl _ _⟩
  | true =>
    rw [hp] at HAll
    cases hl : litF m with
    | error k =>
      have HR := Lib.hid (show unq m = .error k by unfold unq; rw [hp, hl]; rfl)
      have hk : ((k : Int) != 0) = true := by have := litF_code _ _ (Nat.le_refl _) _ hl; simp; omega
      have HLit := Lib.hid (show litF (s.data.toList.drop 1) = .error k by rw [hm]; exact hl)
      clear hp hm hl
      have HB := Lib.hid (below_alloc w (.cells #[.string s, .int .i64 1] 100))
      have HN := Lib.hid (show NR (w.alloc (.cells #[.string s, .int .i64 1] 100)) w.heap.size s 1 by unfold NR; exact Array.getElem?_push_size ..)
      go_enter Tryz.func76, Tryz.ntmps76
      go_wp2_with fail
      ((with_reducible refine (Tryz.strings_HasPrefix s ⟨#[34]⟩ _).mono ?_); rintro e wn ⟨rfl, rfl⟩)
      rw [HPre.out]
      go_wp2_with fail
      ((with_reducible refine (nprintable_any s _ (by omega)).mono ?_); rintro e wn ⟨rfl, rfl⟩)
      rw [HAll.out]
      go_wp2_with fail
      ((with_reducible refine (nliteral_any _ s 1 _ HN.out (by omega) (by omega)).mono ?_); rintro e wn hQ)
      rw [HLit.out] at hQ
      obtain ⟨⟨rfl, j, hN2⟩, hg2⟩ := hQ
      replace HB := Lib.hid (HB.out.grown hg2 (by simp) (fun k hk => by cases hk; exact Nat.le_refl _))
      clear hg2
      go_wp2_with fail
      go_ret2
      exact ⟨by rw [HR.out]; rfl, HB.out⟩
    | ok x =>
      obtain ⟨t, n⟩ := x
      have hln := litF_len _ _ (Nat.le_refl _) _ _ hl
      have HLit := Lib.hid (show litF (s.data.toList.drop 1) = .ok (t, n) by rw [hm]; exact hl)
      by_cases hn : n = m.length
      · have HR := Lib.hid (show unq m = .ok t by unfold unq; rw [hp, hl]; simp only [if_true]; rw [if_pos hn])
        have h1n : 1 + n = s.size := by omega
        have hsz : (⟨t.toArray⟩ : ByteArray).size ≤ 16384 := by rw [← len_byte]; show t.length ≤ _; omega
        have hsq : ((⟨t.toArray⟩ : ByteArray).size : Int) ≤ 16384 := by omega
        clear hp hm hl
        have HB := Lib.hid (below_alloc w (.cells #[.string s, .int .i64 1] 100))
        have HN := Lib.hid (show NR (w.alloc (.cells #[.string s, .int .i64 1] 100)) w.heap.size s 1 by unfold NR; exact Array.getElem?_push_size ..)
        go_enter Tryz.func76, Tryz.ntmps76
        go_wp2_with fail
        ((with_reducible refine (Tryz.strings_HasPrefix s ⟨#[34]⟩ _).mono ?_); rintro e wn ⟨rfl, rfl⟩)
        rw [HPre.out]
        go_wp2_with fail
        ((with_reducible refine (nprintable_any s _ (by omega)).mono ?_); rintro e wn ⟨rfl, rfl⟩)
        rw [HAll.out]
        go_wp2_with fail
        ((with_reducible refine (nliteral_any _ s 1 _ HN.out (by omega) (by omega)).mono ?_); rintro e wn hQ)
        rw [HLit.out] at hQ
        obtain ⟨⟨rfl, hN2⟩, hg2⟩ := hQ
        rw [h1n] at hN2
        replace HB := Lib.hid (HB.out.grown hg2 (by simp) (fun k hk => by cases hk; exact Nat.le_refl _))
        obtain ⟨y, hy⟩ : ∃ y : ByteArray, y = ⟨t.toArray⟩ := ⟨_, rfl⟩
        rw [← hy] at hsz hsq ⊢
        have HY := Lib.hid hy
        clear hg2 hy
        go_wp2_with fail
        ((with_reducible refine (more_no _ s s.size _ hN2 (Nat.le_refl _)).mono ?_); rintro e wm ⟨rfl, hN3, hg3⟩)
        replace HB := Lib.hid (HB.out.grown hg3 (Nat.le_of_lt hN2.lt) (fun k hk => by cases hk; exact Nat.le_refl _))
        go_wp2_with fail
        go_ret2
        exact ⟨by rw [HR.out, HY.out]; rfl, HB.out⟩
      · have HR := Lib.hid (show unq m = .error 3 by unfold unq; rw [hp, hl]; simp only [if_true]; rw [if_neg hn])
        have h1n : 1 + n < s.size := by omega
        clear hp hm hl
        have HB := Lib.hid (below_alloc w (.cells #[.string s, .int .i64 1] 100))
        have HN := Lib.hid (show NR (w.alloc (.cells #[.string s, .int .i64 1] 100)) w.heap.size s 1 by unfold NR; exact Array.getElem?_push_size ..)
        go_enter Tryz.func76, Tryz.ntmps76
        go_wp2_with fail
        ((with_reducible refine (Tryz.strings_HasPrefix s ⟨#[34]⟩ _).mono ?_); rintro e wn ⟨rfl, rfl⟩)
        rw [HPre.out]
        go_wp2_with fail
        ((with_reducible refine (nprintable_any s _ (by omega)).mono ?_); rintro e wn ⟨rfl, rfl⟩)
        rw [HAll.out]
        go_wp2_with fail
        ((with_reducible refine (nliteral_any _ s 1 _ HN.out (by omega) (by omega)).mono ?_); rintro e wn hQ)
        rw [HLit.out] at hQ
        obtain ⟨⟨rfl, hN2⟩, hg2⟩ := hQ
        replace HB := Lib.hid (HB.out.grown hg2 (by simp) (fun k hk => by cases hk; exact Nat.le_refl _))
        generalize 1 + n = i1 at *
        clear hg2
        go_wp2_with fail
        ((with_reducible refine (more_yes _ s i1 _ hN2 h1n).mono ?_); rintro e wm ⟨rfl, hN3, hg3⟩)
        replace HB := Lib.hid (HB.out.grown hg3 (Nat.le_of_lt hN2.lt) (fun k hk => by cases hk; exact Nat.le_refl _))
        go_wp2_with fail
        go_ret2
        exact ⟨by rw [HR.out]; rfl, HB.out⟩
/-- a block that holds a value -/
def VB (w : World) (b : Nat) (v : Vl) : Prop := w.heap[b]? = some (.cells #[.int .i64 v.k, .int .i64 v.n, .string v.s] 39 (0, 0))
theorem VB.lt {w : World} {b : Nat} {v : Vl} (h : VB w b v) : b < w.heap.size := by
  rcases Nat.lt_or_ge b w.heap.size with h2 | h2
  · exact h2
  · unfold VB at h; simp [Array.getElem?_eq_none h2] at h
theorem VB.cells {w : World} {b : Nat} {v : Vl} (h : VB w b v) :
    w.cell? ⟨b, 0, none⟩ = some (.int .i64 v.k) ∧ w.cell? ⟨b, 1, none⟩ = some (.int .i64 v.n) ∧ w.cell? ⟨b, 2, none⟩ = some (.string v.s) ∧ w.frozen? ⟨b, 0, none⟩ = false ∧ w.frozen? ⟨b, 1, none⟩ = false ∧ w.frozen? ⟨b, 2, none⟩ = false := by
  unfold VB at h
  simp [World.cell?, World.frozen?, h]
theorem VB.below {w w' : World} {b : Nat} {v : Vl} (h : VB w b v) (hb : Below w.heap.size w w') : VB w' b v := by
  unfold VB at h ⊢
  rw [hb.block b (VB.lt h)]; exact h
/-- a block of three cells, one of which is stored -/
theorem three_set {w : World} {b : Nat} {T : TypeId} {x y z : Value} (h : w.heap[b]? = some (.cells #[x, y, z] T (0, 0))) (u : Value) :
    (w.setCell ⟨b, 0, none⟩ u).heap[b]? = some (.cells #[u, y, z] T (0, 0)) ∧ (w.setCell ⟨b, 1, none⟩ u).heap[b]? = some (.cells #[x, u, z] T (0, 0)) ∧ (w.setCell ⟨b, 2, none⟩ u).heap[b]? = some (.cells #[x, y, u] T (0, 0)) := by
  have hlt : b < w.heap.size := by
    rcases Nat.lt_or_ge b w.heap.size with h2 | h2
    · exact h2
    · simp [Array.getElem?_eq_none h2] at h
  have h' : w.heap[b] = .cells #[x, y, z] T (0, 0) := by simpa [Array.getElem?_eq_getElem hlt] using h
  refine ⟨?_, ?_, ?_⟩
  · show (w.heap.modify b _)[b]? = _
    rw [Array.getElem?_eq_getElem (by simpa using hlt), Array.getElem_modify_self, h']; rfl
  · show (w.heap.modify b _)[b]? = _
    rw [Array.getElem?_eq_getElem (by simpa using hlt), Array.getElem_modify_self, h']; rfl
  · show (w.heap.modify b _)[b]? = _
    rw [Array.getElem?_eq_getElem (by simpa using hlt), Array.getElem_modify_self, h']; rfl
theorem VB.set {w : World} {b : Nat} {v : Vl} (h : VB w b v) (k n : Int) (s : ByteArray) : VB (((w.setCell ⟨b, 0, none⟩ (.int .i64 k)).setCell ⟨b, 1, none⟩ (.int .i64 n)).setCell ⟨b, 2, none⟩ (.string s)) b ⟨k, n, s⟩ :=
  (three_set (three_set (three_set h (.int .i64 k)).1 (.int .i64 n)).2.1 (.string s)).2.2
theorem VB.other {w : World} {b c : Nat} {v : Vl} (h : VB w b v) (hne : b ≠ c) (x y z : Value) : VB (((w.setCell ⟨c, 0, none⟩ x).setCell ⟨c, 1, none⟩ y).setCell ⟨c, 2, none⟩ z) b v := by
  unfold VB at h ⊢
  rw [Below.heap_setCell _ _ _ _ hne, Below.heap_setCell _ _ _ _ hne, Below.heap_setCell _ _ _ _ hne]; exact h
/-- while a value is parsed: the result's block, the value's block -/
def VP (w wr : World) (r v : Vl) : Prop := VB wr w.heap.size r ∧ VB wr (w.heap.size + 1) v ∧ Below w.heap.size w wr
theorem VP.rb {w wr : World} {r v : Vl} (h : VP w wr r v) : VB wr w.heap.size r := h.1
theorem VP.vb {w wr : World} {r v : Vl} (h : VP w wr r v) : VB wr (w.heap.size + 1) v := h.2.1
theorem VP.bel {w wr : World} {r v : Vl} (h : VP w wr r v) : Below w.heap.size w wr := h.2.2
def v0 : Vl := ⟨0, 0, ⟨#[]⟩⟩
theorem VP.start (w : World) (v : Vl) : VP w ((w.alloc (.cells #[.int .i64 0, .int .i64 0, .string ⟨#[]⟩] 39)).alloc (.cells #[.int .i64 v.k, .int .i64 v.n, .string v.s] 39)) v0 v := by
  refine ⟨?_, ?_, ((Below.refl _ _).alloc (Nat.le_refl _) _).alloc (by simp) _⟩
  · unfold VB
    rw [Below.heap_alloc _ _ _ (by simp)]
    exact heap_alloc_new w _
  · have := heap_alloc_new (w.alloc (.cells #[.int .i64 0, .int .i64 0, .string ⟨#[]⟩] 39)) (.cells #[.int .i64 v.k, .int .i64 v.n, .string v.s] 39)
    rw [World.size_alloc] at this
    exact this
theorem VP.below {w wr w' : World} {r v : Vl} (h : VP w wr r v) (hb : Below wr.heap.size wr w') : VP w w' r v :=
  ⟨VB.below h.1 hb, VB.below h.2.1 hb, below_then h.2.2 hb⟩
theorem VP.setv {w wr : World} {r v : Vl} (h : VP w wr r v) (k n : Int) (s : ByteArray) : VP w (((wr.setCell ⟨w.heap.size + 1, 0, none⟩ (.int .i64 k)).setCell ⟨w.heap.size + 1, 1, none⟩ (.int .i64 n)).setCell ⟨w.heap.size + 1, 2, none⟩ (.string s)) r ⟨k, n, s⟩ :=
  ⟨VB.other h.1 (by omega) _ _ _, VB.set h.2.1 k n s, ((h.2.2.setCell (by show _ ≤ w.heap.size + 1; omega) _).setCell (by show _ ≤ w.heap.size + 1; omega) _).setCell (by show _ ≤ w.heap.size + 1; omega) _⟩
theorem VP.setr {w wr : World} {r v : Vl} (h : VP w wr r v) (k n : Int) (s : ByteArray) : VP w (((wr.setCell ⟨w.heap.size, 0, none⟩ (.int .i64 k)).setCell ⟨w.heap.size, 1, none⟩ (.int .i64 n)).setCell ⟨w.heap.size, 2, none⟩ (.string s)) ⟨k, n, s⟩ v :=
  ⟨VB.set h.1 k n s, VB.other h.2.1 (by omega) _ _ _, ((h.2.2.setCell (Nat.le_refl _) _).setCell (Nat.le_refl _) _).setCell (Nat.le_refl _) _⟩
def Vl.v (x : Vl) : Value := .agg #[.int .i64 x.k, .int .i64 x.n, .string x.s]
/-- what Parse of a value returns -/
def vpRet (R : Option Vl) : Ending := match R with | some v => .returned (.tuple #[.agg #[.int .i64 v.k, .int .i64 v.n, .string v.s], .int .i64 0]) | none => .returned (.tuple #[.agg #[.int .i64 0, .int .i64 0, .string ⟨#[]⟩], .int .i64 3])
theorem byte_eq (s : ByteArray) (l : List UInt8) (h : s.data.toList = l) : s = ⟨l.toArray⟩ := bytes_ext h
theorem valP_lit (m : List UInt8) (t : List UInt8) (h : unq m = .ok t) : (34 :: m : List UInt8) = (⟨3, 0, ⟨t.toArray⟩⟩ : Vl).tx := by
  rw [tx_text]
  exact litF_whole m t (unq_ok m t h).2
theorem valP_lit_no (m : List UInt8) (h : ∀ t, unq m = .ok t → (⟨3, 0, ⟨t.toArray⟩⟩ : Vl).ok = false) : valP (34 :: m) = none := by
  cases hv : valP (34 :: m) with
  | none => rfl
  | some v =>
    obtain ⟨h1, h2⟩ := valP_some _ _ hv
    exfalso
    rcases val_cases v h1 with ⟨hk, hn, _⟩ | ⟨hk, _, _, _⟩ | ⟨hk, hn, hs, hp⟩
    · obtain ⟨k, n, s⟩ := v
      simp only at hk hn
      subst hk
      rcases hn with rfl | rfl
      · rw [tx_false] at h2; exact absurd (List.cons.inj h2).1 (by decide)
      · rw [tx_true] at h2; exact absurd (List.cons.inj h2).1 (by decide)
    · obtain ⟨k, n, s⟩ := v
      simp only at hk
      subst hk
      rw [tx_num] at h2
      obtain ⟨c, r, e, hc⟩ := itoa_head n
      rw [e] at h2
      have := (List.cons.inj h2).1
      subst this
      revert hc; decide
    · obtain ⟨k, n, s⟩ := v
      simp only at hk hn hs hp
      subst hk hn
      rw [tx_text] at h2
      have e : m = escL s.data.toList ++ [34] := ((List.cons.inj h2).2).symm
      have h3 : unq m = .ok s.data.toList := by
        unfold unq
        rw [e, List.all_append, esc_pr _ hp]
        simp only [Bool.true_and]
        rw [if_pos (by decide), litF_quote]
        simp only [if_true]
      have h4 := h _ h3
      have e2 : (⟨s.data.toList.toArray⟩ : ByteArray) = s := rfl
      rw [e2] at h4
      rw [h4] at h1; cases h1
theorem valP_num (s : List UInt8) (ht : s ≠ tTrue) (hf : s ≠ tFalse) (hq : ∀ m, s ≠ 34 :: m) (h : ∀ n, Lib.atoiAll s = .ok n → (⟨2, n, ⟨#[]⟩⟩ : Vl).ok = true → Lib.itoa n ≠ s) : valP s = none := by
  cases hv : valP s with
  | none => rfl
  | some v =>
    obtain ⟨h1, h2⟩ := valP_some _ _ hv
    exfalso
    rcases val_cases v h1 with ⟨hk, hn, _⟩ | ⟨hk, g1, g2, g3⟩ | ⟨hk, hn, hs, hp⟩
    · obtain ⟨k, n, s'⟩ := v
      simp only at hk hn
      subst hk
      rcases hn with rfl | rfl
      · rw [tx_false] at h2; exact hf h2.symm
      · rw [tx_true] at h2; exact ht h2.symm
    · obtain ⟨k, n, s'⟩ := v
      simp only at hk g1 g2 g3
      subst hk
      rw [tx_num] at h2
      have e : s' = ⟨#[]⟩ := bytes_ext g3
      subst e
      exact h n (by rw [← h2]; exact itoa_atoi n (by omega) (by omega)) h1 h2
    · obtain ⟨k, n, s'⟩ := v
      simp only at hk
      subst hk
      rw [tx_text] at h2
      exact hq _ h2.symm
theorem atoi_bounds {l : List UInt8} {v : Int} (h : Lib.atoiAll l = .ok v) : -9223372036854775808 ≤ v ∧ v ≤ 9223372036854775807 := by
  unfold Lib.atoiAll at h
  cases l with
  | nil => cases h
  | cons c r =>
    simp only at h
    split at h
    · cases h
    · cases h
    · split at h
      · cases h
      · split at h
        · cases h
        · rename_i h1 h2
          cases h
          split <;> omega
theorem str_ne (y s : ByteArray) (h : y.data.toList ≠ s.data.toList) : (y.toList == s.toList) = false := by
  rw [ByteArray.toList_eq, ByteArray.toList_eq]; simpa using h
theorem not_true (s : ByteArray) (h : s.data.toList ≠ tTrue) : (s.toList == [116, 114, 117, 101]) = false := by
  rw [ByteArray.toList_eq]; unfold tTrue at h; simpa using h
theorem not_false (s : ByteArray) (h : s.data.toList ≠ tFalse) : (s.toList == [102, 97, 108, 115, 101]) = false := by
  rw [ByteArray.toList_eq]; unfold tFalse at h; simpa using h
set_option maxHeartbeats 6400000 in
set_option maxRecDepth 100000 in
theorem vparse_truth (s : ByteArray) (w : World) (hp : PW w) (h : s.data.toList = tTrue ∨ s.data.toList = tFalse) :
    Calls Tryz.prog 43 #[.string s] w fun e w' => e = vpRet (valP s.data.toList) ∧ Below w.heap.size w w' := by
  have HP := Lib.hid hp; clear hp
  rcases h with ht | ht
  · obtain rfl : s = ⟨#[116, 114, 117, 101]⟩ := byte_eq s _ ht
    have HX := Lib.hid (fun w h => vtx_any ⟨1, 1, ⟨#[]⟩⟩ w h (by decide))
    rw [show vtRet ⟨1, 1, ⟨#[]⟩⟩ = .returned (.tuple #[.string ⟨#[116, 114, 117, 101]⟩, .int .i64 0]) from rfl] at HX
    have H0 := Lib.hid (VP.start w ⟨1, 1, ⟨#[]⟩⟩)
    clear ht
    go_enter Tryz.func43, Tryz.ntmps43
    go_wp2_with fail
    have HR := Lib.hid (show valP (⟨#[116, 114, 117, 101]⟩ : ByteArray).data.toList = some ⟨1, 1, ⟨#[]⟩⟩ from rfl)
    ((with_reducible refine (HX.out _ (HP.out.below H0.out.bel).tb).mono ?_); rintro e w3 ⟨rfl, hb3⟩)
    replace H0 := Lib.hid (H0.out.below hb3)
    clear hb3
    obtain ⟨c0, c1, c2, f0, f1, f2⟩ := H0.out.vb.cells
    obtain ⟨d0, d1, d2, g0, g1, g2⟩ := H0.out.rb.cells
    have HF := Lib.hid (H0.out.setr (1) (1) ⟨#[]⟩)
    simp only at c0 c1 c2 d0 d1 d2
    go_wp2_with fail
    exact bodyPost_ret (v := .tuple #[.agg #[.int .i64 (1), .int .i64 (1), .string ⟨#[]⟩], .int .i64 0]) (by simp [results, Tryz.results43, go_sem, d0, d1, d2]) rfl ⟨by rw [HR.out]; rfl, HF.out.bel⟩
  · obtain rfl : s = ⟨#[102, 97, 108, 115, 101]⟩ := byte_eq s _ ht
    have HX := Lib.hid (fun w h => vtx_any ⟨1, 0, ⟨#[]⟩⟩ w h (by decide))
    rw [show vtRet ⟨1, 0, ⟨#[]⟩⟩ = .returned (.tuple #[.string ⟨#[102, 97, 108, 115, 101]⟩, .int .i64 0]) from rfl] at HX
    have H0 := Lib.hid (VP.start w ⟨1, 0, ⟨#[]⟩⟩)
    clear ht
    go_enter Tryz.func43, Tryz.ntmps43
    go_wp2_with fail
    have HR := Lib.hid (show valP (⟨#[102, 97, 108, 115, 101]⟩ : ByteArray).data.toList = some ⟨1, 0, ⟨#[]⟩⟩ from rfl)
    ((with_reducible refine (HX.out _ (HP.out.below H0.out.bel).tb).mono ?_); rintro e w3 ⟨rfl, hb3⟩)
    replace H0 := Lib.hid (H0.out.below hb3)
    clear hb3
    obtain ⟨c0, c1, c2, f0, f1, f2⟩ := H0.out.vb.cells
    obtain ⟨d0, d1, d2, g0, g1, g2⟩ := H0.out.rb.cells
    have HF := Lib.hid (H0.out.setr (1) (0) ⟨#[]⟩)
    simp only at c0 c1 c2 d0 d1 d2
    go_wp2_with fail
    exact bodyPost_ret (v := .tuple #[.agg #[.int .i64 (1), .int .i64 (0), .string ⟨#[]⟩], .int .i64 0]) (by simp [results, Tryz.results43, go_sem, d0, d1, d2]) rfl ⟨by rw [HR.out]; rfl, HF.out.bel⟩
set_option maxHeartbeats 6400000 in
set_option maxRecDepth 100000 in
theorem vparse_lit (s : ByteArray) (m : List UInt8) (w : World) (hs : s.size ≤ 16384) (hp : PW w) (hm : s.data.toList = 34 :: m) :
    Calls Tryz.prog 43 #[.string s] w fun e w' => e = vpRet (valP s.data.toList) ∧ Below w.heap.size w w' := by
  have HP := Lib.hid hp; clear hp
  have H0 := Lib.hid (show VP w ((w.alloc (.cells #[.int .i64 0, .int .i64 0, .string ⟨#[]⟩] 39)).alloc (.cells #[.int .i64 0, .int .i64 0, .string ⟨#[]⟩] 39)) v0 v0 from VP.start w v0)
  have b1 := not_true s (by rw [hm]; intro h; exact absurd (List.cons.inj h).1 (by decide))
  have b2 := not_false s (by rw [hm]; intro h; exact absurd (List.cons.inj h).1 (by decide))
  have hsz : 0 < s.size := by rw [← len_byte, hm]; simp
  have e2 := nonempty s hsz
  have e3 : (!s.toList.isEmpty) = true := by rw [e2]; rfl
  have hq : (s[0].toNat : Int) = 34 := by
    have := first_byte s hsz
    rw [hm] at this
    have h3 := (List.cons.inj this).1
    rw [← h3]; rfl
  have b3 : ((s[0].toNat : Int) == 34) = true := by rw [hq]; rfl
  have hml : m.length ≤ s.size := by rw [← len_byte, hm]; simp
  clear hq
  have HU := Lib.hid (fun w => unquote_any s m w hs hm)
  cases hu : unq m with
  | error k =>
    have hk : ((k : Int) != 0) = true := by have := unq_code m k hu; simp; omega
    have HR := Lib.hid (show valP s.data.toList = none by rw [hm]; exact valP_lit_no m (fun t ht => by rw [hu] at ht; cases ht))
    rw [hu] at HU
    clear hu hm
    go_enter Tryz.func43, Tryz.ntmps43
    go_wp2_with fail
    ((with_reducible refine (HU.out _).mono ?_); rintro e w1 ⟨he, hb1⟩)
    have he' : e = .returned (.tuple #[.string ⟨#[]⟩, .int .i64 (k : Int)]) := he
    clear he; subst he'
    replace H0 := Lib.hid (H0.out.below hb1)
    clear hb1
    obtain ⟨d0, d1, d2, g0, g1, g2⟩ := H0.out.rb.cells
    have HF := Lib.hid (H0.out.setr 0 0 ⟨#[]⟩)
    simp only [v0] at d0 d1 d2
    go_wp2_with fail
    exact bodyPost_ret (v := .tuple #[.agg #[.int .i64 0, .int .i64 0, .string ⟨#[]⟩], .int .i64 3]) (by simp [results, Tryz.results43, go_sem, d0, d1, d2]) rfl ⟨by rw [HR.out]; rfl, HF.out.bel⟩
  | ok t =>
    have hts : t.length ≤ 16384 := by have := litF_len _ _ (Nat.le_refl _) _ _ (unq_ok m t hu).2; omega
    obtain ⟨y, hy⟩ : ∃ y : ByteArray, y = ⟨t.toArray⟩ := ⟨_, rfl⟩
    have hys : y.size ≤ 16384 := by rw [← len_byte, hy]; exact hts
    have HX := Lib.hid (fun w h => vtx_any ⟨3, 0, y⟩ w h (by show y.size ≤ _; omega))
    cases hv : (⟨3, 0, y⟩ : Vl).ok with
    | true =>
      have HE := Lib.hid (show (⟨3, 0, y⟩ : Vl).tx = s.data.toList by rw [hm, hy]; exact (valP_lit m t hu).symm)
      have HR := Lib.hid (show valP s.data.toList = some ⟨3, 0, y⟩ by rw [← HE.out]; exact valP_tx _ hv)
      rw [vtRet_yes hv, HE.out, show (⟨s.data.toList.toArray⟩ : ByteArray) = s from rfl] at HX
      rw [hu] at HU
      have HU2 := Lib.hid (fun w => (show Calls Tryz.prog 76 #[.string s] w fun e w' => e = .returned (.tuple #[.string y, .int .i64 0]) ∧ Below w.heap.size w w' by rw [hy]; exact HU.out w))
      clear hu hm hy hv HU hts
      go_enter Tryz.func43, Tryz.ntmps43
      go_wp2_with fail
      ((with_reducible refine (HU2.out _).mono ?_); rintro e w1 ⟨rfl, hb1⟩)
      replace H0 := Lib.hid (H0.out.below hb1)
      clear hb1
      obtain ⟨c0, c1, c2, f0, f1, f2⟩ := H0.out.vb.cells
      go_wp2_with fail
      replace H0 := Lib.hid (H0.out.setv (3) (0) y)
      clear c0 c1 c2 f0 f1 f2
      generalize World.setCell _ _ _ = W2 at H0 ⊢
      ((with_reducible refine (HX.out _ (HP.out.below H0.out.bel).tb).mono ?_); rintro e w3 ⟨rfl, hb3⟩)
      replace H0 := Lib.hid (H0.out.below hb3)
      clear hb3
      obtain ⟨c0, c1, c2, f0, f1, f2⟩ := H0.out.vb.cells
      obtain ⟨d0, d1, d2, g0, g1, g2⟩ := H0.out.rb.cells
      have HF := Lib.hid (H0.out.setr (3) (0) y)
      simp only at c0 c1 c2 d0 d1 d2
      go_wp2_with fail
      exact bodyPost_ret (v := .tuple #[.agg #[.int .i64 (3), .int .i64 (0), .string y], .int .i64 0]) (by simp [results, Tryz.results43, go_sem, d0, d1, d2]) rfl ⟨by rw [HR.out]; rfl, HF.out.bel⟩
    | false =>
      have HR := Lib.hid (show valP s.data.toList = none by
        rw [hm]; refine valP_lit_no m (fun t' ht => ?_)
        rw [hu] at ht; cases ht; rw [← hy]; exact hv)
      rw [vtRet_no hv] at HX
      rw [hu] at HU
      have HU2 := Lib.hid (fun w => (show Calls Tryz.prog 76 #[.string s] w fun e w' => e = .returned (.tuple #[.string y, .int .i64 0]) ∧ Below w.heap.size w w' by rw [hy]; exact HU.out w))
      clear hu hm hy hv HU hts
      go_enter Tryz.func43, Tryz.ntmps43
      go_wp2_with fail
      ((with_reducible refine (HU2.out _).mono ?_); rintro e w1 ⟨rfl, hb1⟩)
      replace H0 := Lib.hid (H0.out.below hb1)
      clear hb1
      obtain ⟨c0, c1, c2, f0, f1, f2⟩ := H0.out.vb.cells
      go_wp2_with fail
      replace H0 := Lib.hid (H0.out.setv (3) (0) y)
      clear c0 c1 c2 f0 f1 f2
      generalize World.setCell _ _ _ = W2 at H0 ⊢
      ((with_reducible refine (HX.out _ (HP.out.below H0.out.bel).tb).mono ?_); rintro e w3 ⟨rfl, hb3⟩)
      replace H0 := Lib.hid (H0.out.below hb3)
      clear hb3
      obtain ⟨d0, d1, d2, g0, g1, g2⟩ := H0.out.rb.cells
      have HF := Lib.hid (H0.out.setr 0 0 ⟨#[]⟩)
      simp only [v0] at d0 d1 d2
      go_wp2_with fail
      exact bodyPost_ret (v := .tuple #[.agg #[.int .i64 0, .int .i64 0, .string ⟨#[]⟩], .int .i64 3]) (by simp [results, Tryz.results43, go_sem, d0, d1, d2]) rfl ⟨by rw [HR.out]; rfl, HF.out.bel⟩
set_option maxHeartbeats 6400000 in
set_option maxRecDepth 100000 in
theorem vparse_num (s : ByteArray) (w : World) (hs : s.size ≤ 16384) (hp : PW w) (ht : s.data.toList ≠ tTrue) (hf : s.data.toList ≠ tFalse) (hq : ∀ m, s.data.toList ≠ 34 :: m) :
    Calls Tryz.prog 43 #[.string s] w fun e w' => e = vpRet (valP s.data.toList) ∧ Below w.heap.size w w' := by
  have HP := Lib.hid hp; clear hp
  have H0 := Lib.hid (show VP w ((w.alloc (.cells #[.int .i64 0, .int .i64 0, .string ⟨#[]⟩] 39)).alloc (.cells #[.int .i64 0, .int .i64 0, .string ⟨#[]⟩] 39)) v0 v0 from VP.start w v0)
  have b1 := not_true s ht
  have b2 := not_false s hf
  have HNO := Lib.hid (valP_num s.data.toList ht hf hq)
  have hz : s.toList.isEmpty = true ∨ (s.toList.isEmpty = false ∧ ∃ h : 0 < s.size, ((s[0].toNat : Int) == 34) = false) := by
    by_cases h0 : s.size = 0
    · left; rw [ByteArray.toList_eq, lnil s h0]; rfl
    · right
      refine ⟨nonempty s (by omega), by omega, ?_⟩
      have h1 := first_byte s (by omega)
      rw [beq_eq_false_iff_ne]
      intro h3
      have h4 : s[0] = 34 := UInt8.toNat_inj.1 (by show s[0].toNat = 34; omega)
      exact hq _ (by rw [h1, h4])
  clear ht hf hq
  by_cases ha : ∃ n, Lib.atoiAll s.data.toList = .ok n
  · obtain ⟨n, ha⟩ := ha
    have HA := Lib.hid (fun w => atoi_good s n w (by omega) ha)
    have hnb := atoi_bounds ha
    obtain ⟨hz, hz1, hz2⟩ : s.toList.isEmpty = false ∧ ∃ h : 0 < s.size, ((s[0].toNat : Int) == 34) = false := by
      rcases hz with hz | hz
      · exfalso
        rw [ByteArray.toList_eq] at hz
        rw [List.isEmpty_iff.1 hz] at ha
        cases ha
      · exact hz
    have hz3 : (!s.toList.isEmpty) = true := by rw [hz]; rfl
    have HX := Lib.hid (fun w h => vtx_any ⟨2, n, ⟨#[]⟩⟩ w h (Nat.zero_le _))
    cases hv : (⟨2, n, ⟨#[]⟩⟩ : Vl).ok with
    | false =>
      have HR := Lib.hid (HNO.out (fun n' h' hv' => by rw [ha] at h'; cases h'; rw [hv] at hv'; cases hv'))
      rw [vtRet_no hv] at HX
      clear hv ha HNO
      go_enter Tryz.func43, Tryz.ntmps43
      go_wp2_with fail
      ((with_reducible refine (HA.out _).mono ?_); rintro e w1 ⟨rfl, hb1⟩)
      replace H0 := Lib.hid (H0.out.below hb1)
      clear hb1
      obtain ⟨c0, c1, c2, f0, f1, f2⟩ := H0.out.vb.cells
      go_wp2_with fail
      replace H0 := Lib.hid (H0.out.setv (2) (n) ⟨#[]⟩)
      clear c0 c1 c2 f0 f1 f2
      generalize World.setCell _ _ _ = W2 at H0 ⊢
      ((with_reducible refine (HX.out _ (HP.out.below H0.out.bel).tb).mono ?_); rintro e w3 ⟨rfl, hb3⟩)
      replace H0 := Lib.hid (H0.out.below hb3)
      clear hb3
      obtain ⟨d0, d1, d2, g0, g1, g2⟩ := H0.out.rb.cells
      have HF := Lib.hid (H0.out.setr 0 0 ⟨#[]⟩)
      simp only [v0] at d0 d1 d2
      go_wp2_with fail
      exact bodyPost_ret (v := .tuple #[.agg #[.int .i64 0, .int .i64 0, .string ⟨#[]⟩], .int .i64 3]) (by simp [results, Tryz.results43, go_sem, d0, d1, d2]) rfl ⟨by rw [HR.out]; rfl, HF.out.bel⟩
    | true =>
      rw [vtRet_yes hv, tx_num] at HX
      by_cases he : Lib.itoa n = s.data.toList
      · have HR := Lib.hid (show valP s.data.toList = some ⟨2, n, ⟨#[]⟩⟩ by rw [← he]; exact valP_tx ⟨2, n, ⟨#[]⟩⟩ hv)
        rw [he, show (⟨s.data.toList.toArray⟩ : ByteArray) = s from rfl] at HX
        clear hv ha HNO he
        go_enter Tryz.func43, Tryz.ntmps43
        go_wp2_with fail
        ((with_reducible refine (HA.out _).mono ?_); rintro e w1 ⟨rfl, hb1⟩)
        replace H0 := Lib.hid (H0.out.below hb1)
        clear hb1
        obtain ⟨c0, c1, c2, f0, f1, f2⟩ := H0.out.vb.cells
        go_wp2_with fail
        replace H0 := Lib.hid (H0.out.setv (2) (n) ⟨#[]⟩)
        clear c0 c1 c2 f0 f1 f2
        generalize World.setCell _ _ _ = W2 at H0 ⊢
        ((with_reducible refine (HX.out _ (HP.out.below H0.out.bel).tb).mono ?_); rintro e w3 ⟨rfl, hb3⟩)
        replace H0 := Lib.hid (H0.out.below hb3)
        clear hb3
        obtain ⟨c0, c1, c2, f0, f1, f2⟩ := H0.out.vb.cells
        obtain ⟨d0, d1, d2, g0, g1, g2⟩ := H0.out.rb.cells
        have HF := Lib.hid (H0.out.setr (2) (n) ⟨#[]⟩)
        simp only at c0 c1 c2 d0 d1 d2
        go_wp2_with fail
        exact bodyPost_ret (v := .tuple #[.agg #[.int .i64 (2), .int .i64 (n), .string ⟨#[]⟩], .int .i64 0]) (by simp [results, Tryz.results43, go_sem, d0, d1, d2]) rfl ⟨by rw [HR.out]; rfl, HF.out.bel⟩
      · have HR := Lib.hid (HNO.out (fun n' h' _ => by rw [ha] at h'; cases h'; exact he))
        obtain ⟨y, hy⟩ : ∃ y : ByteArray, y = ⟨(Lib.itoa n).toArray⟩ := ⟨_, rfl⟩
        have b4 := str_ne y s (by rw [hy]; exact he)
        rw [← hy] at HX
        clear hv ha HNO he hy
        go_enter Tryz.func43, Tryz.ntmps43
        go_wp2_with fail
        ((with_reducible refine (HA.out _).mono ?_); rintro e w1 ⟨rfl, hb1⟩)
        replace H0 := Lib.hid (H0.out.below hb1)
        clear hb1
        obtain ⟨c0, c1, c2, f0, f1, f2⟩ := H0.out.vb.cells
        go_wp2_with fail
        replace H0 := Lib.hid (H0.out.setv (2) (n) ⟨#[]⟩)
        clear c0 c1 c2 f0 f1 f2
        generalize World.setCell _ _ _ = W2 at H0 ⊢
        ((with_reducible refine (HX.out _ (HP.out.below H0.out.bel).tb).mono ?_); rintro e w3 ⟨rfl, hb3⟩)
        replace H0 := Lib.hid (H0.out.below hb3)
        clear hb3
        obtain ⟨d0, d1, d2, g0, g1, g2⟩ := H0.out.rb.cells
        have HF := Lib.hid (H0.out.setr 0 0 ⟨#[]⟩)
        simp only [v0] at d0 d1 d2
        go_wp2_with fail
        exact bodyPost_ret (v := .tuple #[.agg #[.int .i64 0, .int .i64 0, .string ⟨#[]⟩], .int .i64 3]) (by simp [results, Tryz.results43, go_sem, d0, d1, d2]) rfl ⟨by rw [HR.out]; rfl, HF.out.bel⟩
  · have HA := Lib.hid (fun w hp => atoi_bad s w (by omega) hp (fun v hv => ha ⟨v, hv⟩))
    have HR := Lib.hid (HNO.out (fun n' h' _ => absurd ⟨n', h'⟩ ha))
    clear ha HNO
    rcases hz with hz | ⟨hz, hz1, hz2⟩
    · have hz3 : (!s.toList.isEmpty) = false := by rw [hz]; rfl
      have hz4 : s.toList = [] := by simpa using hz
      go_enter Tryz.func43, Tryz.ntmps43
      go_wp2_with fail
      ((with_reducible refine (HA.out _ (HP.out.below H0.out.bel)).mono ?_); rintro e w1 ⟨n, N, rfl, hb1⟩)
      replace H0 := Lib.hid (H0.out.below hb1)
      clear hb1
      obtain ⟨d0, d1, d2, g0, g1, g2⟩ := H0.out.rb.cells
      have HF := Lib.hid (H0.out.setr 0 0 ⟨#[]⟩)
      simp only [v0] at d0 d1 d2
      go_wp2_with fail
      exact bodyPost_ret (v := .tuple #[.agg #[.int .i64 0, .int .i64 0, .string ⟨#[]⟩], .int .i64 3]) (by simp [results, Tryz.results43, go_sem, d0, d1, d2]) rfl ⟨by rw [HR.out]; rfl, HF.out.bel⟩
    · have hz3 : (!s.toList.isEmpty) = true := by rw [hz]; rfl
      go_enter Tryz.func43, Tryz.ntmps43
      go_wp2_with fail
      ((with_reducible refine (HA.out _ (HP.out.below H0.out.bel)).mono ?_); rintro e w1 ⟨n, N, rfl, hb1⟩)
      replace H0 := Lib.hid (H0.out.below hb1)
      clear hb1
      obtain ⟨d0, d1, d2, g0, g1, g2⟩ := H0.out.rb.cells
      have HF := Lib.hid (H0.out.setr 0 0 ⟨#[]⟩)
      simp only [v0] at d0 d1 d2
      go_wp2_with fail
      exact bodyPost_ret (v := .tuple #[.agg #[.int .i64 0, .int .i64 0, .string ⟨#[]⟩], .int .i64 3]) (by simp [results, Tryz.results43, go_sem, d0, d1, d2]) rfl ⟨by rw [HR.out]; rfl, HF.out.bel⟩
theorem vparse_any (s : ByteArray) (w : World) (hs : s.size ≤ 16384) (hp : PW w) :
    Calls Tryz.prog 43 #[.string s] w fun e w' => e = vpRet (valP s.data.toList) ∧ Below w.heap.size w w' := by
  by_cases ht : s.data.toList = tTrue
  · exact vparse_truth s w hp (.inl ht)
  by_cases hf : s.data.toList = tFalse
  · exact vparse_truth s w hp (.inr hf)
  by_cases hq : ∃ m, s.data.toList = 34 :: m
  · obtain ⟨m, hm⟩ := hq
    exact vparse_lit s m w hs hp hm
  · exact vparse_num s w hs hp ht hf (fun m hm => hq ⟨m, hm⟩)
end Go.Proofs.YtbbdgncjpbfooaaGreatDoor
