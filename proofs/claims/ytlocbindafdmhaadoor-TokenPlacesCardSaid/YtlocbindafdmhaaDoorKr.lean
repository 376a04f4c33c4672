/- Tokens of package token: what a call returns. -/
import Derived.Test.YtlocbindafdmhaaDoorKq
namespace Go.Proofs.YtlocbindafdmhaaDoor
open Go.RowKit

theorem toks_end (f : Nat) (l : List UInt8) (p : Nat × Nat) (out : List Tk) (h : l.drop (skipN l false) = []) : toks (f + 1) l p out = .ok (out ++ [(⟨5, [], 0⟩, advs p (l.take (skipN l false)))]) := by
  rw [toks]; simp only [h, if_true]
theorem toks_err (f : Nat) (l : List UInt8) (p : Nat × Nat) (out : List Tk) (e : Nat) (h : l.drop (skipN l false) ≠ []) (hr : readTok (l.drop (skipN l false)) = .error e) : toks (f + 1) l p out = .error (advs p (l.take (skipN l false)), e) := by
  rw [toks]; simp only [if_neg h, hr]
theorem toks_full (f : Nat) (l : List UInt8) (p : Nat × Nat) (out : List Tk) (t : Tok) (n : Nat) (h : l.drop (skipN l false) ≠ []) (hr : readTok (l.drop (skipN l false)) = .ok (t, n)) (ho : out.length = 4000) : toks (f + 1) l p out = .error (advs p (l.take (skipN l false)), 5) := by
  rw [toks]; simp only [if_neg h, hr, if_pos ho]
theorem toks_next (f : Nat) (l : List UInt8) (p : Nat × Nat) (out : List Tk) (t : Tok) (n : Nat) (h : l.drop (skipN l false) ≠ []) (hr : readTok (l.drop (skipN l false)) = .ok (t, n)) (ho : out.length ≠ 4000) :
    toks (f + 1) l p out = toks f ((l.drop (skipN l false)).drop n) (advs (advs p (l.take (skipN l false))) ((l.drop (skipN l false)).take n)) (out ++ [(t, advs p (l.take (skipN l false)))]) := by
  rw [toks]; simp only [if_neg h, hr, if_neg ho]
/-- what Tokens answers, out of what was read -/
def tokX : Except ((Nat × Nat) × Nat) (List Tk) → List Tk × (Nat × Nat) × Nat
  | .ok out => (out, (0, 0), 0)
  | .error (p, e) => ([], p, e)
theorem tokens_short (l : List UInt8) (h : l.length ≤ 16384) : tokens l = tokX (toks (l.length + 1) l (1, 1) []) := by
  unfold tokens; rw [if_neg (by omega)]; cases toks (l.length + 1) l (1, 1) [] <;> rfl
theorem TokPost.err {R : Except ((Nat × Nat) × Nat) (List Tk)} {w w' : World} {e : Ending} {p : Nat × Nat} {k : Nat} (hR : R = .error (p, k)) (he : e = .returned (.tuple #[.slice none 0 0, .agg #[.int .i64 (p.1 : Int), .int .i64 (p.2 : Int)], .int .i64 (k : Int)])) (hb : Below w.heap.size w w') : TokPost (tokX R) w e w' := by
  subst hR; exact ⟨_, he, World.ownsRow_nil _ _ _ _, hb⟩
theorem own_base {w : World} {b b' : Nat} {e : TypeId} {k : Nat} {v : Value} {n : Nat} {xs : List Value} (h : w.ownsRow b e k v n xs) (hb : b' ≤ b) : w.ownsRow b' e k v n xs := by
  obtain ⟨h1, h2⟩ := h
  refine ⟨h1, ?_⟩
  rcases h2 with h2 | ⟨g, cap, cur, hv, hg, r⟩
  · exact .inl h2
  · exact .inr ⟨g, cap, cur, hv, by omega, r⟩
theorem TS.start {w : World} {s : ByteArray} (hP : PR w) : TS w ((w.alloc (.cells #[.int .i64 0, .int .i64 0] 25)).alloc (.cells #[.string s, .int .i64 1, .int .i64 1] 56)) (.slice none 0 0) s (1, 1) [] := by
  refine ⟨?_, ?_, World.ownsRow_nil _ _ _ _, (below_alloc w _).alloc (by simp) _, hP.below ((below_alloc w _).alloc (by simp) _)⟩
  · unfold RD
    show ((w.heap.push _).push _)[w.heap.size + 1]? = _
    rw [Array.getElem?_push, if_pos (by simp)]; rfl
  · show ((w.heap.push _).push _)[w.heap.size]? = _
    rw [Array.getElem?_push, if_neg (by simp), Array.getElem?_push_size]

theorem TS.append {w w2 w4 : World} {v v' : Value} {t : ByteArray} {q : Nat × Nat} {out : List Tk} (h : TS w w2 v t q out) (hw : PR w) (a b : Obj) (x : Tk)
    (hown : w4.ownsRow (w.heap.size + 2) 33 5 v' (out.length + 1) (tkRow out ++ tkCells x)) (hg : ((w2.alloc a).alloc b).grownBy w4 v.ownBlock) : TS w w4 v' t q (out ++ [x]) ∧ w4.heap[w2.heap.size]? = some a := by
  have hs := h.size
  have hne : ∀ k, k < w.heap.size + 2 ∨ w2.heap.size ≤ k → some k ≠ v.ownBlock := by
    intro k hk e
    have := h.own.lt k e.symm
    omega
  have hsz : ((w2.alloc a).alloc b).heap.size = w2.heap.size + 1 + 1 := by simp
  have old : ∀ k, k < w.heap.size + 2 → w4.heap[k]? = w2.heap[k]? := by
    intro k hk
    rw [hg.block k (by rw [hsz]; omega) (hne k (.inl hk))]
    show ((w2.heap.push a).push b)[k]? = _
    rw [Array.getElem?_push, if_neg (by simp; omega), Array.getElem?_push, if_neg (by omega)]
  have hb : Below w.heap.size w w4 := by
    refine Below.grown (row := v.ownBlock) ((h.bel.alloc (by omega) a).alloc (by simp; omega) b) hg (by rw [hsz]; omega) (fun k hk => ?_)
    have := h.own.lt k hk
    omega
  refine ⟨⟨?_, ?_, ?_, hb, hw.below hb⟩, ?_⟩
  · have := h.rd
    unfold RD at this ⊢
    rw [old _ (by omega)]; exact this
  · rw [old _ (by omega)]; exact h.2.1
  · rw [tkRow_snoc, List.length_append]; exact hown
  · rw [hg.block _ (by rw [hsz]; omega) (hne _ (.inr (Nat.le_refl _)))]
    show ((w2.heap.push a).push b)[w2.heap.size]? = _
    rw [Array.getElem?_push, if_neg (by simp), Array.getElem?_push_size]
theorem nxtRet_err (k : Nat) (q : Nat × Nat) : nxtRet (.error k) q = .returned (.tuple #[tkv 0 ⟨#[]⟩ 0 q, .int .i64 0, .int .i64 (k : Int)]) := rfl
theorem nxtRet_ok (t : Tok) (n : Nat) (q : Nat × Nat) (y : ByteArray) (hy : y = ⟨t.t.toArray⟩) : nxtRet (.ok (t, n)) q = .returned (.tuple #[tkv t.k y t.n q, .int .i64 (n : Int), .int .i64 0]) := by subst hy; rfl
theorem readTok_code (s : ByteArray) (k : Nat) (h0 : 0 < s.size) (h : readTok s.data.toList = .error k) : 1 ≤ k := by
  rw [first_byte s h0] at h
  generalize s[0] = c at h
  generalize s.data.toList.drop 1 = r at h
  cases hL : isLet c
  · cases hD : isDig c
    · by_cases h34 : (c.toNat : Int) = 34
      · rw [read_lit c r h34] at h
        cases hm : lit r with
        | error e => rw [hm] at h; simp only [Except.error.injEq] at h; have := lit_code _ _ (Nat.le_refl _) _ hm; omega
        | ok x => rw [hm] at h; cases h
      · rw [read_sym c r hL hD h34] at h
        cases hs : symOf (c :: r) with
        | none => rw [hs] at h; simp only [Except.error.injEq] at h; omega
        | some x => rw [hs] at h; cases h
    · rw [read_num c r hD] at h
      split at h
      · simp only [Except.error.injEq] at h; omega
      · split at h
        · simp only [Except.error.injEq] at h; omega
        · cases h
  · rw [read_name c r hL] at h
    split at h
    · simp only [Except.error.injEq] at h; omega
    · cases h
theorem TS.pos {w wr : World} {v : Value} {t : ByteArray} {p : Nat × Nat} {out : List Tk} (h : TS w wr v t p out) :
    wr.cell? ⟨w.heap.size, 0, none⟩ = some (.int .i64 0) ∧ wr.cell? ⟨w.heap.size, 0 + 1, none⟩ = some (.int .i64 0) ∧ wr.frozen? ⟨w.heap.size, 0, none⟩ = false ∧ wr.frozen? ⟨w.heap.size, 0 + 1, none⟩ = false :=
  ⟨by rw [Lib.cell_of_heap h.2.1]; rfl, by rw [Lib.cell_of_heap h.2.1]; rfl, Lib.frozen_of_heap h.2.1 _, Lib.frozen_of_heap h.2.1 _⟩

set_option maxHeartbeats 800000 in
set_option maxRecDepth 100000 in
theorem tokens_long (s : ByteArray) (w : World) (h : 16384 < s.size) : Calls Tryd.prog 11 #[.string s] w (TokPost (tokens s.data.toList) w) := by
  have HX := Lib.hid (show tokens s.data.toList = ([], (0, 0), 5) by unfold tokens; rw [if_pos (by rw [len_byte]; exact h)])
  go_enter Tryd.func11, Tryd.ntmps11
  go_wp2_with fail
  refine bodyPost_ret (v := .tuple #[.slice none 0 0, .agg #[.int .i64 0, .int .i64 0], .int .i64 5]) (by simp [results, Tryd.results11, go_sem]) rfl ?_
  rw [HX.out]
  exact ⟨_, rfl, World.ownsRow_nil _ _ _ _, below_alloc w _⟩

set_option maxHeartbeats 6400000 in
set_option maxRecDepth 100000 in
theorem tokens_walk (s : ByteArray) (w : World) (h : s.size ≤ 16384) (hP : PR w) : Calls Tryd.prog 11 #[.string s] w (TokPost (tokX (toks (s.data.toList.length + 1) s.data.toList (1, 1) [])) w) := by
  generalize hR : toks (s.data.toList.length + 1) s.data.toList (1, 1) [] = R
  have HR := Lib.hid hR; clear hR
  have H0 := Lib.hid (TS.start (s := s) hP)
  have HP := Lib.hid hP; clear hP
  obtain ⟨i0, hi, hz0, hz1, hz2⟩ := info_parts tkInfo
  have HI := Lib.hid (And.intro hi (And.intro hz0 (And.intro hz1 hz2)))
  clear hi hz0 hz1 hz2
  go_enter Tryd.func11, Tryd.ntmps11
  go_wp2_with fail
  go_loopg [6] (s.size + 1) (fun g v wr => ∃ (t : ByteArray) (p : Nat × Nat) (out : List Tk), t.size < g ∧ out.length ≤ 4000 ∧ 1 ≤ p.2 ∧ p.1 + t.size ≤ 16385 ∧ p.2 + t.size ≤ 16385 ∧ toks g t.data.toList p out = R ∧ TS w wr v t p out)
  case atStart => exact ⟨s, (1, 1), [], by omega, by simp, by simp, by simp; omega, by simp; omega, by rw [← len_byte]; exact HR.out, H0.out⟩
  case round =>
    obtain ⟨t, p, out, hg, ho, hp0, hp1, hp2, hR, hS⟩ := hrel
    have HRR := Lib.hid hR; clear hR
    have HS := Lib.hid hS
    obtain ⟨vo, vc, rfl⟩ := hS.slice
    clear hS H0 HR
    obtain ⟨f, rfl⟩ : ∃ f, gk = f + 1 := ⟨gk - 1, by omega⟩
    go_wp2_with fail
    ((with_reducible refine (blanks_any _ t p _ HS.out.rd (by omega) (by omega) (by omega)).mono ?_); rintro e w1 ⟨rfl, t1, ht1, hR1, hG1⟩)
    have HS1 := Lib.hid (HS.out.grown HP.out hR1 hG1)
    have hk := skipN_le t.data.toList false
    rw [len_byte] at hk
    have hl1 : t1.size = t.size - skipN t.data.toList false := by rw [← len_byte t1, ht1, List.length_drop, len_byte]
    obtain ⟨q0, q2, q1⟩ := advs_le1 (t.data.toList.take (skipN t.data.toList false)) p hp0
    rw [List.length_take, len_byte, Nat.min_eq_left hk] at q1 q2
    have HT1 := Lib.hid ht1
    clear hR1 hG1 ht1 HS
    generalize hq : advs p (t.data.toList.take (skipN t.data.toList false)) = q at *
    have HQ := Lib.hid hq; clear hq
    by_cases hz : t1.size = 0
    · have HE := Lib.hid (show R = .ok (out ++ [(⟨5, [], 0⟩, q)]) by
        rw [← HRR.out, toks_end f _ _ _ (by rw [← HT1.out]; exact List.eq_nil_of_length_eq_zero (by rw [len_byte]; exact hz)), HQ.out])
      go_wp2_with fail
      ((with_reducible refine (next_end _ t1 q _ HS1.out.rd hz).mono ?_); rintro e w2 ⟨rfl, hb2⟩)
      have HS2 := Lib.hid (HS1.out.below hb2)
      clear hb2 HS1 hz
      unfold tkv
      go_wp2_with (at_builtin; refine wpList_append_own _ rfl _ _ 23 rfl (w.heap.size + 2) 33 i0 (.agg #[.int .i64 0, .string ⟨#[]⟩, .int .i64 0, .int .i64 0, .int .i64 0]) 5 48 Tryd.underlying23 HI.out.1 HI.out.2.1 HI.out.2.2.1 HI.out.2.2.2 rfl (by decide) _ _ _ rfl ((HS2.out.own.alloc _).alloc _) ⟨w2.heap.size + 1, 0, none⟩ 1 1 [.int .i64 5, .string ⟨#[]⟩, .int .i64 0, .int .i64 (q.1 : Int), .int .i64 (q.2 : Int)] rfl rfl ?c1 ?c2 ?c3 ?c4 ?c5 ?_)
      case c1 =>
        intro j u hj
        match j, hj with
        | 0, hj => simp at hj; subst hj; simp [Addr.add]
        | 1, hj => simp at hj; subst hj; simp [Addr.add]
        | 2, hj => simp at hj; subst hj; simp [Addr.add]
        | 3, hj => simp at hj; subst hj; simp [Addr.add]
        | 4, hj => simp at hj; subst hj; simp [Addr.add]
        | j + 5, hj => simp at hj
      case c2 => intro u hu; simp at hu; rcases hu with rfl | rfl | rfl | rfl | rfl <;> rfl
      case c3 => unfold maxLen; omega
      case c4 => omega
      case c5 => have := HS2.out.size; simp; omega
      intro v' w4 hown4 hgrow4 _
      obtain ⟨hS4, hB4⟩ := HS2.out.append HP.out _ _ (⟨5, [], 0⟩, q) hown4 hgrow4
      have HS4 := Lib.hid hS4
      have k0 : w4.cell? ⟨w2.heap.size, 0, none⟩ = some (.int .i64 5) := by rw [Lib.cell_of_heap hB4]; rfl
      clear hown4 hgrow4 hS4 hB4 HS2
      obtain ⟨z0, z1, y0, y1⟩ := HS4.out.pos
      go_wp2_with fail
      refine bodyPost_ret (v := .tuple #[v', .agg #[.int .i64 0, .int .i64 0], .int .i64 0]) (by simp [results, Tryd.results11, go_sem, z0, z1]) rfl ?_
      rw [HE.out]
      refine ⟨v', rfl, ?_, ?_⟩
      · exact own_base (ownsRow_setCell_below (ownsRow_setCell_below HS4.out.own (by simp) _) (by simp) _) (by omega)
      · exact bset0 (bset0 HS4.out.bel _ _) _ _
    · have hpos : 0 < t1.size := by omega
      have HNE := Lib.hid (show t.data.toList.drop (skipN t.data.toList false) ≠ [] by rw [← HT1.out]; intro e; have h6 := len_byte t1; rw [e] at h6; simp at h6; omega)
      clear hz
      cases hM : readTok t1.data.toList with
      | error k =>
        have HM := Lib.hid hM
        have HE := Lib.hid (show R = .error (q, k) by rw [← HRR.out, toks_err f _ _ _ k HNE.out (by rw [← HT1.out]; exact hM), HQ.out])
        have qk : ((k : Int) != 0) = true := by have := readTok_code _ _ hpos hM; simp; omega
        clear hM
        go_wp2_with fail
        ((with_reducible refine (next_any _ t1 q _ HS1.out.rd hpos (by omega) HS1.out.pr).mono ?_); rintro e w2 ⟨rfl, hb2⟩)
        have HS2 := Lib.hid (HS1.out.below hb2)
        clear hb2 HS1
        rw [HM.out, nxtRet_err]
        unfold tkv
        obtain ⟨z0, z1, y0, y1⟩ := HS2.out.pos
        obtain ⟨c0, c1, c2, f0, f1, f2⟩ := HS2.out.rd.cells
        have hz2 : w.heap.size + 1 < w2.heap.size := HS2.out.size
        have hz3 : w.heap.size < w2.heap.size := by omega
        go_wp2_with fail
        go_region
        go_wp2_with fail
        refine bodyPost_ret (v := .tuple #[.slice none 0 0, .agg #[.int .i64 (q.1 : Int), .int .i64 (q.2 : Int)], .int .i64 (k : Int)]) (by simp [results, Tryd.results11, go_sem, z0, z1, hz3]) rfl ?_
        refine TokPost.err HE.out rfl ?_
        exact ((bset0 (bset0 HS2.out.bel _ _) _ _).alloc (by simp; omega) _).drew
      | ok x =>
        obtain ⟨tk, n⟩ := x
        have HM := Lib.hid hM
        obtain ⟨g1, g2, g3, g4⟩ := readTok_facts _ _ _ hM
        rw [len_byte] at g2
        clear hM
        obtain ⟨y, hy⟩ : ∃ y : ByteArray, y = ⟨tk.t.toArray⟩ := ⟨_, rfl⟩
        have HY := Lib.hid hy; clear hy
        have qk : ((tk.k : Int) != 5) = true := by simp; omega
        have qk2 : ((tk.k : Int) == 5) = false := by simp; omega
        by_cases h4 : out.length = 4000
        · have HE := Lib.hid (show R = .error (q, 5) by rw [← HRR.out, toks_full f _ _ _ tk n HNE.out (by rw [← HT1.out]; exact HM.out) h4, HQ.out])
          have ql : ((out.length : Int) == 4000) = true := by rw [h4]; rfl
          clear h4
          go_wp2_with fail
          ((with_reducible refine (next_any _ t1 q _ HS1.out.rd hpos (by omega) HS1.out.pr).mono ?_); rintro e w2 ⟨rfl, hb2⟩)
          have HS2 := Lib.hid (HS1.out.below hb2)
          clear hb2 HS1
          rw [HM.out, nxtRet_ok tk n q y HY.out]
          unfold tkv
          obtain ⟨z0, z1, y0, y1⟩ := HS2.out.pos
          obtain ⟨c0, c1, c2, f0, f1, f2⟩ := HS2.out.rd.cells
          have hz2 : w.heap.size + 1 < w2.heap.size := HS2.out.size
          have hz3 : w.heap.size < w2.heap.size := by omega
          go_wp2_with fail
          go_region
          go_wp2_with fail
          refine bodyPost_ret (v := .tuple #[.slice none 0 0, .agg #[.int .i64 (q.1 : Int), .int .i64 (q.2 : Int)], .int .i64 5]) (by simp [results, Tryd.results11, go_sem, z0, z1, hz3]) rfl ?_
          refine TokPost.err HE.out rfl ?_
          exact ((bset0 (bset0 HS2.out.bel _ _) _ _).alloc (by simp; omega) _).drew
        · have HE := Lib.hid (show toks f ((t1.data.toList).drop n) (advs q ((t1.data.toList).take n)) (out ++ [(tk, q)]) = R by rw [← HRR.out, toks_next f _ _ _ tk n HNE.out (by rw [← HT1.out]; exact HM.out) h4, HQ.out, ← HT1.out])
          have ql : ((out.length : Int) == 4000) = false := by simp; omega
          have h4' : out.length < 4000 := by omega
          clear h4
          go_wp2_with fail
          ((with_reducible refine (next_any _ t1 q _ HS1.out.rd hpos (by omega) HS1.out.pr).mono ?_); rintro e w2 ⟨rfl, hb2⟩)
          have HS2 := Lib.hid (HS1.out.below hb2)
          clear hb2 HS1
          rw [HM.out, nxtRet_ok tk n q y HY.out]
          unfold tkv
          go_wp2_with (at_builtin; refine wpList_append_own _ rfl _ _ 23 rfl (w.heap.size + 2) 33 i0 (.agg #[.int .i64 0, .string ⟨#[]⟩, .int .i64 0, .int .i64 0, .int .i64 0]) 5 48 Tryd.underlying23 HI.out.1 HI.out.2.1 HI.out.2.2.1 HI.out.2.2.2 rfl (by decide) _ _ _ rfl ((HS2.out.own.alloc _).alloc _) ⟨w2.heap.size + 1, 0, none⟩ 1 1 [.int .i64 (tk.k : Int), .string y, .int .i64 (tk.n : Int), .int .i64 (q.1 : Int), .int .i64 (q.2 : Int)] rfl rfl ?c1 ?c2 ?c3 ?c4 ?c5 ?_)
          case c1 =>
            intro j u hj
            match j, hj with
            | 0, hj => simp at hj; subst hj; simp [Addr.add]
            | 1, hj => simp at hj; subst hj; simp [Addr.add]
            | 2, hj => simp at hj; subst hj; simp [Addr.add]
            | 3, hj => simp at hj; subst hj; simp [Addr.add]
            | 4, hj => simp at hj; subst hj; simp [Addr.add]
            | j + 5, hj => simp at hj
          case c2 => intro u hu; simp at hu; rcases hu with rfl | rfl | rfl | rfl | rfl <;> rfl
          case c3 => unfold maxLen; omega
          case c4 => omega
          case c5 => have := HS2.out.size; simp; omega
          intro v' w4 hown4 hgrow4 _
          obtain ⟨hS4, hB4⟩ := HS2.out.append HP.out _ _ (tk, q) (by unfold tkCells; rw [← HY.out]; exact hown4) hgrow4
          have HS4 := Lib.hid hS4
          have k0 : w4.cell? ⟨w2.heap.size, 0, none⟩ = some (.int .i64 (tk.k : Int)) := by rw [Lib.cell_of_heap hB4]; rfl
          clear hown4 hgrow4 hS4 hB4 HS2
          go_wp2_with fail
          ((with_reducible refine (skip_any _ n t1 q _ HS4.out.rd g2 (by omega) (by omega) (by omega)).mono ?_); rintro e w5 ⟨rfl, hR5, hG5⟩)
          have HS5 := Lib.hid (HS4.out.grown HP.out hR5 hG5)
          clear hR5 hG5 HS4
          obtain ⟨a0, a2, a1⟩ := advs_le1 (t1.data.toList.take n) q q0
          rw [List.length_take, len_byte, Nat.min_eq_left g2] at a1 a2
          have hsz : (t1.extract n t1.size).size = t1.size - n := by rw [← len_byte, ext_list, List.length_drop, len_byte]
          go_wp2_with fail
          go_roundg f
          case measure => omega
          case rel => exact ⟨t1.extract n t1.size, _, _, by omega, by simp; omega, a0, by omega, by omega, by rw [ext_list]; exact HE.out, HS5.out⟩

/-- Tokens at every text -/
theorem tokens_any (s : ByteArray) (w : World) (hP : PR w) : Calls Tryd.prog 11 #[.string s] w (TokPost (tokens s.data.toList) w) := by
  by_cases h : 16384 < s.size
  · exact tokens_long s w h
  · rw [tokens_short _ (by rw [len_byte]; omega)]
    exact tokens_walk s w (by omega) hP
end Go.Proofs.YtlocbindafdmhaaDoor
