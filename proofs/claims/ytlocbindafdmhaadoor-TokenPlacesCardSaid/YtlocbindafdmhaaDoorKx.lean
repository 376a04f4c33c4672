/- Tokens of the reference: what a call returns. -/
import Derived.Test.YtlocbindafdmhaaDoorKw
import Derived.Test.YtlocbindafdmhaaDoorKr
namespace Go.Proofs.YtlocbindafdmhaaDoor
open Go.RowKit

/-- inside the loop: the place that is returned, the row of tokens, and what else stands -/
def RS (w wr : World) (v : Value) (out : List Tk) : Prop :=
  wr.heap[w.heap.size]? = some (.cells #[.int .i64 0, .int .i64 0] 25 (0, 0)) ∧ wr.ownsRow (w.heap.size + 1) 33 5 v out.length (tkRow out) ∧ Below w.heap.size w wr ∧ w.heap.size < wr.heap.size
theorem RS.own {w wr : World} {v : Value} {out : List Tk} (h : RS w wr v out) : wr.ownsRow (w.heap.size + 1) 33 5 v out.length (tkRow out) := h.2.1
theorem RS.bel {w wr : World} {v : Value} {out : List Tk} (h : RS w wr v out) : Below w.heap.size w wr := h.2.2.1
theorem RS.size {w wr : World} {v : Value} {out : List Tk} (h : RS w wr v out) : w.heap.size < wr.heap.size := h.2.2.2
theorem RS.slice {w wr : World} {v : Value} {out : List Tk} (h : RS w wr v out) : ∃ o c, v = .slice o out.length c := by
  rcases h.own.2 with ⟨hv, hn⟩ | ⟨g, cap, cur, hv, _⟩
  · exact ⟨none, 0, by rw [hv, hn]⟩
  · exact ⟨_, _, hv⟩
theorem RS.below {w wr w' : World} {v : Value} {out : List Tk} (h : RS w wr v out) (hb : Below wr.heap.size wr w') : RS w w' v out := by
  obtain ⟨h2, h3, h4, h5⟩ := h
  refine ⟨?_, ?_, h4.trans (hb.mono (by omega)), Nat.lt_of_lt_of_le h5 hb.size⟩
  · rw [hb.block _ (by omega)]; exact h2
  · refine h3.kept (row := none) ⟨hb.os, hb.tape, hb.output, hb.size, fun k hk _ => hb.block k hk⟩ ?_
    cases hv : v.ownBlock
    · exact .inl rfl
    · right; simp
theorem RS.append {w w2 w4 : World} {v v' : Value} {out : List Tk} (h : RS w w2 v out) (b : Obj) (x : Tk)
    (hown : w4.ownsRow (w.heap.size + 1) 33 5 v' (out.length + 1) (tkRow out ++ tkCells x)) (hg : (w2.alloc b).grownBy w4 v.ownBlock) : RS w w4 v' (out ++ [x]) := by
  have hs := h.size
  have hsz : (w2.alloc b).heap.size = w2.heap.size + 1 := by simp
  have hb : Below w.heap.size w w4 := by
    refine Below.grown (row := v.ownBlock) (h.bel.alloc (by omega) b) hg (by rw [hsz]; omega) (fun k hk => ?_)
    have := h.own.lt k hk
    omega
  refine ⟨?_, ?_, hb, ?_⟩
  · rw [hg.block _ (by rw [hsz]; omega) (fun e => by have := h.own.lt _ e.symm; omega)]
    show (w2.heap.push b)[w.heap.size]? = _
    rw [Array.getElem?_push, if_neg (by omega)]; exact h.1
  · rw [tkRow_snoc, List.length_append]; exact hown
  · have := hg.size; rw [hsz] at this; omega
theorem RS.pos {w wr : World} {v : Value} {out : List Tk} (h : RS w wr v out) :
    wr.cell? ⟨w.heap.size, 0, none⟩ = some (.int .i64 0) ∧ wr.cell? ⟨w.heap.size, 0 + 1, none⟩ = some (.int .i64 0) ∧ wr.frozen? ⟨w.heap.size, 0, none⟩ = false ∧ wr.frozen? ⟨w.heap.size, 0 + 1, none⟩ = false :=
  ⟨by rw [Lib.cell_of_heap h.1]; rfl, by rw [Lib.cell_of_heap h.1]; rfl, Lib.frozen_of_heap h.1 _, Lib.frozen_of_heap h.1 _⟩
theorem RS.start (w : World) : RS w (w.alloc (.cells #[.int .i64 0, .int .i64 0] 25)) (.slice none 0 0) [] :=
  ⟨Array.getElem?_push_size .., World.ownsRow_nil _ _ _ _, below_alloc w _, by simp⟩
theorem rskip_int (s : ByteArray) (x : Int) (i : Nat) (hx : x = (i : Int)) (w : World) (hi : i ≤ s.size) (hs : s.size ≤ 1099511627776) :
    Calls Tryd.prog 31 #[.string s, .int .i64 x] w fun e w' => e = .returned (.int .i64 ((i + skipN (s.data.toList.drop i) false : Nat) : Int)) ∧ w = w' := by
  subst hx; exact rskip_any s i w hi hs
theorem rtkRet_ok (t : Tok) (n i : Nat) (y : ByteArray) (hy : y = ⟨t.t.toArray⟩) : rtkRet (.ok (t, n)) i = .returned (.tuple #[.agg #[.int .i64 (t.k : Int), .string y, .int .i64 (t.n : Int), .int .i64 0, .int .i64 0], .int .i64 ((i + n : Nat) : Int), .int .i64 0]) := by subst hy; rfl
theorem rtkRet_err (k i : Nat) : rtkRet (.error k) i = .returned (.tuple #[.agg #[.int .i64 0, .string ⟨#[]⟩, .int .i64 0, .int .i64 0, .int .i64 0], .int .i64 0, .int .i64 (k : Int)]) := rfl
theorem readTok_codeL (l : List UInt8) (k : Nat) (h0 : 0 < l.length) (h : readTok l = .error k) : 1 ≤ k :=
  readTok_code ⟨l.toArray⟩ k (by simpa [ByteArray.size] using h0) h
theorem alloc_at {W w3 : World} (h : W.heap.size = w3.heap.size) (cs : Array Value) (T : TypeId) (j : Nat) : (W.alloc (.cells cs T)).cell? ⟨w3.heap.size, j, none⟩ = cs[j]? := by
  rw [← h]; exact Lib.cell_of_heap (Array.getElem?_push_size ..) j
/-- behind Place: the token that is being laid -/
theorem tk_facts {w2 w3 : World} {a b c d e : Value} (hb : Below (w2.alloc (.cells #[a, b, c, d, e] 33)).heap.size (w2.alloc (.cells #[a, b, c, d, e] 33)) w3) :
    w3.cell? ⟨w2.heap.size, 0, none⟩ = some a ∧ w3.cell? ⟨w2.heap.size, 1, none⟩ = some b ∧ w3.cell? ⟨w2.heap.size, 2, none⟩ = some c ∧ w3.cell? ⟨w2.heap.size, 3, none⟩ = some d ∧ w3.cell? ⟨w2.heap.size, 4, none⟩ = some e ∧ w3.frozen? ⟨w2.heap.size, 0, none⟩ = false ∧ w3.frozen? ⟨w2.heap.size, 1, none⟩ = false ∧ w3.frozen? ⟨w2.heap.size, 2, none⟩ = false ∧ w3.frozen? ⟨w2.heap.size, 3, none⟩ = false ∧ w3.frozen? ⟨w2.heap.size, 4, none⟩ = false := by
  have b0 : w3.heap[w2.heap.size]? = some (.cells #[a, b, c, d, e] 33 (0, 0)) := by
    rw [hb.block _ (by simp)]
    exact Array.getElem?_push_size ..
  refine ⟨?_, ?_, ?_, ?_, ?_, ?_, ?_, ?_, ?_, ?_⟩
  all_goals first | (rw [Lib.cell_of_heap b0]; rfl) | exact Lib.frozen_of_heap b0 _

set_option maxHeartbeats 800000 in
set_option maxRecDepth 100000 in
theorem rtokens_long (s : ByteArray) (w : World) (h : 16384 < s.size) : Calls Tryd.prog 12 #[.string s] w (TokPost (tokens s.data.toList) w) := by
  have HX := Lib.hid (show tokens s.data.toList = ([], (0, 0), 5) by unfold tokens; rw [if_pos (by rw [len_byte]; exact h)])
  go_enter Tryd.func12, Tryd.ntmps12
  go_wp2_with fail
  refine bodyPost_ret (v := .tuple #[.slice none 0 0, .agg #[.int .i64 0, .int .i64 0], .int .i64 5]) (by simp [results, Tryd.results12, go_sem]) rfl ?_
  rw [HX.out]
  exact ⟨_, rfl, World.ownsRow_nil _ _ _ _, below_alloc w _⟩

set_option maxHeartbeats 6400000 in
set_option maxRecDepth 100000 in
theorem rtokens_walk (s : ByteArray) (w : World) (h : s.size ≤ 16384) : Calls Tryd.prog 12 #[.string s] w (TokPost (tokX (toks (s.data.toList.length + 1) s.data.toList (1, 1) [])) w) := by
  generalize hR : toks (s.data.toList.length + 1) s.data.toList (1, 1) [] = R
  have HR := Lib.hid hR; clear hR
  have H0 := Lib.hid (RS.start w)
  obtain ⟨i0, hi, hz0, hz1, hz2⟩ := info_parts tkInfo
  have HI := Lib.hid (And.intro hi (And.intro hz0 (And.intro hz1 hz2)))
  clear hi hz0 hz1 hz2
  go_enter Tryd.func12, Tryd.ntmps12
  go_wp2_with fail
  ((with_reducible refine (rskip_int s 0 0 rfl _ (by omega) (by omega)).mono ?_); rintro e wn ⟨rfl, rfl⟩)
  have hk0 := skipN_le (s.data.toList.drop 0) false
  rw [List.length_drop, len_byte] at hk0
  go_wp2_with fail
  go_loopg [5, 6] (s.size + 1) (fun g v x wr => ∃ (j : Nat) (out : List Tk), j ≤ s.size ∧ s.size - j < g ∧ out.length ≤ 4000 ∧ x = .int .i64 ((j + skipN (s.data.toList.drop j) false : Nat) : Int) ∧ toks g (s.data.toList.drop j) (advs (1, 1) (s.data.toList.take j)) out = R ∧ RS w wr v out)
  case atStart => exact ⟨0, [], by omega, by omega, by simp, by rw [List.drop_zero, Nat.zero_add], by rw [← len_byte]; exact HR.out, H0.out⟩
  case round =>
    obtain ⟨j, out, hj, hg, ho, rfl, hR, hS⟩ := hrel
    have HRR := Lib.hid hR; clear hR
    have HS := Lib.hid hS
    obtain ⟨vo, vc, rfl⟩ := hS.slice
    clear hS H0 HR hk0
    obtain ⟨f, rfl⟩ : ∃ f, gk = f + 1 := ⟨gk - 1, by omega⟩
    have hk := skipN_le (s.data.toList.drop j) false
    rw [List.length_drop, len_byte] at hk
    have HDD := Lib.hid (show (s.data.toList.drop j).drop (skipN (s.data.toList.drop j) false) = s.data.toList.drop (j + skipN (s.data.toList.drop j) false) by rw [List.drop_drop])
    have HPL := Lib.hid (show advs (advs (1, 1) (s.data.toList.take j)) ((s.data.toList.drop j).take (skipN (s.data.toList.drop j) false)) = advs (1, 1) (s.data.toList.take (j + skipN (s.data.toList.drop j) false)) by rw [← advs_append, ← List.take_add])
    have HE1 := Lib.hid (toks_end f (s.data.toList.drop j) (advs (1, 1) (s.data.toList.take j)) out)
    have HE2 := Lib.hid (toks_err f (s.data.toList.drop j) (advs (1, 1) (s.data.toList.take j)) out)
    have HE3 := Lib.hid (toks_full f (s.data.toList.drop j) (advs (1, 1) (s.data.toList.take j)) out)
    have HE4 := Lib.hid (toks_next f (s.data.toList.drop j) (advs (1, 1) (s.data.toList.take j)) out)
    generalize skipN (s.data.toList.drop j) false = sk at *
    rw [HDD.out, HPL.out] at HE1 HE2 HE3 HE4
    generalize hi : j + sk = i at *
    have HIJ := Lib.hid hi
    have hi2 : i ≤ s.size := by omega
    have hji : j ≤ i := by omega
    clear hi hk
    have HPl := Lib.hid (fun w => place_any s i w hi2 (by omega))
    obtain ⟨q, hq⟩ : ∃ q, q = advs (1, 1) (s.data.toList.take i) := ⟨_, rfl⟩
    rw [← hq] at HPl HE1 HE2 HE3 HE4
    have HQ := Lib.hid hq; clear hq
    by_cases hlt : i < s.size
    · have HNE := Lib.hid (show s.data.toList.drop i ≠ [] by intro e; have h6 := congrArg List.length e; rw [List.length_drop, len_byte] at h6; simp at h6; omega)
      have hpl : 0 < (s.data.toList.drop i).length := by rw [List.length_drop, len_byte]; omega
      cases hM : readTok (s.data.toList.drop i) with
      | error k =>
        have HM := Lib.hid hM
        have HE := Lib.hid (show R = .error (q, k) by rw [← HRR.out, HE2.out k HNE.out hM])
        have q1 : ((k : Int) == 0) = false := by have := readTok_codeL _ _ hpl hM; simp; omega
        have q2 : ((k : Int) != 0) = true := by have := readTok_codeL _ _ hpl hM; simp; omega
        clear hM hpl
        go_wp2_with fail
        ((with_reducible refine (rtoken_any s i _ hlt (by omega)).mono ?_); rintro e w2 ⟨rfl, hb2⟩)
        have HS2 := Lib.hid (HS.out.below hb2)
        clear hb2 HS
        rw [HM.out, rtkRet_err]
        go_wp2_with fail
        ((with_reducible refine (HPl.out _).mono ?_); rintro e w3 ⟨rfl, hb3⟩)
        have HS3 := Lib.hid ((HS2.out.below (below_alloc w2 _)).below hb3)
        obtain ⟨z0, z1, y0, y1⟩ := HS3.out.pos
        clear hb3 HS2
        go_wp2_with fail
        refine bodyPost_ret (v := .tuple #[.slice none 0 0, .agg #[.int .i64 (q.1 : Int), .int .i64 (q.2 : Int)], .int .i64 (k : Int)]) (by simp [results, Tryd.results12, go_sem, z0, z1]) rfl ?_
        refine TokPost.err HE.out rfl ?_
        exact bset0 (bset0 HS3.out.bel _ _) _ _
      | ok x =>
        obtain ⟨tk, n⟩ := x
        have HM := Lib.hid hM
        obtain ⟨g1, g2, g3, g4⟩ := readTok_facts _ _ _ hM
        rw [List.length_drop, len_byte] at g2
        clear hM hpl
        obtain ⟨y, hy⟩ : ∃ y : ByteArray, y = ⟨tk.t.toArray⟩ := ⟨_, rfl⟩
        have HY := Lib.hid hy; clear hy
        by_cases h4 : out.length = 4000
        · have HE := Lib.hid (show R = .error (q, 5) by rw [← HRR.out, HE3.out tk n HNE.out HM.out h4])
          have ql : ((out.length : Int) == 4000) = true := by rw [h4]; rfl
          clear h4
          go_wp2_with fail
          ((with_reducible refine (rtoken_any s i _ hlt (by omega)).mono ?_); rintro e w2 ⟨rfl, hb2⟩)
          have HS2 := Lib.hid (HS.out.below hb2)
          clear hb2 HS
          rw [HM.out, rtkRet_ok tk n i y HY.out]
          go_wp2_with fail
          ((with_reducible refine (HPl.out _).mono ?_); rintro e w3 ⟨rfl, hb3⟩)
          have HS3 := Lib.hid ((HS2.out.below (below_alloc w2 _)).below hb3)
          obtain ⟨z0, z1, y0, y1⟩ := HS3.out.pos
          clear hb3 HS2
          go_wp2_with fail
          refine bodyPost_ret (v := .tuple #[.slice none 0 0, .agg #[.int .i64 (q.1 : Int), .int .i64 (q.2 : Int)], .int .i64 5]) (by simp [results, Tryd.results12, go_sem, z0, z1]) rfl ?_
          refine TokPost.err HE.out rfl ?_
          exact bset0 (bset0 HS3.out.bel _ _) _ _
        · have HE := Lib.hid (show toks f (s.data.toList.drop (i + n)) (advs (1, 1) (s.data.toList.take (i + n))) (out ++ [(tk, q)]) = R by
            rw [← HRR.out, HE4.out tk n HNE.out HM.out h4, List.drop_drop, HQ.out, ← advs_append, ← List.take_add])
          have ql : ((out.length : Int) == 4000) = false := by simp; omega
          have h4' : out.length < 4000 := by omega
          clear h4
          go_wp2_with fail
          ((with_reducible refine (rtoken_any s i _ hlt (by omega)).mono ?_); rintro e w2 ⟨rfl, hb2⟩)
          have HS2 := Lib.hid (HS.out.below hb2)
          clear hb2 HS
          rw [HM.out, rtkRet_ok tk n i y HY.out]
          go_wp2_with fail
          ((with_reducible refine (HPl.out _).mono ?_); rintro e w3 ⟨rfl, hb3⟩)
          have HSA := Lib.hid (HS2.out.below (((below_then (below_alloc w2 _) hb3).setCell (p := ⟨w2.heap.size, 3, none⟩) (Nat.le_refl _) (.int .i64 (q.1 : Int))).setCell (p := ⟨w2.heap.size, 4, none⟩) (Nat.le_refl _) (.int .i64 (q.2 : Int))))
          obtain ⟨t0, t1, t2, t3, t4, ft0, ft1, ft2, ft3, ft4⟩ := tk_facts hb3
          clear hb3 HS2
          go_wp2_with (at_builtin; refine wpList_append_own _ rfl _ _ 23 rfl (w.heap.size + 1) 33 i0 (.agg #[.int .i64 0, .string ⟨#[]⟩, .int .i64 0, .int .i64 0, .int .i64 0]) 5 48 Tryd.underlying23 HI.out.1 HI.out.2.1 HI.out.2.2.1 HI.out.2.2.2 rfl (by decide) _ _ _ rfl (HSA.out.own.alloc _) ⟨w3.heap.size, 0, none⟩ 1 1 [.int .i64 (tk.k : Int), .string y, .int .i64 (tk.n : Int), .int .i64 (q.1 : Int), .int .i64 (q.2 : Int)] rfl rfl ?c1 ?c2 ?c3 ?c4 ?c5 ?_)
          case c1 =>
            intro j u hj
            match j, hj with
            | 0, hj => simp at hj; subst hj; exact (alloc_at (by simp) _ _ 0).trans rfl
            | 1, hj => simp at hj; subst hj; exact (alloc_at (by simp) _ _ 1).trans rfl
            | 2, hj => simp at hj; subst hj; exact (alloc_at (by simp) _ _ 2).trans rfl
            | 3, hj => simp at hj; subst hj; exact (alloc_at (by simp) _ _ 3).trans rfl
            | 4, hj => simp at hj; subst hj; exact (alloc_at (by simp) _ _ 4).trans rfl
            | j + 5, hj => simp at hj
          case c2 => intro u hu; simp at hu; rcases hu with rfl | rfl | rfl | rfl | rfl <;> rfl
          case c3 => unfold maxLen; omega
          case c4 => omega
          case c5 => have := HSA.out.size; simp at this ⊢; omega
          intro v' w4 hown4 hgrow4 _
          have HS4 := Lib.hid (HSA.out.append _ (tk, q) (by unfold tkCells; rw [← HY.out]; exact hown4) hgrow4)
          clear hown4 hgrow4 HSA
          clear t0 t1 t2 t3 t4 ft0 ft1 ft2 ft3 ft4
          go_wp2_with fail
          ((with_reducible refine (rskip_int s _ (i + n) (by omega) _ (by omega) (by omega)).mono ?_); rintro e wn ⟨rfl, rfl⟩)
          go_wp2_with fail
          go_roundg f
          case measure => omega
          case rel => exact ⟨i + n, out ++ [(tk, q)], by omega, by omega, by simp; omega, rfl, HE.out, HS4.out⟩
    · obtain rfl : i = s.size := by omega
      have HE := Lib.hid (show R = .ok (out ++ [(⟨5, [], 0⟩, q)]) by rw [← HRR.out, HE1.out (List.drop_eq_nil_of_le (by rw [len_byte]; exact Nat.le_refl _))])
      go_wp2_with fail
      ((with_reducible refine (HPl.out _).mono ?_); rintro e w3 ⟨rfl, hb3⟩)
      have HSA := Lib.hid (HS.out.below hb3)
      clear hb3 HS
      go_wp2_with (at_builtin; refine wpList_append_own _ rfl _ _ 23 rfl (w.heap.size + 1) 33 i0 (.agg #[.int .i64 0, .string ⟨#[]⟩, .int .i64 0, .int .i64 0, .int .i64 0]) 5 48 Tryd.underlying23 HI.out.1 HI.out.2.1 HI.out.2.2.1 HI.out.2.2.2 rfl (by decide) _ _ _ rfl (HSA.out.own.alloc _) ⟨w3.heap.size, 0, none⟩ 1 1 [.int .i64 5, .string ⟨#[]⟩, .int .i64 0, .int .i64 (q.1 : Int), .int .i64 (q.2 : Int)] rfl rfl ?c1 ?c2 ?c3 ?c4 ?c5 ?_)
      case c1 =>
        intro j u hj
        match j, hj with
        | 0, hj => simp at hj; subst hj; simp [Addr.add]
        | 1, hj => simp at hj; subst hj; simp [Addr.add]
        | 2, hj => simp at hj; subst hj; simp [Addr.add]
        | 3, hj => simp at hj; subst hj; simp [Addr.add]
        | 4, hj => simp at hj; subst hj; simp [Addr.add]
        | j + 5, hj => simp at hj
      case c2 => intro u hu; simp at hu; rcases hu with rfl | rfl | rfl | rfl | rfl <;> rfl
      case c3 => unfold maxLen; omega
      case c4 => omega
      case c5 => have := HSA.out.size; simp at this ⊢; omega
      intro v' w4 hown4 hgrow4 _
      have HS4 := Lib.hid (HSA.out.append _ (⟨5, [], 0⟩, q) hown4 hgrow4)
      clear hown4 hgrow4 HSA
      obtain ⟨z0, z1, y0, y1⟩ := HS4.out.pos
      go_wp2_with fail
      refine bodyPost_ret (v := .tuple #[v', .agg #[.int .i64 0, .int .i64 0], .int .i64 0]) (by simp [results, Tryd.results12, go_sem, z0, z1]) rfl ?_
      rw [HE.out]
      refine ⟨v', rfl, ?_, ?_⟩
      · exact own_base (ownsRow_setCell_below (ownsRow_setCell_below HS4.out.own (by simp) _) (by simp) _) (by omega)
      · exact bset0 (bset0 HS4.out.bel _ _) _ _

/-- the reference's Tokens at every text -/
theorem rtokens_any (s : ByteArray) (w : World) : Calls Tryd.prog 12 #[.string s] w (TokPost (tokens s.data.toList) w) := by
  by_cases h : 16384 < s.size
  · exact rtokens_long s w h
  · rw [tokens_short _ (by rw [len_byte]; omega)]
    exact rtokens_walk s w (by omega)
end Go.Proofs.YtlocbindafdmhaaDoor
