/- Texts of tokens with blanks between them are read as those tokens: plain Lean, no program in sight. -/
import Derived.Test.YtlocbindafdmhaaDoorNf
import Derived.Test.YtlocbindafdmhaaDoorKr
import Derived.Lib.ItoaNum
namespace Go.Proofs.YtlocbindafdmhaaDoor

/-- a byte ends a token: a blank, or a comment's first -/
def isSt (c : UInt8) : Bool := isBl c || decide (c.toNat = 35)
theorem isSt_cases (c : UInt8) (h : isSt c = true) : c = 32 ∨ c = 9 ∨ c = 10 ∨ c = 13 ∨ c = 35 := by
  unfold isSt isBl at h
  simp at h
  have key : ∀ d : UInt8, c.toNat = d.toNat → c = d := fun d h => UInt8.toNat_inj.1 h
  rcases h with (h | h | h | h) | h
  · exact .inl (key _ h)
  · exact .inr (.inl (key _ h))
  · exact .inr (.inr (.inl (key _ h)))
  · exact .inr (.inr (.inr (.inl (key _ h))))
  · exact .inr (.inr (.inr (.inr (key _ h))))
/-- a text ends, or goes on with a byte that ends a token -/
def Stop (r : List UInt8) : Prop := r = [] ∨ ∃ c r', r = c :: r' ∧ isSt c = true
theorem st_nm (c : UInt8) (h : isSt c = true) : isNm c = false ∧ isDig c = false ∧ isLet c = false ∧ c.toNat ≠ 95 := by
  rcases isSt_cases c h with rfl | rfl | rfl | rfl | rfl <;> decide
theorem takeWhile_stop (p : UInt8 → Bool) (hp : ∀ c, isSt c = true → p c = false) (t r : List UInt8) (ht : t.all p = true) (hr : Stop r) : (t ++ r).takeWhile p = t := by
  induction t with
  | nil =>
    rcases hr with rfl | ⟨c, r', rfl, hc⟩
    · rfl
    · simp [hp c hc]
  | cons a t ih =>
    simp only [List.all_cons, Bool.and_eq_true] at ht
    rw [List.cons_append, List.takeWhile_cons, if_pos ht.1, ih ht.2]
theorem dval_dec (u : Nat) : dval (Lib.decDigits u) = u ∧ (Lib.decDigits u).all isDig = true ∧ Lib.decDigits u ≠ [] := by
  induction u using Nat.strongRecOn with
  | _ u ih =>
    have hd : ∀ m, m < 10 → (UInt8.ofNat (48 + m)).toNat = 48 + m := fun m hm => by
      rw [UInt8.toNat_ofNat']; omega
    by_cases h : u < 10
    · rw [Lib.decDigits_one h]
      refine ⟨?_, ?_, by simp⟩
      · simp [dval]; omega
      · simp [isDig]; omega
    · rw [Lib.decDigits, dif_neg h]
      obtain ⟨h1, h2, h3⟩ := ih (u / 10) (by omega)
      have hm := hd (u % 10) (by omega)
      refine ⟨?_, ?_, by simp⟩
      · rw [dval_snoc, h1, hm]; omega
      · rw [List.all_append, h2]; simp [isDig]; omega
theorem lit_esc (u r : List UInt8) (h : u.all isPr = true) : lit (escL u ++ 34 :: r) = .ok (u, (escL u).length + 1) := by
  induction u with
  | nil => show lit (34 :: r) = .ok ([], 1); rw [lit.eq_def]; rfl
  | cons c u ih =>
    simp only [List.all_cons, Bool.and_eq_true] at h
    have e : escL (c :: u) = escB c ++ escL u := rfl
    rw [e]
    have ih' := ih h.2
    unfold escB
    split
    · rename_i hc
      show lit (92 :: c :: (escL u ++ 34 :: r)) = _
      rw [lit]
      rw [if_neg (by decide), if_neg (by decide), if_pos (by decide)]
      rw [if_pos hc, ih']
      simp
    · rename_i hc
      show lit (c :: (escL u ++ 34 :: r)) = _
      have h1 : c.toNat ≠ 34 := fun h => hc (.inl h)
      have h2 : c.toNat ≠ 92 := fun h => hc (.inr h)
      rw [lit.eq_def]
      simp only
      rw [if_neg h1, if_neg (by rw [h.1]; simp), if_neg h2, ih']
      simp
theorem syms_stop (r : List UInt8) : ∀ x ∈ syms, ∀ c ∈ ([32, 9, 10, 13, 35] : List UInt8), symOf (x ++ c :: r) = some x := by
  simp only [syms, List.forall_mem_cons]
  refine ⟨?_, ?_, ?_, ?_, ?_, ?_, ?_, ?_, ?_, ?_, ?_, ?_, ?_, ?_, ?_, ?_, ?_, ?_, ?_, ?_, ?_, ?_, ?_, ?_, ?_, ?_, ?_, ?_, ?_, ?_, ?_, ?_, ?_, by simp⟩ <;> exact ⟨rfl, rfl, rfl, rfl, rfl, by simp⟩
theorem syms_head : ∀ x ∈ syms, ∃ c r, x = c :: r ∧ isLet c = false ∧ isDig c = false ∧ c.toNat ≠ 34 ∧ isSt c = false := by
  simp only [syms, List.forall_mem_cons]
  refine ⟨?_, ?_, ?_, ?_, ?_, ?_, ?_, ?_, ?_, ?_, ?_, ?_, ?_, ?_, ?_, ?_, ?_, ?_, ?_, ?_, ?_, ?_, ?_, ?_, ?_, ?_, ?_, ?_, ?_, ?_, ?_, ?_, ?_, by simp⟩ <;> exact ⟨_, _, rfl, by decide, by decide, by decide, by decide⟩
theorem sym_mem {t : List UInt8} (h : symOf t = some t) : t ∈ syms := List.mem_of_find?_eq_some h
theorem sym_read {t r : List UInt8} (h : symOf t = some t) (hr : Stop r) : symOf (t ++ r) = some t := by
  rcases hr with rfl | ⟨c, r', rfl, hc⟩
  · rw [List.append_nil]; exact h
  · exact syms_stop r' t (sym_mem h) c (by rcases isSt_cases c hc with rfl | rfl | rfl | rfl | rfl <;> simp)
/-- a token without its place -/
def Td.tok (x : Td) : Tok := ⟨x.k.toNat, x.u.data.toList, x.n.toNat⟩
/-- a valid token's text, behind which a token ends, is read as it; its first byte -/
theorem read_back (x : Td) (h : x.ok = true) (h5 : x.k ≠ 5) (r : List UInt8) (hr : Stop r) :
    readTok (x.tx ++ r) = .ok (x.tok, x.tx.length) ∧ ∃ c t, x.tx = c :: t ∧ isSt c = false := by
  unfold Td.ok validB at h
  unfold Td.tx textK Td.tok
  generalize x.u.data.toList = u at *
  have hlet : ∀ c, isLet c = true → isSt c = false := fun c hc => by
    cases hs : isSt c with
    | false => rfl
    | true => rw [(st_nm c hs).2.2.1] at hc; cases hc
  have hdig : ∀ c, isDig c = true → isSt c = false := fun c hc => by
    cases hs : isSt c with
    | false => rfl
    | true => rw [(st_nm c hs).2.1] at hc; cases hc
  by_cases h2 : x.k = 2
  · rw [if_pos h2] at h ⊢
    simp at h
    obtain ⟨rfl, hn0, hn1⟩ := h
    obtain ⟨m, hm⟩ := Int.eq_ofNat_of_zero_le hn0
    rw [hm, Lib.itoa_nonneg, h2]
    obtain ⟨d1, d2, d3⟩ := dval_dec m
    generalize Lib.decDigits m = ds at *
    match ds, d3 with
    | c :: t, _ =>
      have hc : isDig c = true := by simp only [List.all_cons, Bool.and_eq_true] at d2; exact d2.1
      have hnl : isLet c = false := by
        cases hl : isLet c with
        | false => rfl
        | true => unfold isDig at hc; unfold isLet at hl; simp at hc hl; omega
      have htw := takeWhile_stop isDig (fun c h => (st_nm c h).2.1) (c :: t) r d2 hr
      refine ⟨?_, c, t, rfl, hdig c hc⟩
      rw [List.cons_append] at htw ⊢
      rw [readTok, hnl, hc]
      simp only [Bool.false_eq_true, if_false, if_true]
      rw [htw]
      have e1 : (c :: (t ++ r)).drop (c :: t).length = r := by rw [← List.cons_append]; exact List.drop_left
      have e2 : (c :: (t ++ r)).take (c :: t).length = c :: t := by rw [← List.cons_append]; exact List.take_left
      rw [e1, e2, d1]
      rw [if_neg (by
        rcases hr with rfl | ⟨d, r', rfl, hd⟩
        · simp
        · simp [(st_nm d hd).2.2.1, (st_nm d hd).2.2.2]), if_neg (by omega)]
      rfl
  · rw [if_neg h2] at h ⊢
    by_cases hn : x.n = 0
    · rw [if_neg (by simp [hn])] at h
      by_cases h1 : x.k = 1
      · rw [if_pos h1] at h
        rw [if_neg (by omega), h1, hn]
        match u, h with
        | [], h => simp [isNameB] at h
        | c :: t, h =>
          simp only [isNameB, Bool.and_eq_true, decide_eq_true_eq] at h
          obtain ⟨⟨g1, g2⟩, g3⟩ := h
          refine ⟨?_, c, t, rfl, hlet c g2⟩
          have htw := takeWhile_stop isNm (fun c h => (st_nm c h).1) (c :: t) r g3 hr
          rw [List.cons_append] at htw ⊢
          rw [readTok, g2]
          simp only [if_true]
          rw [htw, if_neg (by omega)]
          have e2 : (c :: (t ++ r)).take (c :: t).length = c :: t := by rw [← List.cons_append]; exact List.take_left
          rw [e2]
          rfl
      · rw [if_neg h1] at h
        by_cases h3 : x.k = 3
        · rw [if_pos h3] at h
          rw [if_pos h3, h3, hn]
          simp only [Bool.and_eq_true] at h
          refine ⟨?_, 34, escL u ++ [34], rfl, by decide⟩
          have e : quoteL u ++ r = 34 :: (escL u ++ 34 :: r) := by simp [quoteL]
          rw [e, readTok]
          rw [if_neg (by decide), if_neg (by decide), if_pos (by decide), lit_esc u r h.2]
          simp [quoteL]
        · rw [if_neg h3] at h
          rw [if_neg h3]
          by_cases h4 : x.k = 4
          · rw [if_pos h4] at h
            simp only [decide_eq_true_eq] at h
            rw [h4, hn]
            have hs := sym_read h hr
            obtain ⟨c, t, rfl, k1, k2, k3, k4⟩ := syms_head u (sym_mem h)
            refine ⟨?_, c, t, rfl, k4⟩
            rw [List.cons_append] at hs ⊢
            rw [readTok, k1, k2]
            simp only [Bool.false_eq_true, if_false]
            rw [if_neg k3, hs]
            rfl
          · rw [if_neg h4] at h
            simp at h
            exact absurd h.1 h5
    · rw [if_pos hn] at h; cases h

/-- texts of tokens, what stands behind each -/
def segT (s : List (Td × List UInt8)) : List UInt8 := s.flatMap fun x => x.1.tx ++ x.2
/-- blanks and comments that are whole -/
def Gap (g : List UInt8) : Prop := ∀ r, skipN (g ++ r) false = g.length + skipN r false
theorem gap_nil : Gap [] := fun r => by simp
theorem gap_blank (c : UInt8) (g : List UInt8) (hc : isBl c = true) (h : Gap g) : Gap (c :: g) := fun r => by
  rw [List.cons_append, skipN_blank _ _ hc, h r, List.length_cons]; omega
/-- each token may stand there, and ends where its text ends -/
def SegOk : List (Td × List UInt8) → Prop
  | [] => True
  | x :: s => x.1.ok = true ∧ x.1.k ≠ 5 ∧ Gap x.2 ∧ Stop (x.2 ++ segT s) ∧ SegOk s
theorem segT_cons (x : Td × List UInt8) (s : List (Td × List UInt8)) : segT (x :: s) = x.1.tx ++ (x.2 ++ segT s) := by unfold segT; simp
theorem seg_len (s : List (Td × List UInt8)) (h : SegOk s) : s.length ≤ (segT s).length := by
  induction s with
  | nil => simp
  | cons x s ih =>
    obtain ⟨h1, h2, _, h4, h5⟩ := h
    obtain ⟨c, t, e, _⟩ := (read_back x.1 h1 h2 _ h4).2
    have := ih h5
    rw [segT_cons, e]; simp; omega
theorem skip_seg (s : List (Td × List UInt8)) (h : SegOk s) : skipN (segT s) false = 0 := by
  cases s with
  | nil => rfl
  | cons x s =>
    obtain ⟨h1, h2, _, h4, h5⟩ := h
    obtain ⟨c, t, e, hc⟩ := (read_back x.1 h1 h2 _ h4).2
    unfold isSt at hc
    simp only [Bool.or_eq_false_iff, decide_eq_false_iff_not] at hc
    rw [segT_cons, e, List.cons_append, skipN_stop _ _ hc.1 hc.2]
theorem toks_segs (s : List (Td × List UInt8)) : ∀ (g : List UInt8) (f : Nat) (p : Nat × Nat) (out : List Tk), Gap g → SegOk s → s.length < f → out.length + s.length ≤ 4000 →
    ∃ M, toks f (g ++ segT s) p out = .ok (out ++ M) ∧ M.map (·.1) = s.map (·.1.tok) ++ [⟨5, [], 0⟩] := by
  induction s with
  | nil =>
    intro g f p out hg _ hf _
    obtain ⟨f, rfl⟩ : ∃ m, f = m + 1 := ⟨f - 1, by simp at hf; omega⟩
    refine ⟨_, toks_end f _ p out ?_, rfl⟩
    rw [hg, skip_seg [] trivial]
    simp [segT]
  | cons x s ih =>
    intro g f p out hg hs hf ho
    obtain ⟨f, rfl⟩ : ∃ m, f = m + 1 := ⟨f - 1, by simp at hf; omega⟩
    have hk : skipN (g ++ segT (x :: s)) false = g.length := by rw [hg, skip_seg _ hs]; rfl
    obtain ⟨h1, h2, h3, h4, h5⟩ := hs
    obtain ⟨hr, c, t, e, _⟩ := read_back x.1 h1 h2 _ h4
    have hd : (g ++ segT (x :: s)).drop (skipN (g ++ segT (x :: s)) false) = x.1.tx ++ (x.2 ++ segT s) := by
      rw [hk, List.drop_left, segT_cons]
    have hn := toks_next f (g ++ segT (x :: s)) p out x.1.tok x.1.tx.length (by rw [hd, e]; simp) (by rw [hd]; exact hr) (by simp at ho; omega)
    rw [hd, List.drop_left] at hn
    rw [hn]
    generalize (advs p (List.take (skipN (g ++ segT (x :: s)) false) (g ++ segT (x :: s)))) = q
    obtain ⟨M, hM, hM2⟩ := ih x.2 f (advs q (List.take x.1.tx.length (x.1.tx ++ (x.2 ++ segT s)))) (out ++ [(x.1.tok, q)]) h3 h5 (by simp at hf; omega) (by simp at ho ⊢; omega)
    rw [hM]
    exact ⟨(x.1.tok, q) :: M, by simp, by simp [hM2]⟩
/-- such a text is read as its tokens and an end -/
theorem tokens_segs (s : List (Td × List UInt8)) (hs : SegOk s) (h : (segT s).length ≤ 16384) (h4 : s.length ≤ 4000) :
    ∃ M, tokens (segT s) = (M, (0, 0), 0) ∧ M.map (·.1) = s.map (·.1.tok) ++ [⟨5, [], 0⟩] := by
  obtain ⟨M, h1, h2⟩ := toks_segs s [] ((segT s).length + 1) (1, 1) [] gap_nil hs (by have := seg_len s hs; omega) (by simpa using h4)
  refine ⟨M, ?_, h2⟩
  rw [tokens_short _ h]
  rw [List.nil_append, List.nil_append] at h1
  rw [h1]; rfl
/-- joined tokens as such a text -/
def joinS : List Td → List (Td × List UInt8)
  | [] => []
  | x :: L => match L with | [] => [(x, [])] | _ => (x, [32]) :: joinS L
theorem joinS_map (L : List Td) : (joinS L).map (·.1) = L := by
  induction L with
  | nil => rfl
  | cons x L ih =>
    cases L with
    | nil => rfl
    | cons y L => show x :: (joinS (y :: L)).map (·.1) = _; rw [ih]
theorem joinS_text (L : List Td) : segT (joinS L) = jn L := by
  induction L with
  | nil => rfl
  | cons x L ih =>
    cases L with
    | nil => show segT [(x, [])] = _; simp [segT, jn]
    | cons y L =>
      show segT ((x, [32]) :: joinS (y :: L)) = _
      rw [segT_cons, ih]
      simp [jn]
theorem joinS_ok (L : List Td) (h : ∀ t ∈ L, t.ok = true ∧ t.k ≠ 5) : SegOk (joinS L) := by
  induction L with
  | nil => trivial
  | cons x L ih =>
    have hx := h x (by simp)
    have hL := ih (fun t ht => h t (by simp [ht]))
    cases L with
    | nil => exact ⟨hx.1, hx.2, gap_nil, .inl rfl, trivial⟩
    | cons y L => exact ⟨hx.1, hx.2, gap_blank 32 [] (by decide) gap_nil, .inr ⟨32, _, rfl, by decide⟩, hL⟩
theorem body_ok (L : List Td) (h : joinB L = true) : ∀ t ∈ L.take (bodyN L), t.ok = true ∧ t.k ≠ 5 := by
  intro t ht
  obtain ⟨i, hi, rfl⟩ := List.getElem_of_mem ht
  rw [List.length_take] at hi
  have hb := bodyN_le L
  have hi' : i < L.length := by omega
  rw [List.getElem_take]
  refine ⟨joinB_ok L i hi' h, fun h5 => ?_⟩
  have h6 := okTo_le L (i + 1) L.length (by omega) h
  rw [okTo_succ, okAt_at L i hi'] at h6
  simp [h5] at h6
  have h7 := bodyN_end L i (by omega) h5
  omega
/-- the tokens that are read again: those that were joined, and an end -/
def backL (L : List Td) : List Td := L.take (bodyN L) ++ [⟨5, ⟨#[]⟩, 0, 0, 0⟩]
theorem tokens_join (L : List Td) (h : joinB L = true) (hl : (joinL L).length ≤ 16384) (h4 : L.length ≤ 4000) :
    ∃ M, tokens (joinL L) = (M, (0, 0), 0) ∧ M.map (·.1) = (backL L).map Td.tok := by
  have hm := joinS_map (L.take (bodyN L))
  have hlen := congrArg List.length hm
  rw [List.length_map, List.length_take] at hlen
  obtain ⟨M, h1, h2⟩ := tokens_segs (joinS (L.take (bodyN L))) (joinS_ok _ (body_ok L h)) (by rw [joinS_text]; exact hl) (by have := bodyN_le L; omega)
  rw [joinS_text] at h1
  refine ⟨M, h1, ?_⟩
  rw [h2]
  unfold backL
  rw [List.map_append, ← hm, List.map_map, joinS_map]
  rfl
end Go.Proofs.YtlocbindafdmhaaDoor
