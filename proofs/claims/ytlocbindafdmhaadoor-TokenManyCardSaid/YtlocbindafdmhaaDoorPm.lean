/- A symbol that is repeated, line by line: its tokens, in plain words. -/
import Derived.Test.YtlocbindafdmhaaDoorLt
import Derived.Lib.Repeat
namespace Go.Proofs.YtlocbindafdmhaaDoor

/-- what stands before the tokens that are still to come: nothing, or the end of the line before -/
def pre (j : Nat) : List UInt8 := if j = 0 then [] else [10]
def pp (j : Nat) : Nat × Nat := if j = 0 then (1, 1) else (j, 2)
theorem pre_facts (j : Nat) (r : List UInt8) (hr : r = [] ∨ ∃ c t, r = c :: t ∧ isBl c = false ∧ c.toNat ≠ 35) :
    (pre j ++ r).drop (skipN (pre j ++ r) false) = r ∧ advs (pp j) ((pre j ++ r).take (skipN (pre j ++ r) false)) = (j + 1, 1) := by
  have h0 : skipN r false = 0 := by
    rcases hr with rfl | ⟨c, t, rfl, h1, h2⟩
    · rfl
    · exact skipN_stop c t h1 h2
  by_cases hj : j = 0
  · subst hj
    have e : pre 0 = [] := rfl
    rw [e, List.nil_append, h0]
    exact ⟨rfl, rfl⟩
  · have e : pre j = [10] := by unfold pre; rw [if_neg hj]
    have e2 : pp j = (j, 2) := by unfold pp; rw [if_neg hj]
    have e3 : skipN ([10] ++ r) false = 1 := by
      show skipN (10 :: r) false = 1
      rw [skipN_blank 10 r (by decide), h0]
    rw [e, e2, e3]
    exact ⟨rfl, rfl⟩
theorem sym_comma (t : List UInt8) : symOf (44 :: t) = some [44] := by
  unfold symOf syms
  simp [List.find?, List.isPrefixOf]
theorem read_comma (t : List UInt8) : readTok (44 :: t) = .ok (⟨4, [44], 0⟩, 1) := by
  rw [read_sym 44 t (by decide) (by decide) (by decide), sym_comma]; rfl
theorem sym_dollar : symOf [36] = none := by decide +kernel
theorem read_dollar : readTok [36] = .error 3 := by
  rw [read_sym 36 [] (by decide) (by decide) (by decide), sym_dollar]

/-- the tokens of the lines -/
def commas (j m : Nat) : List Tk := (List.range m).map fun i => ((⟨4, [44], 0⟩ : Tok), ((j + i + 1, 1) : Nat × Nat))
theorem commas_succ (j m : Nat) : commas j (m + 1) = (⟨4, [44], 0⟩, (j + 1, 1)) :: commas (j + 1) m := by
  unfold commas
  rw [List.range_succ_eq_map, List.map_cons, List.map_map]
  congr 1
  apply List.map_congr_left
  intro i _
  simp only [Function.comp_apply, Prod.mk.injEq]
  refine ⟨trivial, ?_, trivial⟩
  omega
theorem toks_many (tail : List UInt8) (ht : tail = [] ∨ tail = [36]) : ∀ (m f j : Nat) (out : List Tk), out.length = j → j ≤ 4000 → m < f →
    toks f (pre j ++ (Lib.repeatL [44, 10] m ++ tail)) (pp j) out = if 4000 < j + m then .error ((4001, 1), 5) else if tail = [] then .ok (out ++ commas j m ++ [(⟨5, [], 0⟩, (j + m + 1, 1))]) else .error ((j + m + 1, 1), 3) := by
  intro m
  induction m with
  | zero =>
    intro f j out hj h4 hf
    obtain ⟨f, rfl⟩ : ∃ g, f = g + 1 := ⟨f - 1, by omega⟩
    rw [if_neg (by omega)]
    have e : Lib.repeatL [44, 10] 0 ++ tail = tail := by simp [Lib.repeatL]
    rw [e]
    rcases ht with rfl | rfl
    · obtain ⟨h1, h2⟩ := pre_facts j [] (.inl rfl)
      rw [toks_end f _ _ _ h1, h2, if_pos rfl]; simp [commas]
    · obtain ⟨h1, h2⟩ := pre_facts j [36] (.inr ⟨36, [], rfl, by decide, by decide⟩)
      rw [toks_err f _ _ _ 3 (by rw [h1]; simp) (by rw [h1]; exact read_dollar), h2, if_neg (by simp)]
  | succ m ih =>
    intro f j out hj h4 hf
    obtain ⟨f, rfl⟩ : ∃ g, f = g + 1 := ⟨f - 1, by omega⟩
    have e : Lib.repeatL [44, 10] (m + 1) ++ tail = 44 :: 10 :: (Lib.repeatL [44, 10] m ++ tail) := by simp [Lib.repeatL]
    rw [e]
    obtain ⟨h1, h2⟩ := pre_facts j (44 :: 10 :: (Lib.repeatL [44, 10] m ++ tail)) (.inr ⟨44, _, rfl, by decide, by decide⟩)
    by_cases hj4 : j = 4000
    · rw [toks_full f _ _ _ ⟨4, [44], 0⟩ 1 (by rw [h1]; simp) (by rw [h1]; exact read_comma _) (by omega), h2, if_pos (by omega), hj4]
    · rw [toks_next f _ _ _ ⟨4, [44], 0⟩ 1 (by rw [h1]; simp) (by rw [h1]; exact read_comma _) (by omega), h1, h2]
      have h3 := ih f (j + 1) (out ++ [(⟨4, [44], 0⟩, (j + 1, 1))]) (by simp; omega) (by omega) (by omega)
      have e5 : pre (j + 1) = [10] := rfl
      have e6 : pp (j + 1) = (j + 1, 2) := rfl
      rw [e5, e6] at h3
      show toks f ([10] ++ (Lib.repeatL [44, 10] m ++ tail)) (j + 1, 2) (out ++ [(⟨4, [44], 0⟩, (j + 1, 1))]) = _
      rw [h3, show j + 1 + m = j + (m + 1) by omega]
      by_cases h6 : 4000 < j + (m + 1)
      · rw [if_pos h6, if_pos h6]
      · rw [if_neg h6, if_neg h6]
        by_cases h7 : tail = []
        · rw [if_pos h7, if_pos h7, commas_succ]; simp
        · rw [if_neg h7, if_neg h7]
theorem rep_len (m : Nat) : (Lib.repeatL [44, 10] m).length = 2 * m := by
  induction m with
  | zero => rfl
  | succ m ih => simp [Lib.repeatL, ih]; omega
theorem many_tokens (tail : List UInt8) (ht : tail = [] ∨ tail = [36]) (k : Nat) (hk : k ≤ 6000) :
    tokens (Lib.repeatL [44, 10] k ++ tail) = if 4000 < k then ([], (4001, 1), 5) else if tail = [] then (commas 0 k ++ [(⟨5, [], 0⟩, (k + 1, 1))], (0, 0), 0) else ([], (k + 1, 1), 3) := by
  have hl : (Lib.repeatL [44, 10] k ++ tail).length ≤ 12001 := by
    rw [List.length_append, rep_len]
    rcases ht with rfl | rfl <;> simp <;> omega
  have hl2 : k < (Lib.repeatL [44, 10] k ++ tail).length + 1 := by rw [List.length_append, rep_len]; omega
  rw [tokens_short _ (by omega)]
  have h := toks_many tail ht k ((Lib.repeatL [44, 10] k ++ tail).length + 1) 0 [] rfl (by omega) hl2
  have e5 : pre 0 = [] := rfl
  have e6 : pp 0 = (1, 1) := rfl
  rw [e5, e6, List.nil_append, Nat.zero_add] at h
  rw [h]
  by_cases h6 : 4000 < k
  · rw [if_pos h6, if_pos h6]; rfl
  · rw [if_neg h6, if_neg h6]
    by_cases h7 : tail = []
    · rw [if_pos h7, if_pos h7]; rfl
    · rw [if_neg h7, if_neg h7]; rfl
theorem commas_len (k : Nat) : (commas 0 k ++ [((⟨5, [], 0⟩ : Tok), ((k + 1, 1) : Nat × Nat))]).length = k + 1 := by simp [commas]
theorem commas_last (k : Nat) : (commas 0 k ++ [((⟨5, [], 0⟩ : Tok), ((k + 1, 1) : Nat × Nat))])[k]? = some (⟨5, [], 0⟩, (k + 1, 1)) := by
  rw [List.getElem?_append_right (by simp [commas])]; simp [commas]
end Go.Proofs.YtlocbindafdmhaaDoor
