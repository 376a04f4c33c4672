/- A text is read again: the guess of the reference on the text of a fraction is that fraction. -/
import Derived.Test.YtbdihcpehadbjaaDoorTe
namespace Go.Proofs.YtbdihcpehadbjaaDoor
open Go.RowKit

theorem dg_len {l pre ds rest : List UInt8} {i j : Nat} (hl : l = pre ++ (ds ++ rest)) (hi : i = pre.length) (hd : ∀ c ∈ ds, isDig c = true) (hlen : ds.length ≤ 10)
    (hr : rest = [] ∨ ∃ c t, rest = c :: t ∧ isDig c = false) (h : Dg l i j) : j = ds.length ∧ (l.drop i).take j = ds := by
  obtain ⟨h1, h2, h3, h4⟩ := h
  subst hi hl
  have hdrop : (pre ++ (ds ++ rest)).drop pre.length = ds ++ rest := by simp
  rw [hdrop] at h3 ⊢
  have hj : j = ds.length := by
    rcases Nat.lt_trichotomy j ds.length with hlt | he | hgt
    · exfalso
      rcases h4 with h | h | ⟨c, hc, hcd⟩
      · simp at h; omega
      · omega
      · rw [List.getElem?_append_right (by omega)] at hc
        have e : pre.length + j - pre.length = j := by omega
        rw [e, List.getElem?_append_left hlt] at hc
        have := hd c (List.mem_of_getElem? hc)
        rw [this] at hcd; cases hcd
    · exact he
    · exfalso
      rcases hr with hr | ⟨c, t, hr, hc⟩
      · subst hr; simp at h2; omega
      · subst hr
        have hm : c ∈ (ds ++ c :: t).take j := by
          rw [List.take_append]
          apply List.mem_append_right
          have : ∃ k, j - ds.length = k + 1 := ⟨j - ds.length - 1, by omega⟩
          obtain ⟨k, hk⟩ := this
          rw [hk]; simp
        have := h3 c hm
        rw [this] at hc; cases hc
  subst hj
  exact ⟨rfl, by simp⟩

/-- the text of a fraction, cut into sign, digits and the rest -/
theorem text_parts (n d : Int) (hv : vldB n d = true) : ∃ pre rest : List UInt8, textv n d = pre ++ (Lib.decDigits n.natAbs ++ rest) ∧
    ((n < 0 ∧ pre = [45]) ∨ (0 ≤ n ∧ pre = [])) ∧ ((d = 1 ∧ rest = []) ∨ (d ≠ 1 ∧ rest = 47 :: Lib.decDigits d.natAbs)) := by
  obtain ⟨p1, p2, p3, p4, _⟩ := vldB_parts hv
  have hd : Lib.itoa d = Lib.decDigits d.natAbs := by
    unfold Lib.itoa; rw [if_neg (by omega)]; congr 1; omega
  have hn : Lib.itoa n = (if n < 0 then [45] else []) ++ Lib.decDigits n.natAbs := by
    unfold Lib.itoa
    split
    · rfl
    · simp; congr 1; omega
  by_cases h1 : d = 1
  · by_cases h2 : n < 0
    · exact ⟨[45], [], by unfold textv; rw [if_pos h1, hn, if_pos h2]; simp, .inl ⟨h2, rfl⟩, .inl ⟨h1, rfl⟩⟩
    · exact ⟨[], [], by unfold textv; rw [if_pos h1, hn, if_neg h2]; simp, .inr ⟨by omega, rfl⟩, .inl ⟨h1, rfl⟩⟩
  · by_cases h2 : n < 0
    · exact ⟨[45], 47 :: Lib.decDigits d.natAbs, by unfold textv; rw [if_neg h1, hn, if_pos h2, hd]; simp, .inl ⟨h2, rfl⟩, .inr ⟨h1, rfl⟩⟩
    · exact ⟨[], 47 :: Lib.decDigits d.natAbs, by unfold textv; rw [if_neg h1, hn, if_neg h2, hd]; simp, .inr ⟨by omega, rfl⟩, .inr ⟨h1, rfl⟩⟩

theorem guess_text (n d N D : Int) (K : Nat) (hv : vldB n d = true) (h : Guess (textv n d) N D K) : N = n ∧ D = d ∧ K = (textv n d).length := by
  obtain ⟨p1, p2, p3, p4, _⟩ := vldB_parts hv
  obtain ⟨pre, rest, ht, hpre, hrest⟩ := text_parts n d hv
  have hdd := dec_dig n.natAbs
  have hdl := dec_len 9 n.natAbs (by omega)
  have hdv := dec_val n.natAbs
  have hdn := dec_ne n.natAbs
  rw [ht] at h ⊢
  obtain ⟨i, j, hi, hj, hN, hrest2⟩ := h
  have hr' : rest = [] ∨ ∃ c t, rest = c :: t ∧ isDig c = false := by
    rcases hrest with ⟨_, h⟩ | ⟨_, h⟩
    · exact .inl h
    · exact .inr ⟨47, _, h, by decide⟩
  have hil : i = pre.length := by
    rcases hpre with ⟨_, rfl⟩ | ⟨_, rfl⟩
    · rcases hi with ⟨h, _⟩ | ⟨h, h2⟩
      · simp [h]
      · exact absurd (by simp) h2
    · rcases hi with ⟨h, h2⟩ | ⟨h, _⟩
      · exfalso
        cases hl : Lib.decDigits n.natAbs with
        | nil => exact hdn hl
        | cons c r =>
          rw [hl] at h2 hdd
          simp at h2
          have := hdd c (List.mem_cons_self ..)
          subst h2; revert this; decide
      · simp [h]
  obtain ⟨hjl, hjt⟩ := dg_len rfl hil hdd (by omega) hr' hj
  rw [hjt, hdv] at hN
  have hNn : N = n := by
    clear hrest2 hrest
    rw [hN]
    rcases hpre with ⟨h, rfl⟩ | ⟨h, rfl⟩
    · have : i = 1 := by simpa using hil
      rw [if_pos this]; omega
    · have : ¬ i = 1 := by rw [hil]; simp
      rw [if_neg this]; omega
  have hat : (pre ++ (Lib.decDigits n.natAbs ++ rest))[i + j]? = rest[0]? := by
    rw [hil, hjl, List.getElem?_append_right (by omega)]
    have e : pre.length + (Lib.decDigits n.natAbs).length - pre.length = (Lib.decDigits n.natAbs).length := by omega
    rw [e, List.getElem?_append_right (Nat.le_refl _)]; simp
  rw [hat] at hrest2
  refine ⟨hNn, ?_⟩
  rcases hrest with ⟨h1, h2⟩ | ⟨h1, h2⟩
  · subst h2
    rcases hrest2 with ⟨h, _⟩ | ⟨_, h3, h4⟩
    · simp at h
    · refine ⟨by omega, ?_⟩
      rw [h4, hil, hjl]; simp
  · subst h2
    rcases hrest2 with ⟨_, j2, hj2, hD, hK⟩ | ⟨h, _⟩
    · have hdd2 := dec_dig d.natAbs
      have hdl2 := dec_len 9 d.natAbs (by omega)
      have hdv2 := dec_val d.natAbs
      have hpp : pre ++ (Lib.decDigits n.natAbs ++ 47 :: Lib.decDigits d.natAbs) = (pre ++ (Lib.decDigits n.natAbs ++ [47])) ++ (Lib.decDigits d.natAbs ++ []) := by simp
      obtain ⟨hj2l, hj2t⟩ := dg_len hpp (by rw [hil, hjl]; simp; omega) hdd2 (by omega) (.inl rfl) hj2
      rw [hj2t, hdv2] at hD
      refine ⟨by omega, ?_⟩
      rw [hK, hil, hjl, hj2l]; simp; omega
    · exact absurd (by simp) h
end Go.Proofs.YtbdihcpehadbjaaDoor
