/- printable of package name; Unquote at a literal; the literal's facts in plain words. -/
import Derived.Test.YtbbdgncjpbfooaaGreatDoorKi
namespace Go.Proofs.YtbbdgncjpbfooaaGreatDoor
open Go.RowKit

/-- a literal that was read in full is a literal of exactly those bytes, all printable -/
theorem lit_facts (f : Nat) : ∀ (l : List UInt8), l.length ≤ f → ∀ t n, lit l = .ok (t, n) → 1 ≤ n ∧ n ≤ l.length ∧ t.length + 1 ≤ n ∧ litF (l.take n) = .ok (t, n) ∧ (∀ c ∈ l.take n, isPr c = true) := by
  induction f with
  | zero =>
    intro l hl t n h
    have : l = [] := List.eq_nil_of_length_eq_zero (by omega)
    subst this
    rw [lit.eq_def] at h; cases h
  | succ f ih =>
    intro l hl t n h
    cases l with
    | nil => rw [lit.eq_def] at h; cases h
    | cons c l =>
      rw [lit.eq_def] at h
      simp only at h
      by_cases h34 : c.toNat = 34
      · rw [if_pos h34] at h
        cases h
        refine ⟨by omega, by simp, by simp, ?_, ?_⟩
        · rw [List.take_succ_cons, List.take_zero, litF.eq_def]; simp only [if_pos h34]
        · intro x hx
          have : x = c := by simpa using hx
          subst this; unfold isPr; simp; omega
      · rw [if_neg h34] at h
        cases hp : isPr c with
        | false => rw [hp] at h; simp at h
        | true =>
          rw [hp] at h
          simp only [Bool.true_eq_false, if_false] at h
          by_cases h92 : c.toNat = 92
          · rw [if_pos h92] at h
            cases l with
            | nil => simp at h
            | cons d m =>
              simp only at h
              by_cases hd : d.toNat = 34 ∨ d.toNat = 92
              · rw [if_pos hd] at h
                cases hm : lit m with
                | error e => rw [hm] at h; simp at h
                | ok x =>
                  obtain ⟨t', n'⟩ := x
                  rw [hm] at h
                  simp only [Except.ok.injEq, Prod.mk.injEq] at h
                  obtain ⟨rfl, rfl⟩ := h
                  obtain ⟨g1, g2, g3, g4, g5⟩ := ih m (by simp at hl; omega) _ _ hm
                  refine ⟨by omega, by simp; omega, by simp; omega, ?_, ?_⟩
                  · rw [List.take_succ_cons, List.take_succ_cons, litF.eq_def]
                    simp only [if_neg h34, if_pos h92, if_pos hd, g4]
                  · intro x hx
                    rw [List.take_succ_cons, List.take_succ_cons] at hx
                    rcases List.mem_cons.1 hx with e | hx
                    · subst e; exact hp
                    · rcases List.mem_cons.1 hx with e | hx
                      · subst e; unfold isPr; simp; omega
                      · exact g5 x hx
              · rw [if_neg hd] at h; cases h
          · rw [if_neg h92] at h
            cases hm : lit l with
            | error e => rw [hm] at h; simp at h
            | ok x =>
              obtain ⟨t', n'⟩ := x
              rw [hm] at h
              simp only [Except.ok.injEq, Prod.mk.injEq] at h
              obtain ⟨rfl, rfl⟩ := h
              obtain ⟨g1, g2, g3, g4, g5⟩ := ih l (by simp at hl; omega) _ _ hm
              refine ⟨by omega, by simp; omega, by simp; omega, ?_, ?_⟩
              · rw [List.take_succ_cons, litF.eq_def]
                simp only [if_neg h34, if_neg h92, g4]
              · intro x hx
                rw [List.take_succ_cons] at hx
                rcases List.mem_cons.1 hx with e | hx
                · subst e; exact hp
                · exact g5 x hx

theorem all_stop (f : UInt8 → Bool) (s : ByteArray) (k : Nat) (hk : k < s.size) (hf : f s[k] = false) : s.data.toList.all f = false := by
  rw [List.all_eq_false]
  exact ⟨s[k], List.mem_of_getElem? (at_byte s k hk), by simp [hf]⟩
theorem all_done (f : UInt8 → Bool) (s : ByteArray) (k : Nat) (h : ∀ x ∈ s.data.toList.take k, f x = true) (hk : s.size ≤ k) : s.data.toList.all f = true := by
  rw [List.take_of_length_le (by rw [len_byte]; exact hk)] at h
  exact List.all_eq_true.2 h

set_option maxHeartbeats 800000 in
theorem nprintable_any (s : ByteArray) (w : World) (hs : s.size ≤ 9223372036854775000) :
    Calls Tryz.prog 64 #[.string s] w fun e w' => e = .returned (.bool (s.data.toList.all isPr)) ∧ w = w' := by
  go_enter Tryz.func64, Tryz.ntmps64
  go_wp2_with fail
  go_loopg [6] (s.size) (fun g i wr => ∃ k : Nat, k + g = s.size ∧ i = .int .i64 k ∧ (∀ x ∈ s.data.toList.take k, isPr x = true) ∧ w = wr)
  case atStart => exact ⟨0, by omega, rfl, by simp, rfl⟩
  case round =>
    obtain ⟨k, hk, rfl, hall, rfl⟩ := hrel
    have HA := Lib.hid hall
    have HK := Lib.hid hk
    have hle : k ≤ s.size := by omega
    clear hall hk
    by_cases hlt : k < s.size
    · rcases pr_parts s[k] with ⟨h, hv⟩ | ⟨⟨h, h'⟩, hv⟩ | ⟨h, hv⟩
      rotate_left
      · have HN := Lib.hid (take_all isPr s k HA.out hlt hv)
        clear hv
        go_wp2_with fail
        go_roundg (gk - 1)
        case measure => have := HK.out; omega
        case rel => exact ⟨k + 1, by have := HK.out; omega, by go_num, HN.out, rfl⟩
      all_goals
        have HV := Lib.hid (all_stop isPr s k hlt hv)
        clear hv
        go_wp2_with fail
        go_ret
        exact ⟨ret_bool HV.out.symm, rfl⟩
    · have HV := Lib.hid (all_done isPr s k HA.out (by omega))
      go_wp2_with fail
      go_ret
      exact ⟨ret_bool HV.out.symm, rfl⟩

set_option maxHeartbeats 800000 in
theorem sprintable_any (s : ByteArray) (w : World) (hs : s.size ≤ 9223372036854775000) :
    Calls Tryz.prog 69 #[.string s] w fun e w' => e = .returned (.bool (s.data.toList.all isPr)) ∧ w = w' := by
  go_enter Tryz.func69, Tryz.ntmps69
  go_wp2_with fail
  go_loopg [3] (s.size) (fun g i wr => ∃ k : Nat, k + g = s.size ∧ i = .int .i64 k ∧ (∀ x ∈ s.data.toList.take k, isPr x = true) ∧ w = wr)
  case atStart => exact ⟨0, by omega, rfl, by simp, rfl⟩
  case round =>
    obtain ⟨k, hk, rfl, hall, rfl⟩ := hrel
    have HA := Lib.hid hall
    have HK := Lib.hid hk
    have hle : k ≤ s.size := by omega
    clear hall hk
    by_cases hlt : k < s.size
    · rcases pr_parts s[k] with ⟨h, hv⟩ | ⟨⟨h, h'⟩, hv⟩ | ⟨h, hv⟩
      rotate_left
      · have HN := Lib.hid (take_all isPr s k HA.out hlt hv)
        clear hv
        go_wp2_with fail
        go_roundg (gk - 1)
        case measure => have := HK.out; omega
        case rel => exact ⟨k + 1, by have := HK.out; omega, by go_num, HN.out, rfl⟩
      all_goals
        have HV := Lib.hid (all_stop isPr s k hlt hv)
        clear hv
        go_wp2_with fail
        go_ret
        exact ⟨ret_bool HV.out.symm, rfl⟩
    · have HV := Lib.hid (all_done isPr s k HA.out (by omega))
      go_wp2_with fail
      go_ret
      exact ⟨ret_bool HV.out.symm, rfl⟩

theorem ret_si {a b : ByteArray} {k : Int} (h : a = b) : Ending.returned (.tuple #[.string a, .int .i64 k]) = .returned (.tuple #[.string b, .int .i64 k]) := by rw [h]
set_option maxHeartbeats 1600000 in
theorem unquote_ok (s : ByteArray) (m t : List UInt8) (w : World) (hs : s.size ≤ 16384) (hm : s.data.toList = 34 :: m) (hl : litF m = .ok (t, m.length)) (hp : ∀ c ∈ m, isPr c = true) (ht : t.length ≤ 16384) :
    Calls Tryz.prog 76 #[.string s] w fun e w' => e = .returned (.tuple #[.string ⟨t.toArray⟩, .int .i64 0]) ∧ Below w.heap.size w w' := by
  have HPre := Lib.hid (show Lib.hasPrefix s.data.toList (⟨#[34]⟩ : ByteArray).data.toList = true by rw [hm]; rfl)
  have HPr := Lib.hid (show s.data.toList.all isPr = true by
    rw [hm, List.all_cons, show isPr 34 = true by decide, Bool.true_and]; exact List.all_eq_true.2 hp)
  have HLit := Lib.hid (show litF (s.data.toList.drop 1) = .ok (t, m.length) by rw [hm]; exact hl)
  have HM := Lib.hid (show 1 + m.length = s.size by rw [← len_byte s, hm]; simp; omega)
  have hsz : (⟨t.toArray⟩ : ByteArray).size = t.length := by simp [ByteArray.size]
  have HB := Lib.hid (below_alloc w (.cells #[.string s, .int .i64 1] 100))
  have HN := Lib.hid (show NR (w.alloc (.cells #[.string s, .int .i64 1] 100)) w.heap.size s 1 by unfold NR; exact Array.getElem?_push_size ..)
  clear hm hl hp
  go_enter Tryz.func76, Tryz.ntmps76
  go_wp2_with fail
  ((with_reducible refine (Tryz.strings_HasPrefix s ⟨#[34]⟩ _).mono ?_); rintro e wn ⟨rfl, rfl⟩)
  rw [HPre.out]
  go_wp2_with fail
  ((with_reducible refine (nprintable_any s _ (by omega)).mono ?_); rintro e wn ⟨rfl, rfl⟩)
  rw [HPr.out]
  go_wp2_with fail
  ((with_reducible refine (nliteral_any _ s 1 _ HN.out (by have := HM.out; omega) (by omega)).mono ?_); rintro e wn hQ)
  rw [HLit.out] at hQ
  obtain ⟨⟨rfl, hN2⟩, hg2⟩ := hQ
  rw [HM.out] at hN2
  replace HB := Lib.hid (HB.out.grown hg2 (by simp) (fun k hk => by cases hk; exact Nat.le_refl _))
  clear hg2
  go_wp2_with fail
  ((with_reducible refine (more_no _ s s.size _ hN2 (Nat.le_refl _)).mono ?_); rintro e wm ⟨rfl, hN3, hg3⟩)
  replace HB := Lib.hid (HB.out.grown hg3 (Nat.le_of_lt hN2.lt) (fun k hk => by cases hk; exact Nat.le_refl _))
  go_wp2_with fail
  go_ret2
  exact ⟨rfl, HB.out⟩
end Go.Proofs.YtbbdgncjpbfooaaGreatDoor
