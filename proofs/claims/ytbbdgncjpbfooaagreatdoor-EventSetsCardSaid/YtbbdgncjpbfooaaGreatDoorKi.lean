/- The rest of a literal as package name reads it; Unquote at a literal. -/
import Derived.Test.YtbbdgncjpbfooaaGreatDoorKh
namespace Go.Proofs.YtbbdgncjpbfooaaGreatDoor
open Go.RowKit

/-- a literal behind its first double quote, whatever its bytes are -/
def litF : List UInt8 → Except Nat (List UInt8 × Nat)
  | [] => .error 4
  | c :: l =>
    if c.toNat = 34 then .ok ([], 1)
    else if c.toNat = 92 then
      match l with
      | [] => .error 4
      | d :: m => if d.toNat = 34 ∨ d.toNat = 92 then (match litF m with | .ok (t, n) => .ok (d :: t, n + 2) | .error e => .error e) else .error 3
    else match litF l with | .ok (t, n) => .ok (c :: t, n + 1) | .error e => .error e
/-- the same behind what was read -/
def litA (acc : List UInt8) (k : Nat) (l : List UInt8) : Except Nat (List UInt8 × Nat) := match litF l with | .ok (t, n) => .ok (acc ++ t, k + n) | .error e => .error e
theorem litA_start (l : List UInt8) : litA [] 0 l = litF l := by
  unfold litA; cases litF l with
  | error e => rfl
  | ok x => simp
theorem litA_end (acc : List UInt8) (k : Nat) (c : UInt8) (l : List UInt8) (h : (c.toNat : Int) = 34) : litA acc k (c :: l) = .ok (acc, k + 1) := by
  unfold litA; rw [litF.eq_def]; simp only [if_pos (show c.toNat = 34 by omega), List.append_nil]
theorem litA_next (acc : List UInt8) (k : Nat) (c : UInt8) (l : List UInt8) (h : (c.toNat : Int) ≠ 34) (h3 : (c.toNat : Int) ≠ 92) : litA acc k (c :: l) = litA (acc ++ [c]) (k + 1) l := by
  unfold litA; rw [litF.eq_def]; simp only [if_neg (show ¬ c.toNat = 34 by omega), if_neg (show ¬ c.toNat = 92 by omega)]
  cases litF l <;> simp; omega
theorem litA_bs (acc : List UInt8) (k : Nat) (c : UInt8) (h : (c.toNat : Int) = 92) : litA acc k [c] = .error 4 := by
  unfold litA; rw [litF.eq_def]; simp only [if_neg (show ¬ c.toNat = 34 by omega), if_pos (show c.toNat = 92 by omega)]
theorem litA_esc (acc : List UInt8) (k : Nat) (c d : UInt8) (l : List UInt8) (h : (c.toNat : Int) = 92) (hd : (d.toNat : Int) = 34 ∨ (d.toNat : Int) = 92) : litA acc k (c :: d :: l) = litA (acc ++ [d]) (k + 2) l := by
  unfold litA; rw [litF.eq_def]; simp only [if_neg (show ¬ c.toNat = 34 by omega), if_pos (show c.toNat = 92 by omega), if_pos (show d.toNat = 34 ∨ d.toNat = 92 by omega)]
  cases litF l <;> simp; omega
theorem litA_esb (acc : List UInt8) (k : Nat) (c d : UInt8) (l : List UInt8) (h : (c.toNat : Int) = 92) (hd : (d.toNat : Int) ≠ 34 ∧ (d.toNat : Int) ≠ 92) : litA acc k (c :: d :: l) = .error 3 := by
  unfold litA; rw [litF.eq_def]; simp only [if_neg (show ¬ c.toNat = 34 by omega), if_pos (show c.toNat = 92 by omega), if_neg (show ¬ (d.toNat = 34 ∨ d.toNat = 92) by omega)]

theorem bString_any (B b : Nat) (l : List UInt8) (w : World) (h : Bld B b l w) (hBw : B ≤ w.heap.size) :
    Calls Tryz.prog 94 #[.pointer (some ⟨b, 0, none⟩)] w fun e w' => e = .returned (.string ⟨l.toArray⟩) ∧ (Bld B b l w' ∧ Below B w w' ∧ Lib.OthersKept 5 (some b) w w') :=
  Tryz.Builder_String_any_k B b l w h hBw
/-- inside the loop: the reader, the builder, and what else stands -/
def LS (w wr : World) (b : Nat) (s : ByteArray) (j : Nat) (acc : List UInt8) : Prop := NR wr b s j ∧ Bld w.heap.size w.heap.size acc wr ∧ w.grownBy wr (some b)
theorem LS.step {w wr w' : World} {b : Nat} {s : ByteArray} {j j' : Nat} {acc : List UInt8} (h : LS w wr b s j acc) (hb : b < w.heap.size) (hN : NR w' b s j') (hg : wr.grownBy w' (some b)) : LS w w' b s j' acc :=
  ⟨hN, h.2.1.grown hg hb, Lib.grownBy_trans h.2.2 hg⟩
theorem LS.write {w wr w' : World} {b : Nat} {s : ByteArray} {j : Nat} {acc acc' : List UInt8} (h : LS w wr b s j acc) (hb : b < w.heap.size) (hB : Bld w.heap.size w.heap.size acc' w') (hl : Below w.heap.size wr w') : LS w w' b s j acc' :=
  ⟨h.1.below hl hb, hB, grown_below h.2.2 hl (Nat.le_refl _)⟩
theorem LS.nr {w wr : World} {b : Nat} {s : ByteArray} {j : Nat} {acc : List UInt8} (h : LS w wr b s j acc) : NR wr b s j := h.1
theorem LS.bld {w wr : World} {b : Nat} {s : ByteArray} {j : Nat} {acc : List UInt8} (h : LS w wr b s j acc) : Bld w.heap.size w.heap.size acc wr := h.2.1
theorem LS.size {w wr : World} {b : Nat} {s : ByteArray} {j : Nat} {acc : List UInt8} (h : LS w wr b s j acc) : w.heap.size ≤ wr.heap.size := h.2.2.size
theorem LS.start {w : World} {b : Nat} {s : ByteArray} {j : Nat} (h : NR w b s j) : LS w (w.alloc (.cells #[.pointer none, .slice none 0 0] 122)) b s j [] :=
  ⟨h.below (below_alloc w _) h.lt, Lib.IsBuilderF.of (Lib.fresh_isBuilder 122 5 w), World.grownBy_alloc w _ _⟩
/-- what the reader's literal leaves -/
def NLit (R : Except Nat (List UInt8 × Nat)) (w : World) (b : Nat) (s : ByteArray) (i : Nat) (e : Ending) (w' : World) : Prop :=
  (match R with
    | .ok (t, n) => e = .returned (.tuple #[.string ⟨t.toArray⟩, .int .i64 0]) ∧ NR w' b s (i + n)
    | .error k => e = .returned (.tuple #[.string ⟨#[]⟩, .int .i64 (k : Int)]) ∧ ∃ j, NR w' b s j) ∧ w.grownBy w' (some b)
theorem NLit.ok {R : Except Nat (List UInt8 × Nat)} {w w' : World} {b : Nat} {s : ByteArray} {i n : Nat} {t : List UInt8} {e : Ending} (hR : R = .ok (t, n)) (he : e = .returned (.tuple #[.string ⟨t.toArray⟩, .int .i64 0])) (h : LS w w' b s (i + n) t) : NLit R w b s i e w' := by
  subst hR; exact ⟨⟨he, h.1⟩, h.2.2⟩
theorem NLit.err {R : Except Nat (List UInt8 × Nat)} {w w' : World} {b : Nat} {s : ByteArray} {i j k : Nat} {acc : List UInt8} {e : Ending} (hR : R = .error k) (he : e = .returned (.tuple #[.string ⟨#[]⟩, .int .i64 (k : Int)])) (h : LS w w' b s j acc) : NLit R w b s i e w' := by
  subst hR; exact ⟨⟨he, j, h.1⟩, h.2.2⟩

set_option maxHeartbeats 3200000 in
theorem nliteral_any (b : Nat) (s : ByteArray) (i : Nat) (w : World) (h : NR w b s i) (hi : i ≤ s.size) (hs : s.size ≤ 1099511627776) :
    Calls Tryz.prog 73 #[.pointer (some ⟨b, 0, none⟩)] w (NLit (litF (s.data.toList.drop i)) w b s i) := by
  generalize hR : litF (s.data.toList.drop i) = R
  have HR := Lib.hid hR; clear hR
  have hb := h.lt
  have H0 := Lib.hid (LS.start h)
  clear h
  go_enter Tryz.func73, Tryz.ntmps73
  go_wp2_with fail
  go_loopg [5] (s.size) (fun g _ wr => ∃ k acc, i + k ≤ s.size ∧ s.size ≤ i + k + g ∧ acc.length ≤ k ∧ litA acc k (s.data.toList.drop (i + k)) = R ∧ LS w wr b s (i + k) acc)
  case atStart => exact ⟨0, [], by omega, by omega, by simp, by rw [litA_start]; exact HR.out, H0.out⟩
  case round =>
    obtain ⟨k, acc, hk1, hk2, hka, hI, hLS⟩ := hrel
    have HI := Lib.hid hI
    have HS := Lib.hid hLS
    have HA := Lib.hid hka
    clear hI hLS hka H0 HR
    by_cases hlt : i + k < s.size
    · have HC := Lib.hid (drop_byte s (i + k) hlt)
      go_wp2_with fail
      ((with_reducible refine (more_yes b s (i + k) _ HS.out.nr hlt).mono ?_); rintro e wn ⟨rfl, hN2, hg2⟩)
      replace HS := Lib.hid (HS.out.step hb hN2 hg2)
      clear hN2 hg2
      go_wp2_with fail
      ((with_reducible refine (rnext_any b s (i + k) _ HS.out.nr hlt (by omega)).mono ?_); rintro e wn ⟨rfl, hN2, hg2⟩)
      replace HS := Lib.hid (HS.out.step hb hN2 hg2)
      clear hN2 hg2
      by_cases h34 : (s[i + k].toNat : Int) = 34
      · have q1 : ((s[i + k].toNat : Int) == 34) = true := by rw [h34]; rfl
        have HV := Lib.hid (show R = .ok (acc, k + 1) by rw [← HI.out, HC.out, litA_end _ _ _ _ h34])
        clear h34
        go_wp2_with fail
        ((with_reducible refine (bString_any w.heap.size w.heap.size acc _ HS.out.bld HS.out.size).mono ?_); rintro e wn ⟨rfl, hB2, hl2, _⟩)
        replace HS := Lib.hid (HS.out.write hb hB2 hl2)
        go_wp2_with fail
        go_ret2
        exact NLit.ok HV.out rfl HS.out
      have q1 : ((s[i + k].toNat : Int) == 34) = false := by simp; omega
      have H34 := Lib.hid h34; clear h34
      by_cases h92 : (s[i + k].toNat : Int) = 92
      · have q2 : ((s[i + k].toNat : Int) == 92) = true := by rw [h92]; rfl
        have H92 := Lib.hid h92; clear h92
        by_cases hl2 : i + k + 1 < s.size
        · have HC2 := Lib.hid (drop_byte s (i + k + 1) hl2)
          go_wp2_with fail
          ((with_reducible refine (more_yes b s (i + k + 1) _ HS.out.nr hl2).mono ?_); rintro e wn ⟨rfl, hN2, hg2⟩)
          replace HS := Lib.hid (HS.out.step hb hN2 hg2)
          clear hN2 hg2
          go_wp2_with fail
          ((with_reducible refine (rnext_any b s (i + k + 1) _ HS.out.nr hl2 (by omega)).mono ?_); rintro e wn ⟨rfl, hN2, hg2⟩)
          replace HS := Lib.hid (HS.out.step hb hN2 hg2)
          clear hN2 hg2
          by_cases d34 : (s[i + k + 1].toNat : Int) = 34
          · have q4 : ((s[i + k + 1].toNat : Int) != 34) = false := by rw [d34]; rfl
            have HV := Lib.hid (show litA (acc ++ [s[i + k + 1]]) (k + 2) (s.data.toList.drop (i + (k + 2))) = R by rw [← HI.out, HC.out, HC2.out, litA_esc _ _ _ _ _ H92.out (.inl d34)]; rfl)
            clear d34
            go_wp2_with fail
            ((with_reducible refine (writeByte_any w.heap.size w.heap.size acc (s[i + k + 1]) _ HS.out.bld (by have := HA.out; omega) HS.out.size).mono ?_); rintro e wn ⟨rfl, hB2, hl3, _⟩)
            replace HS := Lib.hid (HS.out.write hb hB2 hl3)
            go_wp2_with fail
            go_roundg (gk - 1)
            case measure => omega
            case rel => exact ⟨k + 2, _, by omega, by omega, by have := HA.out; simp; omega, HV.out, HS.out⟩
          by_cases d92 : (s[i + k + 1].toNat : Int) = 92
          · have q4 : ((s[i + k + 1].toNat : Int) != 34) = true := by rw [d92]; rfl
            have q5 : ((s[i + k + 1].toNat : Int) != 92) = false := by rw [d92]; rfl
            have HV := Lib.hid (show litA (acc ++ [s[i + k + 1]]) (k + 2) (s.data.toList.drop (i + (k + 2))) = R by rw [← HI.out, HC.out, HC2.out, litA_esc _ _ _ _ _ H92.out (.inr d92)]; rfl)
            clear d34 d92
            go_wp2_with fail
            ((with_reducible refine (writeByte_any w.heap.size w.heap.size acc (s[i + k + 1]) _ HS.out.bld (by have := HA.out; omega) HS.out.size).mono ?_); rintro e wn ⟨rfl, hB2, hl3, _⟩)
            replace HS := Lib.hid (HS.out.write hb hB2 hl3)
            go_wp2_with fail
            go_roundg (gk - 1)
            case measure => omega
            case rel => exact ⟨k + 2, _, by omega, by omega, by have := HA.out; simp; omega, HV.out, HS.out⟩
          · have q4 : ((s[i + k + 1].toNat : Int) != 34) = true := by simpa using d34
            have q5 : ((s[i + k + 1].toNat : Int) != 92) = true := by simpa using d92
            have HV := Lib.hid (show R = .error 3 by rw [← HI.out, HC.out, HC2.out, litA_esb _ _ _ _ _ H92.out ⟨d34, d92⟩])
            clear d34 d92
            go_wp2_with fail
            go_ret2
            exact NLit.err HV.out rfl HS.out
        · have HV := Lib.hid (show R = .error 4 by rw [← HI.out, HC.out, List.drop_eq_nil_of_le (by rw [len_byte]; omega), litA_bs _ _ _ H92.out])
          go_wp2_with fail
          ((with_reducible refine (more_no b s (i + k + 1) _ HS.out.nr (by omega)).mono ?_); rintro e wn ⟨rfl, hN2, hg2⟩)
          replace HS := Lib.hid (HS.out.step hb hN2 hg2)
          clear hN2 hg2
          go_wp2_with fail
          go_ret2
          exact NLit.err HV.out rfl HS.out
      · have q2 : ((s[i + k].toNat : Int) == 92) = false := by simp; omega
        have HV := Lib.hid (show litA (acc ++ [s[i + k]]) (k + 1) (s.data.toList.drop (i + (k + 1))) = R by rw [← HI.out, HC.out, litA_next _ _ _ _ H34.out h92]; rfl)
        clear h92
        go_wp2_with fail
        ((with_reducible refine (writeByte_any w.heap.size w.heap.size acc (s[i + k]) _ HS.out.bld (by have := HA.out; omega) HS.out.size).mono ?_); rintro e wn ⟨rfl, hB2, hl3, _⟩)
        replace HS := Lib.hid (HS.out.write hb hB2 hl3)
        go_wp2_with fail
        go_roundg (gk - 1)
        case measure => omega
        case rel => exact ⟨k + 1, _, by omega, by omega, by have := HA.out; simp; omega, HV.out, HS.out⟩
    · have HV := Lib.hid (show R = .error 4 by rw [← HI.out, List.drop_eq_nil_of_le (by rw [len_byte]; omega)]; rfl)
      go_wp2_with fail
      ((with_reducible refine (more_no b s (i + k) _ HS.out.nr (by omega)).mono ?_); rintro e wn ⟨rfl, hN2, hg2⟩)
      replace HS := Lib.hid (HS.out.step hb hN2 hg2)
      clear hN2 hg2
      go_wp2_with fail
      go_ret2
      exact NLit.err HV.out rfl HS.out
end Go.Proofs.YtbbdgncjpbfooaaGreatDoor
