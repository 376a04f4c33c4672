/- next of package token's reader: a literal; and next at every text. -/
import Derived.Test.YtlocbindafdmhaaDoorKm
import Derived.Test.YtlocbindafdmhaaDoorKo
namespace Go.Proofs.YtlocbindafdmhaaDoor
open Go.RowKit

theorem lit_code (f : Nat) : ∀ (l : List UInt8), l.length ≤ f → ∀ k, lit l = .error k → k = 3 ∨ k = 4 := by
  induction f with
  | zero =>
    intro l hl k h
    have : l = [] := List.eq_nil_of_length_eq_zero (by omega)
    subst this
    rw [lit.eq_def] at h; cases h; exact .inr rfl
  | succ f ih =>
    intro l hl k h
    cases l with
    | nil => rw [lit.eq_def] at h; cases h; exact .inr rfl
    | cons c l =>
      rw [lit.eq_def] at h
      simp only at h
      split at h
      · cases h
      · split at h
        · cases h; exact .inl rfl
        · split at h
          · cases l with
            | nil => simp only at h; cases h; exact .inr rfl
            | cons d m =>
              simp only at h
              split at h
              · cases hm : lit m with
                | error e => rw [hm] at h; simp only [Except.error.injEq] at h; subst h; exact ih m (by simp at hl; omega) _ hm
                | ok x => rw [hm] at h; cases h
              · cases h; exact .inl rfl
          · cases hm : lit l with
            | error e => rw [hm] at h; simp only [Except.error.injEq] at h; subst h; exact ih l (by simp at hl; omega) _ hm
            | ok x => rw [hm] at h; cases h
theorem q_not (c : UInt8) (h : (c.toNat : Int) = 34) : isLet c = false ∧ isDig c = false := by
  unfold isLet isDig; simp; omega
theorem read_lit (c : UInt8) (r : List UInt8) (h : (c.toNat : Int) = 34) : readTok (c :: r) = match lit r with | .ok (t, n) => .ok (⟨3, t, 0⟩, n + 1) | .error e => .error e := by
  simp only [readTok, (q_not c h).1, (q_not c h).2, Bool.false_eq_true, if_false, if_pos (show c.toNat = 34 by omega)]
  rfl
set_option maxHeartbeats 3200000 in
set_option maxRecDepth 100000 in
theorem next_lit (b : Nat) (s : ByteArray) (p : Nat × Nat) (w : World) (h : RD w b s p) (hz : 0 < s.size) (h34 : (s[0].toNat : Int) = 34) (hs : s.size ≤ 16384) :
    Calls Tryd.prog 29 #[.pointer (some ⟨b, 0, none⟩)] w fun e w' => e = nxtRet (readTok s.data.toList) p ∧ Below w.heap.size w w' := by
  have e2 := nonempty s hz
  have hb := h.lt
  obtain ⟨c0, c1, c2, f0, f1, f2⟩ := h.cells
  have HRd := read_lit s[0] (s.data.toList.drop 1) h34
  rw [← first_byte s hz] at HRd
  obtain ⟨hL, hD⟩ := q_not s[0] h34
  have HL := Lib.hid hL
  have HD := Lib.hid hD
  have q34 : ((s[0].toNat : Int) == 34) = true := by rw [h34]; rfl
  have HC := Lib.hid (show s[0] = 34 by apply UInt8.toNat_inj.1; show s[0].toNat = 34; omega)
  have HLt := Lib.hid (tliteral_any s)
  clear h34 hL hD
  cases hM : lit (s.data.toList.drop 1) with
  | error k =>
    rw [hM] at HRd
    have HV := Lib.hid HRd; clear HRd
    have hN : litN (s.data.toList.drop 1) 1 = (0, k) := by unfold litN; rw [hM]
    rw [hN] at HLt
    have hk : k = 3 ∨ k = 4 := lit_code _ _ (Nat.le_refl _) _ hM
    have qk : ((k : Int) != 0) = true := by simp; omega
    clear hN hM hk
    go_enter Tryd.func29, Tryd.ntmps29
    go_wp2_with fail
    ((with_reducible refine (tletter_any s[0] _).mono ?_); rintro e wn ⟨rfl, rfl⟩)
    rw [HL.out]
    go_wp2_with fail
    ((with_reducible refine (tdigit_any s[0] _).mono ?_); rintro e wn ⟨rfl, rfl⟩)
    rw [HD.out]
    go_wp2_with fail
    ((with_reducible refine (HLt.out _ (by omega) (by omega)).mono ?_); rintro e wn ⟨rfl, rfl⟩)
    go_wp2_with fail
    refine bodyPost_ret (v := .tuple #[tkv 0 ⟨#[]⟩ 0 p, .int .i64 0, .int .i64 k]) (by simp [results, Tryd.results29, go_sem]; rfl) rfl ⟨nxt_err HV.out, ?_⟩
    exact (below_alloc w _).alloc (by simp) _
  | ok x =>
    obtain ⟨t, n⟩ := x
    rw [hM] at HRd
    have HV := Lib.hid (show readTok s.data.toList = .ok (⟨3, t, 0⟩, 1 + n) by rw [HRd, Nat.add_comm 1 n]); clear HRd
    have hN : litN (s.data.toList.drop 1) 1 = (1 + n, 0) := by unfold litN; rw [hM]
    rw [hN] at HLt
    obtain ⟨g1, g2, g3, g4, g5⟩ := lit_facts _ _ (Nat.le_refl _) _ _ hM
    rw [List.length_drop, len_byte] at g2
    have hnl : 1 + n ≤ s.size := by omega
    have HU := Lib.hid (fun w => unquote_ok (s.extract 0 (1 + n)) ((s.data.toList.drop 1).take n) t w (by rw [ext_size s _ hnl]; omega) (by rw [ext_upto, first_byte s hz, HC.out, Nat.add_comm 1 n, List.take_succ_cons]; simp) (by rw [g4, List.length_take, List.length_drop, len_byte, Nat.min_eq_left (by omega)]) g5 (by omega))
    clear hN hM g1 g2 g3 g4 g5
    have HM := Lib.hid (show (1 : Int) + (n : Int) = ((1 + n : Nat) : Int) by omega)
    generalize hm : 1 + n = m at *
    go_enter Tryd.func29, Tryd.ntmps29
    go_wp2_with fail
    ((with_reducible refine (tletter_any s[0] _).mono ?_); rintro e wn ⟨rfl, rfl⟩)
    rw [HL.out]
    go_wp2_with fail
    ((with_reducible refine (tdigit_any s[0] _).mono ?_); rintro e wn ⟨rfl, rfl⟩)
    rw [HD.out]
    go_wp2_with fail
    ((with_reducible refine (HLt.out _ (by omega) (by omega)).mono ?_); rintro e wn ⟨rfl, rfl⟩)
    clear hm
    go_wp2_with fail
    ((with_reducible refine (HU.out _).mono ?_); rintro e w3 ⟨rfl, hb3⟩)
    have HB := Lib.hid (below_then ((below_alloc w _).alloc (by simp) _) hb3)
    obtain ⟨tr0, tr1, tr2, tr3, tr4, tt0, tt1, tt2, tt3, tt4, fr0, fr1, fr2, fr3, fr4, ft0, ft1, ft2, ft3, ft4⟩ := tok_facts hb3
    clear hb3
    obtain ⟨y, hy⟩ : ∃ y : ByteArray, y = ⟨t.toArray⟩ := ⟨_, rfl⟩
    rw [← hy]
    have HY := Lib.hid hy; clear hy
    go_wp2_with fail
    refine bodyPost_ret (v := .tuple #[tkv 3 y 0 p, .int .i64 m, .int .i64 0]) (by simp [results, Tryd.results29, go_sem, tr0, tr1, tr2, tr3, tr4]; rfl) rfl ⟨nxt_ok HV.out (by rw [HY.out]), ?_⟩
    (repeat (first | (with_reducible refine bset0 ?_ _ _) | (with_reducible refine bset1 ?_ _ _) | (with_reducible refine Below.drew ?_))); (with_reducible exact HB.out)

/-- next at every text that is not empty -/
theorem next_any (b : Nat) (s : ByteArray) (p : Nat × Nat) (w : World) (h : RD w b s p) (hz : 0 < s.size) (hs : s.size ≤ 16384) (hP : PR w) :
    Calls Tryd.prog 29 #[.pointer (some ⟨b, 0, none⟩)] w fun e w' => e = nxtRet (readTok s.data.toList) p ∧ Below w.heap.size w w' := by
  cases hL : isLet s[0]
  · cases hD : isDig s[0]
    · by_cases h34 : (s[0].toNat : Int) = 34
      · exact next_lit b s p w h hz h34 hs
      · exact next_sym b s p w h hz hL hD h34
    · exact next_num b s p w h hz hD (by omega) hP
  · exact next_name b s p w h hz hL (by omega)
end Go.Proofs.YtlocbindafdmhaaDoor
