/- event.Parse: what a call returns. -/
import Derived.Test.YtbbdgncjpbfooaaGreatDoorEq
namespace Go.Proofs.YtbbdgncjpbfooaaGreatDoor
open Go.RowKit

theorem wordsA_code (f : Nat) : ∀ (l : List UInt8) (out : List (List UInt8)) (k : Nat), l.length < f → wordsA f l out = .error k → 1 ≤ k := by
  induction f with
  | zero => intro l out k h; omega
  | succ f ih =>
    intro l out k hl h
    cases l with
    | nil => rw [wordsA_nil] at h; cases h
    | cons c l =>
      simp only [List.length_cons] at hl
      rw [wordsA] at h
      split at h
      · exact ih _ _ _ (by omega) h
      · rename_i h32
        split at h
        · cases hm : litF l with
          | error e => rw [hm] at h; cases h; exact litF_code _ _ (Nat.le_refl _) _ hm
          | ok x =>
            obtain ⟨t, n⟩ := x
            rw [hm] at h
            simp only at h
            have hdl : (l.drop n).length < f := by rw [List.length_drop]; omega
            cases hd : l.drop n with
            | nil => rw [hd] at h hdl; simp only at h; exact ih _ _ _ hdl h
            | cons d r =>
              rw [hd] at h hdl
              simp only at h
              split at h
              · exact ih _ _ _ hdl h
              · cases h; omega
        · split at h
          · cases h; omega
          · refine ih _ _ _ ?_ h
            have hb : isBw c = true := by unfold isBw; simp; exact h32
            rw [List.length_drop, List.takeWhile_cons, if_pos hb]
            simp; omega
theorem words_code (l : List UInt8) (k : Nat) (h : words l = .error k) : 1 ≤ k := by
  unfold words at h
  split at h
  · cases h; omega
  · split at h
    · cases hw : wordsA (l.length + 1) l [] with
      | error e => rw [hw] at h; cases h; exact wordsA_code _ _ _ _ (Nat.lt_succ_self _) hw
      | ok L =>
        rw [hw] at h
        unfold wordsX at h
        simp only at h
        split at h
        · cases h; omega
        · cases h
    · cases h; omega
theorem candE_short (L : List (List UInt8)) (h : L.length < 5) : candE L = none := by
  match L, h with
  | [], _ => rfl
  | [_], _ => rfl
  | [_, _], _ => rfl
  | [_, _, _], _ => rfl
  | [_, _, _, _], _ => rfl
  | _ :: _ :: _ :: _ :: _ :: _, h => simp at h; omega
theorem evR_none {s : List UInt8} (hs : s.length ≤ 16384) (h : evP s = none) : evR s = .error 3 := by unfold evR; rw [if_neg (by omega), h]
theorem evR_some {s : List UInt8} {e : Ev} (hs : s.length ≤ 16384) (h : evP s = some e) : evR s = .ok e := by unfold evR; rw [if_neg (by omega), h]
theorem str_map (L : List (List UInt8)) : L.map strV = (L.map fun t => (⟨t.toArray⟩ : ByteArray)).map Value.string := by rw [List.map_map]; rfl
/-- the words that were read, in memory -/
theorem words_mem {w : World} {b : Nat} {v : Value} {L : List (List UInt8)} (h : w.ownsRow b 9 1 v L.length (L.map strV)) :
    ∃ A cap, v = .slice A L.length cap ∧ L.length ≤ cap ∧ cap ≤ 9223372036854775807 ∧ (0 < L.length → ∃ g, A = some ⟨g, 0, none⟩ ∧ b ≤ g ∧ g < w.heap.size ∧ ∀ j (hj : j < L.length), w.cell? ⟨g, j, none⟩ = some (.string ⟨(L[j]).toArray⟩)) := by
  rw [str_map] at h
  obtain ⟨A, cap, h1, h2, h3, h4, h5, h6⟩ := own_sin h
  refine ⟨A, cap, h1, h4, h5, fun hn => ?_⟩
  obtain ⟨g, rfl, hg1, hg2⟩ := h6 hn
  refine ⟨g, rfl, hg1, hg2, fun j hj => ?_⟩
  obtain ⟨ad, e, _, hc⟩ := h2 j (by rw [List.length_map]; exact hj)
  cases e
  rw [add_zero, Nat.zero_add] at hc
  rw [hc]; simp
theorem wd_cells {w : World} {g : Nat} (h : ∀ n : Int, 1 ≤ n → n ≤ 6 → w.cell? ⟨g, n.toNat - 1, none⟩ = some (.string (lifeB n))) : ∀ j, j < wordsL.length → w.cell? ⟨g, 0 + j, none⟩ = some (.string (wordsL.getD j ByteArray.empty)) := by
  intro j hj
  have hj' : j < 6 := hj
  have := h (j + 1) (by omega) (by omega)
  rw [show ((j : Int) + 1).toNat - 1 = 0 + j by omega] at this
  rw [this]
  obtain rfl | rfl | rfl | rfl | rfl | rfl : j = 0 ∨ j = 1 ∨ j = 2 ∨ j = 3 ∨ j = 4 ∨ j = 5 := by omega
  all_goals rfl
theorem life_idx (t : ByteArray) : lifeI t = 1 + Lib.idxOfS (wordsL.take 6) t := rfl
/-- five words at the head of a list -/
def Five (w : World) (g : Nat) (b0 b1 b2 b3 b4 : ByteArray) : Prop :=
  w.cell? ⟨g, 0, none⟩ = some (.string b0) ∧ w.cell? ⟨g, 1, none⟩ = some (.string b1) ∧ w.cell? ⟨g, 2, none⟩ = some (.string b2) ∧ w.cell? ⟨g, 3, none⟩ = some (.string b3) ∧ w.cell? ⟨g, 4, none⟩ = some (.string b4)
theorem Five.below {w w' : World} {g : Nat} {b0 b1 b2 b3 b4 : ByteArray} (h : Five w g b0 b1 b2 b3 b4) (hb : Below w.heap.size w w') :
    w'.cell? ⟨g, 0, none⟩ = some (.string b0) ∧ w'.cell? ⟨g, 1, none⟩ = some (.string b1) ∧ w'.cell? ⟨g, 2, none⟩ = some (.string b2) ∧ w'.cell? ⟨g, 3, none⟩ = some (.string b3) ∧ w'.cell? ⟨g, 4, none⟩ = some (.string b4) :=
  ⟨cell_stays hb h.1, cell_stays hb h.2.1, cell_stays hb h.2.2.1, cell_stays hb h.2.2.2.1, cell_stays hb h.2.2.2.2⟩
theorem own_setCell {w : World} {b E o : Nat} {T : TypeId} {K : Nat} {v : Value} {n : Nat} {xs : List Value} (h : w.ownsRow b T K v n xs) (hE : E < b) (u : Value) : (w.setCell ⟨E, o, none⟩ u).ownsRow b T K v n xs := by
  refine h.kept (row := some E) (Lib.grownBy_setB (grown_refl w (some E)) o u) ?_
  cases hv : v.ownBlock with
  | none => exact .inl rfl
  | some g => exact .inr fun e => by have := (h.lt g hv).1; have := Option.some.inj e; omega
theorem own_set6 {w : World} {b E : Nat} {T : TypeId} {K : Nat} {v : Value} {n : Nat} {xs : List Value} (h : w.ownsRow b T K v n xs) (hE : E < b) (x0 x1 x2 x3 x4 x5 : Value) :
    ((((((w.setCell ⟨E, 0, none⟩ x0).setCell ⟨E, 1, none⟩ x1).setCell ⟨E, 2, none⟩ x2).setCell ⟨E, 3, none⟩ x3).setCell ⟨E, 4, none⟩ x4).setCell ⟨E, 5, none⟩ x5).ownsRow b T K v n xs :=
  own_setCell (own_setCell (own_setCell (own_setCell (own_setCell (own_setCell h hE _) hE _) hE _) hE _) hE _) hE _
theorem below_drewN (w : World) (n : Nat) : Below w.heap.size w (w.drewN n) := ⟨rfl, rfl, rfl, Nat.le_refl _, fun _ _ => rfl⟩
theorem cut_len (s p : List UInt8) : (Lib.cut s p).1.length ≤ s.length ∧ (Lib.cut s p).2.1.length ≤ s.length := by
  unfold Lib.cut
  split
  · refine ⟨List.length_take_le' _ _, ?_⟩
    simp only [List.length_drop]; omega
  · simp
/-- while fields are read: the event's block, its fields so far -/
def FSt (w1 wr : World) (E : Nat) (e : Ev) (A : Option Addr) (cap : Nat) : Prop :=
  EB wr E e A e.d.length cap ∧ wr.ownsRow (E + 1) 49 4 (.slice A e.d.length cap) e.d.length (e.d.flatMap fdC) ∧ Below w1.heap.size w1 wr ∧ w1.heap.size ≤ E ∧ ∀ f ∈ e.d, f.nm.size ≤ 16384 ∧ f.v.s.size ≤ 16384
theorem FSt.below {w1 wr w' : World} {E : Nat} {e : Ev} {A : Option Addr} {cap : Nat} (h : FSt w1 wr E e A cap) (hb : Below wr.heap.size wr w') : FSt w1 w' E e A cap :=
  ⟨h.1.below hb, own_stays h.2.1 hb, below_then h.2.2.1 hb, h.2.2.2⟩
theorem FSt.push {w1 w3 w5 : World} {E : Nat} {e : Ev} {A : Option Addr} {cap : Nat} {v' : Value} {a b : Obj} (h : FSt w1 w3 E e A cap) (f : Fd) (hf : f.nm.size ≤ 16384 ∧ f.v.s.size ≤ 16384)
    (ho : w5.ownsRow (E + 1) 49 4 v' (e.d.length + 1) (e.d.flatMap fdC ++ fdC f)) (hg : ((w3.alloc a).alloc b).grownBy w5 (Value.slice A e.d.length cap).ownBlock) :
    ∃ A' cap', v' = .slice A' (e.d.length + 1) cap' ∧ EB w5 E e A e.d.length cap ∧ FSt w1 (w5.setCell ⟨E, 5, none⟩ v') E ⟨e.c, e.a, e.r, e.life, e.time, e.d ++ [f]⟩ A' cap' := by
  obtain ⟨h1, h2, h3, h4, h5⟩ := h
  have hlt := h1.lt
  have hsz : ((w3.alloc a).alloc b).heap.size = w3.heap.size + 1 + 1 := by simp
  have hrow : ∀ k, (Value.slice A e.d.length cap).ownBlock = some k → E + 1 ≤ k := fun k hk => (h2.lt k hk).1
  have hE5 : EB w5 E e A e.d.length cap := by
    unfold EB
    rw [hg.block E (by omega) (fun e => by have := hrow E e.symm; omega), Below.heap_alloc _ _ _ (by simp; omega), Below.heap_alloc _ _ _ hlt]
    exact h1
  have hfl : (e.d ++ [f]).flatMap fdC = e.d.flatMap fdC ++ fdC f := by simp
  have hB5 : Below w1.heap.size w1 w5 := ((h3.alloc h3.size a).alloc (by have := h3.size; simp; omega) b).grown hg (by have := h3.size; rw [hsz]; omega) (fun k hk => by have := hrow k hk; omega)
  obtain ⟨A', cap', hv, _⟩ := own_rd (c := fdC) (L := e.d ++ [f]) fdC_len (by omega) (by rw [hfl]; exact ho)
  refine ⟨A', cap', hv, hE5, ?_⟩
  subst hv
  refine ⟨?_, ?_, hB5.setCell (p := ⟨E, 5, none⟩) h4 _, h4, fun x hx => ?_⟩
  · have := hE5.set5 A' (e.d.length + 1) cap' (e.d ++ [f])
    simp only [List.length_append, List.length_cons, List.length_nil]
    exact this
  · simp only [List.length_append, List.length_cons, List.length_nil]
    rw [hfl]
    exact own_setCell ho (by omega) _
  · rcases List.mem_append.1 hx with hx | hx
    · exact h5 x hx
    · have : x = f := by simpa using hx
      subst this; exact hf
theorem drop_at2 {α : Type} (Z : List α) (k : Nat) (h : k < Z.length) : Z.drop k = Z[k] :: Z.drop (k + 1) := List.drop_eq_getElem_cons h
theorem val_small (v : Vl) (h : v.ok = true) : v.s.size ≤ 200 := by
  rcases val_cases v h with ⟨_, _, h3⟩ | ⟨_, _, _, h3⟩ | ⟨_, _, h3, _⟩
  · rw [← len_byte, h3]; simp
  · rw [← len_byte, h3]; simp
  · exact h3
set_option maxHeartbeats 800000 in
theorem eparse_long (s : ByteArray) (w : World) (h : 16384 < s.size) : Calls Tryz.prog 11 #[.string s] w (EpPost (evR s.data.toList) w) := by
  have HR := Lib.hid (show evR s.data.toList = .error 5 by unfold evR; rw [if_pos (by rw [len_byte]; exact h)])
  have q : 16384 < (s.size : Int) := by omega
  clear h
  go_enter Tryz.func11, Tryz.ntmps11
  go_wp2_with fail
  exact bodyPost_ret (v := .tuple #[.agg #[.string ⟨#[]⟩, .string ⟨#[]⟩, .string ⟨#[]⟩, .int .i64 0, .int .i64 0, .slice none 0 0], .int .i64 5]) (by simp [results, Tryz.results11, go_sem]) rfl (EpPost.err HR.out rfl (below_alloc w _))
set_option maxHeartbeats 1600000 in
theorem eparse_bad (s : ByteArray) (w : World) (h : s.size ≤ 16384) (k : Nat) (hw : words s.data.toList = .error k) : Calls Tryz.prog 11 #[.string s] w (EpPost (evR s.data.toList) w) := by
  have HR := Lib.hid (evR_none (by rw [len_byte]; exact h) (evP_err _ k hw))
  have HW := Lib.hid (fun w => nwords_any s w h)
  rw [hw] at HW
  have hk : ((k : Int) != 0) = true := by have := words_code _ _ hw; simp; omega
  have HO := Lib.hid (below_alloc w (.cells #[.string ⟨#[]⟩, .string ⟨#[]⟩, .string ⟨#[]⟩, .int .i64 0, .int .i64 0, .slice none 0 0] 24))
  have HE := Lib.hid (show EB (w.alloc (.cells #[.string ⟨#[]⟩, .string ⟨#[]⟩, .string ⟨#[]⟩, .int .i64 0, .int .i64 0, .slice none 0 0] 24)) w.heap.size ev0 none 0 0 from EB.new w ev0 none 0 0)
  have q : (s.size : Int) ≤ 16384 := by omega
  clear h hw
  go_enter Tryz.func11, Tryz.ntmps11
  go_wp2_with fail
  ((with_reducible refine (HW.out _).mono ?_); rintro e w1 ⟨rfl, hb1⟩)
  have HB := Lib.hid (below_then HO.out hb1)
  have HE1 := Lib.hid (HE.out.below hb1)
  clear hb1
  obtain ⟨c0, c1, c2, c3, c4, c5⟩ := HE1.out.cells
  obtain ⟨f0, f1, f2, f3, f4, f5⟩ := HE1.out.fr
  simp only [ev0] at c0 c1 c2 c3 c4 c5
  go_wp2_with fail
  exact bodyPost_ret (v := .tuple #[.agg #[.string ⟨#[]⟩, .string ⟨#[]⟩, .string ⟨#[]⟩, .int .i64 0, .int .i64 0, .slice none 0 0], .int .i64 3]) (by simp [results, Tryz.results11, go_sem, c0, c1, c2, c3, c4, c5]) rfl (EpPost.err HR.out rfl (bset6 HB.out (Nat.le_refl _) _ _ _ _ _ _))
set_option maxHeartbeats 1600000 in
theorem eparse_short (s : ByteArray) (w : World) (h : s.size ≤ 16384) (L : List (List UInt8)) (hw : words s.data.toList = .ok L) (h5 : L.length < 5) : Calls Tryz.prog 11 #[.string s] w (EpPost (evR s.data.toList) w) := by
  have HR := Lib.hid (evR_none (by rw [len_byte]; exact h) (evP_no _ L hw (candE_short L h5)))
  have HW := Lib.hid (fun w => nwords_any s w h)
  rw [hw] at HW
  have HO := Lib.hid (below_alloc w (.cells #[.string ⟨#[]⟩, .string ⟨#[]⟩, .string ⟨#[]⟩, .int .i64 0, .int .i64 0, .slice none 0 0] 24))
  have HE := Lib.hid (show EB (w.alloc (.cells #[.string ⟨#[]⟩, .string ⟨#[]⟩, .string ⟨#[]⟩, .int .i64 0, .int .i64 0, .slice none 0 0] 24)) w.heap.size ev0 none 0 0 from EB.new w ev0 none 0 0)
  have q : (s.size : Int) ≤ 16384 := by omega
  have q5 : (L.length : Int) < 5 := by omega
  clear h hw
  go_enter Tryz.func11, Tryz.ntmps11
  go_wp2_with fail
  ((with_reducible refine (HW.out _).mono ?_); rintro e w1 ⟨v, rfl, hown, hb1⟩)
  obtain ⟨A, cap, rfl, _⟩ := words_mem hown
  have HB := Lib.hid (below_then HO.out hb1)
  have HE1 := Lib.hid (HE.out.below hb1)
  clear hb1 hown
  obtain ⟨c0, c1, c2, c3, c4, c5⟩ := HE1.out.cells
  obtain ⟨f0, f1, f2, f3, f4, f5⟩ := HE1.out.fr
  simp only [ev0] at c0 c1 c2 c3 c4 c5
  go_wp2_with fail
  exact bodyPost_ret (v := .tuple #[.agg #[.string ⟨#[]⟩, .string ⟨#[]⟩, .string ⟨#[]⟩, .int .i64 0, .int .i64 0, .slice none 0 0], .int .i64 3]) (by simp [results, Tryz.results11, go_sem, c0, c1, c2, c3, c4, c5]) rfl (EpPost.err HR.out rfl (bset6 HB.out (Nat.le_refl _) _ _ _ _ _ _))
set_option maxHeartbeats 12800000 in
set_option maxRecDepth 100000 in
theorem eparse_walk (s : ByteArray) (w : World) (h : s.size ≤ 16384) (hp : PW w) (b0 b1 b2 b3 b4 : ByteArray) (rest : List (List UInt8)) (hw : words s.data.toList = .ok (b0.data.toList :: b1.data.toList :: b2.data.toList :: b3.data.toList :: b4.data.toList :: rest)) :
    Calls Tryz.prog 11 #[.string s] w (EpPost (evR s.data.toList) w) := by
  have hsl : s.data.toList.length ≤ 16384 := by rw [len_byte]; exact h
  obtain ⟨hL1, hL2⟩ := words_len _ _ hw
  have z0 : b0.size ≤ 16384 := by have := hL1 b0.data.toList (by simp); rw [len_byte] at this; omega
  have z1 : b1.size ≤ 16384 := by have := hL1 b1.data.toList (by simp); rw [len_byte] at this; omega
  have z2 : b2.size ≤ 16384 := by have := hL1 b2.data.toList (by simp); rw [len_byte] at this; omega
  have z4 : b4.size ≤ 16384 := by have := hL1 b4.data.toList (by simp); rw [len_byte] at this; omega
  have HZ := Lib.hid (show ∀ t ∈ rest, t.length ≤ 16384 from fun t ht => by have := hL1 t (by simp [ht]); omega)
  have HNO := Lib.hid (fun (hf : fieldsA rest [] = none) => evR_none hsl (evP_no _ _ hw (by unfold candE; simp only; rw [hf])))
  have HYES := Lib.hid (fun d (hf : fieldsA rest [] = some d) => evP_cand _ _ ⟨b0, b1, b2, lifeI b3, instG 0 b4.data.toList, d⟩ hw (by unfold candE; simp only; rw [hf]))
  have HSL := Lib.hid hsl
  have hml : rest.length ≤ 1000 := by simp at hL2; omega
  have HW := Lib.hid (fun w => nwords_any s w h)
  rw [hw] at HW
  have HPW := Lib.hid hp
  have HO := Lib.hid (below_alloc w (.cells #[.string ⟨#[]⟩, .string ⟨#[]⟩, .string ⟨#[]⟩, .int .i64 0, .int .i64 0, .slice none 0 0] 24))
  have HE := Lib.hid (show EB (w.alloc (.cells #[.string ⟨#[]⟩, .string ⟨#[]⟩, .string ⟨#[]⟩, .int .i64 0, .int .i64 0, .slice none 0 0] 24)) w.heap.size ev0 none 0 0 from EB.new w ev0 none 0 0)
  have q : (s.size : Int) ≤ 16384 := by omega
  have hlf := life_bound b3
  have hli := life_idx b3
  obtain ⟨I0, hI0⟩ : ∃ I0, I0 = Lib.idxOfS (wordsL.take 6) b3 := ⟨_, rfl⟩
  have HI0 := Lib.hid hI0
  rw [← hI0] at hli
  have hi1 : 0 ≤ 1 + I0 := by omega
  have hi2 : 1 + I0 ≤ 6 := by omega
  have HLI := Lib.hid hli
  obtain ⟨m, hm⟩ : ∃ m, m = rest.length := ⟨_, rfl⟩
  have HM := Lib.hid hm
  have hm1 : m ≤ 1000 := by omega
  obtain ⟨i0, hi, hz0, hz1, hz2⟩ := info_parts fdInfo
  have HI := Lib.hid (And.intro hi (And.intro hz0 (And.intro hz1 hz2)))
  clear hi hz0 hz1 hz2 hsl hw hp hL1 hL2 hI0 hli hlf hm hml
  go_enter Tryz.func11, Tryz.ntmps11
  go_wp2_with fail
  ((with_reducible refine (HW.out _).mono ?_); rintro e w1 ⟨v, rfl, hown, hb1⟩)
  obtain ⟨A, cap, rfl, hcap1, hcap2, hmem⟩ := words_mem hown
  obtain ⟨g, rfl, _, hg, hcells⟩ := hmem (by simp)
  have HF5 := Lib.hid (show Five w1 g b0 b1 b2 b3 b4 from ⟨hcells 0 (by simp), hcells 1 (by simp), hcells 2 (by simp), hcells 3 (by simp), hcells 4 (by simp)⟩)
  have HFR := Lib.hid (show ∀ k (hk : k < rest.length), w1.cell? ⟨g, 5 + k, none⟩ = some (.string ⟨(rest[k]).toArray⟩) from fun k hk => by
    have := hcells (5 + k) (by simp; omega)
    rw [this]
    have e : ∀ (a b c d e : List UInt8) (l : List (List UInt8)) (k : Nat) (h : 5 + k < (a :: b :: c :: d :: e :: l).length) (h2 : k < l.length), (a :: b :: c :: d :: e :: l)[5 + k] = l[k] := by
      intro a b c d e l k h h2
      have : 5 + k = k + 1 + 1 + 1 + 1 + 1 := by omega
      simp only [this, List.getElem_cons_succ]
    rw [e _ _ _ _ _ _ _ _ hk])
  have HB1 := Lib.hid (below_then HO.out hb1)
  have HE1 := Lib.hid (HE.out.below hb1)
  have HPW1 := Lib.hid (HPW.out.below (below_then HO.out hb1))
  have hE1 : w.heap.size < w1.heap.size := HE1.out.lt
  have hln : (b0.data.toList :: b1.data.toList :: b2.data.toList :: b3.data.toList :: b4.data.toList :: rest).length = m + 5 := by simp [HM.out]
  rw [hln] at hcap1 ⊢
  have hcapi : (m : Int) + 5 ≤ (cap : Int) := by omega
  clear hb1 hown hmem hcells HO HE HW hln
  go_wp2_with fail
  go_cut [6] (fun s6 wx => ∃ E, s6 = .pointer (some ⟨E, 0, none⟩) ∧ w1.heap.size ≤ E ∧ EB wx E ⟨b0, b1, b2, 1 + I0, instG 0 b4.data.toList, []⟩ none 0 0 ∧ Below w1.heap.size w1 wx)
  case first =>
    have hS0 := HF5.out.below (show Below w1.heap.size w1 w1.drew from (Below.refl _ _).drew)
    have k1 : IntKind.i64.wrap (1 + I0) = 1 + I0 := IntWalk.i64_in _ (by omega)
    generalize hT : instG 0 b4.data.toList = T
    have HT := Lib.hid hT; clear hT
    refine wp_region_held_drew (S := fun w' => w'.cell? ⟨g, 0, none⟩ = some (.string b0) ∧ w'.cell? ⟨g, 1, none⟩ = some (.string b1) ∧ w'.cell? ⟨g, 2, none⟩ = some (.string b2) ∧ w'.cell? ⟨g, 3, none⟩ = some (.string b3) ∧ w'.cell? ⟨g, 4, none⟩ = some (.string b4)) (by kernel_rfl) hS0 (fun hHeld => ?_)
    have hB0 : Below w1.heap.size w1 w1.drew := (Below.refl _ _).drew
    have n0 : 0 < m + 5 := by omega
    have n0' : (0 : Int) < (m : Int) + 5 := by omega
    have n1 : 1 < m + 5 := by omega
    have n1' : (1 : Int) < (m : Int) + 5 := by omega
    have n2 : 2 < m + 5 := by omega
    have n2' : (2 : Int) < (m : Int) + 5 := by omega
    have n3 : 3 < m + 5 := by omega
    have n3' : (3 : Int) < (m : Int) + 5 := by omega
    have n4 : 4 < m + 5 := by omega
    have n4' : (4 : Int) < (m : Int) + 5 := by omega
    refine wpAnyH_take (i := 0) (v := ?_) rfl (by kernel_rfl) (by kernel_rfl) (by kernel_rfl) (fun _ _ _ h => h) (Or.inl ⟨by rfl, ?_⟩) (by assumption) ?_
    rotate_left
    · intro w hSw; (try dsimp only at hSw); go_simp; try (with_reducible rfl)
    try go_simp
    refine wpAnyH_take (i := 1) (v := ?_) rfl (by kernel_rfl) (by kernel_rfl) (by kernel_rfl) (fun _ _ _ h => h) (Or.inl ⟨by rfl, ?_⟩) (by assumption) ?_
    rotate_left
    · intro w hSw; (try dsimp only at hSw); go_simp; try (with_reducible rfl)
    try go_simp
    refine wpAnyH_take (i := 2) (v := ?_) rfl (by kernel_rfl) (by kernel_rfl) (by kernel_rfl) (fun _ _ _ h => h) (Or.inl ⟨by rfl, ?_⟩) (by assumption) ?_
    rotate_left
    · intro w hSw; (try dsimp only at hSw); go_simp; try (with_reducible rfl)
    try go_simp
    refine wpAnyH_take (i := 3) (v := ?_) rfl (by kernel_rfl) (by kernel_rfl) (by kernel_rfl) (fun _ _ _ h => h) (Or.inl ⟨by rfl, ?_⟩) (by assumption) ?_
    rotate_left
    · intro w hSw; (try dsimp only at hSw); go_simp; try (with_reducible rfl)
    try go_simp
    refine wpAnyH_take (i := 4) (v := ?_) rfl (by kernel_rfl) (by kernel_rfl) (by kernel_rfl) (fun _ _ _ h => h) (Or.inl ⟨by rfl, ?_⟩) (by assumption) ?_
    rotate_left
    · intro w hSw; (try dsimp only at hSw); go_simp; try (with_reducible rfl)
    try go_simp
    refine wpAnyH_take (i := 5) (v := ?_) rfl (by kernel_rfl) (by kernel_rfl) (by kernel_rfl) (fun _ _ _ h => h) (Or.inl ⟨by rfl, ?_⟩) (by assumption) ?_
    rotate_left
    · intro w hSw; (try dsimp only at hSw); go_simp; try (with_reducible rfl)
    try go_simp
    refine wpAnyH_take (i := 6) (v := ?_) rfl (by kernel_rfl) (by kernel_rfl) (by kernel_rfl) (fun _ _ _ h => h) (Or.inl ⟨by rfl, ?_⟩) (by assumption) ?_
    rotate_left
    · intro w hSw; (try dsimp only at hSw); go_simp; try (with_reducible rfl)
    try go_simp
    refine wpAnyH_take (i := 7) (v := ?_) rfl (by kernel_rfl) (by kernel_rfl) (by kernel_rfl) (fun _ _ _ h => h) (Or.inl ⟨by rfl, ?_⟩) (by assumption) ?_
    rotate_left
    · intro w hSw; (try dsimp only at hSw); go_simp; try (with_reducible rfl)
    try go_simp
    refine wpAnyH_take (i := 8) (v := ?_) rfl (by kernel_rfl) (by kernel_rfl) (by kernel_rfl) (fun _ _ _ h => h) (Or.inl ⟨by rfl, ?_⟩) (by assumption) ?_
    rotate_left
    · intro w hSw; (try dsimp only at hSw); go_simp; try (with_reducible rfl)
    try go_simp
    refine wpAnyH_take (i := 10) (v := ?_) rfl (by kernel_rfl) (by kernel_rfl) (by kernel_rfl) (fun _ _ _ h => h) (Or.inl ⟨by rfl, ?_⟩) (by assumption) ?_
    rotate_left
    · intro w hSw; (try dsimp only at hSw); go_simp; try (with_reducible rfl)
    try go_simp
    refine wpAnyH_take (i := 11) (v := ?_) rfl (by kernel_rfl) (by kernel_rfl) (by kernel_rfl) (fun _ _ _ h => h) (Or.inl ⟨by rfl, ?_⟩) (by assumption) ?_
    rotate_left
    · intro w hSw; (try dsimp only at hSw); go_simp; try (with_reducible rfl)
    try go_simp
    refine wpAnyH_take (i := 12) (v := ?_) rfl (by kernel_rfl) (by kernel_rfl) (by kernel_rfl) (fun _ _ _ h => h) (Or.inl ⟨by rfl, ?_⟩) (by assumption) ?_
    rotate_left
    · intro w hSw; (try dsimp only at hSw); go_simp; try (with_reducible rfl)
    try go_simp
    refine wpAnyH_take (i := 15) (v := ?_) rfl (by kernel_rfl) (by kernel_rfl) (by kernel_rfl) (fun _ _ _ h => h) (Or.inl ⟨by rfl, ?_⟩) (by assumption) ?_
    rotate_left
    · intro w hSw; (try dsimp only at hSw); go_simp; try (with_reducible rfl)
    try go_simp
    refine wpAnyH_take (i := 16) (v := ?_) rfl (by kernel_rfl) (by kernel_rfl) (by kernel_rfl) (fun _ _ _ h => h) (Or.inl ⟨by rfl, ?_⟩) (by assumption) ?_
    rotate_left
    · intro w hSw; (try dsimp only at hSw); go_simp; try (with_reducible rfl)
    try go_simp
    refine wpAnyH_take (i := 17) (v := ?_) rfl (by kernel_rfl) (by kernel_rfl) (by kernel_rfl) (fun _ _ _ h => h) (Or.inl ⟨by rfl, ?_⟩) (by assumption) ?_
    rotate_left
    · intro w hSw; (try dsimp only at hSw); go_simp; try (with_reducible rfl)
    try go_simp
    refine wpAnyH_ready (rs := [9, 20]) (by kernel_rfl) (by simp) ?_
    refine AllReadyH.cons rfl (fun K hK => ?_) (AllReadyH.cons rfl (fun K hK => ?_) AllReadyH.nil)
    · go_simp
      ((refine (ewords_any _).mono ?_); rintro x v1 ⟨g1, rfl, hg1, cg1, hbk1⟩)
      have hB1 := below_then hB0 hbk1
      have hS := HF5.out.below hB1
      refine hK.out _ _ hS (fun hHeld => ?_)
      clear hK K hS hbk1
      try go_simp
      refine wpAnyH_ready (rs := [13, 20]) (by kernel_rfl) (by simp) ?_
      refine AllReadyH.cons rfl (fun K hK => ?_) (AllReadyH.cons rfl (fun K hK => ?_) AllReadyH.nil)
      · go_simp
        ((refine (Tryz.slices_Index_string g1 0 6 6 wordsL b3 _ (by decide) (by omega) (wd_cells cg1)).mono ?_); rintro x v2 ⟨rfl, rfl⟩)
        rw [← HI0.out]
        have hS := HF5.out.below hB1
        refine hK.out _ _ hS (fun hHeld => ?_)
        clear hK K hS
        try go_simp
        refine wpAnyH_take (i := 14) (v := ?_) rfl (by kernel_rfl) (by kernel_rfl) (by kernel_rfl) (fun _ _ _ h => h) (Or.inl ⟨by rfl, ?_⟩) (by assumption) ?_
        rotate_left
        · intro w hSw; (try dsimp only at hSw); go_simp; try (with_reducible rfl)
        try go_simp
        refine wpAnyH_ready (rs := [18, 20]) (by kernel_rfl) (by simp) ?_
        refine AllReadyH.cons rfl (fun K hK => ?_) (AllReadyH.cons rfl (fun K hK => ?_) AllReadyH.nil)
        · go_simp
          ((refine (instant_any b4 _ (by omega)).mono ?_); rintro x v3 ⟨rfl, hbk3⟩)
          rw [HT.out]
          have hB3 := below_then hB1 hbk3
          have hS := HF5.out.below hB3
          refine hK.out _ _ hS (fun hHeld => ?_)
          clear hK K hS hbk3
          try go_simp
          refine wpAnyH_take (i := 19) (v := ?_) rfl (by kernel_rfl) (by kernel_rfl) (by kernel_rfl) (fun _ _ _ h => h) (Or.inl ⟨by rfl, ?_⟩) (by assumption) ?_
          rotate_left
          · intro w hSw; (try dsimp only at hSw); go_simp; try (with_reducible rfl)
          try go_simp
          refine wpAnyH_ready (rs := [20]) (by kernel_rfl) (by simp) ?_
          refine AllReadyH.cons rfl (fun K hK => ?_) AllReadyH.nil
          · go_simp
            have hB4 := below_then hB3 (below_alloc (v3) (.cells #[.string ⟨#[]⟩, .string ⟨#[]⟩, .string ⟨#[]⟩, .int .i64 0, .int .i64 0, .slice none 0 0] 24))
            have hEB4 := (show EB ((v3).alloc (.cells #[.string ⟨#[]⟩, .string ⟨#[]⟩, .string ⟨#[]⟩, .int .i64 0, .int .i64 0, .slice none 0 0] 24)) (v3).heap.size ev0 none 0 0 from EB.new (v3) ev0 none 0 0)
            have hE4 : w1.heap.size ≤ (v3).heap.size := (hB3).size
            have hS := HF5.out.below hB4
            refine hK.out _ _ hS (fun hHeld => ?_)
            clear hK K hS
            try go_simp
            generalize (v3).alloc (.cells #[.string ⟨#[]⟩, .string ⟨#[]⟩, .string ⟨#[]⟩, .int .i64 0, .int .i64 0, .slice none 0 0] 24) = u4 at hB4 hEB4 hHeld ⊢
            obtain ⟨x0, x1, x2, x3, x4, x5⟩ := (hEB4).cells
            obtain ⟨y0, y1, y2, y3, y4, y5⟩ := (hEB4).fr
            simp only [ev0] at x0 x1 x2 x3 x4 x5
            refine wpAnyH_ready (rs := [21]) (by kernel_rfl) (by simp) ?_
            refine AllReadyH.cons rfl (fun K hK => ?_) AllReadyH.nil
            go_simp
            have hBs := bset6 hB4 hE4 (.string b0) (.string b1) (.string b2) (.int .i64 (1 + I0)) (.int .i64 T) (.slice none 0 0)
            have hS := HF5.out.below hBs
            refine hK.out _ _ hS (fun hHeld => ?_)
            clear hK K hS
            refine wpAnyH_done (by kernel_rfl) ?_ _
            go_wp2_with fail
            go_meet
            exact ⟨_, rfl, hE4, by rw [HT.out]; exact (hEB4).set b0 b1 b2 (1 + I0) T none 0 0 [], hBs⟩
        · go_simp
          have hB6 := below_then hB1 (below_alloc (v2) (.cells #[.string ⟨#[]⟩, .string ⟨#[]⟩, .string ⟨#[]⟩, .int .i64 0, .int .i64 0, .slice none 0 0] 24))
          have hEB6 := (show EB ((v2).alloc (.cells #[.string ⟨#[]⟩, .string ⟨#[]⟩, .string ⟨#[]⟩, .int .i64 0, .int .i64 0, .slice none 0 0] 24)) (v2).heap.size ev0 none 0 0 from EB.new (v2) ev0 none 0 0)
          have hE6 : w1.heap.size ≤ (v2).heap.size := (hB1).size
          have hS := HF5.out.below hB6
          refine hK.out _ _ hS (fun hHeld => ?_)
          clear hK K hS
          try go_simp
          generalize (v2).alloc (.cells #[.string ⟨#[]⟩, .string ⟨#[]⟩, .string ⟨#[]⟩, .int .i64 0, .int .i64 0, .slice none 0 0] 24) = u6 at hB6 hEB6 hHeld ⊢
          refine wpAnyH_ready (rs := [18]) (by kernel_rfl) (by simp) ?_
          refine AllReadyH.cons rfl (fun K hK => ?_) AllReadyH.nil
          · go_simp
            ((refine (instant_any b4 _ (by omega)).mono ?_); rintro x v7 ⟨rfl, hbk7⟩)
            rw [HT.out]
            have hB7 := below_then hB6 hbk7
            have hEB7 := (hEB6).below hbk7
            have hS := HF5.out.below hB7
            refine hK.out _ _ hS (fun hHeld => ?_)
            clear hK K hS hbk7
            try go_simp
            refine wpAnyH_take (i := 19) (v := ?_) rfl (by kernel_rfl) (by kernel_rfl) (by kernel_rfl) (fun _ _ _ h => h) (Or.inl ⟨by rfl, ?_⟩) (by assumption) ?_
            rotate_left
            · intro w hSw; (try dsimp only at hSw); go_simp; try (with_reducible rfl)
            try go_simp
            obtain ⟨x0, x1, x2, x3, x4, x5⟩ := (hEB7).cells
            obtain ⟨y0, y1, y2, y3, y4, y5⟩ := (hEB7).fr
            simp only [ev0] at x0 x1 x2 x3 x4 x5
            refine wpAnyH_ready (rs := [21]) (by kernel_rfl) (by simp) ?_
            refine AllReadyH.cons rfl (fun K hK => ?_) AllReadyH.nil
            go_simp
            have hBs := bset6 hB7 hE6 (.string b0) (.string b1) (.string b2) (.int .i64 (1 + I0)) (.int .i64 T) (.slice none 0 0)
            have hS := HF5.out.below hBs
            refine hK.out _ _ hS (fun hHeld => ?_)
            clear hK K hS
            refine wpAnyH_done (by kernel_rfl) ?_ _
            go_wp2_with fail
            go_meet
            exact ⟨_, rfl, hE6, by rw [HT.out]; exact (hEB7).set b0 b1 b2 (1 + I0) T none 0 0 [], hBs⟩
      · go_simp
        have hB9 := below_then hB1 (below_alloc (v1) (.cells #[.string ⟨#[]⟩, .string ⟨#[]⟩, .string ⟨#[]⟩, .int .i64 0, .int .i64 0, .slice none 0 0] 24))
        have hEB9 := (show EB ((v1).alloc (.cells #[.string ⟨#[]⟩, .string ⟨#[]⟩, .string ⟨#[]⟩, .int .i64 0, .int .i64 0, .slice none 0 0] 24)) (v1).heap.size ev0 none 0 0 from EB.new (v1) ev0 none 0 0)
        have hE9 : w1.heap.size ≤ (v1).heap.size := (hB1).size
        have cg9 := fun n h1 h6 => cell_stays (below_alloc (v1) (.cells #[.string ⟨#[]⟩, .string ⟨#[]⟩, .string ⟨#[]⟩, .int .i64 0, .int .i64 0, .slice none 0 0] 24)) (cg1 n h1 h6)
        have hS := HF5.out.below hB9
        refine hK.out _ _ hS (fun hHeld => ?_)
        clear hK K hS
        try go_simp
        generalize (v1).alloc (.cells #[.string ⟨#[]⟩, .string ⟨#[]⟩, .string ⟨#[]⟩, .int .i64 0, .int .i64 0, .slice none 0 0] 24) = u9 at hB9 hEB9 hHeld cg9 ⊢
        refine wpAnyH_ready (rs := [13]) (by kernel_rfl) (by simp) ?_
        refine AllReadyH.cons rfl (fun K hK => ?_) AllReadyH.nil
        · go_simp
          ((refine (Tryz.slices_Index_string g1 0 6 6 wordsL b3 _ (by decide) (by omega) (wd_cells cg9)).mono ?_); rintro x v10 ⟨rfl, rfl⟩)
          rw [← HI0.out]
          have hS := HF5.out.below hB9
          refine hK.out _ _ hS (fun hHeld => ?_)
          clear hK K hS
          try go_simp
          refine wpAnyH_take (i := 14) (v := ?_) rfl (by kernel_rfl) (by kernel_rfl) (by kernel_rfl) (fun _ _ _ h => h) (Or.inl ⟨by rfl, ?_⟩) (by assumption) ?_
          rotate_left
          · intro w hSw; (try dsimp only at hSw); go_simp; try (with_reducible rfl)
          try go_simp
          refine wpAnyH_ready (rs := [18]) (by kernel_rfl) (by simp) ?_
          refine AllReadyH.cons rfl (fun K hK => ?_) AllReadyH.nil
          · go_simp
            ((refine (instant_any b4 _ (by omega)).mono ?_); rintro x v11 ⟨rfl, hbk11⟩)
            rw [HT.out]
            have hB11 := below_then hB9 hbk11
            have hEB11 := (hEB9).below hbk11
            have hS := HF5.out.below hB11
            refine hK.out _ _ hS (fun hHeld => ?_)
            clear hK K hS hbk11
            try go_simp
            refine wpAnyH_take (i := 19) (v := ?_) rfl (by kernel_rfl) (by kernel_rfl) (by kernel_rfl) (fun _ _ _ h => h) (Or.inl ⟨by rfl, ?_⟩) (by assumption) ?_
            rotate_left
            · intro w hSw; (try dsimp only at hSw); go_simp; try (with_reducible rfl)
            try go_simp
            obtain ⟨x0, x1, x2, x3, x4, x5⟩ := (hEB11).cells
            obtain ⟨y0, y1, y2, y3, y4, y5⟩ := (hEB11).fr
            simp only [ev0] at x0 x1 x2 x3 x4 x5
            refine wpAnyH_ready (rs := [21]) (by kernel_rfl) (by simp) ?_
            refine AllReadyH.cons rfl (fun K hK => ?_) AllReadyH.nil
            go_simp
            have hBs := bset6 hB11 hE9 (.string b0) (.string b1) (.string b2) (.int .i64 (1 + I0)) (.int .i64 T) (.slice none 0 0)
            have hS := HF5.out.below hBs
            refine hK.out _ _ hS (fun hHeld => ?_)
            clear hK K hS
            refine wpAnyH_done (by kernel_rfl) ?_ _
            go_wp2_with fail
            go_meet
            exact ⟨_, rfl, hE9, by rw [HT.out]; exact (hEB11).set b0 b1 b2 (1 + I0) T none 0 0 [], hBs⟩
    · go_simp
      have hB13 : Below w1.heap.size w1 ((w1.alloc (.cells #[.string ⟨#[]⟩, .string ⟨#[]⟩, .string ⟨#[]⟩, .int .i64 0, .int .i64 0, .slice none 0 0] 24)).drew) := (below_alloc w1 (.cells #[.string ⟨#[]⟩, .string ⟨#[]⟩, .string ⟨#[]⟩, .int .i64 0, .int .i64 0, .slice none 0 0] 24)).drew
      have hEB13 := (show EB ((w1.alloc (.cells #[.string ⟨#[]⟩, .string ⟨#[]⟩, .string ⟨#[]⟩, .int .i64 0, .int .i64 0, .slice none 0 0] 24)).drew) w1.heap.size ev0 none 0 0 from EB.new w1 ev0 none 0 0)
      have hE13 : w1.heap.size ≤ w1.heap.size := Nat.le_refl _
      have hS := HF5.out.below hB13
      refine hK.out _ _ hS (fun hHeld => ?_)
      clear hK K hS
      try go_simp
      generalize (w1.alloc (.cells #[.string ⟨#[]⟩, .string ⟨#[]⟩, .string ⟨#[]⟩, .int .i64 0, .int .i64 0, .slice none 0 0] 24)).drew = u13 at hB13 hEB13 hHeld ⊢
      refine wpAnyH_ready (rs := [9]) (by kernel_rfl) (by simp) ?_
      refine AllReadyH.cons rfl (fun K hK => ?_) AllReadyH.nil
      · go_simp
        ((refine (ewords_any _).mono ?_); rintro x v14 ⟨g14, rfl, hg14, cg14, hbk14⟩)
        have hB14 := below_then hB13 hbk14
        have hEB14 := (hEB13).below hbk14
        have hS := HF5.out.below hB14
        refine hK.out _ _ hS (fun hHeld => ?_)
        clear hK K hS hbk14
        try go_simp
        refine wpAnyH_ready (rs := [13]) (by kernel_rfl) (by simp) ?_
        refine AllReadyH.cons rfl (fun K hK => ?_) AllReadyH.nil
        · go_simp
          ((refine (Tryz.slices_Index_string g14 0 6 6 wordsL b3 _ (by decide) (by omega) (wd_cells cg14)).mono ?_); rintro x v15 ⟨rfl, rfl⟩)
          rw [← HI0.out]
          have hS := HF5.out.below hB14
          refine hK.out _ _ hS (fun hHeld => ?_)
          clear hK K hS
          try go_simp
          refine wpAnyH_take (i := 14) (v := ?_) rfl (by kernel_rfl) (by kernel_rfl) (by kernel_rfl) (fun _ _ _ h => h) (Or.inl ⟨by rfl, ?_⟩) (by assumption) ?_
          rotate_left
          · intro w hSw; (try dsimp only at hSw); go_simp; try (with_reducible rfl)
          try go_simp
          refine wpAnyH_ready (rs := [18]) (by kernel_rfl) (by simp) ?_
          refine AllReadyH.cons rfl (fun K hK => ?_) AllReadyH.nil
          · go_simp
            ((refine (instant_any b4 _ (by omega)).mono ?_); rintro x v16 ⟨rfl, hbk16⟩)
            rw [HT.out]
            have hB16 := below_then hB14 hbk16
            have hEB16 := (hEB14).below hbk16
            have hS := HF5.out.below hB16
            refine hK.out _ _ hS (fun hHeld => ?_)
            clear hK K hS hbk16
            try go_simp
            refine wpAnyH_take (i := 19) (v := ?_) rfl (by kernel_rfl) (by kernel_rfl) (by kernel_rfl) (fun _ _ _ h => h) (Or.inl ⟨by rfl, ?_⟩) (by assumption) ?_
            rotate_left
            · intro w hSw; (try dsimp only at hSw); go_simp; try (with_reducible rfl)
            try go_simp
            obtain ⟨x0, x1, x2, x3, x4, x5⟩ := (hEB16).cells
            obtain ⟨y0, y1, y2, y3, y4, y5⟩ := (hEB16).fr
            simp only [ev0] at x0 x1 x2 x3 x4 x5
            refine wpAnyH_ready (rs := [21]) (by kernel_rfl) (by simp) ?_
            refine AllReadyH.cons rfl (fun K hK => ?_) AllReadyH.nil
            go_simp
            have hBs := bset6 hB16 hE13 (.string b0) (.string b1) (.string b2) (.int .i64 (1 + I0)) (.int .i64 T) (.slice none 0 0)
            have hS := HF5.out.below hBs
            refine hK.out _ _ hS (fun hHeld => ?_)
            clear hK K hS
            refine wpAnyH_done (by kernel_rfl) ?_ _
            go_wp2_with fail
            go_meet
            exact ⟨_, rfl, hE13, by rw [HT.out]; exact (hEB16).set b0 b1 b2 (1 + I0) T none 0 0 [], hBs⟩
  case rest =>
    obtain ⟨E, rfl, hE, hEB, hBx⟩ := hcut
    have HF0 := Lib.hid (show FSt w1 wc E ⟨b0, b1, b2, 1 + I0, instG 0 b4.data.toList, []⟩ none 0 from ⟨hEB, World.ownsRow_nil _ _ _ _, hBx, hE, fun f hf => by cases hf⟩)
    rw [HLI.out] at HYES
    generalize instG 0 b4.data.toList = T at *
    generalize hR : fieldsA rest [] = R at *
    have HR := Lib.hid hR
    clear hEB hBx hR HF5 HI0 HLI
    have m5 : (5 : Int) ≤ (m : Int) + 5 := by omega
    by_cases hc5 : cap = 5
    · obtain rfl : m = 0 := by omega
      subst hc5
      go_wp2_with fail
      go_loopg [56] (0) (fun g i wr => ∃ (k : Nat) (d : List Fd) (A : Option Addr) (c : Nat), k + g = 0 ∧ i = .int .i64 k ∧ d.length = k ∧ fieldsA (rest.drop k) d = R ∧ FSt w1 wr E ⟨b0, b1, b2, 1 + I0, T, d⟩ A c)
      case atStart => exact ⟨0, [], none, 0, by omega, rfl, rfl, HR.out, HF0.out⟩
      case round =>
        obtain ⟨k, d, A, c, hk, rfl, hdl, hRk, hS⟩ := hrel
        clear HF0
        obtain rfl : k = 0 := by omega
        have HS := Lib.hid hS
        have hR2 : R = some d := by rw [← hRk, List.drop_eq_nil_of_le (by rw [← HM.out]; exact Nat.le_refl _)]; rfl
        have HEV := Lib.hid (HYES.out d hR2)
        clear hRk hR2 HNO HYES HR
        generalize hev : (⟨b0, b1, b2, 1 + I0, T, d⟩ : Ev) = e at *
        have h0 : e.c = b0 ∧ e.a = b1 ∧ e.r = b2 ∧ e.life = 1 + I0 ∧ e.time = T ∧ e.d = d := by subst hev; exact ⟨rfl, rfl, rfl, rfl, rfl, rfl⟩
        have HPWr := Lib.hid (HPW1.out.below hS.2.2.1)
        obtain ⟨A', c', hv', hfd, _, _, _⟩ := own_fdin hS.2.1
        cases hv'
        have HX := Lib.hid (etext_any e A e.d.length c wr HPWr.out.tb hfd rfl (by rw [h0.2.2.2.2.2]; omega) ⟨by rw [h0.1]; omega, by rw [h0.2.1]; omega, by rw [h0.2.2.1]; omega, fun f hf => by have := hS.2.2.2.2 f hf; omega⟩)
        obtain ⟨x0, x1, x2, x3, x4, x5⟩ := hS.1.cells
        have HE2 := Lib.hid (HE1.out.below hS.2.2.1)
        have HBw := Lib.hid (below_then HB1.out hS.2.2.1)
        clear hfd hS hev h0
        cases hok : e.ok with
        | false =>
          have HRN := Lib.hid (evR_none HSL.out (by rw [HEV.out, hok]; rfl))
          rw [etRet_no hok] at HX
          clear hok HEV
          go_wp2_with fail
          ((with_reducible refine HX.out.mono ?_); rintro x w5 ⟨rfl, hb5⟩)
          have HE5 := Lib.hid (HE2.out.below hb5)
          have HB5 := Lib.hid (below_then HBw.out hb5)
          clear hb5 x0 x1 x2 x3 x4 x5
          obtain ⟨c0, c1, c2, c3, c4, c5⟩ := HE5.out.cells
          obtain ⟨f0, f1, f2, f3, f4, f5⟩ := HE5.out.fr
          simp only [ev0] at c0 c1 c2 c3 c4 c5
          go_wp2_with fail
          exact bodyPost_ret (v := .tuple #[.agg #[.string ⟨#[]⟩, .string ⟨#[]⟩, .string ⟨#[]⟩, .int .i64 0, .int .i64 0, .slice none 0 0], .int .i64 3]) (by simp [results, Tryz.results11, go_sem, c0, c1, c2, c3, c4, c5]) rfl (EpPost.err HRN.out rfl (bset6 HB5.out (Nat.le_refl _) _ _ _ _ _ _))
        | true =>
          rw [etRet_yes hok] at HX
          by_cases htx : e.tx = s.data.toList
          · have HRN := Lib.hid (evR_some HSL.out (show evP s.data.toList = some e by rw [HEV.out, if_pos hok, if_pos htx]))
            rw [htx, show (⟨s.data.toList.toArray⟩ : ByteArray) = s from rfl] at HX
            clear hok HEV htx
            go_wp2_with fail
            ((with_reducible refine HX.out.mono ?_); rintro x w5 ⟨rfl, hb5⟩)
            have HE5 := Lib.hid (HE2.out.below hb5)
            have HB5 := Lib.hid (below_then HBw.out hb5)
            have HS5 := Lib.hid (HS.out.below hb5)
            clear hb5 x0 x1 x2 x3 x4 x5
            obtain ⟨c0, c1, c2, c3, c4, c5⟩ := HE5.out.cells
            obtain ⟨f0, f1, f2, f3, f4, f5⟩ := HE5.out.fr
            obtain ⟨x0, x1, x2, x3, x4, x5⟩ := HS5.out.1.cells
            simp only [ev0] at c0 c1 c2 c3 c4 c5
            have hEw : w.heap.size < E + 1 := by omega
            have HO6 := Lib.hid (own_set6 HS5.out.2.1 hEw (.string e.c) (.string e.a) (.string e.r) (.int .i64 e.life) (.int .i64 e.time) (.slice A e.d.length c))
            clear hEw
            go_wp2_with fail
            obtain ⟨A', c', hv', hfd, _, _, _⟩ := own_fdin HO6.out
            cases hv'
            exact bodyPost_ret (v := .tuple #[.agg #[.string e.c, .string e.a, .string e.r, .int .i64 e.life, .int .i64 e.time, .slice A e.d.length c], .int .i64 0]) (by simp [results, Tryz.results11, go_sem, c0, c1, c2, c3, c4, c5]) rfl (EpPost.ok HRN.out rfl hfd (bset6 HB5.out (Nat.le_refl _) _ _ _ _ _ _))
          · have HRN := Lib.hid (evR_none HSL.out (show evP s.data.toList = none by rw [HEV.out, if_pos hok, if_neg htx]))
            obtain ⟨y, hy⟩ : ∃ y : ByteArray, y = ⟨e.tx.toArray⟩ := ⟨_, rfl⟩
            have b4 := str_ne y s (by rw [hy]; exact htx)
            rw [← hy] at HX
            clear hok HEV htx hy
            go_wp2_with fail
            ((with_reducible refine HX.out.mono ?_); rintro x w5 ⟨rfl, hb5⟩)
            have HE5 := Lib.hid (HE2.out.below hb5)
            have HB5 := Lib.hid (below_then HBw.out hb5)
            clear hb5 x0 x1 x2 x3 x4 x5
            obtain ⟨c0, c1, c2, c3, c4, c5⟩ := HE5.out.cells
            obtain ⟨f0, f1, f2, f3, f4, f5⟩ := HE5.out.fr
            simp only [ev0] at c0 c1 c2 c3 c4 c5
            go_wp2_with fail
            exact bodyPost_ret (v := .tuple #[.agg #[.string ⟨#[]⟩, .string ⟨#[]⟩, .string ⟨#[]⟩, .int .i64 0, .int .i64 0, .slice none 0 0], .int .i64 3]) (by simp [results, Tryz.results11, go_sem, c0, c1, c2, c3, c4, c5]) rfl (EpPost.err HRN.out rfl (bset6 HB5.out (Nat.le_refl _) _ _ _ _ _ _))
    · have hc6 : ¬ (cap : Int) = 5 := by omega
      have hc7 : 5 < cap := by omega
      go_wp2_with fail
      go_loopg [56] (m) (fun g i wr => ∃ (k : Nat) (d : List Fd) (A : Option Addr) (c : Nat), k + g = m ∧ i = .int .i64 k ∧ d.length = k ∧ fieldsA (rest.drop k) d = R ∧ FSt w1 wr E ⟨b0, b1, b2, 1 + I0, T, d⟩ A c)
      case atStart => exact ⟨0, [], none, 0, by omega, rfl, rfl, HR.out, HF0.out⟩
      case round =>
        obtain ⟨k, d, A, c, hk, rfl, hdl, hRk, hS⟩ := hrel
        clear HF0
        by_cases hlt : k < m
        · skip
          have HK := Lib.hid hk
          have HRk := Lib.hid hRk
          have HDL := Lib.hid hdl
          have hdk : d.length ≤ 1000 := by omega
          have HS := Lib.hid hS
          have hlt' : k < rest.length := by rw [← HM.out]; exact hlt
          have hcell := cell_stays hS.2.2.1 (HFR.out k hlt')
          have HD := Lib.hid (drop_at2 rest k hlt')
          have hzy := HZ.out _ (List.getElem_mem hlt')
          obtain ⟨y, hy⟩ : ∃ y : ByteArray, rest[k] = y.data.toList := ⟨⟨rest[k].toArray⟩, rfl⟩
          rw [hy] at hcell HD hzy
          rw [HD.out] at HRk
          rw [len_byte] at hzy
          obtain ⟨p1, p2, fb, hct⟩ : ∃ (p1 p2 : ByteArray) (fb : Bool), Lib.cut y.data.toList (⟨#[61]⟩ : ByteArray).data.toList = (p1.data.toList, p2.data.toList, fb) := ⟨⟨(Lib.cut y.data.toList (⟨#[61]⟩ : ByteArray).data.toList).1.toArray⟩, ⟨(Lib.cut y.data.toList (⟨#[61]⟩ : ByteArray).data.toList).2.1.toArray⟩, _, rfl⟩
          have hcl := cut_len y.data.toList (⟨#[61]⟩ : ByteArray).data.toList
          rw [hct, len_byte] at hcl
          simp only [len_byte] at hcl
          obtain ⟨hcl1, hcl2⟩ := hcl
          have HCT := Lib.hid (fun m w hm => (show Calls Tryz.prog 42 #[.string y, .string ⟨#[61]⟩] w (fun e w' => e = .returned (.tuple #[.string p1, .string p2, .bool fb]) ∧ ∃ n, w' = w.drewN n) by have := Tryz.strings_Cut y ⟨#[61]⟩ m w (by omega) hm; rw [hct] at this; exact this))
          have hct2 : Lib.cut y.data.toList [61] = (p1.data.toList, p2.data.toList, fb) := hct
          have HPWr := Lib.hid (HPW1.out.below hS.2.2.1)
          obtain ⟨mx, hmx⟩ := HPWr.out.2.1
          have HMX := Lib.hid (HCT.out mx wr hmx)
          clear hk hRk hS hdl hlt' hy hmx HCT hct HD
          have hk5 : 5 + k < m + 5 := by omega
          have hkc : 5 + k < cap := by omega
          go_wp2_with fail
          ((with_reducible refine HMX.out.mono ?_); rintro x w2 ⟨rfl, nq, hw2⟩)
          have hb2 : Below wr.heap.size wr w2 := by rw [hw2]; exact below_drewN wr nq
          have HS2 := Lib.hid (HS.out.below hb2)
          have HPW2 := Lib.hid (HPWr.out.below hb2)
          clear hw2 hb2 hcell HS HPWr
          have HV := Lib.hid (vparse_any p2 w2 (by omega) HPW2.out)
          cases hv : valP p2.data.toList with
          | none =>
            have HRN := Lib.hid (HNO.out (by rw [← HRk.out]; exact fieldsA_none _ _ _ (by rw [hct2]; exact hv)))
            rw [hv] at HV
            clear hv
            go_wp2_with fail
            ((with_reducible refine HV.out.mono ?_); rintro x w3 ⟨hx, hb3⟩)
            have hx' : x = .returned (.tuple #[.agg #[.int .i64 0, .int .i64 0, .string ⟨#[]⟩], .int .i64 3]) := hx
            clear hx; subst hx'
            have HS3 := Lib.hid (HS2.out.below hb3)
            have HE3 := Lib.hid (HE1.out.below HS3.out.2.2.1)
            have HB3 := Lib.hid (below_then HB1.out HS3.out.2.2.1)
            have hz3 := HE3.out.lt
            clear hb3
            obtain ⟨c0, c1, c2, c3, c4, c5⟩ := HE3.out.cells
            obtain ⟨f0, f1, f2, f3, f4, f5⟩ := HE3.out.fr
            simp only [ev0] at c0 c1 c2 c3 c4 c5
            go_wp2_with fail
            exact bodyPost_ret (v := .tuple #[.agg #[.string ⟨#[]⟩, .string ⟨#[]⟩, .string ⟨#[]⟩, .int .i64 0, .int .i64 0, .slice none 0 0], .int .i64 3]) (by simp [results, Tryz.results11, go_sem, c0, c1, c2, c3, c4, c5, hz3]) rfl (EpPost.err HRN.out rfl ((bset6 HB3.out (Nat.le_refl _) _ _ _ _ _ _).alloc (by simp; omega) _))
          | some v =>
            have HRS := Lib.hid (show fieldsA (rest.drop (k + 1)) (d ++ [⟨p1, v⟩]) = R by rw [← HRk.out, fieldsA_some _ _ _ v (by rw [hct2]; exact hv), hct2])
            have hvs := val_small _ (valP_some _ _ hv).1
            rw [hv] at HV
            clear hv
            go_wp2_with fail
            ((with_reducible refine HV.out.mono ?_); rintro x w3 ⟨hx, hb3⟩)
            have hx' : x = .returned (.tuple #[.agg #[.int .i64 v.k, .int .i64 v.n, .string v.s], .int .i64 0]) := hx
            clear hx; subst hx'
            have HS3 := Lib.hid (HS2.out.below hb3)
            clear hb3
            obtain ⟨c0, c1, c2, c3, c4, c5⟩ := HS3.out.1.cells
            have hz3 := HS3.out.1.lt
            have HOW := Lib.hid HS3.out.2.1
            simp only at c0 c1 c2 c3 c4 c5 HOW
            go_wp2_with (at_builtin; refine wpList_append_own _ rfl _ _ 22 rfl (E + 1) 49 i0 (.agg #[.string ⟨#[]⟩, .int .i64 0, .int .i64 0, .string ⟨#[]⟩]) 4 48 Tryz.underlying22 HI.out.1 HI.out.2.1 HI.out.2.2.1 HI.out.2.2.2 rfl (by decide) (.slice A d.length c) _ _ rfl ((HOW.out.alloc _).alloc _) ⟨w3.heap.size + 1, 0, none⟩ 1 1 [.string p1, .int .i64 v.k, .int .i64 v.n, .string v.s] rfl rfl ?c1 ?c2 ?c3 ?c4 ?c5 ?_)
            case c1 =>
              intro j u hj
              match j, hj with
              | 0, hj => simp at hj; subst hj; simp [Addr.add]
              | 1, hj => simp at hj; subst hj; simp [Addr.add]
              | 2, hj => simp at hj; subst hj; simp [Addr.add]
              | 3, hj => simp at hj; subst hj; simp [Addr.add]
              | j + 4, hj => simp at hj
            case c2 => intro u hu; simp at hu; rcases hu with rfl | rfl | rfl | rfl <;> rfl
            case c3 => unfold maxLen; omega
            case c4 => omega
            case c5 => simp; omega
            intro v' w5 hown5 hgrow5 _
            obtain ⟨A', c', rfl, hE5, hS6⟩ := HS3.out.push ⟨p1, v⟩ (show p1.size ≤ 16384 ∧ v.s.size ≤ 16384 by omega) hown5 hgrow5
            have HS6 := Lib.hid hS6
            obtain ⟨x0, x1, x2, x3, x4, x5⟩ := hE5.cells
            obtain ⟨y0, y1, y2, y3, y4, y5⟩ := hE5.fr
            simp only at x0 x1 x2 x3 x4 x5
            clear hown5 hgrow5 hS6 hE5 c0 c1 c2 c3 c4 c5
            go_wp2_with fail
            go_roundg (gk - 1)
            case measure => have := HK.out; omega
            case rel => exact ⟨k + 1, d ++ [⟨p1, v⟩], A', c', by have := HK.out; omega, by go_num, by rw [List.length_append, HDL.out]; rfl, HRS.out, HS6.out⟩
        · skip
          obtain rfl : k = m := by omega
          have HS := Lib.hid hS
          have hR2 : R = some d := by rw [← hRk, List.drop_eq_nil_of_le (by rw [← HM.out]; exact Nat.le_refl _)]; rfl
          have HEV := Lib.hid (HYES.out d hR2)
          clear hRk hR2 HNO HYES HR
          generalize hev : (⟨b0, b1, b2, 1 + I0, T, d⟩ : Ev) = e at *
          have h0 : e.c = b0 ∧ e.a = b1 ∧ e.r = b2 ∧ e.life = 1 + I0 ∧ e.time = T ∧ e.d = d := by subst hev; exact ⟨rfl, rfl, rfl, rfl, rfl, rfl⟩
          have HPWr := Lib.hid (HPW1.out.below hS.2.2.1)
          obtain ⟨A', c', hv', hfd, _, _, _⟩ := own_fdin hS.2.1
          cases hv'
          have HX := Lib.hid (etext_any e A e.d.length c wr HPWr.out.tb hfd rfl (by rw [h0.2.2.2.2.2]; omega) ⟨by rw [h0.1]; omega, by rw [h0.2.1]; omega, by rw [h0.2.2.1]; omega, fun f hf => by have := hS.2.2.2.2 f hf; omega⟩)
          obtain ⟨x0, x1, x2, x3, x4, x5⟩ := hS.1.cells
          have HE2 := Lib.hid (HE1.out.below hS.2.2.1)
          have HBw := Lib.hid (below_then HB1.out hS.2.2.1)
          clear hfd hS hev h0
          cases hok : e.ok with
          | false =>
            have HRN := Lib.hid (evR_none HSL.out (by rw [HEV.out, hok]; rfl))
            rw [etRet_no hok] at HX
            clear hok HEV
            go_wp2_with fail
            ((with_reducible refine HX.out.mono ?_); rintro x w5 ⟨rfl, hb5⟩)
            have HE5 := Lib.hid (HE2.out.below hb5)
            have HB5 := Lib.hid (below_then HBw.out hb5)
            clear hb5 x0 x1 x2 x3 x4 x5
            obtain ⟨c0, c1, c2, c3, c4, c5⟩ := HE5.out.cells
            obtain ⟨f0, f1, f2, f3, f4, f5⟩ := HE5.out.fr
            simp only [ev0] at c0 c1 c2 c3 c4 c5
            go_wp2_with fail
            exact bodyPost_ret (v := .tuple #[.agg #[.string ⟨#[]⟩, .string ⟨#[]⟩, .string ⟨#[]⟩, .int .i64 0, .int .i64 0, .slice none 0 0], .int .i64 3]) (by simp [results, Tryz.results11, go_sem, c0, c1, c2, c3, c4, c5]) rfl (EpPost.err HRN.out rfl (bset6 HB5.out (Nat.le_refl _) _ _ _ _ _ _))
          | true =>
            rw [etRet_yes hok] at HX
            by_cases htx : e.tx = s.data.toList
            · have HRN := Lib.hid (evR_some HSL.out (show evP s.data.toList = some e by rw [HEV.out, if_pos hok, if_pos htx]))
              rw [htx, show (⟨s.data.toList.toArray⟩ : ByteArray) = s from rfl] at HX
              clear hok HEV htx
              go_wp2_with fail
              ((with_reducible refine HX.out.mono ?_); rintro x w5 ⟨rfl, hb5⟩)
              have HE5 := Lib.hid (HE2.out.below hb5)
              have HB5 := Lib.hid (below_then HBw.out hb5)
              have HS5 := Lib.hid (HS.out.below hb5)
              clear hb5 x0 x1 x2 x3 x4 x5
              obtain ⟨c0, c1, c2, c3, c4, c5⟩ := HE5.out.cells
              obtain ⟨f0, f1, f2, f3, f4, f5⟩ := HE5.out.fr
              obtain ⟨x0, x1, x2, x3, x4, x5⟩ := HS5.out.1.cells
              simp only [ev0] at c0 c1 c2 c3 c4 c5
              have hEw : w.heap.size < E + 1 := by omega
              have HO6 := Lib.hid (own_set6 HS5.out.2.1 hEw (.string e.c) (.string e.a) (.string e.r) (.int .i64 e.life) (.int .i64 e.time) (.slice A e.d.length c))
              clear hEw
              go_wp2_with fail
              obtain ⟨A', c', hv', hfd, _, _, _⟩ := own_fdin HO6.out
              cases hv'
              exact bodyPost_ret (v := .tuple #[.agg #[.string e.c, .string e.a, .string e.r, .int .i64 e.life, .int .i64 e.time, .slice A e.d.length c], .int .i64 0]) (by simp [results, Tryz.results11, go_sem, c0, c1, c2, c3, c4, c5]) rfl (EpPost.ok HRN.out rfl hfd (bset6 HB5.out (Nat.le_refl _) _ _ _ _ _ _))
            · have HRN := Lib.hid (evR_none HSL.out (show evP s.data.toList = none by rw [HEV.out, if_pos hok, if_neg htx]))
              obtain ⟨y, hy⟩ : ∃ y : ByteArray, y = ⟨e.tx.toArray⟩ := ⟨_, rfl⟩
              have b4 := str_ne y s (by rw [hy]; exact htx)
              rw [← hy] at HX
              clear hok HEV htx hy
              go_wp2_with fail
              ((with_reducible refine HX.out.mono ?_); rintro x w5 ⟨rfl, hb5⟩)
              have HE5 := Lib.hid (HE2.out.below hb5)
              have HB5 := Lib.hid (below_then HBw.out hb5)
              clear hb5 x0 x1 x2 x3 x4 x5
              obtain ⟨c0, c1, c2, c3, c4, c5⟩ := HE5.out.cells
              obtain ⟨f0, f1, f2, f3, f4, f5⟩ := HE5.out.fr
              simp only [ev0] at c0 c1 c2 c3 c4 c5
              go_wp2_with fail
              exact bodyPost_ret (v := .tuple #[.agg #[.string ⟨#[]⟩, .string ⟨#[]⟩, .string ⟨#[]⟩, .int .i64 0, .int .i64 0, .slice none 0 0], .int .i64 3]) (by simp [results, Tryz.results11, go_sem, c0, c1, c2, c3, c4, c5]) rfl (EpPost.err HRN.out rfl (bset6 HB5.out (Nat.le_refl _) _ _ _ _ _ _))
/-- Parse at every text -/
theorem eparse_any (s : ByteArray) (w : World) (hp : PW w) : Calls Tryz.prog 11 #[.string s] w (EpPost (evR s.data.toList) w) := by
  by_cases h : 16384 < s.size
  · exact eparse_long s w h
  · have h' : s.size ≤ 16384 := by omega
    cases hw : words s.data.toList with
    | error k => exact eparse_bad s w h' k hw
    | ok L =>
      by_cases h5 : L.length < 5
      · exact eparse_short s w h' L hw h5
      · match L, h5, hw with
        | [], h5, _ => simp at h5
        | [_], h5, _ => simp at h5
        | [_, _], h5, _ => simp at h5
        | [_, _, _], h5, _ => simp at h5
        | [_, _, _, _], h5, _ => simp at h5
        | l0 :: l1 :: l2 :: l3 :: l4 :: rest, _, hw => exact eparse_walk s w h' hp ⟨l0.toArray⟩ ⟨l1.toArray⟩ ⟨l2.toArray⟩ ⟨l3.toArray⟩ ⟨l4.toArray⟩ rest hw
end Go.Proofs.YtbbdgncjpbfooaaGreatDoor
