/- Words of a line are no longer than the line; name.Words at every line; blocks of an event that are stored; rows of fields. -/
import Derived.Test.YtbbdgncjpbfooaaGreatDoorEp
namespace Go.Proofs.YtbbdgncjpbfooaaGreatDoor
open Go.RowKit

theorem wordsA_len (M : Nat) (f : Nat) : ∀ (l : List UInt8) (out L : List (List UInt8)), wordsA f l out = .ok L → l.length ≤ M → (∀ t ∈ out, t.length ≤ M) → ∀ t ∈ L, t.length ≤ M := by
  induction f with
  | zero => intro l out L h; rw [wordsA] at h; cases h
  | succ f ih =>
    intro l out L h hl ho
    cases l with
    | nil => rw [wordsA_nil] at h; cases h; exact ho
    | cons c l =>
      simp only [List.length_cons] at hl
      rw [wordsA] at h
      split at h
      · exact ih _ _ _ h (by omega) ho
      · split at h
        · cases hm : litF l with
          | error e => rw [hm] at h; cases h
          | ok x =>
            obtain ⟨t, n⟩ := x
            rw [hm] at h
            simp only at h
            have hln := litF_len _ _ (Nat.le_refl _) _ _ hm
            have ho2 : ∀ u ∈ out ++ [t], u.length ≤ M := by
              intro u hu
              rcases List.mem_append.1 hu with h1 | h1
              · exact ho u h1
              · have : u = t := by simpa using h1
                subst this; omega
            have hdl : (l.drop n).length ≤ M := by rw [List.length_drop]; omega
            cases hd : l.drop n with
            | nil => rw [hd] at h; simp only at h; exact ih _ _ _ h (by simp) ho2
            | cons d r =>
              rw [hd] at h hdl
              simp only at h
              split at h
              · exact ih _ _ _ h hdl ho2
              · cases h
        · split at h
          · cases h
          · refine ih _ _ _ h (by rw [List.length_drop]; simp; omega) (fun u hu => ?_)
            rcases List.mem_append.1 hu with h1 | h1
            · exact ho u h1
            · have e : u = (c :: l).takeWhile isBw := by simpa using h1
              subst e
              have := (List.takeWhile_sublist (p := isBw) (l := c :: l)).length_le
              simp only [List.length_cons] at this
              omega
theorem words_len (l : List UInt8) (L : List (List UInt8)) (h : words l = .ok L) : (∀ t ∈ L, t.length ≤ l.length) ∧ L.length ≤ 1000 := by
  unfold words at h
  split at h
  · cases h
  · split at h
    · cases hw : wordsA (l.length + 1) l [] with
      | error e => rw [hw] at h; cases h
      | ok L' =>
        rw [hw] at h
        unfold wordsX at h
        simp only at h
        split at h
        · cases h
        · cases h
          exact ⟨wordsA_len _ _ _ _ _ hw (Nat.le_refl _) (by simp), by omega⟩
    · cases h
set_option maxHeartbeats 800000 in
theorem nwords_any (s : ByteArray) (w : World) (h : s.size ≤ 16384) : Calls Tryz.prog 39 #[.string s] w (WPost (words s.data.toList) w) := by
  cases hp : s.data.toList.all isPr with
  | true =>
    have e : words s.data.toList = wordsX (wordsA (s.data.toList.length + 1) s.data.toList []) := by
      unfold words; rw [if_neg (by rw [len_byte]; omega), hp]; rfl
    rw [e]; exact words_walk s w h hp
  | false =>
    have e : words s.data.toList = .error 3 := by
      unfold words; rw [if_neg (by rw [len_byte]; omega), hp]; rfl
    have HE := Lib.hid e
    have HP := Lib.hid (nprintable_any s w (by omega))
    rw [hp] at HP
    have q0 : (s.size : Int) ≤ 16384 := by omega
    clear hp e
    go_enter Tryz.func39, Tryz.ntmps39
    go_wp2_with fail
    ((with_reducible refine HP.out.mono ?_); rintro e w1 ⟨rfl, rfl⟩)
    go_wp2_with fail
    go_ret2
    exact WPost.err HE.out rfl (Below.refl _ _)
theorem six_set {w : World} {b : Nat} {T : TypeId} {x0 x1 x2 x3 x4 x5 : Value} (h : w.heap[b]? = some (.cells #[x0, x1, x2, x3, x4, x5] T (0, 0))) (u : Value) :
    (w.setCell ⟨b, 0, none⟩ u).heap[b]? = some (.cells #[u, x1, x2, x3, x4, x5] T (0, 0)) ∧ (w.setCell ⟨b, 1, none⟩ u).heap[b]? = some (.cells #[x0, u, x2, x3, x4, x5] T (0, 0)) ∧ (w.setCell ⟨b, 2, none⟩ u).heap[b]? = some (.cells #[x0, x1, u, x3, x4, x5] T (0, 0)) ∧
    (w.setCell ⟨b, 3, none⟩ u).heap[b]? = some (.cells #[x0, x1, x2, u, x4, x5] T (0, 0)) ∧ (w.setCell ⟨b, 4, none⟩ u).heap[b]? = some (.cells #[x0, x1, x2, x3, u, x5] T (0, 0)) ∧ (w.setCell ⟨b, 5, none⟩ u).heap[b]? = some (.cells #[x0, x1, x2, x3, x4, u] T (0, 0)) := by
  have hlt : b < w.heap.size := (Array.getElem?_eq_some_iff.1 h).1
  have h' : w.heap[b] = .cells #[x0, x1, x2, x3, x4, x5] T (0, 0) := (Array.getElem?_eq_some_iff.1 h).2
  refine ⟨?_, ?_, ?_, ?_, ?_, ?_⟩
  all_goals
    show (w.heap.modify b _)[b]? = _
    rw [Array.getElem?_eq_getElem (by simpa using hlt), Array.getElem_modify_self, h']; rfl
theorem EB.set {w : World} {b : Nat} {e : Ev} {A : Option Addr} {n cap : Nat} (h : EB w b e A n cap) (c a r : ByteArray) (life time : Int) (A' : Option Addr) (n' cap' : Nat) (d : List Fd) :
    EB ((((((w.setCell ⟨b, 0, none⟩ (.string c)).setCell ⟨b, 1, none⟩ (.string a)).setCell ⟨b, 2, none⟩ (.string r)).setCell ⟨b, 3, none⟩ (.int .i64 life)).setCell ⟨b, 4, none⟩ (.int .i64 time)).setCell ⟨b, 5, none⟩ (.slice A' n' cap')) b ⟨c, a, r, life, time, d⟩ A' n' cap' :=
  (six_set (six_set (six_set (six_set (six_set (six_set h (.string c)).1 (.string a)).2.1 (.string r)).2.2.1 (.int .i64 life)).2.2.2.1 (.int .i64 time)).2.2.2.2.1 (.slice A' n' cap')).2.2.2.2.2
theorem EB.set5 {w : World} {b : Nat} {e : Ev} {A : Option Addr} {n cap : Nat} (h : EB w b e A n cap) (A' : Option Addr) (n' cap' : Nat) (d : List Fd) :
    EB (w.setCell ⟨b, 5, none⟩ (.slice A' n' cap')) b ⟨e.c, e.a, e.r, e.life, e.time, d⟩ A' n' cap' := (six_set h (.slice A' n' cap')).2.2.2.2.2
theorem EB.fr {w : World} {b : Nat} {e : Ev} {A : Option Addr} {n cap : Nat} (h : EB w b e A n cap) : w.frozen? ⟨b, 0, none⟩ = false ∧ w.frozen? ⟨b, 1, none⟩ = false ∧ w.frozen? ⟨b, 2, none⟩ = false ∧ w.frozen? ⟨b, 3, none⟩ = false ∧ w.frozen? ⟨b, 4, none⟩ = false ∧ w.frozen? ⟨b, 5, none⟩ = false := by
  unfold EB at h
  simp [World.frozen?, h]
theorem bset6 {B b : Nat} {w0 w : World} (h : Below B w0 w) (hb : B ≤ b) (x0 x1 x2 x3 x4 x5 : Value) :
    Below B w0 ((((((w.setCell ⟨b, 0, none⟩ x0).setCell ⟨b, 1, none⟩ x1).setCell ⟨b, 2, none⟩ x2).setCell ⟨b, 3, none⟩ x3).setCell ⟨b, 4, none⟩ x4).setCell ⟨b, 5, none⟩ x5) :=
  (((((h.setCell (p := ⟨b, 0, none⟩) hb x0).setCell (p := ⟨b, 1, none⟩) hb x1).setCell (p := ⟨b, 2, none⟩) hb x2).setCell (p := ⟨b, 3, none⟩) hb x3).setCell (p := ⟨b, 4, none⟩) hb x4).setCell (p := ⟨b, 5, none⟩) hb x5
/-- the cells of a field -/
def fdC (f : Fd) : List Value := [.string f.nm, .int .i64 f.v.k, .int .i64 f.v.n, .string f.v.s]
theorem fdC_len : ∀ f, (fdC f).length = 4 := fun _ => rfl
theorem fdC_one : ∀ f, ∀ u ∈ fdC f, u.oneCell' = true := by
  intro f u hu
  unfold fdC at hu
  simp at hu
  rcases hu with rfl | rfl | rfl | rfl <;> rfl
theorem fd_of_rd {w : World} {A : Option Addr} {L : List Fd} (h : Rd fdC 4 w A L) : FdIn w A L := by
  intro i hi
  obtain ⟨ad, e, hl, hc⟩ := h i hi
  refine ⟨ad, e, hl, hc 0 _ (by omega) rfl, ?_, ?_, ?_⟩
  · have := hc 1 _ (by omega) rfl; rw [add_at _ _ _ (by omega)] at this; exact this
  · have := hc 2 _ (by omega) rfl; rw [add_at _ _ _ (by omega)] at this; exact this
  · have := hc 3 _ (by omega) rfl; rw [add_at _ _ _ (by omega)] at this; exact this
theorem rd_of_fd {w : World} {A : Option Addr} {L : List Fd} (h : FdIn w A L) : Rd fdC 4 w A L := by
  intro i hi
  obtain ⟨ad, e, hl, c0, c1, c2, c3⟩ := h i hi
  refine ⟨ad, e, hl, fun j u hj hu => ?_⟩
  match j, hj with
  | 0, _ => simp [fdC] at hu; subst hu; exact c0
  | 1, _ => simp [fdC] at hu; subst hu; rw [add_at _ _ _ (by omega)]; exact c1
  | 2, _ => simp [fdC] at hu; subst hu; rw [add_at _ _ _ (by omega)]; exact c2
  | 3, _ => simp [fdC] at hu; subst hu; rw [add_at _ _ _ (by omega)]; exact c3
theorem own_fdin {w : World} {b n : Nat} {v : Value} {L : List Fd} (h : w.ownsRow b 49 4 v n (L.flatMap fdC)) :
    ∃ A cap, v = .slice A n cap ∧ FdIn w A L ∧ L.length = n ∧ n ≤ cap ∧ cap ≤ 9223372036854775807 := by
  obtain ⟨A, cap, h1, h2, h3, h4, h5, _⟩ := own_rd fdC_len (by omega) h
  exact ⟨A, cap, h1, fd_of_rd h5, h2, h3, h4⟩
theorem fdInfo : (Tryz.prog.info? 49).map (fun i => (i.zero, i.size, i.bytes)) = some (some (.agg #[.string ⟨#[]⟩, .int .i64 0, .int .i64 0, .string ⟨#[]⟩]), 4, 48) := by kernel_rfl
theorem life_bound (t : ByteArray) : 0 ≤ lifeI t ∧ lifeI t ≤ 6 := by
  unfold lifeI wordsL Lib.idxOfS
  simp only [Lib.idxFromS]
  split
  · simp
  · split
    · simp
    · split
      · simp
      · split
        · simp
        · split
          · simp
          · split <;> simp
/-- an event without anything -/
def ev0 : Ev := ⟨⟨#[]⟩, ⟨#[]⟩, ⟨#[]⟩, 0, 0, []⟩
/-- what Parse of an event returns -/
def EpPost (R : Except Nat Ev) (w : World) (x : Ending) (w' : World) : Prop := match R with
  | .ok e => ∃ A cap, x = .returned (.tuple #[e.val A cap, .int .i64 0]) ∧ FdIn w' A e.d ∧ Below w.heap.size w w'
  | .error k => x = .returned (.tuple #[ev0.val none 0, .int .i64 (k : Int)]) ∧ Below w.heap.size w w'
theorem EpPost.err {R : Except Nat Ev} {w w' : World} {x : Ending} {k : Nat} (hR : R = .error k) (hx : x = .returned (.tuple #[ev0.val none 0, .int .i64 (k : Int)])) (hb : Below w.heap.size w w') : EpPost R w x w' := by subst hR; exact ⟨hx, hb⟩
theorem EpPost.ok {R : Except Nat Ev} {w w' : World} {x : Ending} {e : Ev} {A : Option Addr} {cap : Nat} (hR : R = .ok e) (hx : x = .returned (.tuple #[e.val A cap, .int .i64 0])) (hf : FdIn w' A e.d) (hb : Below w.heap.size w w') : EpPost R w x w' := by subst hR; exact ⟨A, cap, hx, hf, hb⟩
end Go.Proofs.YtbbdgncjpbfooaaGreatDoor
