/- closed of reference 24: what a call returns. cover.Bounded: what a call returns. Check of reference 24: what a call returns. IndexFunc and ContainsFunc on lists of lists; none, fits of the statements: what a call returns. -/
import Derived.Test.YtkhmngljpfibcaaGreatDoorPUu
import Derived.Test.YtkhmngljpfibcaaGreatDoorPId
import Derived.Sort.OwnSortedInts
namespace Go.Proofs.YtkhmngljpfibcaaGreatDoor
section
open Go.RowKit

def okT (N : Nt) (LL : List (List Int)) (s : List Int) (t : Nat) : Bool := match N.tr[t]? with
 | some x => !canT x s || (decide ((fireV N s (t : Int)).2 = 0) && decide ((fireV N s (t : Int)).1 ∈ LL))
 | none => true
def okS (N : Nt) (LL : List (List Int)) (k : Nat) (s : List Int) : Bool := (List.range k).all (okT N LL s)
def closedB (N : Nt) (M : List Int) (LL : List (List Int)) : Bool := decide (M ∈ LL) && (LL.all (mkB N) && LL.all (okS N LL N.tr.length))
theorem okS_succ (N : Nt) (LL : List (List Int)) (k : Nat) (s : List Int) : okS N LL (k + 1) s = (okS N LL k s && okT N LL s k) := by
 unfold okS; rw [List.range_succ, List.all_append]; simp
theorem okT_can {N : Nt} {LL : List (List Int)} {s : List Int} {t : Nat} {x : Tr} (h : N.tr[t]? = some x) (hc : canT x s = false) : okT N LL s t = true := by
 unfold okT; rw [h]; simp [hc]
theorem okT_fire {N : Nt} {LL : List (List Int)} {s : List Int} {t : Nat} {x : Tr} (h : N.tr[t]? = some x) (hc : canT x s = true) : okT N LL s t = (decide ((fireV N s (t : Int)).2 = 0) && decide ((fireV N s (t : Int)).1 ∈ LL)) := by
 unfold okT; rw [h]; simp [hc]
theorem all_take {α : Type} (f : α → Bool) {L : List α} {k : Nat} (h : k < L.length) : (L.take (k + 1)).all f = ((L.take k).all f && f L[k]) := by
 rw [List.take_succ_eq_append_getElem h, List.all_append]; simp
theorem all_no {α : Type} (f : α → Bool) {L : List α} {x : α} (h : x ∈ L) (hf : f x = false) : L.all f = false := by
 rw [List.all_eq_false]; exact ⟨x, h, by rw [hf]; decide⟩
end
section
open Go.RowKit

def CtB (w : World) (b : Nat) (vs : Array Value) : Prop := w.heap[b]? = some (.cells vs 31 (0, 0))
theorem ct_set {w : World} {b : Nat} {a0 a1 a2 a3 a4 a5 a6 a7 : Value} (h : CtB w b #[a0, a1, a2, a3, a4, a5, a6, a7]) (v0 v1 v2 v3 v4 v5 v6 v7 : Value) :
 CtB ((((((((w.setCell ⟨b, 0, none⟩ v0).setCell ⟨b, 1, none⟩ v1).setCell ⟨b, 2, none⟩ v2).setCell ⟨b, 3, none⟩ v3).setCell ⟨b, 4, none⟩ v4).setCell ⟨b, 5, none⟩ v5).setCell ⟨b, 6, none⟩ v6).setCell ⟨b, 7, none⟩ v7) b #[v0, v1, v2, v3, v4, v5, v6, v7] := by
 unfold CtB at h ⊢;have h0 : (w.setCell ⟨b, 0, none⟩ v0).heap[b]? = some (.cells #[v0, a1, a2, a3, a4, a5, a6, a7] 31 (0, 0)) := by rw [heap_set2 h]; rfl
 have h1 : ((w.setCell ⟨b, 0, none⟩ v0).setCell ⟨b, 1, none⟩ v1).heap[b]? = some (.cells #[v0, v1, a2, a3, a4, a5, a6, a7] 31 (0, 0)) := by rw [heap_set2 h0]; rfl
 have h2 : (((w.setCell ⟨b, 0, none⟩ v0).setCell ⟨b, 1, none⟩ v1).setCell ⟨b, 2, none⟩ v2).heap[b]? = some (.cells #[v0, v1, v2, a3, a4, a5, a6, a7] 31 (0, 0)) := by rw [heap_set2 h1]; rfl
 have h3 : ((((w.setCell ⟨b, 0, none⟩ v0).setCell ⟨b, 1, none⟩ v1).setCell ⟨b, 2, none⟩ v2).setCell ⟨b, 3, none⟩ v3).heap[b]? = some (.cells #[v0, v1, v2, v3, a4, a5, a6, a7] 31 (0, 0)) := by rw [heap_set2 h2]; rfl
 have h4 : (((((w.setCell ⟨b, 0, none⟩ v0).setCell ⟨b, 1, none⟩ v1).setCell ⟨b, 2, none⟩ v2).setCell ⟨b, 3, none⟩ v3).setCell ⟨b, 4, none⟩ v4).heap[b]? = some (.cells #[v0, v1, v2, v3, v4, a5, a6, a7] 31 (0, 0)) := by rw [heap_set2 h3]; rfl
 have h5 : ((((((w.setCell ⟨b, 0, none⟩ v0).setCell ⟨b, 1, none⟩ v1).setCell ⟨b, 2, none⟩ v2).setCell ⟨b, 3, none⟩ v3).setCell ⟨b, 4, none⟩ v4).setCell ⟨b, 5, none⟩ v5).heap[b]? = some (.cells #[v0, v1, v2, v3, v4, v5, a6, a7] 31 (0, 0)) := by rw [heap_set2 h4]; rfl
 have h6 : (((((((w.setCell ⟨b, 0, none⟩ v0).setCell ⟨b, 1, none⟩ v1).setCell ⟨b, 2, none⟩ v2).setCell ⟨b, 3, none⟩ v3).setCell ⟨b, 4, none⟩ v4).setCell ⟨b, 5, none⟩ v5).setCell ⟨b, 6, none⟩ v6).heap[b]? = some (.cells #[v0, v1, v2, v3, v4, v5, v6, a7] 31 (0, 0)) := by rw [heap_set2 h5]; rfl
 have h7 : ((((((((w.setCell ⟨b, 0, none⟩ v0).setCell ⟨b, 1, none⟩ v1).setCell ⟨b, 2, none⟩ v2).setCell ⟨b, 3, none⟩ v3).setCell ⟨b, 4, none⟩ v4).setCell ⟨b, 5, none⟩ v5).setCell ⟨b, 6, none⟩ v6).setCell ⟨b, 7, none⟩ v7).heap[b]? = some (.cells #[v0, v1, v2, v3, v4, v5, v6, v7] 31 (0, 0)) := by rw [heap_set2 h6]; rfl
 exact h7
theorem grown_step {w w1 : World} {b o : Nat} {v : Value} (h : w.grownBy w1 (some b)) : w.grownBy (w1.setCell ⟨b, o, none⟩ v) (some b) := Lib.grownBy_setB h o v
theorem ct_grown (w : World) (b : Nat) (v0 v1 v2 v3 v4 v5 v6 v7 : Value) :
 w.grownBy ((((((((w.setCell ⟨b, 0, none⟩ v0).setCell ⟨b, 1, none⟩ v1).setCell ⟨b, 2, none⟩ v2).setCell ⟨b, 3, none⟩ v3).setCell ⟨b, 4, none⟩ v4).setCell ⟨b, 5, none⟩ v5).setCell ⟨b, 6, none⟩ v6).setCell ⟨b, 7, none⟩ v7) (some b) :=
 grown_step (grown_step (grown_step (grown_step (grown_step (grown_step (grown_step (grown_step (grown_refl w (some b)))))))))
section
variable {w w' : World} {b : Nat} {a0 a1 a2 a3 a4 a5 a6 a7 : Value} {vs : Array Value}
theorem CtB.lt (h : CtB w b vs) : b < w.heap.size := (Array.getElem?_eq_some_iff.1 h).1
theorem CtB.below (h : CtB w b vs) (hb : Below w.heap.size w w') : CtB w' b vs := by
 unfold CtB; rw [hb.block b h.lt]; exact h
theorem CtB.cells (h : CtB w b #[a0, a1, a2, a3, a4, a5, a6, a7]) : w.cell? ⟨b, 0, none⟩ = some a0 ∧ w.cell? ⟨b, 1, none⟩ = some a1 ∧ w.cell? ⟨b, 2, none⟩ = some a2 ∧ w.cell? ⟨b, 3, none⟩ = some a3 ∧ w.cell? ⟨b, 4, none⟩ = some a4 ∧ w.cell? ⟨b, 5, none⟩ = some a5 ∧ w.cell? ⟨b, 6, none⟩ = some a6 ∧ w.cell? ⟨b, 7, none⟩ = some a7 := by
 unfold CtB at h;simp [World.cell?, h]
theorem CtB.soft (h : CtB w b vs) (o : Nat) : w.frozen? ⟨b, o, none⟩ = false := by
 unfold CtB at h;simp [World.frozen?, h]
end
theorem OLL.kept {w0 wr w' : World} {v : Value} {LL : List (List Int)} (h : OLL w0 wr v LL) {b : Nat} {cs : Array Value} {T : TypeId} (hb : wr.heap[b]? = some (.cells cs T (0, 0))) (h1 : 27 ≠ T) (h2 : 3 ≠ T) (h3 : w0.heap.size ≤ b) (hg : wr.grownBy w' (some b)) : OLL w0 w' v LL := by
 obtain ⟨SL, a1, a2, a3, a4⟩ := h;have h5 : ∀ k, some b = some k → w0.heap.size ≤ k := fun k hk => by cases hk; exact h3
 exact ⟨SL, a1.kept hg (own_other a1 hb h1), a2, fun k x s hk hs => (a3 k x s hk hs).kept hg (own_other (a3 k x s hk hs).1 hb h2) h5, a4.grown hg a4.size h5⟩
end
section
open Go.RowKit

structure Ct where
 cl : Int
 n : Int
 run : List Int
 pump : List Int
 marks : List (List Int)
def CtIn (w : World) (v : Value) (C : Ct) : Prop :=
 ∃ Ar nr cr Ap np cp Ak nk ck A5 n5 c5 A6 n6 c6 A7 n7 c7, v = .agg #[.int .i64 C.cl, .int .i64 C.n, .slice Ar nr cr, .slice Ap np cp, .slice Ak nk ck, .slice A5 n5 c5, .slice A6 n6 c6, .slice A7 n7 c7] ∧
  (ZIn w Ar C.run ∧ C.run.length = nr) ∧ (ZIn w Ap C.pump ∧ C.pump.length = np) ∧ (LIn w Ak C.marks ∧ C.marks.length = nk ∧ nk ≤ 9223372036854775806)
def endB (x y : List Int) (k : Int) : Bool := atMost x y && decide (x.getD k.toNat 0 < y.getD k.toNat 0)
def pumpB (N : Nt) (M : List Int) (C : Ct) : Bool := decide ((run21 N M C.run).2.2 = 0) && (decide ((run21 N (run21 N M C.run).1 C.pump).2.2 = 0) && endB (run21 N M C.run).1 (run21 N (run21 N M C.run).1 C.pump).1 C.n)
def badC (N : Nt) (C : Ct) : Bool := decide (C.cl ≠ 6) || (decide (C.pump.length = 0) || (decide (C.n < 0) || decide (N.pl ≤ C.n)))
def chkB (N : Nt) (M : List Int) (C : Ct) : Bool := mkB N M && (if C.cl = 5 then closedB N M C.marks else !badC N C && pumpB N M C)
theorem runV_mk {N : Nt} : ∀ (l : List Int) (M : List Int) (k : Nat), mkB N M = true → (runV N M k l).2.2 = 0 → mkB N (runV N M k l).1 = true := by
 intro l
 induction l with
 | nil => intro M k hm _; exact hm
 | cons t l ih =>
  intro M k hm h;by_cases h0 : (fireV N M t).2 = 0
  · rw [runV_step h0] at h ⊢; exact ih _ _ (fire_mk hm h0) h
  · rw [runV_stop h0] at h; exact absurd h h0
theorem run21_mk {N : Nt} {M l : List Int} (h : (run21 N M l).2.2 = 0) : mkB N (run21 N M l).1 = true := by
 unfold run21 at h ⊢;by_cases hm : mkB N M = true
 · rw [if_pos hm] at h ⊢;by_cases hl : 1000 < l.length
   · rw [if_pos hl] at h; simp at h
   · rw [if_neg hl] at h ⊢; exact runV_mk l M 0 hm h
 · rw [if_neg hm] at h; simp at h
end
section
open Go.RowKit

def lidx (p : List Int → Bool) (L : List (List Int)) : Int := if L.findIdx p = L.length then -1 else ((L.findIdx p : Nat) : Int)
theorem lidx_at {p : List Int → Bool} {L : List (List Int)} {k : Nat} (h : k < L.length) (hp : p L[k] = true) (hno : ∀ s ∈ L.take k, p s = false) : lidx p L = (k : Int) := by
 have e : L.findIdx p = k := by
  rw [List.findIdx_eq h];exact ⟨hp, fun j hj => hno _ (by rw [List.mem_take_iff_getElem]; exact ⟨j, by omega, rfl⟩)⟩
 unfold lidx;rw [e, if_neg (by omega)]
theorem lidx_no {p : List Int → Bool} {L : List (List Int)} (h : ∀ s ∈ L, p s = false) : lidx p L = -1 := by
 unfold lidx;rw [if_pos (List.findIdx_eq_length_of_false h)]
theorem lidx_any (p : List Int → Bool) (L : List (List Int)) : decide (0 ≤ lidx p L) = L.any p := by
 rw [Bool.eq_iff_iff, decide_eq_true_eq, List.any_eq_true];constructor
 · intro h;apply Classical.byContradiction;intro hno;rw [lidx_no (fun s hs => by
    cases hv : p s with
    | false => rfl
    | true => exact absurd ⟨s, hs, hv⟩ hno)] at h
   omega
 · rintro ⟨s, hs, hp⟩;have := List.findIdx_lt_length_of_exists ⟨s, hs, hp⟩;unfold lidx;rw [if_neg (by omega)]; omega
end
end Go.Proofs.YtkhmngljpfibcaaGreatDoor
