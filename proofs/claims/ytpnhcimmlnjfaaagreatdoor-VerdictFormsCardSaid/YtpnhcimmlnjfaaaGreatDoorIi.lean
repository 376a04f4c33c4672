/- closed of reference 24: what a call returns. Check of reference 24: what a call returns. IndexFunc and ContainsFunc on lists of lists; none, fits of the statements: what a call returns. -/
import Derived.Test.YtpnhcimmlnjfaaaGreatDoorId
import Derived.Test.YtpnhcimmlnjfaaaGreatDoorHd
namespace Go.Proofs.YtpnhcimmlnjfaaaGreatDoor
section
open Go.RowKit

/-- a transition at a marking leads to one of a list -/
def okT (N : Nt) (LL : List (List Int)) (s : List Int) (t : Nat) : Bool := match N.tr[t]? with
 | some x => !canT x s || (decide ((fireV N s (t : Int)).2 = 0) && decide ((fireV N s (t : Int)).1 ∈ LL))
 | none => true
def okS (N : Nt) (LL : List (List Int)) (k : Nat) (s : List Int) : Bool := (List.range k).all (okT N LL s)
/-- a list of markings holds one, and what firing gives -/
def closedB (N : Nt) (M : List Int) (LL : List (List Int)) : Bool := decide (M ∈ LL) && (LL.all (mkB N) && LL.all (okS N LL N.tr.length))
theorem okS_succ (N : Nt) (LL : List (List Int)) (k : Nat) (s : List Int) : okS N LL (k + 1) s = (okS N LL k s && okT N LL s k) := by
 unfold okS; rw [List.range_succ, List.all_append]; simp
theorem okT_can {N : Nt} {LL : List (List Int)} {s : List Int} {t : Nat} {x : Tr} (h : N.tr[t]? = some x) (hc : canT x s = false) : okT N LL s t = true := by
 unfold okT; rw [h]; simp [hc]
theorem okT_fire {N : Nt} {LL : List (List Int)} {s : List Int} {t : Nat} {x : Tr} (h : N.tr[t]? = some x) (hc : canT x s = true) : okT N LL s t = (decide ((fireV N s (t : Int)).2 = 0) && decide ((fireV N s (t : Int)).1 ∈ LL)) := by
 unfold okT; rw [h]; simp [hc]
theorem all_take {α : Type} (f : α → Bool) {L : List α} {k : Nat} (h : k < L.length) : (L.take (k + 1)).all f = ((L.take k).all f && f L[k]) := by
 rw [List.take_succ_eq_append_getElem h, List.all_append]; simp
theorem all_no {α : Type} (f : α → Bool) {L : List α} {x : α} (h : x ∈ L) (hf : f x = false) : L.all f = false := by
 rw [List.all_eq_false]; exact ⟨x, h, by rw [hf]; decide⟩
end
section
open Go.RowKit

/-- a certificate -/
structure Ct where
 cl : Int
 n : Int
 run : List Int
 pump : List Int
 marks : List (List Int)
/-- a certificate as a value -/
def CtIn (w : World) (v : Value) (C : Ct) : Prop :=
 ∃ Ar nr cr Ap np cp Ak nk ck A5 n5 c5 A6 n6 c6 A7 n7 c7, v = .agg #[.int .i64 C.cl, .int .i64 C.n, .slice Ar nr cr, .slice Ap np cp, .slice Ak nk ck, .slice A5 n5 c5, .slice A6 n6 c6, .slice A7 n7 c7] ∧
  (ZIn w Ar C.run ∧ C.run.length = nr) ∧ (ZIn w Ap C.pump ∧ C.pump.length = np) ∧ (LIn w Ak C.marks ∧ C.marks.length = nk ∧ nk ≤ 9223372036854775806)
/-- the end of a certificate that a net is not bounded -/
def endB (x y : List Int) (k : Int) : Bool := atMost x y && decide (x.getD k.toNat 0 < y.getD k.toNat 0)
/-- a certificate proves that a net is not bounded -/
def pumpB (N : Nt) (M : List Int) (C : Ct) : Bool := decide ((run21 N M C.run).2.2 = 0) && (decide ((run21 N (run21 N M C.run).1 C.pump).2.2 = 0) && endB (run21 N M C.run).1 (run21 N (run21 N M C.run).1 C.pump).1 C.n)
/-- a certificate is not one that a net is not bounded -/
def badC (N : Nt) (C : Ct) : Bool := decide (C.cl ≠ 6) || (decide (C.pump.length = 0) || (decide (C.n < 0) || decide (N.pl ≤ C.n)))
/-- a certificate proves its claim -/
def chkB (N : Nt) (M : List Int) (C : Ct) : Bool := mkB N M && (if C.cl = 5 then closedB N M C.marks else !badC N C && pumpB N M C)
theorem runV_mk {N : Nt} : ∀ (l : List Int) (M : List Int) (k : Nat), mkB N M = true → (runV N M k l).2.2 = 0 → mkB N (runV N M k l).1 = true := by
 intro l
 induction l with
 | nil => intro M k hm _; exact hm
 | cons t l ih =>
  intro M k hm h
  by_cases h0 : (fireV N M t).2 = 0
  · rw [runV_step h0] at h ⊢; exact ih _ _ (fire_mk hm h0) h
  · rw [runV_stop h0] at h; exact absurd h h0
theorem run21_mk {N : Nt} {M l : List Int} (h : (run21 N M l).2.2 = 0) : mkB N (run21 N M l).1 = true := by
 unfold run21 at h ⊢
 by_cases hm : mkB N M = true
 · rw [if_pos hm] at h ⊢
   by_cases hl : 1000 < l.length
   · rw [if_pos hl] at h; simp at h
   · rw [if_neg hl] at h ⊢; exact runV_mk l M 0 hm h
 · rw [if_neg hm] at h; simp at h
end
section
open Go.RowKit

/-- the index of the first list that a test finds -/
def lidx (p : List Int → Bool) (L : List (List Int)) : Int := if L.findIdx p = L.length then -1 else ((L.findIdx p : Nat) : Int)
theorem lidx_at {p : List Int → Bool} {L : List (List Int)} {k : Nat} (h : k < L.length) (hp : p L[k] = true) (hno : ∀ s ∈ L.take k, p s = false) : lidx p L = (k : Int) := by
 have e : L.findIdx p = k := by
  rw [List.findIdx_eq h]
  exact ⟨hp, fun j hj => hno _ (by rw [List.mem_take_iff_getElem]; exact ⟨j, by omega, rfl⟩)⟩
 unfold lidx
 rw [e, if_neg (by omega)]
theorem lidx_no {p : List Int → Bool} {L : List (List Int)} (h : ∀ s ∈ L, p s = false) : lidx p L = -1 := by
 unfold lidx
 rw [if_pos (List.findIdx_eq_length_of_false h)]
theorem lidx_any (p : List Int → Bool) (L : List (List Int)) : decide (0 ≤ lidx p L) = L.any p := by
 rw [Bool.eq_iff_iff, decide_eq_true_eq, List.any_eq_true]
 constructor
 · intro h
   apply Classical.byContradiction
   intro hno
   rw [lidx_no (fun s hs => by
    cases hv : p s with
    | false => rfl
    | true => exact absurd ⟨s, hs, hv⟩ hno)] at h
   omega
 · rintro ⟨s, hs, hp⟩
   have := List.findIdx_lt_length_of_exists ⟨s, hs, hp⟩
   unfold lidx
   rw [if_neg (by omega)]; omega
end
end Go.Proofs.YtpnhcimmlnjfaaaGreatDoor
