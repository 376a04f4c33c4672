/- Run of reference 21: what a call returns. closed of reference 24: what a call returns. Check of reference 24: what a call returns. IndexFunc and ContainsFunc on lists of lists; none, fits of the statements: what a call returns. A pump goes on from more tokens: plain. -/
import Derived.Test.YtpnhcimmlnjfaaaDoorIc
import Derived.Test.YtpnhcimmlnjfaaaDoorHe
namespace Go.Proofs.YtpnhcimmlnjfaaaDoor
section
open Go.RowKit

theorem fv_yes {P : Program} {f : FuncId} {args : Array Value} {w : World} {r : List Int × Int} (h : Calls P f args w (FvPo r w)) (h0 : r.2 = 0) : Calls P f args w fun e w' => ∃ v, e = .returned (.tuple #[v, .int .i64 0]) ∧ NS w w' v r.1 :=
 h.mono fun e w' h1 => by unfold FvPo at h1; rw [if_pos h0] at h1; exact h1
theorem fv_no {P : Program} {f : FuncId} {args : Array Value} {w : World} {r : List Int × Int} (h : Calls P f args w (FvPo r w)) (h0 : r.2 ≠ 0) : Calls P f args w fun e w' => e = .returned (.tuple #[.slice none 0 0, .int .i64 r.2]) ∧ Below w.heap.size w w' :=
 h.mono fun e w' h1 => by unfold FvPo at h1; rw [if_neg h0] at h1; exact h1
/-- what firing gives is a marking -/
theorem fire_mk {N : Nt} {M : List Int} {t : Int} (hm : mkB N M = true) (h : (fireV N M t).2 = 0) : mkB N (fireV N M t).1 = true := by
 have hml := mk_len hm
 have hok := netOk_of (mk_nt hm) hml
 have hisM := mkM hm
 by_cases ht : t < 0
 · simp [fireV, ht] at h
 cases hx : N.tr[t.toNat]? with
 | none => simp [fireV, ht, hx] at h
 | some x =>
  have e : fireV N M t = if canT x M then (if bigM (fireT x M) then ([], 5) else (fireT x M, 0)) else ([], 12) := by
   unfold fireV; rw [if_neg ht, hx]
  rw [e] at h ⊢
  by_cases hc : canT x M = true
  · rw [if_pos hc] at h ⊢
    by_cases hb : bigM (fireT x M) = true
    · rw [if_pos hb] at h; simp at h
    · rw [if_neg hb]
      have hnn : nonneg (fireT x M) := fun p => by
       obtain ⟨e1, e2⟩ := fire_real (t := x) (x := M) (hok _ x hx) (fun p => (hisM p).1) hc p
       rw [e1]; exact e2
      show mkB N (fireT x M) = true
      unfold mkB
      rw [mk_nt hm, fireT_len, decide_eq_true hml, bad_big hnn]
      simpa using hb
  · rw [if_neg hc] at h; simp at h
theorem runV_step {N : Nt} {M : List Int} {k : Nat} {t : Int} {l : List Int} (h : (fireV N M t).2 = 0) : runV N M k (t :: l) = runV N (fireV N M t).1 (k + 1) l := by
 rw [runV, if_pos h]
theorem runV_stop {N : Nt} {M : List Int} {k : Nat} {t : Int} {l : List Int} (h : (fireV N M t).2 ≠ 0) : runV N M k (t :: l) = ([], k, (fireV N M t).2) := by
 rw [runV, if_neg h]
/-- a run in a net that may be no net -/
def run21 (N : Nt) (M l : List Int) : List Int × Nat × Int := if mkB N M then (if 1000 < l.length then ([], 0, 5) else runV N M 0 l) else ([], 0, 1)
/-- what a call does -/
def RvPo (r : List Int × Nat × Int) (w : World) (e : Ending) (w' : World) : Prop := if r.2.2 = 0 then ∃ v, e = .returned (.tuple #[v, .int .i64 (r.2.1 : Int), .int .i64 0]) ∧ NS w w' v r.1 else e = .returned (.tuple #[.slice none 0 0, .int .i64 (r.2.1 : Int), .int .i64 r.2.2]) ∧ Below w.heap.size w w'
theorem RvPo.no {r : List Int × Nat × Int} {w w' : World} {e : Ending} {k : Int} {i : Nat} (h : r = ([], i, k)) (hk : k ≠ 0) (he : e = .returned (.tuple #[.slice none 0 0, .int .i64 (i : Int), .int .i64 k])) (hb : Below w.heap.size w w') : RvPo r w e w' := by
 subst h; unfold RvPo; rw [if_neg hk]; exact ⟨he, hb⟩
theorem RvPo.yes {r : List Int × Nat × Int} {w w' : World} {e : Ending} {L : List Int} {v : Value} {i : Nat} (h : r = (L, i, 0)) (he : e = .returned (.tuple #[v, .int .i64 (i : Int), .int .i64 0])) (hs : NS w w' v L) : RvPo r w e w' := by
 subst h; unfold RvPo; rw [if_pos rfl]; exact ⟨v, he, hs⟩
theorem rv_yes {P : Program} {f : FuncId} {args : Array Value} {w : World} {r : List Int × Nat × Int} (h : Calls P f args w (RvPo r w)) (h0 : r.2.2 = 0) : Calls P f args w fun e w' => ∃ v, e = .returned (.tuple #[v, .int .i64 (r.2.1 : Int), .int .i64 0]) ∧ NS w w' v r.1 :=
 h.mono fun e w' h1 => by unfold RvPo at h1; rw [if_pos h0] at h1; exact h1
theorem rv_no {P : Program} {f : FuncId} {args : Array Value} {w : World} {r : List Int × Nat × Int} (h : Calls P f args w (RvPo r w)) (h0 : r.2.2 ≠ 0) : Calls P f args w fun e w' => e = .returned (.tuple #[.slice none 0 0, .int .i64 (r.2.1 : Int), .int .i64 r.2.2]) ∧ Below w.heap.size w w' :=
 h.mono fun e w' h1 => by unfold RvPo at h1; rw [if_neg h0] at h1; exact h1
/-- the loop over the run -/
def RnI (N : Nt) (R : List Int × Nat × Int) (l : List Int) (n : Nat) (w0 : World) (g : Nat) (iv ov : Value) (wr : World) : Prop :=
 ∃ (k : Nat) (L : List Int), k + g = n ∧ iv = .int .i64 (k : Int) ∧ NS w0 wr ov L ∧ mkB N L = true ∧ R = runV N L k (l.drop k)
end
section
open Go.RowKit

/-- a transition at a marking leads to one of a list -/
def okT (N : Nt) (LL : List (List Int)) (s : List Int) (t : Nat) : Bool := match N.tr[t]? with
 | some x => !canT x s || (decide ((fireV N s (t : Int)).2 = 0) && decide ((fireV N s (t : Int)).1 ∈ LL))
 | none => true
def okS (N : Nt) (LL : List (List Int)) (k : Nat) (s : List Int) : Bool := (List.range k).all (okT N LL s)
/-- a list of markings holds one, and what firing gives -/
def closedB (N : Nt) (M : List Int) (LL : List (List Int)) : Bool := decide (M ∈ LL) && (LL.all (mkB N) && LL.all (okS N LL N.tr.length))
theorem okS_succ (N : Nt) (LL : List (List Int)) (k : Nat) (s : List Int) : okS N LL (k + 1) s = (okS N LL k s && okT N LL s k) := by
 unfold okS; rw [List.range_succ, List.all_append]; simp
theorem okT_can {N : Nt} {LL : List (List Int)} {s : List Int} {t : Nat} {x : Tr} (h : N.tr[t]? = some x) (hc : canT x s = false) : okT N LL s t = true := by
 unfold okT; rw [h]; simp [hc]
theorem okT_fire {N : Nt} {LL : List (List Int)} {s : List Int} {t : Nat} {x : Tr} (h : N.tr[t]? = some x) (hc : canT x s = true) : okT N LL s t = (decide ((fireV N s (t : Int)).2 = 0) && decide ((fireV N s (t : Int)).1 ∈ LL)) := by
 unfold okT; rw [h]; simp [hc]
theorem all_take {α : Type} (f : α → Bool) {L : List α} {k : Nat} (h : k < L.length) : (L.take (k + 1)).all f = ((L.take k).all f && f L[k]) := by
 rw [List.take_succ_eq_append_getElem h, List.all_append]; simp
theorem all_no {α : Type} (f : α → Bool) {L : List α} {x : α} (h : x ∈ L) (hf : f x = false) : L.all f = false := by
 rw [List.all_eq_false]; exact ⟨x, h, by rw [hf]; decide⟩
end
section
open Go.RowKit

/-- a certificate -/
structure Ct where
 cl : Int
 n : Int
 run : List Int
 pump : List Int
 marks : List (List Int)
/-- a certificate as a value -/
def CtIn (w : World) (v : Value) (C : Ct) : Prop :=
 ∃ Ar nr cr Ap np cp Ak nk ck A5 n5 c5 A6 n6 c6 A7 n7 c7, v = .agg #[.int .i64 C.cl, .int .i64 C.n, .slice Ar nr cr, .slice Ap np cp, .slice Ak nk ck, .slice A5 n5 c5, .slice A6 n6 c6, .slice A7 n7 c7] ∧
  (ZIn w Ar C.run ∧ C.run.length = nr) ∧ (ZIn w Ap C.pump ∧ C.pump.length = np) ∧ (LIn w Ak C.marks ∧ C.marks.length = nk ∧ nk ≤ 9223372036854775806)
/-- the end of a certificate that a net is not bounded -/
def endB (x y : List Int) (k : Int) : Bool := atMost x y && decide (x.getD k.toNat 0 < y.getD k.toNat 0)
/-- a certificate proves that a net is not bounded -/
def pumpB (N : Nt) (M : List Int) (C : Ct) : Bool := decide ((run21 N M C.run).2.2 = 0) && (decide ((run21 N (run21 N M C.run).1 C.pump).2.2 = 0) && endB (run21 N M C.run).1 (run21 N (run21 N M C.run).1 C.pump).1 C.n)
/-- a certificate is not one that a net is not bounded -/
def badC (N : Nt) (C : Ct) : Bool := decide (C.cl ≠ 6) || (decide (C.pump.length = 0) || (decide (C.n < 0) || decide (N.pl ≤ C.n)))
/-- a certificate proves its claim -/
def chkB (N : Nt) (M : List Int) (C : Ct) : Bool := mkB N M && (if C.cl = 5 then closedB N M C.marks else !badC N C && pumpB N M C)
theorem runV_mk {N : Nt} : ∀ (l : List Int) (M : List Int) (k : Nat), mkB N M = true → (runV N M k l).2.2 = 0 → mkB N (runV N M k l).1 = true := by
 intro l
 induction l with
 | nil => intro M k hm _; exact hm
 | cons t l ih =>
  intro M k hm h
  by_cases h0 : (fireV N M t).2 = 0
  · rw [runV_step h0] at h ⊢; exact ih _ _ (fire_mk hm h0) h
  · rw [runV_stop h0] at h; exact absurd h h0
theorem run21_mk {N : Nt} {M l : List Int} (h : (run21 N M l).2.2 = 0) : mkB N (run21 N M l).1 = true := by
 unfold run21 at h ⊢
 by_cases hm : mkB N M = true
 · rw [if_pos hm] at h ⊢
   by_cases hl : 1000 < l.length
   · rw [if_pos hl] at h; simp at h
   · rw [if_neg hl] at h ⊢; exact runV_mk l M 0 hm h
 · rw [if_neg hm] at h; simp at h
end
section
open Go.RowKit

/-- the index of the first list that a test finds -/
def lidx (p : List Int → Bool) (L : List (List Int)) : Int := if L.findIdx p = L.length then -1 else ((L.findIdx p : Nat) : Int)
theorem lidx_at {p : List Int → Bool} {L : List (List Int)} {k : Nat} (h : k < L.length) (hp : p L[k] = true) (hno : ∀ s ∈ L.take k, p s = false) : lidx p L = (k : Int) := by
 have e : L.findIdx p = k := by
  rw [List.findIdx_eq h]
  exact ⟨hp, fun j hj => hno _ (by rw [List.mem_take_iff_getElem]; exact ⟨j, by omega, rfl⟩)⟩
 unfold lidx
 rw [e, if_neg (by omega)]
theorem lidx_no {p : List Int → Bool} {L : List (List Int)} (h : ∀ s ∈ L, p s = false) : lidx p L = -1 := by
 unfold lidx
 rw [if_pos (List.findIdx_eq_length_of_false h)]
theorem lidx_any (p : List Int → Bool) (L : List (List Int)) : decide (0 ≤ lidx p L) = L.any p := by
 rw [Bool.eq_iff_iff, decide_eq_true_eq, List.any_eq_true]
 constructor
 · intro h
   apply Classical.byContradiction
   intro hno
   rw [lidx_no (fun s hs => by
    cases hv : p s with
    | false => rfl
    | true => exact absurd ⟨s, hs, hv⟩ hno)] at h
   omega
 · rintro ⟨s, hs, hp⟩
   have := List.findIdx_lt_length_of_exists ⟨s, hs, hp⟩
   unfold lidx
   rw [if_neg (by omega)]; omega
end
section
/-- at least as many tokens everywhere -/
def moreM (z x : List Int) : Prop := z.length = x.length ∧ ∀ q : Nat, z.getD q 0 ≤ x.getD q 0
theorem fireV_cases (N : Nt) (M : List Int) (t : Int) : (∃ (k : Nat) (x : Tr), t = (k : Int) ∧ N.tr[k]? = some x ∧ canT x M = true ∧ ((bigM (fireT x M) = true ∧ fireV N M t = ([], 5)) ∨ (bigM (fireT x M) = false ∧ fireV N M t = (fireT x M, 0)))) ∨ ((fireV N M t).2 ≠ 0 ∧ (∀ (k : Nat) (x : Tr), t = (k : Int) → N.tr[k]? = some x → canT x M = false)) := by
 by_cases ht : t < 0
 · exact .inr ⟨by simp [fireV, ht], fun k x h => by omega⟩
 obtain ⟨k, rfl⟩ := Int.eq_ofNat_of_zero_le (show 0 ≤ t by omega)
 cases hx : N.tr[k]? with
 | none => exact .inr ⟨by simp [fireV, ht, hx], fun j x h h2 => by rw [Int.ofNat.inj h] at hx; rw [hx] at h2; cases h2⟩
 | some x =>
  have e : fireV N M (k : Int) = if canT x M then (if bigM (fireT x M) then ([], 5) else (fireT x M, 0)) else ([], 12) := by
   unfold fireV; rw [if_neg ht, Int.toNat_natCast, hx]
  cases hc : canT x M with
  | false =>
   rw [hc] at e
   exact .inr ⟨by rw [e]; simp, fun j y h h2 => by rw [Int.ofNat.inj h] at hx; rw [hx] at h2; cases h2; exact hc⟩
  | true =>
   rw [hc] at e
   refine .inl ⟨k, x, rfl, hx, hc, ?_⟩
   cases hb : bigM (fireT x M) with
   | true => rw [hb] at e; exact .inl ⟨rfl, e⟩
   | false => rw [hb] at e; exact .inr ⟨rfl, e⟩
theorem pump_more {N : Nt} : ∀ (l : List Int) (z x y : List Int) (k n : Nat), mkB N z = true → mkB N x = true → moreM z x → runV N z k l = (y, n, 0) →
 (runV N x k l).2.2 = 5 ∨ ((runV N x k l).2.2 = 0 ∧ (runV N x k l).1.length = x.length ∧ ∀ q : Nat, (runV N x k l).1.getD q 0 = x.getD q 0 + (y.getD q 0 - z.getD q 0)) := by
 intro l
 induction l with
 | nil =>
  intro z x y k n hz hx hm h
  have : z = y := by unfold runV at h; exact (Prod.mk.inj h).1
  subst this
  exact .inr ⟨rfl, rfl, fun q => by show x.getD q 0 = _; omega⟩
 | cons t l ih =>
  intro z x y k n hz hx hm h
  have hzM := mkM hz
  have hxM := mkM hx
  have hlz := mk_len hz
  have hlx := mk_len hx
  rcases fireV_cases N z t with ⟨j, u, rfl, hu, hc, ⟨hb, e⟩ | ⟨hb, e⟩⟩ | ⟨h0, _⟩
  · rw [runV_stop (by rw [e]; decide), e] at h; simp at h
  · rw [runV_step (by rw [e]), e] at h
    have hok : trOk u z.length := netOk_of (mk_nt hz) hlz j u hu
    have hok' : trOk u x.length := by rw [← hm.1]; exact hok
    have hcx : canT u x = true := canT_of (fun p hp => (hok.1.1 p hp).1) (fun p hp => by
     have h1 := canT_get hc p hp
     have h2 := hm.2 p
     have h3 := (hzM p).1
     omega)
    have hfz : ∀ q : Nat, (fireT u z).getD q 0 = z.getD q 0 + dl u q := fun q => (fire_real hok (fun q => (hzM q).1) hc q).1
    have hfx : ∀ q : Nat, (fireT u x).getD q 0 = x.getD q 0 + dl u q := fun q => (fire_real hok' (fun q => (hxM q).1) hcx q).1
    rcases fireV_cases N x (j : Int) with ⟨j', u', hj, hu', _, ⟨hb', e'⟩ | ⟨hb', e'⟩⟩ | ⟨_, hno⟩
    · left
      rw [runV_stop (by rw [e']; decide), e']
    · obtain rfl : j = j' := Int.ofNat.inj hj
      rw [hu] at hu'; cases hu'
      have hz' := fire_mk hz (t := (j : Int)) (by rw [e])
      have hx' := fire_mk hx (t := (j : Int)) (by rw [e'])
      rw [e] at hz'
      rw [e'] at hx'
      have hm' : moreM (fireT u z) (fireT u x) := ⟨by rw [fireT_len, fireT_len]; exact hm.1, fun q => by rw [hfz, hfx]; have := hm.2 q; omega⟩
      rw [runV_step (by rw [e']), e']
      rcases ih _ _ _ _ _ hz' hx' hm' h with h5 | ⟨h6, h7, h8⟩
      · exact .inl h5
      · refine .inr ⟨h6, by rw [h7, fireT_len], fun q => ?_⟩
        rw [h8 q, hfx, hfz]; omega
    · rw [hno j u rfl hu] at hcx; cases hcx
  · rw [runV_stop h0] at h; exact absurd (congrArg (fun r : List Int × Nat × Int => r.2.2) h) h0
/-- the pump of a certificate, from a marking that is greater -/
theorem pump_on {N : Nt} {z x y : List Int} {l : List Int} {n p : Nat} (hz : mkB N z = true) (hx : mkB N x = true) (hm : moreM z x) (h : run21 N z l = (y, n, 0)) (hy : ∀ q : Nat, z.getD q 0 ≤ y.getD q 0) (hp : z.getD p 0 < y.getD p 0) :
 (run21 N x l).2.2 = 5 ∨ ((run21 N x l).2.2 = 0 ∧ mkB N (run21 N x l).1 = true ∧ (run21 N x l).1.length = x.length ∧ moreM z (run21 N x l).1 ∧ x.getD p 0 < (run21 N x l).1.getD p 0) := by
 have hl : ¬ 1000 < l.length := by
  intro hl
  unfold run21 at h
  rw [hz, if_pos rfl, if_pos hl] at h
  simp at h
 have ez : run21 N z l = runV N z 0 l := by unfold run21; rw [hz, if_pos rfl, if_neg hl]
 have ex : run21 N x l = runV N x 0 l := by unfold run21; rw [hx, if_pos rfl, if_neg hl]
 rw [ez] at h
 rcases pump_more l z x y 0 n hz hx hm h with h5 | ⟨h6, h7, h8⟩
 · left; rw [ex]; exact h5
 · right
   rw [ex]
   refine ⟨h6, runV_mk l x 0 hx h6, h7, ⟨by rw [h7]; exact hm.1, fun q => ?_⟩, ?_⟩
   · rw [h8 q]; have := hm.2 q; have := hy q; omega
   · rw [h8 p]; omega
end
end Go.Proofs.YtpnhcimmlnjfaaaDoor
