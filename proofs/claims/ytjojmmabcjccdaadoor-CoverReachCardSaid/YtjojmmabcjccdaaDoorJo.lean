/- IndexFunc and ContainsFunc on lists of lists; none, fits of the statements: what a call returns. Moves of the tree, what leads to each state, lowering: plain; rows of rows of one's own. cover.Covers: the closure, and what its loops keep. cover.Covers: what a call returns. The certificates of Bounded prove their claims: plain. A pump goes on from more tokens: plain. Bound, both: what a call returns. CoverMore and CoverReach: plain. More tokens never lower a bound, nor cover less; what is reached is a marking that is covered; a state without omega is a marking. What Bound and Covers return, as values; the limit of the statements. CoverReach: what the walk leans on: the closure, Contains, the space in its block, Covers of what is covered. -/
import Derived.Test.YtjojmmabcjccdaaDoorIh
import Derived.Test.YtjojmmabcjccdaaDoorHb
import Derived.Test.YtjojmmabcjccdaaDoorDe
import Derived.Test.YtjojmmabcjccdaaDoorDn
import Derived.Test.YtjojmmabcjccdaaDoorHf
import Derived.Test.YtjojmmabcjccdaaDoorHe
import Derived.Test.YtjojmmabcjccdaaDoorHh
import Derived.Test.YtjojmmabcjccdaaDoorIf
import Derived.Maps.AppendAt
import Derived.BigQuiet
import Derived.Deep.OwnRows
namespace Go.Proofs.YtjojmmabcjccdaaDoor
section
open Go.RowKit

/-- the index of the first list that a test finds -/
def lidx (p : List Int → Bool) (L : List (List Int)) : Int := if L.findIdx p = L.length then -1 else ((L.findIdx p : Nat) : Int)
theorem lidx_at {p : List Int → Bool} {L : List (List Int)} {k : Nat} (h : k < L.length) (hp : p L[k] = true) (hno : ∀ s ∈ L.take k, p s = false) : lidx p L = (k : Int) := by
  have e : L.findIdx p = k := by
    rw [List.findIdx_eq h]
    exact ⟨hp, fun j hj => hno _ (by rw [List.mem_take_iff_getElem]; exact ⟨j, by omega, rfl⟩)⟩
  unfold lidx
  rw [e, if_neg (by omega)]
theorem lidx_no {p : List Int → Bool} {L : List (List Int)} (h : ∀ s ∈ L, p s = false) : lidx p L = -1 := by
  unfold lidx
  rw [if_pos (List.findIdx_eq_length_of_false h)]
theorem lidx_any (p : List Int → Bool) (L : List (List Int)) : decide (0 ≤ lidx p L) = L.any p := by
  rw [Bool.eq_iff_iff, decide_eq_true_eq, List.any_eq_true]
  constructor
  · intro h
    apply Classical.byContradiction
    intro hno
    rw [lidx_no (fun s hs => by
      cases hv : p s with
      | false => rfl
      | true => exact absurd ⟨s, hs, hv⟩ hno)] at h
    omega
  · rintro ⟨s, hs, hp⟩
    have := List.findIdx_lt_length_of_exists ⟨s, hs, hp⟩
    unfold lidx
    rw [if_neg (by omega)]; omega
/-- a marking is too long -/
def longM (s : List Int) : Bool := decide (40 < s.length)
theorem fits1_any (Ax : Option Addr) (nx cx : Nat) (X : List Int) (w : World) (hl : X.length = nx) : Calls Tryd.prog 50 #[.slice Ax nx cx] w fun e w' => e = .returned (.bool (longM X)) ∧ Below w.heap.size w w' := by
  have HV := Lib.hid (show decide ((40 : Int) < (nx : Int)) = longM X by unfold longM; rw [hl, Bool.eq_iff_iff]; simp; omega)
  clear hl
  go_enter Tryd.func50, Tryd.ntmps50
  go_wp2_with fail
  go_ret
  exact ⟨ret_bool HV.out, Below.refl _ _⟩
set_option maxHeartbeats 3200000 in
set_option maxRecDepth 100000 in
theorem lindex_ft (A : Option Addr) (n cap : Nat) (L : List (List Int)) (w : World) (h : LIn w A L) (hn : L.length = n) (hn4 : n ≤ 9223372036854775806) :
    Calls Tryd.prog 53 #[.slice A n cap, .func (.func 50) #[] #[]] w fun e w' => e = .returned (.int .i64 (lidx longM L)) ∧ Below w.heap.size w w' := by
  have H0 := Lib.hid h; clear h
  have HN := Lib.hid hn; clear hn
  skip
  go_enter Tryd.func53, Tryd.ntmps53
  go_wp2_with fail
  go_loopg [8] (n) (fun g i wr => ∃ k : Nat, k + g = n ∧ i = .int .i64 k ∧ (∀ s ∈ L.take k, longM s = false) ∧ Below w.heap.size w wr)
  case atStart => exact ⟨0, by omega, rfl, by simp, Below.refl _ _⟩
  case round =>
    obtain ⟨k, hk, rfl, hno, hB⟩ := hrel
    have HK := Lib.hid hk
    have HNo := Lib.hid hno
    have HB := Lib.hid hB
    have HT := Lib.hid (H0.out.below hB)
    have hle : k ≤ n := by omega
    clear hk hno hB
    by_cases hlt : k < n
    · have hlt' : k < L.length := by rw [HN.out]; exact hlt
      obtain ⟨ad, rfl, hp, u, c0, Ax, nx, cx, rfl, zx, hxl, hxc, hxd⟩ := HT.out k hlt'
      have HTk := Lib.hid (List.take_succ_eq_append_getElem hlt')
      have HAt := Lib.hid (lidx_at (p := longM) hlt')
      have hXm := List.getElem_mem hlt'
      generalize L[k] = X at *
      have HX := Lib.hid (fits1_any Ax nx cx X wr hxl)
      clear hlt' zx hxl hXm
      cases hv : longM X with
      | true =>
        rw [hv] at HX
        have HV := Lib.hid (HAt.out hv HNo.out); clear hv
        go_wp2_with fail
        ((with_reducible refine HX.out.mono ?_); rintro e w1 ⟨rfl, hb1⟩)
        have HB1 := Lib.hid (below_then HB.out hb1)
        go_wp2_with fail
        go_ret
        exact ⟨ret_int HV.out.symm, HB1.out⟩
      | false =>
        rw [hv] at HX
        have HV := Lib.hid hv; clear hv HAt
        go_wp2_with fail
        ((with_reducible refine HX.out.mono ?_); rintro e w1 ⟨rfl, hb1⟩)
        have HB1 := Lib.hid (below_then HB.out hb1)
        clear hb1
        go_wp2_with fail
        go_roundg (gk - 1)
        case measure => have := HK.out; omega
        case rel => exact ⟨k + 1, by have := HK.out; omega, by go_num, by
          rw [HTk.out]; intro s hs
          rcases List.mem_append.1 hs with h1 | h1
          · exact HNo.out s h1
          · have : s = X := by simpa using h1
            rw [this]; exact HV.out, HB1.out⟩
    · have HV := Lib.hid (show lidx longM L = -1 from lidx_no (by have := HNo.out; rwa [List.take_of_length_le (by rw [HN.out]; omega)] at this))
      go_wp2_with fail
      go_ret
      exact ⟨ret_int HV.out.symm, HB.out⟩
set_option maxHeartbeats 800000 in
theorem lcont_ft (A : Option Addr) (n cap : Nat) (L : List (List Int)) (w : World) (h : LIn w A L) (hn : L.length = n) (hn4 : n ≤ 9223372036854775806) :
    Calls Tryd.prog 31 #[.slice A n cap, .func (.func 50) #[] #[]] w fun e w' => e = .returned (.bool (L.any longM)) ∧ Below w.heap.size w w' := by
  have HI := Lib.hid (lindex_ft A n cap L w h hn hn4)
  have HE := Lib.hid (lidx_any longM L)
  clear h hn
  generalize lidx longM L = r at HI HE
  go_enter Tryd.func31, Tryd.ntmps31
  go_wp2_with fail
  ((with_reducible refine HI.out.mono ?_); rintro e w1 ⟨rfl, hb1⟩)
  have HB1 := Lib.hid hb1
  go_wp2_with fail
  go_ret
  exact ⟨ret_bool HE.out, HB1.out⟩
/-- a certificate is short -/
def fitB (C : Ct) : Bool := decide (C.run.length ≤ 1000) && (decide (C.pump.length ≤ 1000) && (decide (C.marks.length ≤ 300) && !C.marks.any longM))
set_option maxHeartbeats 6400000 in
set_option maxRecDepth 100000 in
theorem fits_any (v : Value) (C : Ct) (w : World) (hC : CtIn w v C) : Calls Tryd.prog 19 #[v] w fun e w' => e = .returned (.bool (fitB C)) ∧ Below w.heap.size w w' := by
  obtain ⟨Ar, nr, cr, Ap, np, cp, Ak, nk, ck, A5, n5, c5, A6, n6, c6, A7, n7, c7, rfl, ⟨hr1, hr2⟩, ⟨hp1, hp2⟩, hq1, hq2, hq3⟩ := hC
  have HB := Lib.hid (below_alloc w (.cells #[.int .i64 C.cl, .int .i64 C.n, .slice Ar nr cr, .slice Ap np cp, .slice Ak nk ck, .slice A5 n5 c5, .slice A6 n6 c6, .slice A7 n7 c7] 41))
  have HLc := Lib.hid (lcont_ft Ak nk ck C.marks _ (hq1.below HB.out) hq2 hq3)
  have HF := Lib.hid (show fitB C = (decide (nr ≤ 1000) && (decide (np ≤ 1000) && (decide (nk ≤ 300) && !C.marks.any longM))) by unfold fitB; rw [hr2, hp2, hq2])
  clear hr1 hr2 hp1 hp2 hq1 hq2
  by_cases h1 : nr ≤ 1000
  · have q1 : decide ((nr : Int) ≤ 1000) = true := by simp; omega
    by_cases h2 : np ≤ 1000
    · have q2 : decide ((np : Int) ≤ 1000) = true := by simp; omega
      by_cases h3 : nk ≤ 300
      · have q3 : decide ((nk : Int) ≤ 300) = true := by simp; omega
        have HV := Lib.hid (show fitB C = !C.marks.any longM by rw [HF.out, decide_eq_true h1, decide_eq_true h2, decide_eq_true h3]; rfl)
        clear h1 h2 h3
        generalize C.marks.any longM = b at *
        go_enter Tryd.func19, Tryd.ntmps19
        go_wp2_with fail
        ((with_reducible refine HLc.out.mono ?_); rintro e w1 ⟨rfl, hb1⟩)
        have HB1 := Lib.hid (below_then HB.out hb1)
        go_wp2_with fail
        go_ret
        exact ⟨ret_bool HV.out.symm, HB1.out⟩
      · have q3 : decide ((nk : Int) ≤ 300) = false := by simp; omega
        have HV := Lib.hid (show fitB C = false by rw [HF.out, decide_eq_false h3]; simp)
        clear h1 h2 h3
        go_enter Tryd.func19, Tryd.ntmps19
        go_wp2_with fail
        go_ret
        exact ⟨ret_bool HV.out.symm, HB.out⟩
    · have q2 : decide ((np : Int) ≤ 1000) = false := by simp; omega
      have HV := Lib.hid (show fitB C = false by rw [HF.out, decide_eq_false h2]; simp)
      clear h1 h2
      go_enter Tryd.func19, Tryd.ntmps19
      go_wp2_with fail
      go_ret
      exact ⟨ret_bool HV.out.symm, HB.out⟩
  · have q1 : decide ((nr : Int) ≤ 1000) = false := by simp; omega
    have HV := Lib.hid (show fitB C = false by rw [HF.out, decide_eq_false h1]; rfl)
    clear h1
    go_enter Tryd.func19, Tryd.ntmps19
    go_wp2_with fail
    go_ret
    exact ⟨ret_bool HV.out.symm, HB.out⟩
set_option maxHeartbeats 1600000 in
theorem none_z (w : World) : Calls Tryd.prog 17 #[zCt] w fun e w' => e = .returned (.bool true) ∧ Below w.heap.size w w' := by
  have HB := Lib.hid (below_alloc w (.cells #[.int .i64 0, .int .i64 0, .slice none 0 0, .slice none 0 0, .slice none 0 0, .slice none 0 0, .slice none 0 0, .slice none 0 0] 41))
  unfold zCt
  go_enter Tryd.func17, Tryd.ntmps17
  go_wp2_with fail
  go_ret
  exact ⟨rfl, HB.out⟩
end
section
open Go.RowKit

/-- the moves of a tree are between its states, of transitions of the net -/
theorem moves_ok {N : Nt} {M : List Int} {T : TS} (h : TInv N M T) : mvOk (movesOf T) T.states.length ∧ ∀ x ∈ movesOf T, 0 ≤ x.s ∧ x.s < (N.tr.length : Int) := by
  have key : ∀ x ∈ movesOf T, (0 ≤ x.f ∧ x.f < (T.states.length : Int) ∧ 0 ≤ x.t ∧ x.t < (T.states.length : Int)) ∧ 0 ≤ x.s ∧ x.s < (N.tr.length : Int) := by
    intro x hx
    unfold movesOf at hx
    obtain ⟨d, hd, rfl⟩ := List.mem_map.1 hx
    obtain ⟨j, hj, rfl⟩ := List.getElem_of_mem hd
    rw [List.length_drop] at hj
    rw [List.getElem_drop]
    have hdj : T.nodes[1 + j]? = some T.nodes[1 + j] := List.getElem?_eq_getElem (by omega)
    obtain ⟨i, k, e, t, hij, h1, h2, h3, _, h5, _⟩ := h.par (1 + j) _ hdj (by omega)
    have s1 := (List.getElem?_eq_some_iff.1 (h.st _ _ hdj)).1
    have s2 := (List.getElem?_eq_some_iff.1 (h.st _ _ h3)).1
    have s3 := (List.getElem?_eq_some_iff.1 h5).1
    unfold mvOf
    simp only
    rw [h1, Int.toNat_natCast, h3, h2]
    simp only
    omega
  exact ⟨fun x hx => (key x hx).1, fun x hx => (key x hx).2⟩
theorem move_at {T : TS} {j i : Nat} {d e : Nd} (hj : T.nodes[j]? = some d) (h0 : 0 < j) (ha : d.ab = (i : Int)) (hi : T.nodes[i]? = some e) : ∃ x ∈ movesOf T, x.f = (e.st : Int) ∧ x.t = (d.st : Int) := by
  refine ⟨mvOf T d, ?_, ?_, rfl⟩
  · unfold movesOf
    refine List.mem_map.2 ⟨d, ?_, rfl⟩
    refine List.mem_of_getElem? (i := j - 1) ?_
    rw [List.getElem?_drop, show 1 + (j - 1) = j by omega]; exact hj
  · unfold mvOf
    simp only
    rw [ha, Int.toNat_natCast, hi]
/-- the first state leads to each state -/
theorem root_far {N : Nt} {M : List Int} {T : TS} (h : TInv N M T) {goal : Nat} (hg : goal < T.states.length) {F : List Int} (hF : IsD (movesOf T) goal T.states.length F) : 0 ≤ fd F 0 := by
  obtain ⟨j, d, hd, _, hst⟩ := h.own goal hg
  have key : ∀ (j : Nat) (d : Nd), T.nodes[j]? = some d → 0 ≤ fd F (d.st : Int) → 0 ≤ fd F 0 := by
    intro j
    induction j using Nat.strongRecOn with
    | ind j ih =>
      intro d hd hf
      rcases Nat.eq_zero_or_pos j with h0 | h0
      · subst h0; rw [h.root] at hd; cases hd; exact hf
      · obtain ⟨i, k, e, t, hij, h1, h2, h3, _⟩ := h.par j d hd h0
        obtain ⟨x, hx, e1, e2⟩ := move_at hd h0 h1 h3
        have := hF.le x hx (by rw [e2]; exact hf)
        rw [e1] at this
        exact ih i hij e h3 this.1
  refine key j d hd ?_
  rw [hst]; have := hF.zero; omega
/-- what leads to each state -/
def backL (MV : List Mv) (n : Nat) : List (List Int) := (List.range n).map fun t : Nat => (MV.filter fun x => decide (x.t = ((t : Nat) : Int))).map Mv.f
theorem backL_len (MV : List Mv) (n : Nat) : (backL MV n).length = n := by simp [backL]
theorem backL_at (MV : List Mv) (n t : Nat) (h : t < n) : (backL MV n)[t]? = some ((MV.filter fun x => decide (x.t = (t : Int))).map Mv.f) := by
  unfold backL; rw [List.getElem?_map, List.getElem?_range h]; rfl
theorem backL_nil (n : Nat) : backL [] n = List.replicate n [] := by
  apply List.ext_getElem?
  intro t
  rcases Nat.lt_or_ge t n with h | h
  · rw [backL_at [] n t h]; simp [h]
  · rw [List.getElem?_eq_none (by rw [backL_len]; exact h), List.getElem?_eq_none (by simpa using h)]
theorem backL_short (MV : List Mv) (n t : Nat) {s : List Int} (h : (backL MV n)[t]? = some s) : s.length ≤ MV.length := by
  have ht : t < n := by have := (List.getElem?_eq_some_iff.1 h).1; rwa [backL_len] at this
  rw [backL_at MV n t ht] at h; cases h
  rw [List.length_map]; exact List.length_filter_le _ _
theorem backL_mem (MV : List Mv) (n t : Nat) {s : List Int} (h : (backL MV n)[t]? = some s) (f : Int) : f ∈ s ↔ ∃ x ∈ MV, x.t = (t : Int) ∧ x.f = f := by
  have ht : t < n := by have := (List.getElem?_eq_some_iff.1 h).1; rwa [backL_len] at this
  rw [backL_at MV n t ht] at h; cases h
  simp [and_assoc]
theorem backL_take (MV : List Mv) (n k t : Nat) (hk : k < MV.length) (ht : MV[k].t = (t : Int)) (htn : t < n) {s : List Int} (hs : (backL (MV.take k) n)[t]? = some s) : backL (MV.take (k + 1)) n = (backL (MV.take k) n).set t (s ++ [MV[k].f]) := by
  rw [backL_at _ n t htn] at hs; cases hs
  apply List.ext_getElem?
  intro q
  rw [List.getElem?_set]
  rcases Nat.lt_or_ge q n with h | h
  · rw [backL_at _ n q h, backL_at _ n q h, List.take_succ_eq_append_getElem hk, List.filter_append, List.map_append]
    by_cases e : t = q
    · subst e
      rw [if_pos rfl, if_pos (by rw [backL_len]; exact htn)]
      simp [ht]
    · rw [if_neg e]
      have : ¬ ((t : Int) = (q : Int)) := by omega
      simp [ht, this]
  · rw [List.getElem?_eq_none (by rw [backL_len]; exact h), if_neg (by omega), List.getElem?_eq_none (by rw [backL_len]; exact h)]
/-- the sum of a list -/
def msr (F : List Int) : Nat := (F.map Int.toNat).sum
theorem msr_set (F : List Int) : ∀ (i : Nat) (x : Int), i < F.length → 0 ≤ x → x < F.getD i 0 → msr (F.set i x) + 1 ≤ msr F := by
  induction F with
  | nil => intro i x h; simp at h
  | cons a F ih =>
    intro i x h h0 hx
    cases i with
    | zero =>
      simp only [List.getD_cons_zero] at hx
      simp only [List.set_cons_zero, msr, List.map_cons, List.sum_cons]
      omega
    | succ i =>
      simp only [List.getD_cons_succ] at hx
      have := ih i x (by simpa using h) h0 hx
      simp only [List.set_cons_succ, msr, List.map_cons, List.sum_cons] at this ⊢
      omega
/-- the same step, by the other distances -/
theorem pick_far {MV : List Mv} {goal n : Nat} {F G : List Int} (hn : mvOk MV n) (h : ∀ s : Nat, s < n → fd G s = if fd F s < 0 then (n : Int) else fd F s) (hD : IsD MV goal n F) {s : Nat} (hs : s < n) (h0 : 0 < fd F s) : pick MV G s = pick MV F s := by
  have hh : ∀ x ∈ MV, hit G s x = hit F s x := by
    intro x hx
    obtain ⟨r1, r2, r3, r4⟩ := hn x hx
    obtain ⟨t, ht⟩ := Int.eq_ofNat_of_zero_le r3
    have h1 := h s hs
    rw [if_neg (by omega)] at h1
    have h2 := h t (by omega)
    have h3 := hD.top s hs
    unfold hit
    congr 1
    rw [decide_eq_decide, h1, ht, h2]
    split <;> omega
  have key : ∀ (L : List Mv) (b : Option Mv), (∀ x ∈ L, x ∈ MV) → L.foldl (pick1 G s) b = L.foldl (pick1 F s) b := by
    intro L
    induction L with
    | nil => intro b _; rfl
    | cons x L ih =>
      intro b hL
      have e : pick1 G s b x = pick1 F s b x := by unfold pick1; rw [hh x (hL x (List.mem_cons_self ..))]
      rw [List.foldl_cons, List.foldl_cons, e]
      exact ih _ fun y hy => hL y (List.mem_cons_of_mem _ hy)
  exact key MV none fun x hx => hx
/-- rows of rows of one's own, each in its own block -/
structure BK (B : Nat) (wr : World) (v : Value) (SL : List Value) (LL : List (List Int)) : Prop where
  row : wr.ownsRow B 25 1 v SL.length SL
  len : SL.length = LL.length
  els : ∀ (k : Nat) (x : Value) (s : List Int), SL[k]? = some x → LL[k]? = some s → wr.ownsRow B 3 1 x s.length (s.map (Value.int .i64))
  apart : ∀ (j k : Nat) (x y : Value), j ≠ k → SL[j]? = some x → SL[k]? = some y → x.ownBlock = none ∨ x.ownBlock ≠ y.ownBlock
section
variable {B : Nat} {wr w' : World} {v : Value} {SL : List Value} {LL : List (List Int)}
theorem BK.kept (h : BK B wr v SL LL) {row : Option Nat} (hg : wr.grownBy w' row) (h1 : v.ownBlock = none ∨ v.ownBlock ≠ row) (h2 : ∀ (k : Nat) (x : Value), SL[k]? = some x → x.ownBlock = none ∨ x.ownBlock ≠ row) : BK B w' v SL LL :=
  ⟨h.row.kept hg h1, h.len, fun k x s hx hs => (h.els k x s hx hs).kept hg (h2 k x hx), h.apart⟩
theorem BK.below (h : BK B wr v SL LL) (hb : Below wr.heap.size wr w') : BK B w' v SL LL :=
  ⟨own_stays h.row hb, h.len, fun k x s hx hs => own_stays (h.els k x s hx hs) hb, h.apart⟩
/-- the blocks -/
theorem BK.lt (h : BK B wr v SL LL) : (∀ g, v.ownBlock = some g → B ≤ g ∧ g < wr.heap.size) ∧ ∀ (k : Nat) (x : Value) (g : Nat), SL[k]? = some x → x.ownBlock = some g → B ≤ g ∧ g < wr.heap.size := by
  refine ⟨fun g hg => h.row.lt g hg, fun k x g hx hg => ?_⟩
  have hk : k < LL.length := by rw [← h.len]; exact (List.getElem?_eq_some_iff.1 hx).1
  exact (h.els k x _ hx (List.getElem?_eq_getElem hk)).lt g hg
/-- while a block that lies before them, or behind, is written -/
theorem BK.far (h : BK B wr v SL LL) {U : Nat} (hU : (∀ g, v.ownBlock = some g → B ≤ g ∧ g < U) ∧ ∀ (k : Nat) (x : Value) (g : Nat), SL[k]? = some x → x.ownBlock = some g → B ≤ g ∧ g < U) {row : Option Nat} (hg : wr.grownBy w' row) (hr : ∀ g, row = some g → g < B ∨ U ≤ g) : BK B w' v SL LL := by
  have key : ∀ x : Value, (∀ g, x.ownBlock = some g → B ≤ g ∧ g < U) → x.ownBlock = none ∨ x.ownBlock ≠ row := by
    intro x hx
    cases hb : x.ownBlock with
    | none => exact .inl rfl
    | some g =>
      refine .inr fun e => ?_
      have := hx g hb; have := hr g e.symm; omega
  exact h.kept hg (key v hU.1) fun k x hx => key x fun g hg => hU.2 k x g hx hg
theorem BK.at_ (h : BK B wr v SL LL) {g n c : Nat} (hv : v = .slice (some ⟨g, 0, none⟩) n c) {k : Nat} {s : List Int} (hk : LL[k]? = some s) :
    ∃ u, SL[k]? = some u ∧ g < wr.heap.size ∧ wr.cell? ⟨g, k, none⟩ = some u ∧ wr.frozen? ⟨g, k, none⟩ = false ∧ wr.ownsRow B 3 1 u s.length (s.map (Value.int .i64)) := by
  have hl : k < SL.length := by rw [h.len]; exact (List.getElem?_eq_some_iff.1 hk).1
  have hu : SL[k]? = some SL[k] := List.getElem?_eq_getElem hl
  subst hv
  refine ⟨SL[k], hu, (h.row.lt g rfl).2, ?_, ?_, h.els k _ s hu hk⟩
  · have hc := h.row.cells (g := g) rfl k _ hu
    have ha : (⟨g, 0, none⟩ : Addr).add k = ⟨g, k, none⟩ := by unfold Addr.add; split <;> simp_all
    rw [ha] at hc; exact hc
  · obtain ⟨cur, hc⟩ := own_kind h.row rfl
    simp [World.frozen?, hc]
/-- an element's row grows by one -/
theorem BK.push {g n c : Nat} (h : BK B wr (.slice (some ⟨g, 0, none⟩) n c) SL LL) {t : Nat} {u v' : Value} {s : List Int} (hu : SL[t]? = some u) (hs : LL[t]? = some s) {o : Obj} {x : Int}
    (ho : w'.ownsRow B 3 1 v' (s.length + 1) (s.map (Value.int .i64) ++ [.int .i64 x])) (hg : (wr.alloc o).grownBy w' u.ownBlock) (hat : v'.ownBlock = u.ownBlock ∨ v'.ownBlock = some (wr.alloc o).heap.size) :
    BK B (w'.setCell ⟨g, t, none⟩ v') (.slice (some ⟨g, 0, none⟩) n c) (SL.set t v') (LL.set t (s ++ [x])) := by
  have hu' := h.els t u s hu hs
  have ha := h.below (below_alloc wr o)
  have hset : w'.grownBy (w'.setCell ⟨g, t, none⟩ v') (some g) := Lib.grownBy_setB (grown_refl w' (some g)) t v'
  have hrow : w'.ownsRow B 25 1 (.slice (some ⟨g, 0, none⟩) n c) SL.length SL := ha.row.kept hg (own_apart ha.row (hu'.alloc o) (by decide))
  obtain ⟨cur, hcur⟩ := own_kind hrow rfl
  have hlt := h.lt
  have htl : t < SL.length := (List.getElem?_eq_some_iff.1 hu).1
  have hn : n = SL.length := by
    rcases hrow.2 with ⟨hv, _⟩ | ⟨g', cap, cur, hv, _⟩
    · cases hv
    · cases hv; rfl
  subst hn
  refine ⟨?_, by rw [List.length_set, List.length_set]; exact h.len, ?_, ?_⟩
  · have := (hrow.stored t v').1
    rw [List.length_set]; exact this
  · intro k y q hy hq
    rw [List.getElem?_set] at hy hq
    by_cases e : t = k
    · subst e
      rw [if_pos rfl, if_pos htl] at hy
      rw [if_pos rfl, if_pos (by rw [← h.len]; exact htl)] at hq
      cases hy; cases hq
      rw [List.length_append, List.map_append]
      exact ho.kept hset (own_other ho hcur (by decide))
    · rw [if_neg e] at hy hq
      have h1 := ha.els k y q hy hq
      have h2 := h1.kept hg (h.apart k t y u (fun e' => e e'.symm) hy hu)
      exact h2.kept hset (own_other h2 hcur (by decide))
  · intro j k y z hjk hy hz
    rw [List.getElem?_set] at hy hz
    have old : ∀ (k : Nat) (z : Value), t ≠ k → SL[k]? = some z → z.ownBlock = none ∨ z.ownBlock ≠ v'.ownBlock := by
      intro k z e hz
      rcases hat with e1 | e1
      · rw [e1]; exact h.apart k t z u (fun e' => e e'.symm) hz hu
      · rw [e1]
        cases hb : z.ownBlock with
        | none => exact .inl rfl
        | some b =>
          refine .inr fun e2 => ?_
          have := hlt.2 k z b hz hb
          have := Option.some.inj e2
          simp at this; omega
    by_cases e1 : t = j
    · rw [if_pos e1, if_pos htl] at hy
      cases hy
      rw [if_neg (by omega)] at hz
      rcases old k z (by omega) hz with h1 | h1
      · cases hv : v'.ownBlock with
        | none => exact .inl rfl
        | some b => exact .inr (by rw [h1]; simp)
      · exact .inr fun e => h1 e.symm
    · rw [if_neg e1] at hy
      by_cases e2 : t = k
      · rw [if_pos e2, if_pos htl] at hz
        cases hz
        exact old j y e1 hy
      · rw [if_neg e2] at hz
        exact h.apart j k y z hjk hy hz
end
theorem BK.start {B : Nat} {w : World} {n : Nat} (hB : B ≤ w.heap.size) (hn : n ≤ 1000000) : BK B (w.alloc (.cells (madeCells #[.slice none 0 0] n) 25)) (.slice (some ⟨w.heap.size, 0, none⟩) n n) (List.replicate n (.slice none 0 0)) (List.replicate n []) := by
  have ho := World.ownsRow_lit (base := B) (e := 25) (size := 1) w (madeCells #[.slice none 0 0] n) n hB (by unfold maxLen; omega) (by simp [madeCells])
  rw [toList_madeCells_one] at ho
  refine ⟨by rw [List.length_replicate]; exact ho, by simp, fun k x s hx hs => ?_, fun j k x y _ hx _ => ?_⟩
  · have h1 : x = .slice none 0 0 := List.eq_of_mem_replicate (List.mem_of_getElem? hx)
    have h2 : s = [] := List.eq_of_mem_replicate (List.mem_of_getElem? hs)
    subst h1 h2
    exact World.ownsRow_nil _ _ _ _
  · have h1 : x = .slice none 0 0 := List.eq_of_mem_replicate (List.mem_of_getElem? hx)
    subst h1; exact .inl rfl
theorem step_append_at {P : Program} {w : World} {ops : Array Oper} {o : Oper} {a : Act} {K : Act → World → Prop} {Q : Exit → Act → World → Prop} {E : Prop} (hgd : o.guard = none) (s x : Operand) (t : TypeId)
    (ho : o.op = .call { callee := .builtin .append, args := #[s, x], argTypes := #[t, t] })
    (base : Nat) (e : TypeId) (i : TypeInfo) (z : Value) (size bytes : Nat) (ht : P.underlying t = some (.slice e)) (hi : P.info? e = some i) (hz : i.zero = some z)
    (hsize : i.size = size) (hby : i.bytes = bytes) (hzs : z.cells.size = size) (hsz : 0 < size)
    (v : Value) (n : Nat) (xs : List Value) (hs : a.eval s = v) (hown : w.ownsRow base e size v n xs)
    (ad : Addr) (m c : Nat) (news : List Value) (hx : a.eval x = .slice (some ad) m c) (hl : news.length = m * size) (hnews : ∀ j u, news[j]? = some u → w.cell? (ad.add j) = some u) (h1 : ∀ u ∈ news, u.oneCell' = true)
    (h63 : n + m ≤ maxLen) (hbytes : (n + m) * bytes ≤ 140737488355328) (hbase : base ≤ w.heap.size)
    (h : ∀ v' w', w'.ownsRow base e size v' (n + m) (xs ++ news) → w.grownBy w' v.ownBlock → (v'.ownBlock = v.ownBlock ∨ v'.ownBlock = some w.heap.size) → K (a.put o.dst v') w') :
    if Region.wanted o (yielded ops a.tmps) = true then Oper.wp P o a w K Q else E := by
  have hw : Region.wanted o (yielded ops a.tmps) = true := by simp [Region.wanted, hgd]
  rw [if_pos hw]
  obtain ⟨v', w', hr, h2, h3, _, h5⟩ := run_append_own_at (P := P) w base t o.type e i z size bytes ht hi hz hsize hby hzs hsz v n xs hown ad m c news hl hnews h1 h63 hbytes hbase
  unfold Oper.wp execOp
  simp only [ho, resolve, invoke, builtin, Sem.run_bind, Sem.run_pure, Result.andThen_ok, List.map_toArray, List.map_cons, List.map_nil, hs, hx, hr]
  exact h v' w' h2 h3 h5
end
section
open Go.RowKit

/-- a list covers another one -/
def covB (Y s : List Int) : Bool := atMost Y s
theorem covers1_any (Ax : Option Addr) (nx cx : Nat) (X : List Int) (pb : Nat) (Ay : Option Addr) (ny cy : Nat) (Y : List Int) (w : World) (hx : ZIn w Ax X) (hl : X.length = nx) (hn : nx ≤ 9223372036854775807) (h : MB w pb Ay ny cy Y) (hy : ny ≤ nx) :
    Calls Tryd.prog 54 #[.slice Ax nx cx, .pointer (some ⟨pb, 0, none⟩)] w fun e w' => e = .returned (.bool (covB Y X)) ∧ Below w.heap.size w w' := by
  obtain ⟨h1, h2, h3⟩ := h
  have c0 : w.cell? ⟨pb, 0, none⟩ = some (.slice Ay ny cy) := by simp [World.cell?, h1]
  have HE := Lib.hid (below_any Ay ny cy Ax nx cx Y X w h2 h3 hx hl hy hn)
  clear h1 h2 h3 hx hl
  go_enter Tryd.func54, Tryd.ntmps54
  go_wp2_with fail
  ((with_reducible refine HE.out.mono ?_); rintro e w1 ⟨rfl, hb1⟩)
  have HB1 := Lib.hid hb1
  go_wp2_with fail
  go_ret
  exact ⟨rfl, HB1.out⟩
set_option maxHeartbeats 3200000 in
set_option maxRecDepth 100000 in
theorem lindex_cv (A : Option Addr) (n cap : Nat) (L : List (List Int)) (w : World) (h : LIn w A L) (hn : L.length = n) (hn4 : n ≤ 9223372036854775806) (pb : Nat) (Ay : Option Addr) (ny cy : Nat) (Y : List Int) (hln : ∀ s ∈ L, ny ≤ s.length ∧ s.length ≤ 1000) (hS : MB w pb Ay ny cy Y) :
    Calls Tryd.prog 53 #[.slice A n cap, .func (.func 54) #[] #[.pointer (some ⟨pb, 0, none⟩)]] w fun e w' => e = .returned (.int .i64 (lidx (covB Y) L)) ∧ Below w.heap.size w w' := by
  have H0 := Lib.hid h; clear h
  have HN := Lib.hid hn; clear hn
  have HSt := Lib.hid hS; clear hS
  go_enter Tryd.func53, Tryd.ntmps53
  go_wp2_with fail
  go_loopg [8] (n) (fun g i wr => ∃ k : Nat, k + g = n ∧ i = .int .i64 k ∧ (∀ s ∈ L.take k, (covB Y) s = false) ∧ Below w.heap.size w wr)
  case atStart => exact ⟨0, by omega, rfl, by simp, Below.refl _ _⟩
  case round =>
    obtain ⟨k, hk, rfl, hno, hB⟩ := hrel
    have HK := Lib.hid hk
    have HNo := Lib.hid hno
    have HB := Lib.hid hB
    have HT := Lib.hid (H0.out.below hB)
    have hle : k ≤ n := by omega
    clear hk hno hB
    by_cases hlt : k < n
    · have hlt' : k < L.length := by rw [HN.out]; exact hlt
      obtain ⟨ad, rfl, hp, u, c0, Ax, nx, cx, rfl, zx, hxl, hxc, hxd⟩ := HT.out k hlt'
      have HTk := Lib.hid (List.take_succ_eq_append_getElem hlt')
      have HAt := Lib.hid (lidx_at (p := (covB Y)) hlt')
      have hXm := List.getElem_mem hlt'
      generalize L[k] = X at *
      have HX := Lib.hid (covers1_any Ax nx cx X pb Ay ny cy Y wr zx hxl (by have := (hln X hXm).2; omega) (HSt.out.below HB.out) (by have := (hln X hXm).1; omega))
      clear hlt' zx hxl hXm
      cases hv : (covB Y) X with
      | true =>
        rw [hv] at HX
        have HV := Lib.hid (HAt.out hv HNo.out); clear hv
        go_wp2_with fail
        ((with_reducible refine HX.out.mono ?_); rintro e w1 ⟨rfl, hb1⟩)
        have HB1 := Lib.hid (below_then HB.out hb1)
        go_wp2_with fail
        go_ret
        exact ⟨ret_int HV.out.symm, HB1.out⟩
      | false =>
        rw [hv] at HX
        have HV := Lib.hid hv; clear hv HAt
        go_wp2_with fail
        ((with_reducible refine HX.out.mono ?_); rintro e w1 ⟨rfl, hb1⟩)
        have HB1 := Lib.hid (below_then HB.out hb1)
        clear hb1
        go_wp2_with fail
        go_roundg (gk - 1)
        case measure => have := HK.out; omega
        case rel => exact ⟨k + 1, by have := HK.out; omega, by go_num, by
          rw [HTk.out]; intro s hs
          rcases List.mem_append.1 hs with h1 | h1
          · exact HNo.out s h1
          · have : s = X := by simpa using h1
            rw [this]; exact HV.out, HB1.out⟩
    · have HV := Lib.hid (show lidx (covB Y) L = -1 from lidx_no (by have := HNo.out; rwa [List.take_of_length_le (by rw [HN.out]; omega)] at this))
      go_wp2_with fail
      go_ret
      exact ⟨ret_int HV.out.symm, HB.out⟩

/-- a block with two slices -/
theorem lin_two {w : World} {Am At : Option Addr} {m cm t ct : Nat} {M L : List Int} (hz : ZIn w Am M) (hm : M.length = m) (h1 : m ≤ cm) (h2 : cm ≤ 9223372036854775807) (kz : ZIn w At L) (hk : L.length = t) (k1 : t ≤ ct) (k2 : ct ≤ 9223372036854775807) :
    LIn (w.alloc (.cells #[.slice Am m cm, .slice At t ct] 25)) (some ⟨w.heap.size, 0, none⟩) [M, L] := by
  intro i hi
  have hn := heap_alloc_new w (.cells #[.slice Am m cm, .slice At t ct] 25)
  have ha : ∀ j, (⟨w.heap.size, 0, none⟩ : Addr).add j = ⟨w.heap.size, j, none⟩ := fun j => by unfold Addr.add; split <;> simp_all
  match i, hi with
  | 0, _ => exact ⟨_, rfl, by rw [add_block]; simp, .slice Am m cm, by rw [ha]; simp only [World.cell?, hn]; rfl, Am, m, cm, rfl, hz.below (below_alloc w _), hm, h1, h2⟩
  | 1, _ => exact ⟨_, rfl, by rw [add_block]; simp, .slice At t ct, by rw [ha]; simp only [World.cell?, hn]; rfl, At, t, ct, rfl, kz.below (below_alloc w _), hk, k1, k2⟩
  | i + 2, hi => simp at hi; omega
/-- the states of a tree -/
theorem GP.oll {w0 wr : World} {tb : Nat} {vN vS : Value} {NL : List Nv} {SL : List Value} {T : TS} (h : GP w0 wr tb vN vS NL SL T) : OLL w0 wr vS T.states :=
  ⟨SL, by rw [← h.stl]; exact h.sts, h.stl, fun k u s hu hs => h.str k u s hu hs, h.bel⟩
/-- the distances while they are filled -/
def fill1 (n k : Nat) : List Int := List.replicate k (-1) ++ List.replicate (n - k) 0
theorem fill1_len (n k : Nat) (h : k ≤ n) : (fill1 n k).length = n := by unfold fill1; simp; omega
theorem fill1_set (n k : Nat) (h : k < n) : (fill1 n k).set k (-1) = fill1 n (k + 1) := by
  apply List.ext_getElem?
  intro j
  unfold fill1
  rw [List.getElem?_set]
  by_cases e : k = j
  · subst e
    rw [if_pos rfl, if_pos (by simp; omega), List.getElem?_append_left (by simp)]
    simp
  · rw [if_neg e]
    rcases Nat.lt_or_ge j k with hj | hj
    · rw [List.getElem?_append_left (by simpa using hj), List.getElem?_append_left (by simp; omega)]
      simp [hj, show j < k + 1 by omega]
    · rw [List.getElem?_append_right (by simpa using hj), List.getElem?_append_right (by simp; omega)]
      simp only [List.length_replicate]
      rw [List.getElem?_replicate, List.getElem?_replicate]
      by_cases h2 : j < n
      · rw [if_pos (by omega), if_pos (by omega)]
      · rw [if_neg (by omega), if_neg (by omega)]
theorem fill1_full (n : Nat) : fill1 n n = List.replicate n (-1) := by simp [fill1]
/-- zeros made -/
theorem NS.made (w : World) (n : Nat) (hn : n ≤ 1000000) : NS w (w.alloc (.cells (madeCells #[.int .i64 0] n) 3)) (.slice (some ⟨w.heap.size, 0, none⟩) n n) (fill1 n 0) := by
  have ho := World.ownsRow_lit (base := w.heap.size) (e := 3) (size := 1) w (madeCells #[.int .i64 0] n) n (Nat.le_refl _) (by unfold maxLen; omega) (by simp [madeCells])
  rw [toList_madeCells_one] at ho
  refine ⟨?_, below_alloc w _⟩
  rw [fill1_len n 0 (Nat.zero_le _)]
  have e : (fill1 n 0).map (Value.int .i64) = List.replicate n (.int .i64 0) := by unfold fill1; simp
  rw [e]; exact ho
/-- the loop that fills the distances -/
def FiI (n : Nat) (w1 : World) (fb g : Nat) (iv : Value) (wr : World) : Prop :=
  ∃ k : Nat, k + g = n ∧ iv = .int .i64 (k : Int) ∧ NS w1 wr (.slice (some ⟨fb, 0, none⟩) n n) (fill1 n k)
/-- the loop that lays what leads to each state -/
def BkI (MV : List Mv) (n nm : Nat) (wb : World) (gb g : Nat) (iv : Value) (wr : World) : Prop :=
  ∃ (k : Nat) (SL : List Value), k + g = nm ∧ iv = .int .i64 (k : Int) ∧ BK wb.heap.size wr (.slice (some ⟨gb, 0, none⟩) n n) SL (backL (MV.take k) n) ∧ Below wb.heap.size wb wr
/-- the search's queue, a row of numbers in a block from a number on -/
def QR (U : Nat) (wr : World) (v : Value) (Q : List Int) : Prop := wr.ownsRow U 3 1 v Q.length (Q.map (Value.int .i64))
/-- the search -/
structure BS (MV : List Mv) (goal n : Nat) (LL : List (List Int)) (w1 : World) (B U fb gb : Nat) (SL : List Value) (F Q : List Int) (i : Nat) (part : List Int) (qv : Value) (wr : World) : Prop where
  bi : BI MV goal n F Q i part
  far : NS w1 wr (.slice (some ⟨fb, 0, none⟩) n n) F
  que : QR U wr qv Q
  bk : BK B wr (.slice (some ⟨gb, 0, none⟩) n n) SL LL
  il : i ≤ Q.length
  us : U ≤ wr.heap.size
def QuI (MV : List Mv) (goal n : Nat) (LL : List (List Int)) (w1 : World) (B U fb gb : Nat) (SL : List Value) (g : Nat) (iv qv : Value) (wr : World) : Prop :=
  ∃ (i : Nat) (F Q : List Int), i + g = n ∧ iv = .int .i64 (i : Int) ∧ BS MV goal n LL w1 B U fb gb SL F Q i [] qv wr
def Qu2 (MV : List Mv) (goal n : Nat) (LL : List (List Int)) (w1 : World) (B U fb gb : Nat) (SL : List Value) (i : Nat) (c : Int) (s : List Int) (g : Nat) (jv qv : Value) (wr : World) : Prop :=
  ∃ (j : Nat) (F Q : List Int), j + g = s.length ∧ jv = .int .i64 (j : Int) ∧ Q[i]? = some c ∧ BS MV goal n LL w1 B U fb gb SL F Q i (s.take j) qv wr
/-- the way so far -/
def WkI (MV : List Mv) (F : List Int) (goal n : Nat) (ww : World) (g : Nat) (ov sv : Value) (wr : World) : Prop :=
  ∃ (s : Nat) (l : List Int), (fd F s).toNat < g ∧ sv = .int .i64 (s : Int) ∧ s < n ∧ 0 ≤ fd F s ∧ wayD MV F goal (fd F 0).toNat 0 = l ++ wayD MV F goal (fd F s).toNat s ∧ NS ww wr ov l ∧ l.length + g ≤ n
/-- the step so far -/
def bestC (z : Int) : Option Mv → Array Value
  | none => #[.int .i64 0, .int .i64 0, .int .i64 z]
  | some x => #[.int .i64 x.f, .int .i64 x.t, .int .i64 x.s]
def PkI (MV : List Mv) (F : List Int) (s nm : Nat) (z : Int) (wx : World) (bb g : Nat) (jv : Value) (wr : World) : Prop :=
  ∃ j : Nat, j + g = nm ∧ jv = .int .i64 (j : Int) ∧ wr.heap[bb]? = some (.cells (bestC z (pick (MV.take j) F s)) 72 (0, 0)) ∧ Below wx.heap.size wx wr
/-- the state of the search while a number is written, or put in -/
theorem BS.lower {MV : List Mv} {goal n : Nat} {LL : List (List Int)} {w1 : World} {B U fb gb : Nat} {SL : List Value} {F Q : List Int} {i : Nat} {part : List Int} {qv : Value} {wr w' : World} (h : BS MV goal n LL w1 B U fb gb SL F Q i part qv wr) (hn : mvOk MV n)
    (hU : (∀ g, (Value.slice (some ⟨gb, 0, none⟩) n n).ownBlock = some g → B ≤ g ∧ g < U) ∧ ∀ (k : Nat) (x : Value) (g : Nat), SL[k]? = some x → x.ownBlock = some g → B ≤ g ∧ g < U) (hfb : fb < B) (hBU : B ≤ U) (hw1 : w1.heap.size ≤ fb)
    {c : Int} (hc : Q[i]? = some c) {x : Mv} (hx : x ∈ MV) (ht : x.t = c) (hneg : fd F x.f < 0) {o : Obj} {v' : Value}
    (ho : w'.ownsRow U 3 1 v' (Q.length + 1) (Q.map (Value.int .i64) ++ [.int .i64 x.f])) (hg : ((wr.setCell ⟨fb, x.f.toNat, none⟩ (.int .i64 (fd F c + 1))).alloc o).grownBy w' qv.ownBlock) :
    BS MV goal n LL w1 B U fb gb SL (F.set x.f.toNat (fd F c + 1)) (Q ++ [x.f]) i (part ++ [x.f]) v' w' := by
  have h1 := h.bi.pred hc hx ht hn
  rw [if_pos hneg, if_pos hneg] at h1
  have hset : wr.grownBy (wr.setCell ⟨fb, x.f.toNat, none⟩ (.int .i64 (fd F c + 1))) (some fb) := Lib.grownBy_setB (grown_refl wr (some fb)) x.f.toNat _
  have hf := h.far.set hw1 x.f.toNat (fd F c + 1)
  have hfa := hf.below (below_alloc _ o)
  have hq : ∀ g, qv.ownBlock = some g → U ≤ g := fun g hg => (h.que.lt g hg).1
  refine ⟨h1, hfa.kept hg (.inr fun e => ?_) (fun k hk => ?_), ?_, ?_, by rw [List.length_append]; have := h.il; omega, ?_⟩
  · have := hq fb e.symm; omega
  · have := hq k hk; omega
  · unfold QR; rw [List.length_append, List.map_append]; exact ho
  · have h2 := h.bk.far hU hset (fun g hg => by cases hg; exact .inl hfb)
    exact (h2.below (below_alloc _ o)).far hU hg (fun g hg => .inr (hq g hg))
  · have := h.us; have := hg.size; simp at this; omega
theorem BS.same {MV : List Mv} {goal n : Nat} {LL : List (List Int)} {w1 : World} {B U fb gb : Nat} {SL : List Value} {F Q : List Int} {i : Nat} {part : List Int} {qv : Value} {wr : World} (h : BS MV goal n LL w1 B U fb gb SL F Q i part qv wr) (hn : mvOk MV n)
    {c : Int} (hc : Q[i]? = some c) {x : Mv} (hx : x ∈ MV) (ht : x.t = c) (hneg : ¬ fd F x.f < 0) : BS MV goal n LL w1 B U fb gb SL F Q i (part ++ [x.f]) qv wr := by
  have h1 := h.bi.pred hc hx ht hn
  rw [if_neg hneg, if_neg hneg] at h1
  exact ⟨h1, h.far, h.que, h.bk, h.il, h.us⟩
theorem QR.slice {U : Nat} {wr : World} {v : Value} {Q : List Int} (h : QR U wr v Q) : ∃ A c, v = .slice A Q.length c := by
  rcases h.2 with ⟨rfl, h0⟩ | ⟨g, cap, cur, rfl, _⟩
  · exact ⟨none, 0, by rw [h0]⟩
  · exact ⟨_, cap, rfl⟩
theorem QR.at_ {U : Nat} {wr : World} {v : Value} {Q : List Int} (h : QR U wr v Q) {i : Nat} {c : Int} (hc : Q[i]? = some c) : ∃ g cap, v = .slice (some ⟨g, 0, none⟩) Q.length cap ∧ U ≤ g ∧ g < wr.heap.size ∧ wr.cell? ⟨g, i, none⟩ = some (.int .i64 c) := by
  have hl := (List.getElem?_eq_some_iff.1 hc).1
  obtain ⟨A, cap, rfl, hA⟩ := row_slice h
  obtain ⟨g, rfl, h1, h2⟩ := hA (by omega)
  refine ⟨g, cap, rfl, h1, h2, ?_⟩
  have hq := h.cells (g := g) rfl i (.int .i64 c) (by rw [List.getElem?_map, hc]; rfl)
  have ha : (⟨g, 0, none⟩ : Addr).add i = ⟨g, i, none⟩ := by unfold Addr.add; split <;> simp_all
  rw [ha] at hq; exact hq
/-- the distance of a state, as it is read -/
theorem NS.fdc {w wr : World} {g n cap : Nat} {F : List Int} (h : NS w wr (.slice (some ⟨g, 0, none⟩) n cap) F) (hl : F.length = n) (p : Nat) (hp : p < n) :
    wr.cell? ⟨g, p, none⟩ = some (.int .i64 (fd F p)) ∧ wr.frozen? ⟨g, p, none⟩ = false := by
  have hpl : p < F.length := by rw [hl]; exact hp
  obtain ⟨h1, h2⟩ := h.cells p hpl
  have e : fd F p = F[p] := by unfold fd; simp [hpl]
  exact ⟨by rw [e]; exact h1, h2⟩
/-- what a call does -/
def CvPo (N : Nt) (M L : List Int) (most : Int) (w : World) (e : Ending) (w' : World) : Prop :=
  Below w.heap.size w w' ∧ match beR N [M, L] 0 most with
  | .inl k => e = .returned (.tuple #[.bool false, .slice none 0 0, .int .i64 k])
  | .inr T => (e = .returned (.tuple #[.bool false, .slice none 0 0, .int .i64 0]) ∧ ∀ s ∈ T.states, covB L s = false) ∨
    ∃ (goal : Nat) (F : List Int) (v : Value), e = .returned (.tuple #[.bool true, v, .int .i64 0]) ∧ lidx (covB L) T.states = (goal : Int) ∧ goal < T.states.length ∧ IsD (movesOf T) goal T.states.length F ∧ 0 ≤ fd F 0 ∧ NS w w' v (wayD (movesOf T) F goal (fd F 0).toNat 0)
theorem CvPo.err {N : Nt} {M L : List Int} {most : Int} {w w' : World} {e : Ending} {k : Int} (h : beR N [M, L] 0 most = .inl k) (hb : Below w.heap.size w w') (he : e = .returned (.tuple #[.bool false, .slice none 0 0, .int .i64 k])) : CvPo N M L most w e w' := by
  refine ⟨hb, ?_⟩; rw [h]; exact he
theorem CvPo.no {N : Nt} {M L : List Int} {most : Int} {w w' : World} {e : Ending} {T : TS} (h : beR N [M, L] 0 most = .inr T) (hb : Below w.heap.size w w') (he : e = .returned (.tuple #[.bool false, .slice none 0 0, .int .i64 0])) (hno : ∀ s ∈ T.states, covB L s = false) : CvPo N M L most w e w' := by
  refine ⟨hb, ?_⟩; rw [h]; exact .inl ⟨he, hno⟩
theorem CvPo.yes {N : Nt} {M L : List Int} {most : Int} {w w' : World} {e : Ending} {T : TS} {goal : Nat} {F : List Int} {v : Value} (h : beR N [M, L] 0 most = .inr T) (he : e = .returned (.tuple #[.bool true, v, .int .i64 0])) (h1 : lidx (covB L) T.states = (goal : Int)) (h2 : goal < T.states.length) (h3 : IsD (movesOf T) goal T.states.length F) (h4 : 0 ≤ fd F 0) (h5 : NS w w' v (wayD (movesOf T) F goal (fd F 0).toNat 0)) : CvPo N M L most w e w' := by
  refine ⟨h5.2, ?_⟩; rw [h]; exact .inr ⟨goal, F, v, he, h1, h2, h3, h4, h5⟩
theorem lidx_cases (p : List Int → Bool) (L : List (List Int)) : (lidx p L = -1 ∧ ∀ s ∈ L, p s = false) ∨ ∃ goal : Nat, lidx p L = (goal : Int) ∧ goal < L.length ∧ ∃ s, L[goal]? = some s ∧ p s = true := by
  by_cases h : L.findIdx p = L.length
  · refine .inl ⟨by unfold lidx; rw [if_pos h], fun s hs => ?_⟩
    have := List.findIdx_eq_length.1 h s hs
    simpa using this
  · have hlt : L.findIdx p < L.length := by have := @List.findIdx_le_length _ p L; omega
    refine .inr ⟨L.findIdx p, by unfold lidx; rw [if_neg h], hlt, _, List.getElem?_eq_getElem hlt, List.findIdx_getElem⟩
end
section
open Go.RowKit

theorem mvb_cells {w : World} {b : Nat} {a0 a1 a2 : Value} (h : w.heap[b]? = some (.cells #[a0, a1, a2] 72 (0, 0))) : w.cell? ⟨b, 0, none⟩ = some a0 ∧ w.cell? ⟨b, 1, none⟩ = some a1 ∧ w.cell? ⟨b, 2, none⟩ = some a2 := by
  simp [World.cell?, h]
theorem mvb_soft {w : World} {b : Nat} {cs : Array Value} {T : TypeId} (h : w.heap[b]? = some (.cells cs T (0, 0))) : w.frozen? ⟨b, 0, none⟩ = false ∧ w.frozen? ⟨b, 1, none⟩ = false ∧ w.frozen? ⟨b, 2, none⟩ = false := by
  simp [World.frozen?, h]
theorem mvb_set {w : World} {b : Nat} {a0 a1 a2 : Value} (h : w.heap[b]? = some (.cells #[a0, a1, a2] 72 (0, 0))) (v0 v1 v2 : Value) : (((w.setCell ⟨b, 0, none⟩ v0).setCell ⟨b, 1, none⟩ v1).setCell ⟨b, 2, none⟩ v2).heap[b]? = some (.cells #[v0, v1, v2] 72 (0, 0)) := by
  have h0 : (w.setCell ⟨b, 0, none⟩ v0).heap[b]? = some (.cells #[v0, a1, a2] 72 (0, 0)) := by rw [heap_set2 h]; rfl
  have h1 : ((w.setCell ⟨b, 0, none⟩ v0).setCell ⟨b, 1, none⟩ v1).heap[b]? = some (.cells #[v0, v1, a2] 72 (0, 0)) := by rw [heap_set2 h0]; rfl
  rw [heap_set2 h1]; rfl
set_option maxHeartbeats 25600000 in
set_option maxRecDepth 100000 in
theorem covers_any (N : Nt) (A : Option Addr) (n0 c : Nat) (Am : Option Addr) (m cm : Nat) (M : List Int) (At : Option Addr) (t ct : Nat) (L : List Int) (most : Int) (w : World) (h : NtIn w A N) (hn : N.tr.length = n0) (hn2 : n0 ≤ 9223372036854775807) (hM : ZIn w Am M) (hm : M.length = m) (hm1 : m ≤ cm) (hm2 : cm ≤ 9223372036854775807)
    (hL : ZIn w At L) (hl : L.length = t) (hl1 : t ≤ ct) (hl2 : ct ≤ 9223372036854775807) (ht : Tb w) :
    Calls Tryd.prog 22 #[.agg #[.int .i64 N.pl, .slice A n0 c, .int .i64 N.src, .int .i64 N.snk], .slice Am m cm, .slice At t ct, .int .i64 most] w (CvPo N M L most w) := by
  have HB := Lib.hid (two_boxes w (.cells #[.int .i64 N.pl, .slice A n0 c, .int .i64 N.src, .int .i64 N.snk] 24) (.cells #[.slice At t ct] 25))
  have hnew := heap_alloc_new (w.alloc (.cells #[.int .i64 N.pl, .slice A n0 c, .int .i64 N.src, .int .i64 N.snk] 24)) (.cells #[.slice At t ct] 25)
  rw [World.size_alloc] at hnew
  have HNb := Lib.hid ((NB.new w N.pl A n0 c N.src N.snk).below (below_alloc _ (.cells #[.slice At t ct] 25)))
  have HMb := Lib.hid (show MB _ (w.heap.size + 1) At t ct L from ⟨hnew, hL.below HB.out, hl⟩)
  have hs0 : ((w.alloc (.cells #[.int .i64 N.pl, .slice A n0 c, .int .i64 N.src, .int .i64 N.snk] 24)).alloc (.cells #[.slice At t ct] 25)).heap.size = w.heap.size + 1 + 1 := by simp
  have HIn := Lib.hid (h.below HB.out)
  have HZ := Lib.hid (hM.below HB.out)
  have HT := Lib.hid (ht.below HB.out)
  have HMl := Lib.hid hm
  have HLl := Lib.hid hl
  have HNl := Lib.hid hn
  clear h hM ht hnew hm hl hn hL
  obtain ⟨i0, hi, hz0, hz1, hz2⟩ := info_parts intInfo
  have HI := Lib.hid (And.intro hi (And.intro hz0 (And.intro hz1 hz2)))
  clear hi hz0 hz1 hz2
  go_enter Tryd.func22, Tryd.ntmps22
  go_wp2_with fail
  generalize hpb : w.heap.size + 1 = pb at *
  generalize (w.alloc _).alloc _ = w0 at *
  clear hpb
  obtain ⟨b0, b1, b2, b3⟩ := HNb.out.cells
  have p0 : w0.cell? ⟨pb, 0, none⟩ = some (.slice At t ct) := by have := HMb.out.1; simp [World.cell?, this]
  have HLi := Lib.hid (lin_two HZ.out HMl.out hm1 hm2 HMb.out.2.1 HLl.out hl1 hl2)
  have HAl := Lib.hid (below_alloc w0 (.cells #[.slice Am m cm, .slice At t ct] 25))
  have HBe := Lib.hid (begin_any N A n0 c (some ⟨w0.heap.size, 0, none⟩) 2 2 [M, L] 0 most _ (HIn.out.below HAl.out) HNl.out hn2 HLi.out rfl (by decide) (by decide) (HT.out.below HAl.out))
  rw [hs0] at HBe
  go_wp2_with fail
  ((with_reducible refine HBe.out.mono ?_); rintro e w1 hP)
  rcases hP.parts with ⟨k, hR, hk, rfl, hb1⟩ | ⟨T, tb, vN, vS, NL, SLs, hR, rfl, hgp, hgr, hall⟩
  · have HR := Lib.hid hR
    have HB1 := Lib.hid (below_then HB.out (below_then HAl.out hb1))
    clear hR hb1 hP HBe HLi HIn HZ HT b0 b1 b2 b3 HNb p0 HMb
    go_wp2_with fail
    exact bodyPost_ret (v := .tuple #[.bool false, .slice none 0 0, .int .i64 k]) (by simp [results, Tryd.results22, go_sem]) rfl (CvPo.err HR.out HB1.out rfl)
  · have hmk : mkB N M = true := by simp only [List.all_cons, List.all_nil, Bool.and_true, Bool.and_eq_true] at hall; exact hall.1
    have hmkL : mkB N L = true := by simp only [List.all_cons, List.all_nil, Bool.and_true, Bool.and_eq_true] at hall; exact hall.2
    have hgood := grow_good (N := N) (M := M) hmk hgr
    have hpl := mk_len hmk
    have hplL := mk_len hmkL
    have hps := nt_small (mk_nt hmk)
    have hmo := moves_ok hgood.1
    have HR := Lib.hid hR
    have HTI := Lib.hid hgood.1
    have HSl := Lib.hid (fun s hs => hgood.1.slen hgood.2.2.1 hgood.2.2.2 s hs)
    have htm : t = m := by have := HMl.out; have := HLl.out; omega
    have HG1 := Lib.hid (hgp.up HAl.out)
    have HAl1 := Lib.hid (below_then HAl.out hgp.bel)
    have HB1 := Lib.hid (below_then HB.out HAl1.out)
    have HMb1 := Lib.hid (HMb.out.below HAl1.out)
    have HStl := Lib.hid hgp.stl
    have hsl : SLs.length ≤ 20001 := by rw [hgp.stl]; have := hgood.1.cnt; have := hgood.1.len; omega
    have hsl0 : 0 < SLs.length := by rw [hgp.stl]; exact (List.getElem?_eq_some_iff.1 hgood.1.one).1
    have HMo := Lib.hid hmo.1
    have HMs := Lib.hid hmo.2
    have hm40 : m ≤ 40 := by have := HMl.out; omega
    have hml : (movesOf T).length ≤ 20000 := by rw [movesOf_len]; have := hgood.1.len; omega
    have HOl := Lib.hid HG1.out.oll
    obtain ⟨AS, cS, hvS, hAS⟩ := row_slice hgp.sts
    subst hvS
    have HNn := Lib.hid hgp.stl.symm
    have HLin := Lib.hid (show LIn w1 AS T.states by obtain ⟨A', c', e, h1, _⟩ := HOl.out.lin; injection e with e1 e2 e3; subst e1; exact h1)
    have HIx := Lib.hid (lindex_cv AS SLs.length cS T.states w1 HLin.out HStl.out.symm (by omega) pb At t ct L (fun s hs => by have := HSl.out s hs; have := HMl.out; omega) HMb1.out)
    have HLc := Lib.hid (lidx_cases (covB L) T.states)
    clear hR hP HBe HLi HIn HZ HT b0 b1 b2 b3 HNb hgood hgr hall hgp hAS hps hpl hplL p0 HMb HAl HAl1 hmk hmkL hmo
    generalize SLs.length = n at *
    obtain ⟨t0, t1, _, _⟩ := HG1.out.cells
    obtain ⟨ix, hix⟩ : ∃ ix, lidx (covB L) T.states = ix := ⟨_, rfl⟩
    rw [hix] at HIx HLc
    have HIXE := Lib.hid hix
    clear hix
    rcases HLc.out with ⟨rfl, hno⟩ | ⟨goal, rfl, hgl, sg, hsg, hcv⟩
    · have HNo := Lib.hid hno
      clear hno HLc
      go_wp2_with fail
      ((with_reducible refine HIx.out.mono ?_); rintro e w2 ⟨rfl, hb2⟩)
      have HB2 := Lib.hid (below_then HB1.out hb2)
      clear hb2
      go_wp2_with fail
      exact bodyPost_ret (v := .tuple #[.bool false, .slice none 0 0, .int .i64 0]) (by simp [results, Tryd.results22, go_sem]) rfl (CvPo.no HR.out HB2.out rfl HNo.out)
    have hgn : goal < n := by have := HNn.out; omega
    clear HLc hsg hcv hgl
    go_wp2_with fail
    ((with_reducible refine HIx.out.mono ?_); rintro e w2 ⟨rfl, hb2⟩)
    have HB2 := Lib.hid (below_then HB1.out hb2)
    have HG2 := Lib.hid (HG1.out.below hb2)
    clear hb2 t0 t1 HIx HLin HOl HMb1 HG1 HB1
    have HSp := Lib.hid (space_any w0 tb _ _ NL SLs N M T w2 HG2.out HTI.out (fun s hs => by have h1 := HSl.out s hs; have := HMl.out; omega))
    obtain ⟨t0, t1, _, _⟩ := HG2.out.cells
    have hg0 : (0 : Int) ≤ (goal : Int) := by omega
    go_wp2_with fail
    ((with_reducible refine HSp.out.mono ?_); rintro e w3 ⟨vS2, vM2, rfl, hO, hMv⟩)
    have HB3 := Lib.hid (below_then HB2.out hO.bel)
    have HG3 := Lib.hid (HG2.out.below hO.bel)
    obtain ⟨Aa, ca, rfl⟩ := hO.slice
    obtain ⟨MV, hMV⟩ : ∃ MV, movesOf T = MV := ⟨_, rfl⟩
    rw [hMV] at hMv HMo HMs hml
    rw [HNn.out] at HMo
    have HMV := Lib.hid hMV
    obtain ⟨Ab, cb, hv, _, _, _, hrd, _⟩ := own_rd mvC_len (by decide) hMv.1
    subst hv
    obtain ⟨nm, hnm⟩ : ∃ nm, MV.length = nm := ⟨_, rfl⟩
    rw [hnm] at hml ⊢
    have HNm := Lib.hid hnm
    have HRd := Lib.hid hrd
    have hfd : ∀ w : World, (Instr.field 31 (.agg #[.slice Aa n ca, .slice Ab nm cb, .bool true]) 1).run Tryd.prog w = .ok (.slice Ab nm cb) w := fun _ => by kernel_rfl
    have hmk1 : ∀ w : World, (Instr.makeSlice 25 (.int .i64 (n : Int)) (.int .i64 (n : Int))).run Tryd.prog w = .ok (.slice (some ⟨w.heap.size, 0, none⟩) n n) (w.alloc (.cells (madeCells #[.int .i64 0] n) 3)) := fun w => run_make_row' 25 3 (.int .i64 0) 8 Tryd.underlying25 intInfo rfl .i64 .i64 n (by omega) (by omega) w
    have hmk2 : ∀ w : World, (Instr.makeSlice 28 (.int .i64 (n : Int)) (.int .i64 (n : Int))).run Tryd.prog w = .ok (.slice (some ⟨w.heap.size, 0, none⟩) n n) (w.alloc (.cells (madeCells #[.slice none 0 0] n) 25)) := fun w => run_make_row' 28 25 (.slice none 0 0) 24 Tryd.underlying28 rowInfo rfl .i64 .i64 n (by omega) (by omega) w
    clear HSp hO hMv t0 t1 HG2 HB2 hMV hrd hnm
    rw [HNn.out]
    obtain ⟨t0, t1, _, _⟩ := HG3.out.cells
    go_wp2_with fail
    have HF0 := Lib.hid (NS.made w3 n (by omega))
    obtain ⟨fb, hfb⟩ : ∃ fb, w3.heap.size = fb := ⟨_, rfl⟩
    rw [hfb] at HF0 ⊢
    generalize w3.alloc _ = w4 at *
    clear t0 t1 hmk1 hfd
    go_loopg [60] (n) (fun g iv wr => FiI n w3 fb g iv wr)
    case atStart => exact ⟨0, by omega, rfl, HF0.out⟩
    case round =>
      clear HF0
      obtain ⟨k, hkg, rfl, hS⟩ := hrel
      have HK := Lib.hid hkg
      have HS := Lib.hid hS
      have hle : k ≤ n := by omega
      have hgr : fb < wr.heap.size := (hS.1.lt fb rfl).2
      clear hkg hS
      by_cases hlt : k < n
      · obtain ⟨q0, q1⟩ := HS.out.cells k (by rw [fill1_len n k hle]; exact hlt)
        generalize (fill1 n k)[k]'_ = z at q0
        have hlt' : (k : Int) < (n : Int) := by omega
        go_wp2_with fail
        go_roundg (gk - 1)
        case measure => have := HK.out; omega
        case rel => exact ⟨k + 1, by have := HK.out; omega, by go_num, by rw [← fill1_set n k hlt]; exact HS.out.set (by omega) k _⟩
      · have HF1 := Lib.hid (show NS w3 wr (.slice (some ⟨fb, 0, none⟩) n n) (List.replicate n (-1)) by have := HS.out; rwa [show k = n by omega, fill1_full] at this)
        obtain ⟨q0, q1⟩ := HF1.out.cells goal (by simpa using hgn)
        generalize (List.replicate n (-1 : Int))[goal]'_ = z at q0
        have HF2 := Lib.hid (HF1.out.set (by omega) goal 0)
        have hgn' : (goal : Int) < (n : Int) := by omega
        have HGr := Lib.hid (HG3.out.below HF1.out.2)
        have HGs := Lib.hid (HG3.out.below HF2.out.2)
        obtain ⟨t0, t1, _, _⟩ := HGs.out.cells
        have hsz : (wr.setCell ⟨fb, goal, none⟩ (.int .i64 0)).heap.size = wr.heap.size := by simp
        clear HS HF1 HK
        go_wp2_with fail
        obtain ⟨gb, hgb⟩ : ∃ gb, wr.heap.size = gb := ⟨_, rfl⟩
        have HK0 := Lib.hid (BK.start (B := gb) (w := wr.setCell ⟨fb, goal, none⟩ (.int .i64 0)) (n := n) (by rw [hsz, hgb]; exact Nat.le_refl _) (by omega))
        have HA5 := Lib.hid (below_alloc (wr.setCell ⟨fb, goal, none⟩ (.int .i64 0)) (.cells (madeCells #[.slice none 0 0] n) 25))
        rw [hsz] at HK0
        have hgf : fb < gb := by omega
        generalize wr.setCell ⟨fb, goal, none⟩ (.int .i64 0) = wb at *
        rw [hgb] at HK0 hsz ⊢
        generalize wb.alloc _ = w5 at *
        clear hmk2 t0 t1 q0 q1 HGs HGr hgr hle hlt hgb
        obtain ⟨wo, rfl⟩ : ∃ wo : World, wo = wr := ⟨_, rfl⟩
        go_loopg [78] (nm) (fun g iv wr => BkI MV n nm wb gb g iv wr)
        case atStart => exact ⟨0, _, by omega, rfl, by rw [List.take_zero, backL_nil, hsz]; exact HK0.out, HA5.out⟩
        case round =>
          clear HK0 HA5
          obtain ⟨k, SLb, hkg, rfl, hbk, hB⟩ := hrel
          rw [hsz] at hbk
          have HK := Lib.hid hkg
          have HBk := Lib.hid hbk
          have HBx := Lib.hid hB
          have hle : k ≤ nm := by omega
          have HRx := Lib.hid (HRd.out.below (below_then HF2.out.2 hB))
          clear hkg hbk hB
          by_cases hlt : k < nm
          · have hlt' : k < MV.length := by rw [HNm.out]; exact hlt
            obtain ⟨am, rfl, hpa, m0, m1, m2⟩ := mv_cells HRx.out hlt'
            obtain ⟨tt, htt⟩ := Int.eq_ofNat_of_zero_le (HMo.out _ (List.getElem_mem hlt')).2.2.1
            have htn : tt < n := by have := (HMo.out _ (List.getElem_mem hlt')).2.2.2; omega
            obtain ⟨s, hs⟩ : ∃ s, (backL (MV.take k) n)[tt]? = some s := ⟨_, List.getElem?_eq_getElem (by rw [backL_len]; exact htn)⟩
            have HBT := Lib.hid (backL_take MV n k tt hlt' htt htn hs)
            have hsl : s.length ≤ 20000 := by have := backL_short _ n tt hs; rw [List.length_take] at this; omega
            obtain ⟨u, hu, hgl, c0, c1, hue⟩ := HBk.out.at_ rfl hs
            have HU := Lib.hid (And.intro hu hs)
            have hti : (tt : Int) < (n : Int) := by omega
            rw [htt] at m1
            generalize MV[k].f = f at *
            generalize MV[k].s = sy at *
            clear hlt' htt hu hs hue c1
            go_wp2_with fail
            have HX0 := Lib.hid (heap_alloc_new wr (.cells #[.int .i64 f, .int .i64 (tt : Int), .int .i64 sy] 72))
            have HAx := Lib.hid (below_alloc wr (.cells #[.int .i64 f, .int .i64 (tt : Int), .int .i64 sy] 72))
            have hxg : gb ≠ wr.heap.size := by omega
            generalize hxe : wr.heap.size = xb at *
            generalize wr.alloc _ = w6 at *
            rw [← hxe] at HAx
            have hbd : Below w6.heap.size w6 w6.drew := (Below.refl _ _).drew
            have HBd := Lib.hid ((HBk.out.below HAx.out).below hbd)
            have HXd := Lib.hid (show w6.drew.heap[xb]? = some (.cells #[.int .i64 f, .int .i64 (tt : Int), .int .i64 sy] 72 (0, 0)) by rw [hbd.block xb (Array.getElem?_eq_some_iff.1 HX0.out).1]; exact HX0.out)
            have HBw := Lib.hid (below_then HBx.out (below_then HAx.out hbd))
            obtain ⟨u', hu', hgl', c0', c1', hue'⟩ := HBd.out.at_ rfl HU.out.2
            obtain rfl : u = u' := Option.some.inj (HU.out.1.symm.trans hu')
            have x0 : w6.drew.cell? ⟨xb, 0, none⟩ = some (.int .i64 f) := by have := HXd.out; simp [World.cell?, this]
            have x1 : w6.drew.cell? ⟨xb, 1, none⟩ = some (.int .i64 (tt : Int)) := by have := HXd.out; simp [World.cell?, this]
            have hS0 := And.intro x0 (And.intro x1 c0')
            have HUe := Lib.hid hue'
            refine wp_region_e_drew 13 (S := fun w' => w'.cell? ⟨xb, 0, none⟩ = some (.int .i64 f) ∧ w'.cell? ⟨xb, 1, none⟩ = some (.int .i64 (tt : Int)) ∧ w'.cell? ⟨gb, tt, none⟩ = some u) (by kernel_rfl) hS0 (fun hHeld => ?_)
            clear hS0 x0 x1 c0 c0' c1' hue' hu' hbd HX0 HAx m0 m1 m2 hgl hgl'
            generalize w6.drew = wd at *
            refine wpAnyE_take (i := 0) (v := ?_) [12, 13] rfl (by kernel_rfl) (by kernel_rfl) (by kernel_rfl) (by kernel_rfl) (by kernel_rfl) (by kernel_rfl) (fun _ _ _ h => h) (Or.inl ⟨by rfl, ?_⟩) (by assumption) ?_
            rotate_left
            · intro w hSw; (try dsimp only at hSw); go_simp; try (with_reducible rfl)
            try go_simp
            refine wpAnyE_take (i := 1) (v := ?_) [2, 12, 13] rfl (by kernel_rfl) (by kernel_rfl) (by kernel_rfl) (by kernel_rfl) (by kernel_rfl) (by kernel_rfl) (fun _ _ _ h => h) (Or.inl ⟨by rfl, ?_⟩) (by assumption) ?_
            rotate_left
            · intro w hSw; (try dsimp only at hSw); go_simp; try (with_reducible rfl)
            try go_simp
            refine wpAnyE_take (i := 2) (v := ?_) [12, 13] rfl (by kernel_rfl) (by kernel_rfl) (by kernel_rfl) (by kernel_rfl) (by kernel_rfl) (by kernel_rfl) (fun _ _ _ h => h) (Or.inl ⟨by rfl, ?_⟩) (by assumption) ?_
            rotate_left
            · intro w hSw; (try dsimp only at hSw); go_simp; try (with_reducible rfl)
            try go_simp
            refine wpAnyE_take (i := 3) (v := ?_) [6, 7, 11, 13] rfl (by kernel_rfl) (by kernel_rfl) (by kernel_rfl) (by kernel_rfl) (by kernel_rfl) (by kernel_rfl) (fun _ _ _ h => h) (Or.inl ⟨by rfl, ?_⟩) (by assumption) ?_
            rotate_left
            · intro w hSw; (try dsimp only at hSw); go_simp; try (with_reducible rfl)
            try go_simp
            refine wpAnyE_take (i := 4) (v := ?_) [5, 6, 7, 11, 13] rfl (by kernel_rfl) (by kernel_rfl) (by kernel_rfl) (by kernel_rfl) (by kernel_rfl) (by kernel_rfl) (fun _ _ _ h => h) (Or.inl ⟨by rfl, ?_⟩) (by assumption) ?_
            rotate_left
            · intro w hSw; (try dsimp only at hSw); go_simp; try (with_reducible rfl)
            try go_simp
            refine wpAnyE_take (i := 5) (v := ?_) [6, 7, 11, 13] rfl (by kernel_rfl) (by kernel_rfl) (by kernel_rfl) (by kernel_rfl) (by kernel_rfl) (by kernel_rfl) (fun _ _ _ h => h) (Or.inl ⟨by rfl, ?_⟩) (by assumption) ?_
            rotate_left
            · intro w hSw; (try dsimp only at hSw); go_simp; try (with_reducible rfl)
            try go_simp
            refine wpAnyE_take (i := 6) (v := ?_) [7, 11, 13] rfl (by kernel_rfl) (by kernel_rfl) (by kernel_rfl) (by kernel_rfl) (by kernel_rfl) (by kernel_rfl) (fun _ _ _ h => h) (Or.inl ⟨by rfl, ?_⟩) (by assumption) ?_
            rotate_left
            · intro w hSw; (try dsimp only at hSw); go_simp; try (with_reducible rfl)
            try go_simp
            refine wpAnyE_take (i := 7) (v := ?_) [11, 13] rfl (by kernel_rfl) (by kernel_rfl) (by kernel_rfl) (by kernel_rfl) (by kernel_rfl) (by kernel_rfl) (fun _ _ _ h => h) (Or.inl ⟨by rfl, ?_⟩) (by assumption) ?_
            rotate_left
            · intro w hSw; (try dsimp only at hSw); go_simp; try (with_reducible rfl)
            try go_simp
            refine wpAnyE_take (i := 8) (v := ?_) [9, 10, 11, 13] rfl (by kernel_rfl) (by kernel_rfl) (by kernel_rfl) (by kernel_rfl) (by kernel_rfl) (by kernel_rfl) (fun _ _ _ h => h) (Or.inl ⟨by rfl, ?_⟩) (by assumption) ?_
            rotate_left
            · intro w hSw; (try dsimp only at hSw); go_simp; try (with_reducible rfl)
            try go_simp
            refine wpAnyE_take (i := 9) (v := ?_) [10, 11, 13] rfl (by kernel_rfl) (by kernel_rfl) (by kernel_rfl) (by kernel_rfl) (by kernel_rfl) (by kernel_rfl) (fun _ _ _ h => h) (Or.inl ⟨by rfl, ?_⟩) (by assumption) ?_
            rotate_left
            · intro w hSw; (try dsimp only at hSw); go_simp; try (with_reducible rfl)
            try go_simp
            have hS0 := hHeld
            refine wpAnyE_one (i := 10) (by kernel_rfl) rfl (fun K hK => ?_)
            go_simp
            skip
            refine hK.out _ _ (fun _ => ⟨cell_stays (below_alloc _ _) hS0.1, cell_stays (below_alloc _ _) hS0.2.1, cell_stays (below_alloc _ _) hS0.2.2⟩) (fun hH => ?_)
            have hHeld := hH (by decide)
            clear hH hK K
            try go_simp
            refine wpAnyE_one (i := 11) (by kernel_rfl) rfl (fun K hK => ?_)
            refine step_append_at rfl _ _ 25 rfl gb 3 i0 (.int .i64 0) 1 8 Tryd.underlying25 HI.out.1 HI.out.2.1 HI.out.2.2.1 HI.out.2.2.2 rfl (by decide) u _ _ rfl (HUe.out.alloc _) ⟨wd.heap.size, 0, none⟩ 1 1 [.int .i64 f] rfl rfl ?c1 ?c2 ?c3 ?c4 ?c5 ?_
            case c1 => exact news_blk (heap_alloc_new wd (.cells #[.int .i64 f] 3))
            case c2 => intro u hu; simp at hu; subst hu; rfl
            case c3 => unfold maxLen; omega
            case c4 => omega
            case c5 => have := HBw.out.size; simp; omega
            intro v5 w7 hown7 hgrow7 hat7
            obtain ⟨A5, c5, rfl, _⟩ := row_slice hown7
            have hal := below_alloc wd (.cells #[.int .i64 f] 3)
            obtain ⟨cur, hcur⟩ := own_kind HBd.out.row rfl
            have hcur2 : (wd.alloc (.cells #[.int .i64 f] 3)).heap[gb]? = some (.cells cur 25 (0, 0)) := by rw [hal.block gb (Array.getElem?_eq_some_iff.1 hcur).1]; exact hcur
            have hng := row_block (HUe.out.alloc (.cells #[.int .i64 f] 3)) hcur2 (by decide)
            have hcur3 : w7.heap[gb]? = some (.cells cur 25 (0, 0)) := by rw [hgrow7.block gb (Array.getElem?_eq_some_iff.1 hcur2).1 hng]; exact hcur2
            have hX2 : (wd.alloc (.cells #[.int .i64 f] 3)).heap[xb]? = some (.cells #[.int .i64 f, .int .i64 (tt : Int), .int .i64 sy] 72 (0, 0)) := by rw [hal.block xb (Array.getElem?_eq_some_iff.1 HXd.out).1]; exact HXd.out
            have hnx := row_block (HUe.out.alloc (.cells #[.int .i64 f] 3)) hX2 (by decide)
            have y0 := hgrow7.cell (cell_stays hal hS0.1) hnx
            have y1 := hgrow7.cell (cell_stays hal hS0.2.1) hnx
            have y2 := hgrow7.cell (cell_stays hal hS0.2.2) hng
            have xf : w7.frozen? ⟨gb, tt, none⟩ = false := by simp [World.frozen?, hcur3]
            have HB7 := Lib.hid (HBd.out.push HU.out.1 HU.out.2 hown7 hgrow7 hat7)
            have HBe := Lib.hid (((HBw.out.alloc (by have := HBw.out.size; omega) (.cells #[.int .i64 f] 3)).grown hgrow7 (by have := HBw.out.size; simp; omega) (fun k hk => by have := (HUe.out.lt k hk).1; omega)).setCell (p := ⟨gb, tt, none⟩) (by show wb.heap.size ≤ gb; omega) (.slice A5 (s.length + 1) c5))
            refine hK.out _ _ (fun _ => ⟨y0, y1, y2⟩) (fun hH => ?_)
            have hHeld := hH (by decide)
            clear hH hK K y0 y1 y2 hcur hcur2 hcur3 hX2 hnx hng hal hown7 hgrow7 hat7
            try go_simp
            refine wpAnyE_take (i := 12) (v := ?_) [13] rfl (by kernel_rfl) (by kernel_rfl) (by kernel_rfl) (by kernel_rfl) (by kernel_rfl) (by kernel_rfl) (fun _ _ _ h => h) (Or.inl ⟨by rfl, ?_⟩) (by assumption) ?_
            rotate_left
            · intro w hSw; (try dsimp only at hSw); go_simp; try (with_reducible rfl)
            try go_simp
            refine wpAnyE_one (i := 13) (by kernel_rfl) rfl (fun K hK => ?_)
            go_simp
            skip
            refine hK.out _ _ (fun h => absurd rfl h) (fun _ => ?_)
            clear hK K
            try go_simp
            refine wpAnyE_done (by kernel_rfl) ?_ _
            clear hHeld hS0 xf HXd HBd HUe HBw HU
            generalize w7.setCell ⟨gb, tt, none⟩ _ = w8 at *
            go_wp2_with fail
            go_roundg (gk - 1)
            case measure => have := HK.out; omega
            case rel => exact ⟨k + 1, _, by have := HK.out; omega, by go_num, by rw [HBT.out, hsz]; exact HB7.out, HBe.out⟩
          · have HBk1 := Lib.hid (show BK gb wr (.slice (some ⟨gb, 0, none⟩) n n) SLb (backL MV n) by have := HBk.out; rwa [List.take_of_length_le (by rw [HNm.out]; omega)] at this)
            have HFr := Lib.hid (HF2.out.below HBx.out)
            have HUb := Lib.hid HBk1.out.lt
            have HQ0 := Lib.hid (show QR wr.heap.size (wr.alloc (.cells #[.int .i64 (goal : Int)] 3)) (.slice (some ⟨wr.heap.size, 0, none⟩) 1 1) [(goal : Int)] from World.ownsRow_lit (base := wr.heap.size) (e := 3) (size := 1) wr #[.int .i64 (goal : Int)] 1 (Nat.le_refl _) (by unfold maxLen; omega) rfl)
            have HAq := Lib.hid (below_alloc wr (.cells #[.int .i64 (goal : Int)] 3))
            have HBS0 := Lib.hid (BS.mk (BI.start MV goal n hgn) (HFr.out.below HAq.out) HQ0.out (HBk1.out.below HAq.out) (Nat.zero_le _) HAq.out.size)
            have hBU : gb ≤ wr.heap.size := by have := (HBk1.out.row.lt gb rfl).2; omega
            clear HK HBk HBx HRx HF2 HBk1 HFr HQ0 HAq
            go_wp2_with fail
            generalize wr.alloc _ = w9 at *
            generalize wr.heap.size = U at *
            clear hlt hle
            go_loopg [20, 21] (n) (fun g qv iv wr => QuI MV goal n (backL MV n) w3 gb U fb gb SLb g iv qv wr)
            case atStart => exact ⟨0, _, _, by omega, rfl, HBS0.out⟩
            case round =>
              clear HBS0
              obtain ⟨i, F, Q, hig, rfl, hBS⟩ := hrel
              obtain ⟨Aq, cq, rfl⟩ := hBS.que.slice
              have HBS := Lib.hid hBS
              have HK := Lib.hid hig
              have hQn : Q.length ≤ n := hBS.bi.room
              have hil : i ≤ Q.length := hBS.il
              clear hig
              by_cases hlt : i < Q.length
              · obtain ⟨c, hc⟩ : ∃ c, Q[i]? = some c := ⟨_, List.getElem?_eq_getElem hlt⟩
                obtain ⟨gq, cq', he, hgq, hgql, r0⟩ := hBS.que.at_ hc
                cases he
                obtain ⟨hc0, hc1⟩ := hBS.bi.rng c (List.mem_of_getElem? hc)
                obtain ⟨cn, rfl⟩ := Int.eq_ofNat_of_zero_le hc0
                have hcn : cn < n := by omega
                obtain ⟨s, hs⟩ : ∃ s, (backL MV n)[cn]? = some s := ⟨_, List.getElem?_eq_getElem (by rw [backL_len]; exact hcn)⟩
                have HSs := Lib.hid hs
                have hsl : s.length ≤ 20000 := by have := backL_short _ n cn hs; rw [HNm.out] at this; omega
                obtain ⟨u, hu, hgl, c0, _, hue⟩ := hBS.bk.at_ rfl hs
                obtain ⟨Au, cu, rfl, _⟩ := row_slice hue
                have HUu := Lib.hid hu
                have HC := Lib.hid hc
                have hii : (i : Int) < (Q.length : Int) := by omega
                have hBU2 := hBU
                clear hBS hs hu hue hc
                go_wp2_with fail
                clear r0 c0
                obtain ⟨go, rfl⟩ : ∃ go, go = gk := ⟨_, rfl⟩
                obtain ⟨wo, rfl⟩ : ∃ wo : World, wo = wr := ⟨_, rfl⟩
                go_loopg [112, 20] (s.length) (fun g jv qv wr => Qu2 MV goal n (backL MV n) w3 gb U fb gb SLb i (cn : Int) s g jv qv wr)
                case atStart => exact ⟨0, F, Q, by omega, rfl, HC.out, by rw [List.take_zero]; exact HBS.out⟩
                case round =>
                  clear HBS hgq hgql hgl hii hQn hil hlt HC
                  obtain ⟨j, F2, Q2, hjg, rfl, hc2, hBS2⟩ := hrel
                  obtain ⟨Aq2, cq2, rfl⟩ := hBS2.que.slice
                  have HBS := Lib.hid hBS2
                  have HJ := Lib.hid hjg
                  have HC := Lib.hid hc2
                  have hjl : j ≤ s.length := by omega
                  have hQn : Q2.length ≤ n := hBS2.bi.room
                  clear hjg
                  by_cases hjt : j < s.length
                  · obtain ⟨x, hx, hxt, hxf⟩ := (backL_mem MV n cn HSs.out s[j]).1 (List.getElem_mem hjt)
                    obtain ⟨hm1', hm2', _, _⟩ := HMo.out x hx
                    obtain ⟨fn, hfn⟩ := Int.eq_ofNat_of_zero_le hm1'
                    have hfnn : fn < n := by omega
                    obtain ⟨u2, hu2, hgl, c0, _, hue⟩ := hBS2.bk.at_ rfl HSs.out
                    obtain rfl := Option.some.inj (HUu.out.symm.trans hu2)
                    obtain ⟨gu, cu', he, _, hgu, rj⟩ := QR.at_ (U := gb) hue (List.getElem?_eq_getElem hjt)
                    cases he
                    rw [← hxf, hfn] at rj
                    obtain ⟨q0, q1⟩ := hBS2.far.fdc hBS2.bi.len fn hfnn
                    obtain ⟨q2, _⟩ := hBS2.far.fdc hBS2.bi.len cn hcn
                    obtain ⟨gq2, cq2', he, hgq, hgql, r0⟩ := hBS2.que.at_ hc2
                    cases he
                    have hfb2 : fb < wr.heap.size := (hBS2.far.1.lt fb rfl).2
                    have HTk := Lib.hid (show s.take (j + 1) = s.take j ++ [(fn : Int)] by rw [List.take_succ_eq_append_getElem hjt, ← hxf, hfn])
                    have hil2 := (List.getElem?_eq_some_iff.1 hc2).1
                    have hii : (i : Int) < (Q2.length : Int) := by omega
                    have hee := hBS2.bi.bound i _ hc2
                    have hce : 0 ≤ fd F2 (cn : Int) := (hBS2.bi.mem cn hcn).2 (List.mem_of_getElem? hc2)
                    have hfi : (fn : Int) < (n : Int) := by omega
                    have hci : (cn : Int) < (n : Int) := by omega
                    have hji : (j : Int) < (s.length : Int) := by omega
                    by_cases hneg : fd F2 (fn : Int) < 0
                    · have q3 : decide (fd F2 (fn : Int) < 0) = true := decide_eq_true hneg
                      have HLow := Lib.hid (fun (w' : World) (o : Obj) (v' : Value) => BS.lower (w' := w') (o := o) (v' := v') hBS2 HMo.out HUb.out hgf hBU (by omega) hc2 hx hxt (by rw [hfn]; exact hneg))
                      rw [hfn, Int.toNat_natCast] at HLow
                      have HBS2 := Lib.hid hBS2
                      have hsz2 : (wr.setCell ⟨fb, fn, none⟩ (.int .i64 (fd F2 (cn : Int) + 1))).heap.size = wr.heap.size := by simp
                      have hset : wr.grownBy (wr.setCell ⟨fb, fn, none⟩ (.int .i64 (fd F2 (cn : Int) + 1))) (some fb) := Lib.grownBy_setB (grown_refl wr (some fb)) fn _
                      have HQs := Lib.hid (show QR U (wr.setCell ⟨fb, fn, none⟩ (.int .i64 (fd F2 (cn : Int) + 1))) (.slice (some ⟨gq2, 0, none⟩) Q2.length cq2) Q2 from hBS2.que.kept hset (.inr fun e => by have : gq2 = fb := Option.some.inj e; omega))
                      have HN1 := Lib.hid (show ((wr.setCell ⟨fb, fn, none⟩ (.int .i64 (fd F2 (cn : Int) + 1))).alloc (.cells #[.int .i64 (fn : Int)] 3)).cell? ⟨wr.heap.size, 0, none⟩ = some (.int .i64 (fn : Int)) by
                        have := heap_alloc_new (wr.setCell ⟨fb, fn, none⟩ (.int .i64 (fd F2 (cn : Int) + 1))) (.cells #[.int .i64 (fn : Int)] 3); rw [hsz2] at this; simp only [World.cell?, this]; rfl)
                      have hus := hBS2.us
                      clear hBS2 hneg hset hu2 hue hx hxt hxf hc2
                      go_wp2_with (at_builtin; refine wpList_append_own _ rfl _ _ 25 rfl U 3 i0 (.int .i64 0) 1 8 Tryd.underlying25 HI.out.1 HI.out.2.1 HI.out.2.2.1 HI.out.2.2.2 rfl (by decide) (.slice (some ⟨gq2, 0, none⟩) Q2.length cq2) _ _ rfl (HQs.out.alloc _) ⟨wr.heap.size, 0, none⟩ 1 1 [.int .i64 (fn : Int)] rfl rfl ?c1 ?c2 ?c3 ?c4 ?c5 ?_)
                      case c1 =>
                        intro j u hj
                        match j, hj with
                        | 0, hj =>
                          simp at hj
                          subst hj
                          rw [add0]; exact HN1.out
                        | j + 1, hj => simp at hj
                      case c2 => intro u hu; simp at hu; subst hu; rfl
                      case c3 => unfold maxLen; omega
                      case c4 => omega
                      case c5 => have := hsz2; simp; omega
                      intro v7 w7 hown7 hgrow7 _
                      have HB7 := Lib.hid (HLow.out w7 _ v7 hown7 hgrow7)
                      rw [← HTk.out] at HB7
                      have HC7 := Lib.hid (show (Q2 ++ [(fn : Int)])[i]? = some (cn : Int) by rw [List.getElem?_append_left hil2]; exact HC.out)
                      clear hown7 hgrow7 HLow HQs HN1 hsz2 q0 q1 q2 c0 rj r0
                      go_wp2_with fail
                      go_roundg (gk - 1)
                      case measure => have := HJ.out; omega
                      case rel => exact ⟨j + 1, _, _, by have := HJ.out; omega, by go_num, HC7.out, HB7.out⟩
                    · have q3 : decide (fd F2 (fn : Int) < 0) = false := decide_eq_false hneg
                      have hsm := hBS2.same HMo.out hc2 hx hxt (by rw [hfn]; exact hneg)
                      rw [hfn, ← HTk.out] at hsm
                      have HB7 := Lib.hid hsm
                      clear hBS2 hneg hu2 hue hx hxt hxf hc2 hsm
                      go_wp2_with fail
                      go_roundg (gk - 1)
                      case measure => have := HJ.out; omega
                      case rel => exact ⟨j + 1, _, _, by have := HJ.out; omega, by go_num, HC.out, HB7.out⟩
                  · have hpt : ∀ x ∈ MV, x.t = (cn : Int) → x.f ∈ s.take j := by
                      intro x hx hxt
                      rw [List.take_of_length_le (by omega)]
                      exact (backL_mem MV n cn HSs.out x.f).2 ⟨x, hx, hxt, rfl⟩
                    have hil2 := (List.getElem?_eq_some_iff.1 hc2).1
                    have HB7 := Lib.hid (show BS MV goal n (backL MV n) w3 gb U fb gb SLb F2 Q2 (i + 1) [] (.slice Aq2 Q2.length cq2) wr from ⟨hBS2.bi.next hc2 hpt, hBS2.far, hBS2.que, hBS2.bk, by omega, hBS2.us⟩)
                    clear hBS2 hpt hc2
                    go_wp2_with fail
                    go_roundg (go - 1)
                    case measure => have := HK.out; omega
                    case rel => exact ⟨i + 1, _, _, by have := HK.out; omega, by go_num, HB7.out⟩
              · have HD := Lib.hid (hBS.bi.isD (by omega) HMo.out)
                have HFa := Lib.hid hBS.far
                have HRr := Lib.hid (HRd.out.below hBS.far.2)
                have HR0 := Lib.hid (root_far HTI.out (by rw [HNn.out]; exact hgn) (by rw [HMV.out, HNn.out]; exact HD.out))
                have HBr := Lib.hid (below_then HB3.out hBS.far.2)
                clear hBS HBS HK HRd HUb HG3 HB3
                go_wp2_with fail
                clear hlt hil hQn
                obtain ⟨wo, rfl⟩ : ∃ wo : World, wo = wr := ⟨_, rfl⟩
                go_loopg [24, 25] (n) (fun g ov sv wr => WkI MV F goal n wo g ov sv wr)
                case atStart => exact ⟨0, [], by have := HD.out.top 0 hsl0; have h2 := HR0.out; simp only [Int.natCast_zero] at this ⊢; omega, rfl, hsl0, HR0.out, rfl, NS.start (Below.refl _ _), by simp⟩
                case round =>
                  obtain ⟨s, l, hsg, rfl, hsn, hs0, hwy, hS, hlg⟩ := hrel
                  obtain ⟨Aw, cw, rfl⟩ := hS.slice
                  have HS := Lib.hid hS
                  have HWy := Lib.hid hwy
                  have HFr := Lib.hid (HFa.out.below hS.2)
                  have HRs := Lib.hid (HRr.out.below hS.2)
                  clear hS hwy
                  by_cases hgo : s = goal
                  · subst hgo
                    have q5 : ((s : Int) != (s : Int)) = false := bne_self_eq_false _
                    have HW2 := Lib.hid (show wayD MV F s (fd F 0).toNat 0 = l by
                      have h1 := HD.out.zero
                      have h2 := HWy.out
                      rw [h1] at h2
                      simpa [wayD] using h2)
                    go_wp2_with fail
                    exact bodyPost_ret (v := .tuple #[.bool true, .slice Aw l.length cw, .int .i64 0]) (by simp [results, Tryd.results22, go_sem]) rfl (CvPo.yes HR.out rfl HIXE.out (by rw [HNn.out]; exact hgn) (by rw [HMV.out, HNn.out]; exact HD.out) HR0.out (by rw [HMV.out, HW2.out]; exact NS.up HBr.out HS.out))
                  · have q5 : ((s : Int) != (goal : Int)) = true := by rw [bne_iff_ne]; omega
                    obtain ⟨x, hpk, hxm, hxf, hx0, hx1, hxp, hwx⟩ := way_step HD.out hsn hs0 hgo
                    have HPk := Lib.hid hpk
                    have HXm := Lib.hid hxm
                    have HWx := Lib.hid hwx
                    have HX1 := Lib.hid (And.intro hx0 hx1)
                    clear hpk hxm hxf hx0 hx1 hwx
                    go_wp2_with fail
                    have HBb := Lib.hid (heap_alloc_new wr (.cells #[.int .i64 0, .int .i64 0, .int .i64 (-1)] 72))
                    have HA6 := Lib.hid (below_alloc wr (.cells #[.int .i64 0, .int .i64 0, .int .i64 (-1)] 72))
                    generalize hbbe : wr.heap.size = bb at *
                    generalize wr.alloc _ = w6 at *
                    rw [← hbbe] at HA6
                    obtain ⟨go, rfl⟩ : ∃ go, go = gk := ⟨_, rfl⟩
                    obtain ⟨wy, rfl⟩ : ∃ wo : World, wo = wr := ⟨_, rfl⟩
                    go_loopg [143] (nm) (fun g jv wr => PkI MV F s nm (-1) wy bb g jv wr)
                    case atStart => exact ⟨0, by omega, rfl, by rw [List.take_zero]; exact HBb.out, HA6.out⟩
                    case round =>
                      clear HBb HA6
                      obtain ⟨j, hjg, rfl, hbb, hB⟩ := hrel
                      have HJ := Lib.hid hjg
                      have HBj := Lib.hid hB
                      have HFj := Lib.hid (HFr.out.below hB)
                      have HRj := Lib.hid (HRs.out.below hB)
                      have HBb := Lib.hid hbb
                      have hjl : j ≤ nm := by omega
                      clear hjg hB hbb
                      by_cases hjt : j < nm
                      · have hjt' : j < MV.length := by rw [HNm.out]; exact hjt
                        obtain ⟨am, rfl, hpa, m0, m1, m2⟩ := mv_cells HRj.out hjt'
                        have HPs := Lib.hid (pick_snoc MV F s j hjt')
                        obtain ⟨hr1, hr2, hr3, hr4⟩ := HMo.out _ (List.getElem_mem hjt')
                        obtain ⟨hr5, _⟩ := HMs.out _ (List.getElem_mem hjt')
                        have HPm := Lib.hid (fun y => @pick_mem F s (MV.take j) y)
                        generalize MV[j] = y at *
                        obtain ⟨yf, yt, ys⟩ := y
                        simp only at hr1 hr2 hr3 hr4 hr5 m0 m1 m2
                        obtain ⟨tn, rfl⟩ := Int.eq_ofNat_of_zero_le hr3
                        have htn : tn < n := by omega
                        have hbs : ∀ y, pick (MV.take j) F s = some y → 0 ≤ y.s := fun y hy => (HMs.out y (List.mem_of_mem_take (HPm.out y hy).1)).1
                        generalize pick (MV.take j) F s = b at *
                        clear hjt'
                        go_wp2_with fail
                        have HX0 := Lib.hid (heap_alloc_new wr (.cells #[.int .i64 yf, .int .i64 (tn : Int), .int .i64 ys] 72))
                        have HAx := Lib.hid (below_alloc wr (.cells #[.int .i64 yf, .int .i64 (tn : Int), .int .i64 ys] 72))
                        generalize hxe : wr.heap.size = xb at *
                        generalize wr.alloc _ = w7 at *
                        rw [← hxe] at HAx
                        have HF7 := Lib.hid (HFj.out.below HAx.out)
                        obtain ⟨q0, _⟩ := HF7.out.fdc HD.out.len tn htn
                        obtain ⟨q1, _⟩ := HF7.out.fdc HD.out.len s hsn
                        have hbl := (Array.getElem?_eq_some_iff.1 HBb.out).1
                        have HB7 := Lib.hid (show w7.heap[bb]? = some (.cells (bestC (-1) b) 72 (0, 0)) by rw [HAx.out.block bb hbl]; exact HBb.out)
                        have HBw := Lib.hid (below_then HBj.out HAx.out)
                        have x0 : w7.cell? ⟨xb, 0, none⟩ = some (.int .i64 yf) := by have := HX0.out; simp [World.cell?, this]
                        have x1 : w7.cell? ⟨xb, 1, none⟩ = some (.int .i64 (tn : Int)) := by have := HX0.out; simp [World.cell?, this]
                        have x2 : w7.cell? ⟨xb, 2, none⟩ = some (.int .i64 ys) := by have := HX0.out; simp [World.cell?, this]
                        have hbx : bb ≠ xb := by omega
                        have htp := HD.out.top s hsn
                        have htm := HD.out.neg tn htn
                        have htq := HD.out.top tn htn
                        have htni : (tn : Int) < (n : Int) := by omega
                        have hsni : (s : Int) < (n : Int) := by omega
                        clear hbl m0 m1 m2 hpa
                        generalize hd1 : fd F (tn : Int) = d1 at *
                        generalize hd2 : fd F (s : Int) = d2 at *
                        by_cases c1 : yf = (s : Int)
                        · have q3 : (yf == (s : Int)) = true := by rw [c1]; exact beq_self_eq_true _
                          by_cases c2 : d1 + 1 = d2
                          · have q4 : (d1 == d2 - 1) = true := by rw [beq_iff_eq]; omega
                            have hh : hit F s ⟨yf, (tn : Int), ys⟩ = true := by unfold hit; simp only [hd1, hd2]; simp [c1, c2]
                            cases b with
                            | none =>
                              have HE := Lib.hid (show pick (MV.take (j + 1)) F s = some ⟨yf, (tn : Int), ys⟩ by rw [HPs.out]; unfold pick1; rw [if_pos hh])
                              clear hh c1 c2 hd1 hd2 HPm HPs
                              have HB7c := Lib.hid (show w7.heap[bb]? = some (.cells #[.int .i64 0, .int .i64 0, .int .i64 (-1)] 72 (0, 0)) from HB7.out)
                              obtain ⟨b0, b1, b2⟩ := mvb_cells HB7c.out
                              go_quiet (fail)
                              have hbq := below_drewN w7 nq
                              have HX9 := Lib.hid (show (w7.drewN nq).heap[xb]? = some (.cells #[.int .i64 yf, .int .i64 (tn : Int), .int .i64 ys] 72 (0, 0)) by rw [hbq.block xb (Array.getElem?_eq_some_iff.1 HX0.out).1]; exact HX0.out)
                              have HB9 := Lib.hid (show (w7.drewN nq).heap[bb]? = some (.cells #[.int .i64 0, .int .i64 0, .int .i64 (-1)] 72 (0, 0)) by rw [hbq.block bb (Array.getElem?_eq_some_iff.1 HB7c.out).1]; exact HB7c.out)
                              have HW9 := Lib.hid (below_then HBw.out hbq)
                              clear hbq b0 b1 b2 x0 x1 x2 q0 q1 HB7c
                              generalize w7.drewN nq = w9 at *
                              obtain ⟨x0, x1, x2⟩ := mvb_cells HX9.out
                              obtain ⟨b0, b1, b2⟩ := mvb_cells HB9.out
                              obtain ⟨f0, f1, f2⟩ := mvb_soft HB9.out
                              have HG9 := Lib.hid (mvb_set HB9.out (.int .i64 yf) (.int .i64 (tn : Int)) (.int .i64 ys))
                              have HV9 := Lib.hid (bset3 (b := bb) HW9.out (by omega) (.int .i64 yf) (.int .i64 (tn : Int)) (.int .i64 ys))
                              go_wp2_with fail
                              go_roundg (gk - 1)
                              case measure => have := HJ.out; omega
                              case rel => exact ⟨j + 1, by have := HJ.out; omega, by go_num, by rw [HE.out]; exact HG9.out, HV9.out⟩
                            | some z =>
                              have hz0 := hbs z rfl
                              have q5 : decide (z.s < 0) = false := by simp; omega
                              by_cases c3 : ys < z.s
                              · have q6 : decide (ys < z.s) = true := decide_eq_true c3
                                have HE := Lib.hid (show pick (MV.take (j + 1)) F s = some ⟨yf, (tn : Int), ys⟩ by rw [HPs.out]; unfold pick1; rw [if_pos hh]; simp only; rw [if_pos c3])
                                clear hh c1 c2 c3 hd1 hd2 HPm HPs
                                have HB7c := Lib.hid (show w7.heap[bb]? = some (.cells #[.int .i64 z.f, .int .i64 z.t, .int .i64 z.s] 72 (0, 0)) from HB7.out)
                                obtain ⟨b0, b1, b2⟩ := mvb_cells HB7c.out
                                go_quiet (fail)
                                have hbq := below_drewN w7 nq
                                have HX9 := Lib.hid (show (w7.drewN nq).heap[xb]? = some (.cells #[.int .i64 yf, .int .i64 (tn : Int), .int .i64 ys] 72 (0, 0)) by rw [hbq.block xb (Array.getElem?_eq_some_iff.1 HX0.out).1]; exact HX0.out)
                                have HB9 := Lib.hid (show (w7.drewN nq).heap[bb]? = some (.cells #[.int .i64 z.f, .int .i64 z.t, .int .i64 z.s] 72 (0, 0)) by rw [hbq.block bb (Array.getElem?_eq_some_iff.1 HB7c.out).1]; exact HB7c.out)
                                have HW9 := Lib.hid (below_then HBw.out hbq)
                                clear hbq b0 b1 b2 x0 x1 x2 q0 q1 HB7c
                                generalize w7.drewN nq = w9 at *
                                obtain ⟨x0, x1, x2⟩ := mvb_cells HX9.out
                                obtain ⟨b0, b1, b2⟩ := mvb_cells HB9.out
                                obtain ⟨f0, f1, f2⟩ := mvb_soft HB9.out
                                have HG9 := Lib.hid (mvb_set HB9.out (.int .i64 yf) (.int .i64 (tn : Int)) (.int .i64 ys))
                                have HV9 := Lib.hid (bset3 (b := bb) HW9.out (by omega) (.int .i64 yf) (.int .i64 (tn : Int)) (.int .i64 ys))
                                go_wp2_with fail
                                go_roundg (gk - 1)
                                case measure => have := HJ.out; omega
                                case rel => exact ⟨j + 1, by have := HJ.out; omega, by go_num, by rw [HE.out]; exact HG9.out, HV9.out⟩
                              · have q6 : decide (ys < z.s) = false := decide_eq_false c3
                                have HE := Lib.hid (show pick (MV.take (j + 1)) F s = some z by rw [HPs.out]; unfold pick1; rw [if_pos hh]; simp only; rw [if_neg c3])
                                clear hh c1 c2 c3 hd1 hd2 HPm HPs
                                have HB7c := Lib.hid (show w7.heap[bb]? = some (.cells #[.int .i64 z.f, .int .i64 z.t, .int .i64 z.s] 72 (0, 0)) from HB7.out)
                                obtain ⟨b0, b1, b2⟩ := mvb_cells HB7c.out
                                go_quiet (fail)
                                have hbq := below_drewN w7 nq
                                have HX9 := Lib.hid (show (w7.drewN nq).heap[xb]? = some (.cells #[.int .i64 yf, .int .i64 (tn : Int), .int .i64 ys] 72 (0, 0)) by rw [hbq.block xb (Array.getElem?_eq_some_iff.1 HX0.out).1]; exact HX0.out)
                                have HB9 := Lib.hid (show (w7.drewN nq).heap[bb]? = some (.cells #[.int .i64 z.f, .int .i64 z.t, .int .i64 z.s] 72 (0, 0)) by rw [hbq.block bb (Array.getElem?_eq_some_iff.1 HB7c.out).1]; exact HB7c.out)
                                have HW9 := Lib.hid (below_then HBw.out hbq)
                                clear hbq b0 b1 b2 x0 x1 x2 q0 q1 HB7c
                                generalize w7.drewN nq = w9 at *
                                go_wp2_with fail
                                go_roundg (gk - 1)
                                case measure => have := HJ.out; omega
                                case rel => exact ⟨j + 1, by have := HJ.out; omega, by go_num, by rw [HE.out]; exact HB9.out, HW9.out⟩
                          · have q4 : (d1 == d2 - 1) = false := by rw [beq_eq_false_iff_ne]; omega
                            have hh : hit F s ⟨yf, (tn : Int), ys⟩ = false := by unfold hit; simp only [hd1, hd2]; simp [c2]
                            have HE := Lib.hid (show pick (MV.take (j + 1)) F s = b by rw [HPs.out]; unfold pick1; rw [hh]; rfl)
                            clear hh c1 c2 hd1 hd2 HPm HPs
                            obtain ⟨z0, z1, z2, hz⟩ : ∃ z0 z1 z2 : Int, bestC (-1) b = #[.int .i64 z0, .int .i64 z1, .int .i64 z2] := by cases b <;> exact ⟨_, _, _, rfl⟩
                            rw [hz] at HB7
                            have HZ := Lib.hid hz
                            clear hz
                            have HB7c := Lib.hid (show w7.heap[bb]? = some (.cells #[.int .i64 z0, .int .i64 z1, .int .i64 z2] 72 (0, 0)) from HB7.out)
                            obtain ⟨b0, b1, b2⟩ := mvb_cells HB7c.out
                            go_quiet (fail)
                            have hbq := below_drewN w7 nq
                            have HX9 := Lib.hid (show (w7.drewN nq).heap[xb]? = some (.cells #[.int .i64 yf, .int .i64 (tn : Int), .int .i64 ys] 72 (0, 0)) by rw [hbq.block xb (Array.getElem?_eq_some_iff.1 HX0.out).1]; exact HX0.out)
                            have HB9 := Lib.hid (show (w7.drewN nq).heap[bb]? = some (.cells #[.int .i64 z0, .int .i64 z1, .int .i64 z2] 72 (0, 0)) by rw [hbq.block bb (Array.getElem?_eq_some_iff.1 HB7c.out).1]; exact HB7c.out)
                            have HW9 := Lib.hid (below_then HBw.out hbq)
                            clear hbq b0 b1 b2 x0 x1 x2 q0 q1 HB7c
                            generalize w7.drewN nq = w9 at *
                            go_wp2_with fail
                            go_roundg (gk - 1)
                            case measure => have := HJ.out; omega
                            case rel => exact ⟨j + 1, by have := HJ.out; omega, by go_num, by rw [HE.out, HZ.out]; exact HB9.out, HW9.out⟩
                        · have q3 : (yf == (s : Int)) = false := by rw [beq_eq_false_iff_ne]; exact c1
                          have hh : hit F s ⟨yf, (tn : Int), ys⟩ = false := by unfold hit; simp [c1]
                          have HE := Lib.hid (show pick (MV.take (j + 1)) F s = b by rw [HPs.out]; unfold pick1; rw [hh]; rfl)
                          clear hh c1 hd1 hd2 HPm HPs
                          obtain ⟨z0, z1, z2, hz⟩ : ∃ z0 z1 z2 : Int, bestC (-1) b = #[.int .i64 z0, .int .i64 z1, .int .i64 z2] := by cases b <;> exact ⟨_, _, _, rfl⟩
                          rw [hz] at HB7
                          have HZ := Lib.hid hz
                          clear hz
                          have HB7c := Lib.hid (show w7.heap[bb]? = some (.cells #[.int .i64 z0, .int .i64 z1, .int .i64 z2] 72 (0, 0)) from HB7.out)
                          obtain ⟨b0, b1, b2⟩ := mvb_cells HB7c.out
                          go_quiet (fail)
                          have hbq := below_drewN w7 nq
                          have HX9 := Lib.hid (show (w7.drewN nq).heap[xb]? = some (.cells #[.int .i64 yf, .int .i64 (tn : Int), .int .i64 ys] 72 (0, 0)) by rw [hbq.block xb (Array.getElem?_eq_some_iff.1 HX0.out).1]; exact HX0.out)
                          have HB9 := Lib.hid (show (w7.drewN nq).heap[bb]? = some (.cells #[.int .i64 z0, .int .i64 z1, .int .i64 z2] 72 (0, 0)) by rw [hbq.block bb (Array.getElem?_eq_some_iff.1 HB7c.out).1]; exact HB7c.out)
                          have HW9 := Lib.hid (below_then HBw.out hbq)
                          clear hbq b0 b1 b2 x0 x1 x2 q0 q1 HB7c
                          generalize w7.drewN nq = w9 at *
                          go_wp2_with fail
                          go_roundg (gk - 1)
                          case measure => have := HJ.out; omega
                          case rel => exact ⟨j + 1, by have := HJ.out; omega, by go_num, by rw [HE.out, HZ.out]; exact HB9.out, HW9.out⟩
                      · have HE := Lib.hid (show wr.heap[bb]? = some (.cells #[.int .i64 x.f, .int .i64 x.t, .int .i64 x.s] 72 (0, 0)) by
                          have h1 := HBb.out
                          rw [List.take_of_length_le (by rw [HNm.out]; omega), HPk.out] at h1
                          exact h1)
                        obtain ⟨r1, r2, r3, r4⟩ := HMo.out x HXm.out
                        obtain ⟨xt, hxt⟩ := Int.eq_ofNat_of_zero_le r3
                        have hxn : xt < n := by omega
                        have h2 := HX1.out
                        have h3 := HWx.out
                        rw [hxt] at h2 h3 HE
                        have HW2 := Lib.hid h3
                        have HSj := Lib.hid (HS.out.below HBj.out)
                        obtain ⟨b0, b1, b2⟩ := mvb_cells HE.out
                        generalize x.s = xs at *
                        clear h3 r1 r2 r3 r4 hxt hjl
                        go_wp2_with (at_builtin; refine wpList_append_own _ rfl _ _ 25 rfl wo.heap.size 3 i0 (.int .i64 0) 1 8 Tryd.underlying25 HI.out.1 HI.out.2.1 HI.out.2.2.1 HI.out.2.2.2 rfl (by decide) (.slice Aw l.length cw) _ _ rfl (HSj.out.1.alloc _) ⟨wr.heap.size, 0, none⟩ 1 1 [.int .i64 xs] rfl rfl ?c1 ?c2 ?c3 ?c4 ?c5 ?_)
                        case c1 => exact news_blk (heap_alloc_new wr (.cells #[.int .i64 xs] 3))
                        case c2 => intro u hu; simp at hu; subst hu; rfl
                        case c3 => unfold maxLen; omega
                        case c4 => omega
                        case c5 => have := HSj.out.size; simp; omega
                        intro v7 w7 hown7 hgrow7 _
                        have hal := below_alloc wr (.cells #[.int .i64 xs] 3)
                        have hnb := row_block (HSj.out.1.alloc (.cells #[.int .i64 xs] 3)) (show (wr.alloc (.cells #[.int .i64 xs] 3)).heap[bb]? = some (.cells _ 72 (0, 0)) by rw [hal.block bb (Array.getElem?_eq_some_iff.1 HE.out).1]; exact HE.out) (by decide)
                        have y1 := hgrow7.cell (cell_stays hal b1) hnb
                        have HS7 := Lib.hid (HSj.out.push hown7 hgrow7)
                        clear hown7 hgrow7 hal hnb b0 b1 b2
                        go_wp2_with fail
                        go_roundg (go - 1)
                        case measure => omega
                        case rel => exact ⟨xt, l ++ [xs], by omega, rfl, hxn, by omega, by rw [HWy.out, HW2.out]; simp, HS7.out, by rw [List.length_append, List.length_singleton]; omega⟩
end
section
theorem addN_le {most : Nat} {T T' : TS} {x : Nd} (h : addN most T x = some T') (hl : T.states.length ≤ most) : T'.states.length ≤ most := by
  unfold addN at h
  split at h
  · split at h
    · cases h
    · split at h
      · cases h
      · cases h; simp; omega
  · split at h
    · cases h
    · cases h; exact hl
theorem stepK_le {N : Nt} {most i k : Nat} {T T' : TS} (h : stepK N most i T k = some T') (hl : T.states.length ≤ most) : T'.states.length ≤ most := by
  unfold stepK at h
  split at h
  · split at h
    · split at h
      · cases h
      · exact addN_le h hl
    · cases h; exact hl
  · cases h; exact hl
theorem stepI_le {N : Nt} {most i : Nat} : ∀ (f k : Nat) (T T' : TS), stepI N most i f k T = some T' → T.states.length ≤ most → T'.states.length ≤ most := by
  intro f
  induction f with
  | zero => intro k T T' h hl; unfold stepI at h; cases h; exact hl
  | succ f ih =>
    intro k T T' h hl
    unfold stepI at h
    split at h
    · cases hs : stepK N most i T k with
      | none => rw [hs] at h; cases h
      | some T1 =>
        rw [hs] at h
        exact ih _ _ _ h (stepK_le hs hl)
    · cases h; exact hl
theorem growF_le {N : Nt} {most : Nat} : ∀ (f i : Nat) (T T' : TS), growF N most f i T = some T' → T.states.length ≤ most → T'.states.length ≤ most := by
  intro f
  induction f with
  | zero => intro i T T' h hl; unfold growF at h; cases h; exact hl
  | succ f ih =>
    intro i T T' h hl
    unfold growF at h
    split at h
    · split at h
      · cases hs : stepI N most i (N.tr.length + 1) 0 T with
        | none => rw [hs] at h; cases h
        | some T1 =>
          rw [hs] at h
          exact ih _ _ _ h (stepI_le _ _ _ _ hs hl)
      · exact ih _ _ _ h hl
    · cases h; exact hl
theorem growT_le {N : Nt} {m : List Int} {most : Nat} {T : TS} (h : growT N m most = some T) : T.states.length ≤ most := by
  unfold growT at h
  cases hs : addN most ⟨[], []⟩ ⟨m, m, -1, -1, 0, -1, false, false⟩ with
  | none => rw [hs] at h; cases h
  | some T1 =>
    rw [hs] at h
    exact growF_le _ _ _ _ h (addN_le hs (Nat.zero_le _))
/-- a marking, as a check -/
theorem mk_of {N : Nt} {M s : List Int} (h : mkB N M = true) (hl : s.length = M.length) (hs : isM s) : mkB N s = true := by
  unfold mkB
  have hn : s.any badK = false := by
    rw [List.any_eq_false]
    intro x hx
    obtain ⟨p, hp, rfl⟩ := List.getElem_of_mem hx
    have h1 := hs p
    have e : s.getD p 0 = s[p] := by simp [hp]
    rw [e] at h1
    unfold badK; simp; omega
  rw [mk_nt h, hl, mk_len h, hn]; simp
/-- the certificate of a bounded net -/
theorem bnd_cert {N : Nt} {M : List Int} {most : Nat} {T : TS} (hv : mkB N M = true) (hg : growT N M most = some T) (hm : most ≤ 60) (hno : ∀ (j : Nat) (d : Nd), T.nodes[j]? = some d → d.om = false) :
    chkB N M ⟨5, 0, [], [], T.states⟩ = true ∧ fitB ⟨5, 0, [], [], T.states⟩ = true ∧ omB T.states = false := by
  obtain ⟨hI, hD, hN, hM⟩ := grow_good hv hg
  obtain ⟨h1, h2⟩ := bounded_closed hI hD hN hM hno
  have hle := growT_le hg
  refine ⟨?_, ?_, ?_⟩
  · unfold chkB
    rw [hv, if_pos rfl, Bool.true_and]
    unfold closedB
    rw [decide_eq_true h1, Bool.true_and, Bool.and_eq_true, List.all_eq_true, List.all_eq_true]
    refine ⟨fun s hs => mk_of hv (h2 s hs).1 (h2 s hs).2.1, fun s hs => ?_⟩
    unfold okS
    rw [List.all_eq_true]
    intro t ht
    obtain ⟨x, hx⟩ : ∃ x, N.tr[t]? = some x := ⟨_, List.getElem?_eq_getElem (List.mem_range.1 ht)⟩
    cases hc : canT x s with
    | false => exact okT_can hx hc
    | true =>
      obtain ⟨h3, h4⟩ := (h2 s hs).2.2 t x hx hc
      have e : fireV N s (t : Int) = (fireT x s, 0) := by
        unfold fireV
        rw [if_neg (by omega), Int.toNat_natCast, hx]
        simp only [hc, if_true, h3, Bool.false_eq_true, if_false]
      rw [okT_fire hx hc, e]
      simp [h4]
  · unfold fitB
    have hlong : (T.states.any longM) = false := by
      rw [List.any_eq_false]
      intro s hs
      have h3 := (h2 s hs).1
      have h4 := mk_len hv
      have h5 := nt_small (mk_nt hv)
      unfold longM; simp; omega
    simp [hlong]; omega
  · cases ho : omB T.states with
    | false => rfl
    | true =>
      unfold omB at ho
      rw [List.any_eq_true] at ho
      obtain ⟨j, d, hd, hdo⟩ := (omega_iff hI hN hM).1 ho
      rw [hno j d hd] at hdo; cases hdo
/-- the certificate of a net that is not bounded -/
theorem om_cert {N : Nt} {M : List Int} {most : Nat} {T : TS} {i : Nat} {d : Nd} {g : Nat} {z : Nd} {W1 W2 : List Nat} {p : Nat} (hv : mkB N M = true) (hg : growT N M most = some T) (hm : most ≤ 1000) (hf : FOm N T i d g z W1 W2 p) :
    chkB N M ⟨6, p, W1.map Int.ofNat, W2.map Int.ofNat, []⟩ = true ∧ fitB ⟨6, p, W1.map Int.ofNat, W2.map Int.ofNat, []⟩ = true ∧ omB T.states = true ∧ (run21 N M (W1.map Int.ofNat)) = (z.ms, W1.length, 0) ∧ run21 N z.ms (W2.map Int.ofNat) = (d.pn, W2.length, 0) ∧ z.ms.length = M.length ∧ d.pn.length = M.length ∧ isM z.ms ∧ nonneg d.pn := by
  obtain ⟨hI, hD, hN, hM⟩ := grow_good hv hg
  have hle := growT_le hg
  have hF := hI.fine hN hM
  have hgi : g < i := (hf.w2.le hI).2 hf.ne
  have hno := no_omega hI hN hM i hf.fst
  have hz1 := hno g z (by omega) hf.anc
  have hzM := (hz1.2 hgi).1
  have hzp := (hz1.2 hgi).2
  have hdp := (hno i d (Nat.le_refl _) hf.at_).1
  have hfd := hF i d hf.at_
  have hfz := hF g z hf.anc
  have hl1 : W1.length ≤ 1000 := by have := (path_len hI hf.w1 hf.anc).2; omega
  have hl2 : W2.length ≤ 1000 := by have := (path_len hI hf.w2 hf.at_).2; omega
  have hsame : ∀ (b : Nat), b ≤ i → ∀ (j : Nat) (e : Nd), j < b → T.nodes[j]? = some e → e.ms = e.pn := fun b hb j e hj he => ((hno j e (by omega) he).2 (by omega)).2
  have r1 := path_run hI hf.w1 hI.root hf.anc (hsame g (by omega))
  have r2 := path_run hI hf.w2 hf.anc hf.at_ (hsame i (Nat.le_refl _))
  simp only at r1
  rw [if_neg hf.ne] at r2
  have r1' : runV N M 0 (W1.map Int.ofNat) = (z.ms, W1.length, 0) := by
    rw [r1]
    by_cases h0 : W1 = []
    · rw [if_pos h0]
    · rw [if_neg h0, hzp]
  have hzk : mkB N z.ms = true := mk_of hv hfz.lm hzM
  have e1 : run21 N M (W1.map Int.ofNat) = (z.ms, W1.length, 0) := by
    unfold run21; rw [hv, if_pos rfl, if_neg (by rw [List.length_map]; omega)]; exact r1'
  have e2 : run21 N z.ms (W2.map Int.ofNat) = (d.pn, W2.length, 0) := by
    unfold run21; rw [hzk, if_pos rfl, if_neg (by rw [List.length_map]; omega)]; exact r2
  have hpM : p < M.length := by have := hf.pl; rw [hfd.lp] at this; exact this
  have hnn : nonneg d.pn := fun q => by
    have h1 := hfd.ep q
    have h2 := hasO_no hdp q
    omega
  refine ⟨?_, ?_, ?_, e1, e2, hfz.lm, hfd.lp, hzM, hnn⟩
  · unfold chkB
    rw [hv, if_neg (by simp), Bool.true_and]
    have hb : badC N ⟨6, p, W1.map Int.ofNat, W2.map Int.ofNat, []⟩ = false := by
      have h4 := mk_len hv
      have h5 : W2.length ≠ 0 := fun h => hf.ne (List.eq_nil_of_length_eq_zero h)
      unfold badC
      simp [hf.ne]
      omega
    rw [hb]
    unfold pumpB
    simp only [e1, e2]
    have hlt : z.ms.getD p 0 < d.pn.getD p 0 := by
      have h1 := (lessE_iff _ _).1 (hf.le p (by rw [hfz.lm]; exact hpM))
      have h2 := hf.df
      have h3 := hnn p
      rcases h1 with h1 | h1
      · omega
      · have := h1.2; omega
    unfold endB
    rw [(atMost_iff _ _).2 hf.le]
    simp only [Int.toNat_natCast]
    rw [decide_eq_true hlt]; simp
  · unfold fitB; simp; omega
  · unfold omB
    rw [List.any_eq_true]
    exact (omega_iff hI hN hM).2 ⟨i, d, hf.at_, hf.om⟩
end
section
/-- at least as many tokens everywhere -/
def moreM (z x : List Int) : Prop := z.length = x.length ∧ ∀ q : Nat, z.getD q 0 ≤ x.getD q 0
theorem fireV_cases (N : Nt) (M : List Int) (t : Int) : (∃ (k : Nat) (x : Tr), t = (k : Int) ∧ N.tr[k]? = some x ∧ canT x M = true ∧ ((bigM (fireT x M) = true ∧ fireV N M t = ([], 5)) ∨ (bigM (fireT x M) = false ∧ fireV N M t = (fireT x M, 0)))) ∨ ((fireV N M t).2 ≠ 0 ∧ (∀ (k : Nat) (x : Tr), t = (k : Int) → N.tr[k]? = some x → canT x M = false)) := by
  by_cases ht : t < 0
  · exact .inr ⟨by simp [fireV, ht], fun k x h => by omega⟩
  obtain ⟨k, rfl⟩ := Int.eq_ofNat_of_zero_le (show 0 ≤ t by omega)
  cases hx : N.tr[k]? with
  | none => exact .inr ⟨by simp [fireV, ht, hx], fun j x h h2 => by rw [Int.ofNat.inj h] at hx; rw [hx] at h2; cases h2⟩
  | some x =>
    have e : fireV N M (k : Int) = if canT x M then (if bigM (fireT x M) then ([], 5) else (fireT x M, 0)) else ([], 12) := by
      unfold fireV; rw [if_neg ht, Int.toNat_natCast, hx]
    cases hc : canT x M with
    | false =>
      rw [hc] at e
      exact .inr ⟨by rw [e]; simp, fun j y h h2 => by rw [Int.ofNat.inj h] at hx; rw [hx] at h2; cases h2; exact hc⟩
    | true =>
      rw [hc] at e
      refine .inl ⟨k, x, rfl, hx, hc, ?_⟩
      cases hb : bigM (fireT x M) with
      | true => rw [hb] at e; exact .inl ⟨rfl, e⟩
      | false => rw [hb] at e; exact .inr ⟨rfl, e⟩
theorem pump_more {N : Nt} : ∀ (l : List Int) (z x y : List Int) (k n : Nat), mkB N z = true → mkB N x = true → moreM z x → runV N z k l = (y, n, 0) →
    (runV N x k l).2.2 = 5 ∨ ((runV N x k l).2.2 = 0 ∧ (runV N x k l).1.length = x.length ∧ ∀ q : Nat, (runV N x k l).1.getD q 0 = x.getD q 0 + (y.getD q 0 - z.getD q 0)) := by
  intro l
  induction l with
  | nil =>
    intro z x y k n hz hx hm h
    have : z = y := by unfold runV at h; exact (Prod.mk.inj h).1
    subst this
    exact .inr ⟨rfl, rfl, fun q => by show x.getD q 0 = _; omega⟩
  | cons t l ih =>
    intro z x y k n hz hx hm h
    have hzM := mkM hz
    have hxM := mkM hx
    have hlz := mk_len hz
    have hlx := mk_len hx
    rcases fireV_cases N z t with ⟨j, u, rfl, hu, hc, ⟨hb, e⟩ | ⟨hb, e⟩⟩ | ⟨h0, _⟩
    · rw [runV_stop (by rw [e]; decide), e] at h; simp at h
    · rw [runV_step (by rw [e]), e] at h
      have hok : trOk u z.length := netOk_of (mk_nt hz) hlz j u hu
      have hok' : trOk u x.length := by rw [← hm.1]; exact hok
      have hcx : canT u x = true := canT_of (fun p hp => (hok.1.1 p hp).1) (fun p hp => by
        have h1 := canT_get hc p hp
        have h2 := hm.2 p
        have h3 := (hzM p).1
        omega)
      have hfz : ∀ q : Nat, (fireT u z).getD q 0 = z.getD q 0 + dl u q := fun q => (fire_real hok (fun q => (hzM q).1) hc q).1
      have hfx : ∀ q : Nat, (fireT u x).getD q 0 = x.getD q 0 + dl u q := fun q => (fire_real hok' (fun q => (hxM q).1) hcx q).1
      rcases fireV_cases N x (j : Int) with ⟨j', u', hj, hu', _, ⟨hb', e'⟩ | ⟨hb', e'⟩⟩ | ⟨_, hno⟩
      · left
        rw [runV_stop (by rw [e']; decide), e']
      · obtain rfl : j = j' := Int.ofNat.inj hj
        rw [hu] at hu'; cases hu'
        have hz' := fire_mk hz (t := (j : Int)) (by rw [e])
        have hx' := fire_mk hx (t := (j : Int)) (by rw [e'])
        rw [e] at hz'
        rw [e'] at hx'
        have hm' : moreM (fireT u z) (fireT u x) := ⟨by rw [fireT_len, fireT_len]; exact hm.1, fun q => by rw [hfz, hfx]; have := hm.2 q; omega⟩
        rw [runV_step (by rw [e']), e']
        rcases ih _ _ _ _ _ hz' hx' hm' h with h5 | ⟨h6, h7, h8⟩
        · exact .inl h5
        · refine .inr ⟨h6, by rw [h7, fireT_len], fun q => ?_⟩
          rw [h8 q, hfx, hfz]; omega
      · rw [hno j u rfl hu] at hcx; cases hcx
    · rw [runV_stop h0] at h; exact absurd (congrArg (fun r : List Int × Nat × Int => r.2.2) h) h0
/-- the pump of a certificate, from a marking that is greater -/
theorem pump_on {N : Nt} {z x y : List Int} {l : List Int} {n p : Nat} (hz : mkB N z = true) (hx : mkB N x = true) (hm : moreM z x) (h : run21 N z l = (y, n, 0)) (hy : ∀ q : Nat, z.getD q 0 ≤ y.getD q 0) (hp : z.getD p 0 < y.getD p 0) :
    (run21 N x l).2.2 = 5 ∨ ((run21 N x l).2.2 = 0 ∧ mkB N (run21 N x l).1 = true ∧ (run21 N x l).1.length = x.length ∧ moreM z (run21 N x l).1 ∧ x.getD p 0 < (run21 N x l).1.getD p 0) := by
  have hl : ¬ 1000 < l.length := by
    intro hl
    unfold run21 at h
    rw [hz, if_pos rfl, if_pos hl] at h
    simp at h
  have ez : run21 N z l = runV N z 0 l := by unfold run21; rw [hz, if_pos rfl, if_neg hl]
  have ex : run21 N x l = runV N x 0 l := by unfold run21; rw [hx, if_pos rfl, if_neg hl]
  rw [ez] at h
  rcases pump_more l z x y 0 n hz hx hm h with h5 | ⟨h6, h7, h8⟩
  · left; rw [ex]; exact h5
  · right
    rw [ex]
    refine ⟨h6, runV_mk l x 0 hx h6, h7, ⟨by rw [h7]; exact hm.1, fun q => ?_⟩, ?_⟩
    · rw [h8 q]; have := hm.2 q; have := hy q; omega
    · rw [h8 p]; omega
/-- the certificate with the other claim proves nothing -/
theorem wrong_bnd (N : Nt) (M : List Int) (LL : List (List Int)) : chkB N M ⟨6, 0, [], [], LL⟩ = false := by
  unfold chkB
  rw [if_neg (by simp)]
  have : badC N ⟨6, 0, [], [], LL⟩ = true := by simp [badC]
  rw [this]; simp
theorem wrong_om (N : Nt) (M : List Int) (p : Int) (L1 L2 : List Int) : chkB N M ⟨5, p, L1, L2, []⟩ = false := by
  unfold chkB
  rw [if_pos rfl]
  simp [closedB]
/-- what is fired stays in the certificate -/
theorem stays {N : Nt} {M : List Int} {most : Nat} {T : TS} (hv : mkB N M = true) (hg : growT N M most = some T) (hno : ∀ (j : Nat) (d : Nd), T.nodes[j]? = some d → d.om = false) {s : List Int} (hs : s ∈ T.states) {t : Int} (h0 : (fireV N s t).2 = 0) : (fireV N s t).1 ∈ T.states := by
  obtain ⟨hI, hD, hN, hM⟩ := grow_good hv hg
  obtain ⟨h1, h2⟩ := bounded_closed hI hD hN hM hno
  rcases fireV_cases N s t with ⟨k, x, rfl, hx, hc, ⟨_, e⟩ | ⟨_, e⟩⟩ | ⟨h, _⟩
  · rw [e] at h0; simp at h0
  · rw [e]; exact ((h2 s hs).2.2 k x hx hc).2
  · exact absurd h0 h
theorem states_mk {N : Nt} {M : List Int} {most : Nat} {T : TS} (hv : mkB N M = true) (hg : growT N M most = some T) (hno : ∀ (j : Nat) (d : Nd), T.nodes[j]? = some d → d.om = false) : M ∈ T.states ∧ ∀ s ∈ T.states, mkB N s = true := by
  obtain ⟨hI, hD, hN, hM⟩ := grow_good hv hg
  obtain ⟨h1, h2⟩ := bounded_closed hI hD hN hM hno
  exact ⟨h1, fun s hs => mk_of hv (h2 s hs).1 (h2 s hs).2.1⟩
/-- what the pump of the certificate does -/
theorem om_pump {N : Nt} {M : List Int} {most : Nat} {T : TS} {i : Nat} {d : Nd} {g : Nat} {z : Nd} {W1 W2 : List Nat} {p : Nat} (hv : mkB N M = true) (hg : growT N M most = some T) (hm : most ≤ 1000) (hf : FOm N T i d g z W1 W2 p) :
    run21 N M (W1.map Int.ofNat) = (z.ms, W1.length, 0) ∧ run21 N z.ms (W2.map Int.ofNat) = (d.pn, W2.length, 0) ∧ mkB N z.ms = true ∧ (∀ q : Nat, z.ms.getD q 0 ≤ d.pn.getD q 0) ∧ z.ms.getD p 0 < d.pn.getD p 0 ∧ p < M.length ∧ z.ms.length = M.length := by
  obtain ⟨_, _, _, e1, e2, l1, l2, hzM, hnn⟩ := om_cert hv hg hm hf
  have hz : mkB N z.ms = true := by have := run21_mk (N := N) (M := M) (l := W1.map Int.ofNat) (by rw [e1]); rwa [e1] at this
  have hle : ∀ q : Nat, z.ms.getD q 0 ≤ d.pn.getD q 0 := fun q => by
    rcases Nat.lt_or_ge q z.ms.length with hq | hq
    · have h1 := (lessE_iff _ _).1 (hf.le q hq)
      have h2 := hnn q
      rcases h1 with h1 | h1
      · omega
      · exact h1.2
    · rw [getD_out hq, getD_out (by omega)]; omega
  have hpl := hf.pl
  refine ⟨e1, e2, hz, hle, ?_, by omega, l1⟩
  have h1 := hle p
  have h2 := hf.df
  omega
end
section
open Go.RowKit

/-- the greatest number of a place -/
def bnd1 (p : Nat) (o : Int) (s : List Int) : Int := if lessE o (s.getD p 0) then s.getD p 0 else o
def bndR (LL : List (List Int)) (p : Nat) : Int := LL.foldl (bnd1 p) 0
theorem bndR_take (LL : List (List Int)) (p k : Nat) (h : k < LL.length) : bndR (LL.take (k + 1)) p = bnd1 p (bndR (LL.take k) p) LL[k] := by
  unfold bndR; rw [List.take_succ_eq_append_getElem h, List.foldl_append]; rfl
theorem bnd1_om {p : Nat} {s : List Int} (h : s.getD p 0 = -1) (o : Int) : bnd1 p o s = -1 := by
  unfold bnd1 lessE; rw [h]; simp
theorem bnd1_stay (p : Nat) (s : List Int) : bnd1 p (-1) s = -1 := by
  unfold bnd1 lessE
  generalize s.getD p 0 = x
  by_cases h : x = -1
  · subst h; simp
  · rw [if_neg]; simp [h]
theorem bnd1_max {p : Nat} {s : List Int} {o : Int} (h : s.getD p 0 ≠ -1) (ho : 0 ≤ o) : bnd1 p o s = max o (s.getD p 0) := by
  unfold bnd1 lessE
  revert h
  generalize s.getD p 0 = x
  intro h
  by_cases h1 : o ≤ x
  · rw [if_pos (by simp [h1]; omega)]; omega
  · rw [if_neg (by simp [h]; omega)]; omega
theorem bndR_om (LL : List (List Int)) (p k : Nat) (h : k < LL.length) (hk : LL[k].getD p 0 = -1) : bndR LL p = -1 := by
  have stay : ∀ L : List (List Int), L.foldl (bnd1 p) (-1) = -1 := by
    intro L
    induction L with
    | nil => rfl
    | cons s L ih => rw [List.foldl_cons, bnd1_stay]; exact ih
  have e : LL = LL.take (k + 1) ++ LL.drop (k + 1) := (List.take_append_drop _ _).symm
  unfold bndR
  rw [e, List.foldl_append]
  have h1 := bndR_take LL p k h
  unfold bndR at h1
  rw [h1, bnd1_om hk]
  exact stay _
set_option maxHeartbeats 6400000 in
set_option maxRecDepth 100000 in
theorem rbound_any (v : Value) (LL : List (List Int)) (MV : List Mv) (fl : Bool) (p : Nat) (w : World) (h : SpIn w v LL MV fl) (hp : ∀ s ∈ LL, p < s.length) :
    Calls Tryd.prog 23 #[v, .int .i64 p] w fun e w' => e = .returned (.int .i64 (bndR LL p)) ∧ Below w.heap.size w w' := by
  obtain ⟨A, c, A', c', rfl, hl, hll, _, _⟩ := h
  have HB := Lib.hid (below_alloc w (.cells #[.slice A LL.length c, .slice A' MV.length c', .bool fl] 31))
  have HX := Lib.hid (SpB.new w (.slice A LL.length c) (.slice A' MV.length c') fl)
  have HL := Lib.hid (hl.below HB.out)
  have HPl := Lib.hid hp
  clear hl hp
  obtain ⟨n, hn⟩ : ∃ n, n = LL.length := ⟨_, rfl⟩
  have HN := Lib.hid hn.symm
  rw [← hn] at HB HX HL hll ⊢
  clear hn
  go_enter Tryd.func23, Tryd.ntmps23
  go_wp2_with fail
  generalize w.alloc _ = w0 at *
  go_loopg [5, 6] (n) (fun g ov iv wr => ∃ k : Nat, k + g = n ∧ iv = .int .i64 k ∧ ov = .int .i64 (bndR (LL.take k) p) ∧ Below w0.heap.size w0 wr)
  case atStart => exact ⟨0, by omega, rfl, rfl, Below.refl _ _⟩
  case round =>
    obtain ⟨k, hk, rfl, rfl, hB⟩ := hrel
    have HK := Lib.hid hk
    have HBr := Lib.hid hB
    have HLr := Lib.hid (HL.out.below hB)
    have hle : k ≤ n := by omega
    obtain ⟨x0, x1, x2⟩ := (HX.out.below hB).cells
    clear hk hB
    by_cases hlt : k < n
    · have hlt' : k < LL.length := by rw [HN.out]; exact hlt
      obtain ⟨ad, rfl, hpa, u, q0, Ax, nx, cx, rfl, zx, hx1, hx2, hx3⟩ := HLr.out k hlt'
      have HTk := Lib.hid (bndR_take LL p k hlt')
      have hpx : p < nx := by have := HPl.out _ (List.getElem_mem hlt'); omega
      have hpx' : (p : Int) < (nx : Int) := by omega
      have hpl : p < LL[k].length := by omega
      obtain ⟨ae, rfl, hpe, q5⟩ := zx p hpl
      have HGe := Lib.hid (show LL[k].getD p 0 = LL[k][p] by simp [hpl])
      generalize LL[k][p] = x at *
      generalize LL[k] = X at *
      generalize bndR (LL.take k) p = o at *
      have HLe := Lib.hid (less_any o x wr)
      have HX1 := Lib.hid (HX.out.below HBr.out)
      clear hlt' zx hx1 hpl
      go_wp2_with fail
      ((with_reducible refine HLe.out.mono ?_); rintro e w1 ⟨rfl, hb1⟩)
      have q6 := cell_stays hb1 q5
      have q1 := cell_stays hb1 q0
      obtain ⟨x0, x1, x2⟩ := (HX1.out.below hb1).cells
      have HB1 := Lib.hid (below_then HBr.out hb1)
      have hpa1 := Nat.lt_of_lt_of_le hpa hb1.size
      have hpe1 := Nat.lt_of_lt_of_le hpe hb1.size
      clear hb1 q5 q0 hpa hpe
      cases hv : lessE o x with
      | true =>
        have HV := Lib.hid (show bnd1 p o X = x by unfold bnd1; rw [HGe.out, hv]; rfl)
        clear hv
        go_wp2_with fail
        go_roundg (gk - 1)
        case measure => have := HK.out; omega
        case rel => exact ⟨k + 1, by have := HK.out; omega, by go_num, by rw [HTk.out, HV.out], HB1.out⟩
      | false =>
        have HV := Lib.hid (show bnd1 p o X = o by unfold bnd1; rw [HGe.out, hv]; rfl)
        clear hv
        go_wp2_with fail
        go_roundg (gk - 1)
        case measure => have := HK.out; omega
        case rel => exact ⟨k + 1, by have := HK.out; omega, by go_num, by rw [HTk.out, HV.out], HB1.out⟩
    · have HV := Lib.hid (show bndR (LL.take k) p = bndR LL p by rw [List.take_of_length_le (by rw [HN.out]; omega)])
      go_wp2_with fail
      go_ret
      exact ⟨ret_int HV.out, below_then HB.out HBr.out⟩
/-- what a call does -/
def BnPo (N : Nt) (M : List Int) (place most : Int) (w : World) (e : Ending) (w' : World) : Prop :=
  Below w.heap.size w w' ∧ match beR N [M] place most with
  | .inl k => e = .returned (.tuple #[.int .i64 0, .int .i64 k])
  | .inr T => e = .returned (.tuple #[.int .i64 (bndR T.states place.toNat), .int .i64 0])
theorem BnPo.no {N : Nt} {M : List Int} {place most : Int} {w w' : World} {e : Ending} {k : Int} (h : beR N [M] place most = .inl k) (hb : Below w.heap.size w w') (he : e = .returned (.tuple #[.int .i64 0, .int .i64 k])) : BnPo N M place most w e w' := by
  refine ⟨hb, ?_⟩; rw [h]; exact he
theorem BnPo.yes {N : Nt} {M : List Int} {place most : Int} {w w' : World} {e : Ending} {T : TS} {x : Int} (h : beR N [M] place most = .inr T) (hb : Below w.heap.size w w') (he : e = .returned (.tuple #[.int .i64 x, .int .i64 0])) (hx : bndR T.states place.toNat = x) : BnPo N M place most w e w' := by
  refine ⟨hb, ?_⟩; rw [h]; subst hx; exact he
theorem be_range {N : Nt} {LL : List (List Int)} {place most : Int} {T : TS} (h : beR N LL place most = .inr T) : 0 ≤ place ∧ place < N.pl ∧ 1 ≤ most ∧ most ≤ 1000 := by
  unfold beR at h
  split at h
  · split at h
    · cases h
    · rename_i h1
      unfold badR at h1
      simp only [Bool.or_eq_true, decide_eq_true_eq, not_or] at h1
      omega
  · cases h
set_option maxHeartbeats 6400000 in
set_option maxRecDepth 100000 in
theorem bound_any (N : Nt) (A : Option Addr) (n c : Nat) (Am : Option Addr) (m cm : Nat) (M : List Int) (place most : Int) (w : World) (h : NtIn w A N) (hn : N.tr.length = n) (hn2 : n ≤ 9223372036854775807) (hM : ZIn w Am M) (hm : M.length = m) (hm1 : m ≤ cm) (hm2 : cm ≤ 9223372036854775807) (ht : Tb w) :
    Calls Tryd.prog 21 #[.agg #[.int .i64 N.pl, .slice A n c, .int .i64 N.src, .int .i64 N.snk], .slice Am m cm, .int .i64 place, .int .i64 most] w (BnPo N M place most w) := by
  have HB := Lib.hid (below_alloc w (.cells #[.int .i64 N.pl, .slice A n c, .int .i64 N.src, .int .i64 N.snk] 24))
  have hs0 : (w.alloc (.cells #[.int .i64 N.pl, .slice A n c, .int .i64 N.src, .int .i64 N.snk] 24)).heap.size = w.heap.size + 1 := by simp
  have HNb := Lib.hid (NB.new w N.pl A n c N.src N.snk)
  have HIn := Lib.hid (h.below HB.out)
  have HZ := Lib.hid (hM.below HB.out)
  have HT := Lib.hid (ht.below HB.out)
  have HMl := Lib.hid hm
  have HNl := Lib.hid hn
  clear h hM ht hm hn
  go_enter Tryd.func21, Tryd.ntmps21
  go_wp2_with fail
  generalize w.alloc _ = w0 at *
  obtain ⟨b0, b1, b2, b3⟩ := HNb.out.cells
  have HL := Lib.hid (lin_one HZ.out HMl.out hm1 hm2)
  have HBe := Lib.hid (begin_any N A n c (some ⟨w0.heap.size, 0, none⟩) 1 1 [M] place most _ (HIn.out.below (below_alloc w0 (.cells #[.slice Am m cm] 25))) HNl.out hn2 HL.out rfl (by decide) (by decide) (HT.out.below (below_alloc w0 _)))
  rw [hs0] at HBe
  have HAl := Lib.hid (below_alloc w0 (.cells #[.slice Am m cm] 25))
  go_wp2_with fail
  ((with_reducible refine HBe.out.mono ?_); rintro e w1 hP)
  rcases hP.parts with ⟨k, hR, hk, rfl, hb1⟩ | ⟨T, tb, vN, vS, NL, SL, hR, rfl, hgp, hgr, hall⟩
  · have HR := Lib.hid hR
    have HB1 := Lib.hid (below_then HB.out (below_then HAl.out hb1))
    clear hR hb1 hP HBe HL HIn HZ HT b0 b1 b2 b3 HNb
    go_wp2_with fail
    go_ret2
    exact BnPo.no HR.out HB1.out rfl
  · have hgood := grow_good (N := N) (M := M) (by simpa using hall) hgr
    have hpl := mk_len (N := N) (M := M) (by simpa using hall)
    have hps := nt_small (mk_nt (N := N) (M := M) (by simpa using hall))
    have hrg := be_range hR
    obtain ⟨p, hpe⟩ := Int.eq_ofNat_of_zero_le hrg.1
    have HR := Lib.hid hR
    have HSl := Lib.hid (fun s hs => hgood.1.slen hgood.2.2.1 hgood.2.2.2 s hs)
    have hpm : p < m := by have := HMl.out; omega
    have HG1 := Lib.hid (hgp.up HAl.out)
    have HB1 := Lib.hid (below_then HB.out (below_then HAl.out hgp.bel))
    have HStl := Lib.hid hgp.stl
    have hsl : SL.length ≤ 20001 := by rw [hgp.stl]; have := hgood.1.cnt; have := hgood.1.len; omega
    obtain ⟨AS, cS, hvS, hAS⟩ := row_slice hgp.sts
    subst hvS
    subst hpe
    have hm40 : m ≤ 40 := by have := HMl.out; omega
    clear hR hP HBe HL HIn HZ HT b0 b1 b2 b3 HNb hgood hgr hall hgp hAS hrg hpl hps
    obtain ⟨t0, t1, _, _⟩ := HG1.out.cells
    go_wp2_with fail
    go_loopg [12, 32] (SL.length) (fun g ov kv wr => ∃ (k : Nat) (o : Int), k + g = SL.length ∧ kv = .int .i64 (k : Int) ∧ ov = .int .i64 o ∧ 0 ≤ o ∧ bndR (T.states.take k) p = o ∧ Below w1.heap.size w1 wr)
    case atStart => exact ⟨0, 0, by omega, rfl, rfl, by omega, rfl, Below.refl _ _⟩
    case round =>
      clear t0 t1
      obtain ⟨k, o, hkg, rfl, rfl, ho, hbo, hB⟩ := hrel
      have HK := Lib.hid hkg
      have HBo := Lib.hid hbo
      have HBr := Lib.hid hB
      have hkn : k ≤ SL.length := by omega
      have HGr := Lib.hid (HG1.out.below hB)
      clear hkg hB hbo
      obtain ⟨t0, t1, _, _⟩ := HGr.out.cells
      by_cases hlt : k < SL.length
      · have hkl : k < T.states.length := by rw [← HStl.out]; exact hlt
        have HTk := Lib.hid (bndR_take T.states p k hkl)
        have HOm := Lib.hid (bndR_om T.states p k hkl)
        have hsm := HSl.out _ (List.getElem_mem hkl)
        obtain ⟨gS, cS', u, hv', hgl, _, _, hu, c0⟩ := HGr.out.st_at (List.getElem?_eq_getElem hkl)
        cases hv'
        obtain ⟨Au, cu, hueq, hzu, _, _⟩ := hu.zin
        subst hueq
        have hpl : p < (T.states[k]).length := by rw [hsm]; have := HMl.out; omega
        obtain ⟨ae, rfl, hpa, q5⟩ := hzu p hpl
        have HGe := Lib.hid (show (T.states[k]).getD p 0 = (T.states[k])[p] by simp [hpl])
        rw [hsm] at c0
        have hsm' := HMl.out
        rw [hsm'] at c0
        generalize (T.states[k])[p] = x at *
        generalize T.states[k] = X at *
        have hpm' : (p : Int) < (m : Int) := by omega
        clear hkl hsm hu hzu hpl hsm'
        by_cases hx : x = -1
        · have q1 : (x == -1) = true := by rw [hx]; rfl
          have HV := Lib.hid (HOm.out (by rw [HGe.out]; exact hx))
          clear hx HOm
          go_wp2_with fail
          go_ret2
          exact BnPo.yes HR.out (below_then HB1.out HBr.out) rfl (by rw [Int.toNat_natCast]; exact HV.out)
        · have q1 : (x == -1) = false := by simpa using hx
          have HV := Lib.hid (show bndR (T.states.take (k + 1)) p = max o x by rw [HTk.out, HBo.out, bnd1_max (by rw [HGe.out]; exact hx) ho, HGe.out])
          have hmx : 0 ≤ max o x := by omega
          clear hx HOm
          go_wp2_with fail
          go_roundg (gk - 1)
          case measure => have := HK.out; omega
          case rel => exact ⟨k + 1, max o x, by have := HK.out; omega, by go_num, by go_num, hmx, HV.out, HBr.out⟩
      · have HV := Lib.hid (show bndR T.states p = o by have := HBo.out; rwa [List.take_of_length_le (by rw [← HStl.out]; omega)] at this)
        go_wp2_with fail
        go_ret2
        exact BnPo.yes HR.out (below_then HB1.out HBr.out) rfl (by rw [Int.toNat_natCast]; exact HV.out)
end
section
theorem lessE_trans {a b c : Int} (h : lessE a b = true) (k : lessE b c = true) : lessE a c = true := by
  rw [lessE_iff] at *
  omega
theorem lessE_refl (a : Int) : lessE a a = true := by rw [lessE_iff]; omega
theorem bnd1_le (p : Nat) (o : Int) (s : List Int) : lessE o (bnd1 p o s) = true ∧ lessE (s.getD p 0) (bnd1 p o s) = true := by
  unfold bnd1
  cases h : lessE o (s.getD p 0) with
  | true => rw [if_pos rfl]; exact ⟨h, lessE_refl _⟩
  | false =>
    rw [if_neg (by simp)]
    refine ⟨lessE_refl _, ?_⟩
    have h1 : ¬ lessE o (s.getD p 0) = true := by rw [h]; simp
    rw [lessE_iff] at *
    omega
theorem bndF_le (p : Nat) (L : List (List Int)) : ∀ o : Int, lessE o (L.foldl (bnd1 p) o) = true ∧ ∀ s ∈ L, lessE (s.getD p 0) (L.foldl (bnd1 p) o) = true := by
  induction L with
  | nil => intro o; exact ⟨lessE_refl _, fun s hs => by simp at hs⟩
  | cons x L ih =>
    intro o
    obtain ⟨h1, h2⟩ := ih (bnd1 p o x)
    obtain ⟨h3, h4⟩ := bnd1_le p o x
    refine ⟨lessE_trans h3 h1, fun s hs => ?_⟩
    rcases List.mem_cons.1 hs with rfl | hs
    · exact lessE_trans h4 h1
    · exact h2 s hs
theorem bndF_is (p : Nat) (L : List (List Int)) : ∀ o : Int, L.foldl (bnd1 p) o = o ∨ ∃ s ∈ L, L.foldl (bnd1 p) o = s.getD p 0 := by
  induction L with
  | nil => intro o; exact .inl rfl
  | cons x L ih =>
    intro o
    have h1 : bnd1 p o x = o ∨ bnd1 p o x = x.getD p 0 := by unfold bnd1; split <;> simp
    rcases ih (bnd1 p o x) with h | ⟨s, hs, h⟩
    · rw [List.foldl_cons, h]
      rcases h1 with h1 | h1
      · exact .inl h1
      · exact .inr ⟨x, List.mem_cons_self .., h1⟩
    · exact .inr ⟨s, List.mem_cons_of_mem _ hs, h⟩
/-- each state is at most one of the states that more tokens give -/
theorem more_state {N : Nt} {M M' : List Int} {most : Nat} {T T' : TS} (hv : mkB N M = true) (hv' : mkB N M' = true) (hg : growT N M most = some T) (hg' : growT N M' most = some T') (hle : leE M M') :
    ∀ s ∈ T.states, ∃ s' ∈ T'.states, s.length = M.length ∧ s'.length = M.length ∧ leE s s' := by
  obtain ⟨hI, _, hN, hM⟩ := grow_good hv hg
  obtain ⟨hI', hD', hN', hM'⟩ := grow_good hv' hg'
  have hl : M.length = M'.length := by have := mk_len hv; have := mk_len hv'; omega
  intro s hs
  obtain ⟨q, hq, rfl⟩ := List.getElem_of_mem hs
  obtain ⟨j, d, hd, _, hst⟩ := hI.own q hq
  have h1 := hI.st j d hd
  rw [hst, List.getElem?_eq_getElem hq] at h1
  have e : T.states[q] = d.ms := Option.some.inj h1
  obtain ⟨j', d', hd', hdd⟩ := more_states hI hI' hD' hN hM hM' hl hle j d hd
  rw [e]
  refine ⟨d'.ms, List.mem_of_getElem? (hI'.st j' d' hd'), (hI.fine hN hM j d hd).lm, ?_, hdd⟩
  rw [hl]; exact (hI'.fine hN' hM' j' d' hd').lm
/-- more tokens never lower a bound -/
theorem more_bound {N : Nt} {M M' : List Int} {most p : Nat} {T T' : TS} (hv : mkB N M = true) (hv' : mkB N M' = true) (hg : growT N M most = some T) (hg' : growT N M' most = some T') (hle : leE M M') (hp : p < M.length) :
    lessE (bndR T.states p) (bndR T'.states p) = true := by
  unfold bndR
  obtain ⟨h1, h2⟩ := bndF_le p T'.states 0
  rcases bndF_is p T.states 0 with h | ⟨s, hs, h⟩
  · rw [h]; exact h1
  · rw [h]
    obtain ⟨s', hs', l1, _, hss⟩ := more_state hv hv' hg hg' hle s hs
    exact lessE_trans (hss p (by omega)) (h2 s' hs')
/-- and they cover what fewer cover -/
theorem more_covers {N : Nt} {M M' L : List Int} {most : Nat} {T T' : TS} (hv : mkB N M = true) (hv' : mkB N M' = true) (hg : growT N M most = some T) (hg' : growT N M' most = some T') (hle : leE M M') (hL : mkB N L = true) (h : ∀ s ∈ T'.states, covB L s = false) : ∀ s ∈ T.states, covB L s = false := by
  intro s hs
  obtain ⟨s', hs', l1, l2, hss⟩ := more_state hv hv' hg hg' hle s hs
  cases hc : covB L s with
  | false => rfl
  | true =>
    exfalso
    have h1 := h s' hs'
    unfold covB at hc h1
    rw [atMost_iff] at hc
    have h3 : atMost L s' = true := by
      rw [atMost_iff]
      intro p hp
      have hl : L.length = M.length := by have := mk_len hL; have := mk_len hv; omega
      exact lessE_trans (hc p hp) (hss p (by omega))
    rw [h3] at h1; cases h1
/-- one token more -/
theorem more_mk {N : Nt} {M : List Int} {x : Nat} (hv : mkB N M = true) (hx : x < M.length) (h : M[x] < 100) : mkB N (M.set x (M[x] + 1)) = true ∧ leE M (M.set x (M[x] + 1)) := by
  have hM := mkM hv
  have hg : ∀ q : Nat, (M.set x (M[x] + 1)).getD q 0 = if x = q then M[x] + 1 else M.getD q 0 := fun q => set_get M x q _ hx
  have hx0 := hM x
  have hgx : M.getD x 0 = M[x] := by rw [List.getD_eq_getElem?_getD, List.getElem?_eq_getElem hx]; rfl
  rw [hgx] at hx0
  refine ⟨mk_of hv (by simp) fun q => ?_, fun q hq => ?_⟩
  · rw [hg q]
    have := hM q
    split
    · omega
    · exact this
  · rw [hg q, lessE_iff]
    have := hM q
    by_cases e : x = q
    · subst e
      rw [if_pos rfl, hgx]
      omega
    · rw [if_neg e]
      omega
/-- firing from what is reached -/
theorem reach_fire {N : Nt} {M X : List Int} {t : Int} (hr : Reach N M X) (h : (fireV N X t).2 = 0) : Reach N M (fireV N X t).1 := by
  rcases fireV_cases N X t with ⟨k, x, rfl, hx, hc, ⟨_, e⟩ | ⟨_, e⟩⟩ | ⟨h0, _⟩
  · rw [e] at h; simp at h
  · rw [e]; exact hr.step hx hc
  · exact absurd h h0
/-- a state covers what is reached -/
theorem reach_cov {N : Nt} {M X : List Int} {most : Nat} {T : TS} (hv : mkB N M = true) (hg : growT N M most = some T) (hr : Reach N M X) (hX : mkB N X = true) : ∃ s ∈ T.states, s.length = X.length ∧ covB X s = true := by
  obtain ⟨hI, hD, hN, hM⟩ := grow_good hv hg
  obtain ⟨j, d, hd, _, hle⟩ := complete hI hD hN hM hr
  have hl : X.length = M.length := by have := mk_len hX; have := mk_len hv; omega
  refine ⟨d.ms, List.mem_of_getElem? (hI.st j d hd), ?_, ?_⟩
  · rw [hl]; exact (hI.fine hN hM j d hd).lm
  · unfold covB; rw [atMost_iff]; exact hle
/-- a state without omega is a marking -/
theorem state_mk {N : Nt} {M s : List Int} {most : Nat} {T : TS} (hv : mkB N M = true) (hg : growT N M most = some T) (hs : s ∈ T.states) (ho : hasO s = false) : mkB N s = true := by
  obtain ⟨hI, hD, hN, hM⟩ := grow_good hv hg
  obtain ⟨q, hq, rfl⟩ := List.getElem_of_mem hs
  obtain ⟨j, d, hd, _, hst⟩ := hI.own q hq
  have h1 := hI.st j d hd
  rw [hst, List.getElem?_eq_getElem hq] at h1
  have e : T.states[q] = d.ms := Option.some.inj h1
  rw [e] at ho ⊢
  have hf := hI.fine hN hM j d hd
  refine mk_of hv hf.lm fun p => ?_
  have h2 := hf.em p
  have h3 := hasO_no ho p
  rcases Nat.lt_or_ge p M.length with hp | hp
  · have h4 := hf.sp p
    rcases hf.up p hp with h5 | h5 <;> omega
  · rw [getD_out (by rw [hf.lm]; exact hp)]; omega
theorem covB_refl (s : List Int) : covB s s = true := by unfold covB; rw [atMost_iff]; exact fun p _ => lessE_refl _
/-- the way to a state is no longer than there are moves -/
theorem way_moves {N : Nt} {M : List Int} {T : TS} (hI : TInv N M T) {goal : Nat} {F : List Int} (hD : IsD (movesOf T) goal T.states.length F) (h0 : 0 < T.states.length) : (wayD (movesOf T) F goal (fd F 0).toNat 0).length ≤ (movesOf T).length := by
  have h1 := way_len (movesOf T) F goal (fd F 0).toNat 0
  have h2 := hD.top 0 h0
  have h3 : (movesOf T).length = T.nodes.length - 1 := by unfold movesOf; rw [List.length_map, List.length_drop]
  have h4 := hI.cnt
  simp only [Int.natCast_zero] at h2
  omega
/-- the marking itself is the first state, and the way to it is empty -/
theorem way_first {N : Nt} {M : List Int} {T : TS} (hI : TInv N M T) : lidx (covB M) T.states = 0 := by
  have h0 : 0 < T.states.length := (List.getElem?_eq_some_iff.1 hI.one).1
  have e : T.states[0] = M := (List.getElem?_eq_some_iff.1 hI.one).2
  exact lidx_at h0 (by rw [e]; exact covB_refl M) (by simp)
theorem way_none {MV : List Mv} {F : List Int} {n : Nat} (hD : IsD MV 0 n F) : wayD MV F 0 (fd F 0).toNat 0 = [] := by
  have h : fd F 0 = 0 := hD.zero
  rw [h]; rfl
end
section
open Go.RowKit

theorem limited_any (x most : Nat) (w : World) (hx : x ≤ 255) (hm : 1 + x % 60 = most) : Calls Tryd.prog 29 #[.int .u8 (x : Int)] w fun e w' => e = .returned (.int .i64 (most : Int)) ∧ Below w.heap.size w w' := by
  subst hm
  go_enter Tryd.func29, Tryd.ntmps29
  go_wp2_with fail
  go_ret
  exact ⟨ret_int (by go_num), Below.refl _ _⟩
/-- what Bound returns -/
def bnA (N : Nt) (M : List Int) (place most : Int) : Int := match beR N [M] place most with | .inl _ => 0 | .inr T => bndR T.states place.toNat
def bnE (N : Nt) (M : List Int) (place most : Int) : Int := match beR N [M] place most with | .inl k => k | .inr _ => 0
/-- what Covers returns -/
def cvX (N : Nt) (M L : List Int) (most : Int) : Bool := match beR N [M, L] 0 most with | .inl _ => false | .inr T => T.states.any (covB L)
def cvE (N : Nt) (M L : List Int) (most : Int) : Int := match beR N [M, L] 0 most with | .inl k => k | .inr _ => 0
theorem bn_val {P : Program} {f : FuncId} {args : Array Value} {N : Nt} {M : List Int} {place most : Int} {w : World} (h : Calls P f args w (BnPo N M place most w)) : Calls P f args w fun e w' => e = .returned (.tuple #[.int .i64 (bnA N M place most), .int .i64 (bnE N M place most)]) ∧ Below w.heap.size w w' :=
  h.mono fun e w' h1 => by
    unfold BnPo at h1
    unfold bnA bnE
    rcases hb : beR N [M] place most with k | T
    · rw [hb] at h1; exact ⟨h1.2, h1.1⟩
    · rw [hb] at h1; exact ⟨h1.2, h1.1⟩
/-- what is returned by Covers -/
def CvQ (w : World) (x : Bool) (g : Int) (e : Ending) (w' : World) : Prop := ∃ A n c, e = .returned (.tuple #[.bool x, .slice A n c, .int .i64 g]) ∧ Below w.heap.size w w'
theorem cv_val {P : Program} {f : FuncId} {args : Array Value} {N : Nt} {M L : List Int} {most : Int} {w : World} (h : Calls P f args w (CvPo N M L most w)) : Calls P f args w (CvQ w (cvX N M L most) (cvE N M L most)) :=
  h.mono fun e w' h1 => by
    unfold CvPo at h1
    unfold CvQ cvX cvE
    rcases hb : beR N [M, L] 0 most with k | T
    · rw [hb] at h1; exact ⟨_, _, _, h1.2, h1.1⟩
    · rw [hb] at h1
      rcases h1.2 with ⟨h2, h3⟩ | ⟨goal, F, v, he, h2, h3, h4, h5, h6⟩
      · have h4 : T.states.any (covB L) = false := by rw [List.any_eq_false]; intro s hs; rw [h3 s hs]; simp
        simp only
        rw [h4]
        exact ⟨_, _, _, h2, h1.1⟩
      · obtain ⟨A, c, rfl⟩ := h6.slice
        have h7 : T.states.any (covB L) = true := by
          cases ha : T.states.any (covB L) with
          | true => rfl
          | false =>
            rw [List.any_eq_false] at ha
            rw [lidx_no (fun s hs => by simpa using ha s hs)] at h2
            omega
        simp only
        rw [h7]
        exact ⟨_, _, _, he, h1.1⟩
/-- more tokens never lower a bound; what is returned -/
theorem more_bn {N : Nt} {M M' : List Int} {place : Int} {most : Nat} (hv : mkB N M = true) (hv' : mkB N M' = true) (hle : leE M M') (h0 : 0 ≤ place) (h1 : place < N.pl) : bnE N M place most = 0 → bnE N M' place most = 0 → lessE (bnA N M place most) (bnA N M' place most) = true := by
  unfold bnE bnA
  rcases hb : beR N [M] place most with k | T
  · intro hk
    simp only at hk
    unfold beR at hb
    simp only [List.all_cons, List.all_nil, Bool.and_true, hv, if_true, List.headD_cons] at hb
    split at hb
    · cases hb; omega
    · split at hb
      · cases hb
      · cases hb; omega
  · rcases hb' : beR N [M'] place most with k | T'
    · intro _ hk
      simp only at hk
      unfold beR at hb'
      simp only [List.all_cons, List.all_nil, Bool.and_true, hv', if_true, List.headD_cons] at hb'
      split at hb'
      · cases hb'; omega
      · split at hb'
        · cases hb'
        · cases hb'; omega
    · intro _ _
      have g1 : growT N M most = some T := by
        unfold beR at hb
        simp only [List.all_cons, List.all_nil, Bool.and_true, hv, if_true, List.headD_cons, Int.toNat_natCast] at hb
        split at hb
        · cases hb
        · split at hb
          · rename_i q; cases hb; exact q
          · cases hb
      have g2 : growT N M' most = some T' := by
        unfold beR at hb'
        simp only [List.all_cons, List.all_nil, Bool.and_true, hv', if_true, List.headD_cons, Int.toNat_natCast] at hb'
        split at hb'
        · cases hb'
        · split at hb'
          · rename_i q; cases hb'; exact q
          · cases hb'
      exact more_bound hv hv' g1 g2 hle (by have := mk_len hv; omega)
theorem be_grow {N : Nt} {M L : List Int} {most : Nat} {T : TS} (h : beR N [M, L] 0 most = .inr T) : growT N M most = some T ∧ mkB N L = true := by
  unfold beR at h
  simp only [List.all_cons, List.all_nil, Bool.and_true, List.headD_cons, Int.toNat_natCast] at h
  split at h
  · rename_i q
    simp only [Bool.and_eq_true] at q
    split at h
    · cases h
    · split at h
      · rename_i q2; cases h; exact ⟨q2, q.2⟩
      · cases h
  · cases h
theorem be_err {N : Nt} {LL : List (List Int)} {place most k : Int} (h : beR N LL place most = .inl k) : k ≠ 0 := by
  unfold beR at h
  split at h
  · split at h
    · cases h; omega
    · split at h
      · cases h
      · cases h; omega
  · cases h; omega
theorem more_cv {N : Nt} {M M' L : List Int} {most : Nat} (hv : mkB N M = true) (hv' : mkB N M' = true) (hle : leE M M') : cvE N M L most = 0 → cvE N M' L most = 0 → cvX N M L most = true → cvX N M' L most = true := by
  unfold cvE cvX
  rcases hb : beR N [M, L] 0 most with k | T
  · intro hk; exact absurd hk (be_err hb)
  · rcases hb' : beR N [M', L] 0 most with k | T'
    · intro _ hk; exact absurd hk (be_err hb')
    · intro _ _ hx
      simp only at hx ⊢
      obtain ⟨g1, hL⟩ := be_grow hb
      obtain ⟨g2, _⟩ := be_grow hb'
      cases hn : T'.states.any (covB L) with
      | true => rfl
      | false =>
        exfalso
        have h1 := more_covers hv hv' g1 g2 hle hL (fun s hs => by rw [List.any_eq_false] at hn; simpa using hn s hs)
        rw [List.any_eq_true] at hx
        obtain ⟨s, hs, hc⟩ := hx
        rw [h1 s hs] at hc; cases hc
end
section
open Go.RowKit

/-- a state is at least a marking -/
def reachB (Y s : List Int) : Bool := decide (s.length = Y.length) && covB Y s
theorem reach1_any (Ax : Option Addr) (nx cx : Nat) (X : List Int) (pb : Nat) (Ay : Option Addr) (ny cy : Nat) (Y : List Int) (w : World) (hx : ZIn w Ax X) (hl : X.length = nx) (hn : nx ≤ 9223372036854775807) (h : MB w pb Ay ny cy Y) :
    Calls Tryd.prog 35 #[.slice Ax nx cx, .pointer (some ⟨pb, 0, none⟩)] w fun e w' => e = .returned (.bool (reachB Y X)) ∧ Below w.heap.size w w' := by
  obtain ⟨h1, h2, h3⟩ := h
  have c0 : w.cell? ⟨pb, 0, none⟩ = some (.slice Ay ny cy) := by simp [World.cell?, h1]
  by_cases hnn : nx = ny
  · have HV := Lib.hid (show reachB Y X = covB Y X by unfold reachB; rw [decide_eq_true (by omega)]; rfl)
    have HE := Lib.hid (atmost_any Ay ny cy Ax nx cx Y X w h2 h3 hx hl (by omega) hn)
    have q1 : ((nx : Int) == (ny : Int)) = true := by simp [hnn]
    clear h1 h2 h3 hx hl hnn
    go_enter Tryd.func35, Tryd.ntmps35
    go_wp2_with fail
    ((with_reducible refine HE.out.mono ?_); rintro e w1 ⟨rfl, hb1⟩)
    have HB1 := Lib.hid hb1
    go_wp2_with fail
    go_ret
    exact ⟨ret_bool HV.out.symm, HB1.out⟩
  · have HV := Lib.hid (show reachB Y X = false by unfold reachB; rw [decide_eq_false (by omega)]; rfl)
    have q1 : ((nx : Int) == (ny : Int)) = false := by simp; omega
    clear h1 h2 h3 hx hl hnn
    go_enter Tryd.func35, Tryd.ntmps35
    go_wp2_with fail
    go_ret
    exact ⟨ret_bool HV.out.symm, Below.refl _ _⟩
set_option maxHeartbeats 3200000 in
set_option maxRecDepth 100000 in
theorem lindex_rr (A : Option Addr) (n cap : Nat) (L : List (List Int)) (w : World) (h : LIn w A L) (hn : L.length = n) (hn4 : n ≤ 9223372036854775806) (pb : Nat) (Ay : Option Addr) (ny cy : Nat) (Y : List Int) (hS : MB w pb Ay ny cy Y) :
    Calls Tryd.prog 53 #[.slice A n cap, .func (.func 35) #[] #[.pointer (some ⟨pb, 0, none⟩)]] w fun e w' => e = .returned (.int .i64 (lidx (reachB Y) L)) ∧ Below w.heap.size w w' := by
  have H0 := Lib.hid h; clear h
  have HN := Lib.hid hn; clear hn
  have HSt := Lib.hid hS; clear hS
  go_enter Tryd.func53, Tryd.ntmps53
  go_wp2_with fail
  go_loopg [8] (n) (fun g i wr => ∃ k : Nat, k + g = n ∧ i = .int .i64 k ∧ (∀ s ∈ L.take k, (reachB Y) s = false) ∧ Below w.heap.size w wr)
  case atStart => exact ⟨0, by omega, rfl, by simp, Below.refl _ _⟩
  case round =>
    obtain ⟨k, hk, rfl, hno, hB⟩ := hrel
    have HK := Lib.hid hk
    have HNo := Lib.hid hno
    have HB := Lib.hid hB
    have HT := Lib.hid (H0.out.below hB)
    have hle : k ≤ n := by omega
    clear hk hno hB
    by_cases hlt : k < n
    · have hlt' : k < L.length := by rw [HN.out]; exact hlt
      obtain ⟨ad, rfl, hp, u, c0, Ax, nx, cx, rfl, zx, hxl, hxc, hxd⟩ := HT.out k hlt'
      have HTk := Lib.hid (List.take_succ_eq_append_getElem hlt')
      have HAt := Lib.hid (lidx_at (p := (reachB Y)) hlt')
      have hXm := List.getElem_mem hlt'
      generalize L[k] = X at *
      have HX := Lib.hid (reach1_any Ax nx cx X pb Ay ny cy Y wr zx hxl (by omega) (HSt.out.below HB.out))
      clear hlt' zx hxl hXm
      cases hv : (reachB Y) X with
      | true =>
        rw [hv] at HX
        have HV := Lib.hid (HAt.out hv HNo.out); clear hv
        go_wp2_with fail
        ((with_reducible refine HX.out.mono ?_); rintro e w1 ⟨rfl, hb1⟩)
        have HB1 := Lib.hid (below_then HB.out hb1)
        go_wp2_with fail
        go_ret
        exact ⟨ret_int HV.out.symm, HB1.out⟩
      | false =>
        rw [hv] at HX
        have HV := Lib.hid hv; clear hv HAt
        go_wp2_with fail
        ((with_reducible refine HX.out.mono ?_); rintro e w1 ⟨rfl, hb1⟩)
        have HB1 := Lib.hid (below_then HB.out hb1)
        clear hb1
        go_wp2_with fail
        go_roundg (gk - 1)
        case measure => have := HK.out; omega
        case rel => exact ⟨k + 1, by have := HK.out; omega, by go_num, by
          rw [HTk.out]; intro s hs
          rcases List.mem_append.1 hs with h1 | h1
          · exact HNo.out s h1
          · have : s = X := by simpa using h1
            rw [this]; exact HV.out, HB1.out⟩
    · have HV := Lib.hid (show lidx (reachB Y) L = -1 from lidx_no (by have := HNo.out; rwa [List.take_of_length_le (by rw [HN.out]; omega)] at this))
      go_wp2_with fail
      go_ret
      exact ⟨ret_int HV.out.symm, HB.out⟩
set_option maxHeartbeats 800000 in
theorem lcont_rr (A : Option Addr) (n cap : Nat) (L : List (List Int)) (w : World) (h : LIn w A L) (hn : L.length = n) (hn4 : n ≤ 9223372036854775806) (pb : Nat) (Ay : Option Addr) (ny cy : Nat) (Y : List Int) (hS : MB w pb Ay ny cy Y) :
    Calls Tryd.prog 31 #[.slice A n cap, .func (.func 35) #[] #[.pointer (some ⟨pb, 0, none⟩)]] w fun e w' => e = .returned (.bool (L.any (reachB Y))) ∧ Below w.heap.size w w' := by
  have HI := Lib.hid (lindex_rr A n cap L w h hn hn4 pb Ay ny cy Y hS)
  have HE := Lib.hid (lidx_any (reachB Y) L)
  clear h hn hS
  generalize lidx (reachB Y) L = r at HI HE
  go_enter Tryd.func31, Tryd.ntmps31
  go_wp2_with fail
  ((with_reducible refine HI.out.mono ?_); rintro e w1 ⟨rfl, hb1⟩)
  have HB1 := Lib.hid hb1
  go_wp2_with fail
  go_ret
  exact ⟨ret_bool HE.out, HB1.out⟩

theorem contains_om (A : Option Addr) (n c : Nat) (Z : List Int) (w : World) (h : ZIn w A Z) (hn : Z.length = n) (hb : n ≤ 9223372036854775807) :
    Calls Tryd.prog 37 #[.slice A n c, .int .i64 (-1)] w fun e w' => e = .returned (.bool (hasO Z)) ∧ Below w.heap.size w w' := by
  rcases Nat.eq_zero_or_pos n with h0 | h0
  · subst h0
    have e1 : Z = [] := List.eq_nil_of_length_eq_zero hn
    subst e1
    exact (Tryd.slices_Contains_int_empty A c (-1) w).mono fun e w' ⟨h1, h2⟩ => ⟨h1, by subst h2; exact Below.refl _ _⟩
  · obtain ⟨b, off, rfl, _, hc⟩ := zin_plain h (by omega)
    refine (Tryd.slices_Contains_int b off n c Z (-1) w (by omega) hb hc).mono fun e w' ⟨h1, h2⟩ => ⟨?_, by subst h2; exact Below.refl _ _⟩
    rw [h1, List.take_of_length_le (by omega)]
    refine ret_bool ?_
    unfold hasO
    rw [List.contains_eq_any_beq]
    congr 1
    funext x
    rw [Bool.eq_iff_iff]; simp; omega
/-- a space is stored into its block -/
theorem sp_store {w2 w6 : World} {sb : Nat} {vS vM a b : Value} {f : Bool} {LL : List (List Int)} {MV : List Mv} (hO : OLL w2 w6 vS LL) (hM : OMv w2 w6 vM MV) (hX : SpB w6 sb a b f) (h : w2.heap.size ≤ sb) (fl : Bool) :
    OLL w2 (((w6.setCell ⟨sb, 0, none⟩ vS).setCell ⟨sb, 1, none⟩ vM).setCell ⟨sb, 2, none⟩ (.bool fl)) vS LL ∧ OMv w2 (((w6.setCell ⟨sb, 0, none⟩ vS).setCell ⟨sb, 1, none⟩ vM).setCell ⟨sb, 2, none⟩ (.bool fl)) vM MV :=
  ⟨((hO.box hX (by decide) (by decide) h vS).box (hX.set0 vS) (by decide) (by decide) h vM).box ((hX.set0 vS).set1 vM) (by decide) (by decide) h (.bool fl),
   ((hM.box hX (by decide) h vS).box (hX.set0 vS) (by decide) h vM).box ((hX.set0 vS).set1 vM) (by decide) h (.bool fl)⟩
theorem spb_grown (w6 : World) (sb : Nat) (vS vM : Value) (fl : Bool) : w6.grownBy (((w6.setCell ⟨sb, 0, none⟩ vS).setCell ⟨sb, 1, none⟩ vM).setCell ⟨sb, 2, none⟩ (.bool fl)) (some sb) :=
  Lib.grownBy_setB (Lib.grownBy_setB (Lib.grownBy_setB (grown_refl w6 (some sb)) 0 _) 1 _) 2 _
theorem gp_no {P : Program} {f : FuncId} {args : Array Value} {N : Nt} {M : List Int} {most : Int} {w : World} (h : Calls P f args w (GphPo N M most w)) {k : Int} (hb : beR N [M] 0 most = .inl k) : Calls P f args w fun e w' => e = .returned (.tuple #[.agg #[.slice none 0 0, .slice none 0 0, .bool false], .int .i64 k]) ∧ Below w.heap.size w w' :=
  h.mono fun e w' h1 => by unfold GphPo at h1; rw [hb] at h1; exact ⟨h1.2, h1.1⟩
theorem gp_yes {P : Program} {f : FuncId} {args : Array Value} {N : Nt} {M : List Int} {most : Int} {w : World} (h : Calls P f args w (GphPo N M most w)) {T : TS} (hb : beR N [M] 0 most = .inr T) :
    Calls P f args w fun e w' => ∃ Aa ca Ad cd, e = .returned (.tuple #[.agg #[.slice Aa T.states.length ca, .slice Ad (movesOf T).length cd, .bool true], .int .i64 0]) ∧ OLL w w' (.slice Aa T.states.length ca) T.states ∧ OMv w w' (.slice Ad (movesOf T).length cd) (movesOf T) :=
  h.mono fun e w' h1 => by
    unfold GphPo at h1; rw [hb] at h1
    obtain ⟨_, vS, vM, he, hO, hM⟩ := h1
    obtain ⟨Aa, ca, rfl⟩ := hO.slice
    obtain ⟨Ad, cd, rfl⟩ := hM.slice
    exact ⟨Aa, ca, Ad, cd, he, hO, hM⟩
/-- Covers, of what is covered -/
def CvW (M L : List Int) (T : TS) (w : World) (e : Ending) (w' : World) : Prop := ∃ A wl c, e = .returned (.tuple #[.bool true, .slice A wl c, .int .i64 0]) ∧ wl ≤ (movesOf T).length ∧ (L = M → wl = 0) ∧ Below w.heap.size w w'
theorem cv_way {P : Program} {f : FuncId} {args : Array Value} {N : Nt} {M L : List Int} {most : Nat} {w : World} (h : Calls P f args w (CvPo N M L (most : Int) w)) {T : TS} (hm : mkB N M = true) (hg : growT N M most = some T) (hl : mkB N L = true) (hmo : 1 ≤ most) (hmo2 : most ≤ 60) (hc : ∃ s ∈ T.states, covB L s = true) : Calls P f args w (CvW M L T w) :=
  h.mono fun e w' h1 => by
    have hps := nt_small (mk_nt hm)
    have hb : beR N [M, L] 0 (most : Int) = .inr T := by
      unfold beR
      have hbd : badR N 0 (most : Int) = false := by
        unfold badR
        simp only [Bool.or_eq_false_iff, decide_eq_false_iff_not]
        omega
      simp only [List.all_cons, List.all_nil, Bool.and_true, hm, hl, if_true, hbd, Bool.false_eq_true, if_false, List.headD_cons, Int.toNat_natCast, hg]
    obtain ⟨hI, _⟩ := grow_good hm hg
    unfold CvPo at h1
    rw [hb] at h1
    rcases h1 with ⟨_, ⟨_, h2⟩ | ⟨goal, F, v, he, h2, h3, h4, h5, h6⟩⟩
    · obtain ⟨s, hs, hcs⟩ := hc
      rw [h2 s hs] at hcs; cases hcs
    · obtain ⟨A, c, rfl⟩ := h6.slice
      refine ⟨A, _, c, he, way_moves hI h4 (by omega), fun e => ?_, h6.2⟩
      subst e
      rw [way_first hI] at h2
      obtain rfl : goal = 0 := by omega
      rw [way_none h4]; rfl
/-- the loop over the run -/
def ReI (N : Nt) (M : List Int) (nl : Nat) (wB : World) (ab g : Nat) (iv : Value) (wr : World) : Prop :=
  ∃ (k : Nat) (X : List Int) (A : Option Addr) (c : Nat), k + g = nl ∧ iv = .int .i64 (k : Int) ∧ wr.heap[ab]? = some (.cells #[.slice A X.length c] 25 (0, 0)) ∧ NS wB wr (.slice A X.length c) X ∧ Reach N M X ∧ mkB N X = true
theorem ns_bd {w wr : World} {A : Option Addr} {n c : Nat} {L : List Int} (h : NS w wr (.slice A n c) L) : ZIn wr A L ∧ L.length ≤ c ∧ c ≤ 9223372036854775807 := by
  obtain ⟨A', c', e, h1, h2, h3⟩ := h.zin
  cases e; exact ⟨h1, h2, h3⟩
theorem reach_any {N : Nt} {M X : List Int} {most : Nat} {T : TS} (hv : mkB N M = true) (hg : growT N M most = some T) (hr : Reach N M X) (hX : mkB N X = true) : T.states.any (reachB X) = true := by
  obtain ⟨s, hs, h1, h2⟩ := reach_cov hv hg hr hX
  rw [List.any_eq_true]
  exact ⟨s, hs, by unfold reachB; rw [h2, h1]; simp⟩
end
end Go.Proofs.YtjojmmabcjccdaaDoor
