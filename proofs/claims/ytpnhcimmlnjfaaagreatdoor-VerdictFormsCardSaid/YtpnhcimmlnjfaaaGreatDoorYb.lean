/- verdict: sound: what a call returns, plain; the facts that its walk uses. at, Initial, Final, below, markings, never, closed, covers of reference 28: what a call returns. -/
import Derived.Test.YtpnhcimmlnjfaaaGreatDoorQm
import Derived.Test.YtpnhcimmlnjfaaaGreatDoorQj
import Derived.Test.YtpnhcimmlnjfaaaGreatDoorQp
namespace Go.Proofs.YtpnhcimmlnjfaaaGreatDoor
open Go.Lib (hid)
section
open Go.RowKit

/-- a move reaches the next marking -/
def mvT (N : Nt) (K : List (List Int)) (i : Nat) (f t s : Int) : Bool := decide (t = (i : Int) + 1) && (decide (0 ≤ f) && (decide (f ≤ (i : Int)) && (decide ((fireV N (K.getD f.toNat []) s).2 = 0) && decide ((fireV N (K.getD f.toNat []) s).1 = K.getD (i + 1) []))))
def mvOkAt (N : Nt) (K : List (List Int)) (V : List Mv) (i : Nat) : Bool := match V[i]? with
 | some x => mvT N K i x.f x.t x.s
 | none => true
theorem mvOk_get {N : Nt} {K : List (List Int)} {V : List Mv} {i : Nat} (h : i < V.length) : mvOkAt N K V i = mvT N K i V[i].f V[i].t V[i].s := by
 unfold mvOkAt; rw [List.getElem?_eq_getElem h]
/-- a move in its block -/
def MvB (w : World) (b : Nat) (f t s : Int) : Prop := w.heap[b]? = some (.cells #[.int .i64 f, .int .i64 t, .int .i64 s] 47 (0, 0))
theorem MvB.below {w w' : World} {b : Nat} {f t s : Int} (h : MvB w b f t s) (hb : Below w.heap.size w w') : MvB w' b f t s := by
 unfold MvB; rw [hb.block b (Array.getElem?_eq_some_iff.1 h).1]; exact h
theorem MvB.cells {w : World} {b : Nat} {f t s : Int} (h : MvB w b f t s) : w.cell? ⟨b, 0, none⟩ = some (.int .i64 f) ∧ w.cell? ⟨b, 2, none⟩ = some (.int .i64 s) := by
 have h' : w.heap[b]? = _ := h
 exact ⟨by simp [World.cell?, h'], by simp [World.cell?, h']⟩
/-- a cell that stays -/
def CA (w : World) (a : Addr) (v : Value) : Prop := w.cell? a = some v
theorem CA.below {w w' : World} {a : Addr} {v : Value} (h : CA w a v) (hb : Below w.heap.size w w') : CA w' a v := cell_stays hb h
theorem lin_at {w : World} {ak : Addr} {LL : List (List Int)} (h : LIn w (some ak) LL) {i : Nat} (hi : i < LL.length) : ∃ A n c, CA w (ak.add i) (.slice A n c) ∧ ZIn w A LL[i] ∧ LL[i].length = n ∧ n ≤ c ∧ c ≤ 9223372036854775807 := by
 obtain ⟨ad, e, _, u, k0, A, n, c, hu, h1, h2, h3, h4⟩ := h i hi
 cases e
 subst hu
 exact ⟨A, n, c, k0, h1, h2, h3, h4⟩
/-- the number of a marking -/
def rowV (Z : List Int) (i : Nat) : Int := Z.getD i 0
def nearT (K : List (List Int)) (Z : List Int) (i : Nat) (t : Tr) : Bool := canT t (K.getD i []) && decide (rowV Z (lidx (isL (fireT t (K.getD i []))) K).toNat < rowV Z i)
def mrkOk (N : Nt) (K : List (List Int)) (Z : List Int) (i : Nat) : Bool := decide (lidx (isL (K.getD i [])) K = (i : Int)) && ((decide (K.getD i [] = finM N) == decide (rowV Z i = 0)) && (decide (K.getD i [] = finM N) || (N.tr.any (nearT K Z i) && !(decide (0 < (K.getD i []).getD N.snk.toNat 0)))))
def firedB (K : List (List Int)) (t : Tr) : Bool := K.any (canT t)
def sndB (N : Nt) (K : List (List Int)) (V : List Mv) (X : List (List Int)) : Bool :=
 !(K.isEmpty) && (mksX N.pl false K && (decide (K.getD 0 [] = iniM N) && (decide (V.length + 1 = K.length) && (decide (X.length = 1) && (decide ((X.headD []).length = K.length) && ((List.range V.length).all (mvOkAt N K V) && (closX N K && ((List.range K.length).all (mrkOk N K (X.headD [])) && N.tr.all (firedB K)))))))))
theorem any_step {α : Type} (f : α → Bool) {L : List α} {k : Nat} (h : k < L.length) : (L.take (k + 1)).any f = ((L.take k).any f || f L[k]) := by
 rw [List.take_succ_eq_append_getElem h, List.any_append]; simp
theorem lidx_lt (p : List Int → Bool) (K : List (List Int)) (h : 0 ≤ lidx p K) : ∃ i : Nat, lidx p K = (i : Int) ∧ i < K.length := by
 unfold lidx at h ⊢
 split at h
 · omega
 · rename_i hne
   rw [if_neg hne]
   exact ⟨_, rfl, by have := List.findIdx_le_length (p := p) (xs := K); omega⟩
theorem clos_mem {N : Nt} {K : List (List Int)} (h : closX N K = true) {s : List Int} (hs : s ∈ K) {t : Tr} (ht : t ∈ N.tr) (hc : canT t s = true) : bigM (fireT t s) = false ∧ 0 ≤ lidx (isL (fireT t s)) K := by
 unfold closX dblB at h
 have h1 := List.all_eq_true.1 (List.all_eq_true.1 h s hs) t ht
 unfold okX at h1
 rw [hc] at h1
 simp only [Bool.not_true, Bool.false_or, Bool.and_eq_true, Bool.not_eq_true'] at h1
 refine ⟨h1.1, ?_⟩
 have h2 := h1.2
 unfold inB at h2
 have := lidx_mem (fireT t s) K
 unfold memB at this
 have h3 : K.any (isL (fireT t s)) = true := by rw [List.any_eq_true]; exact ⟨fireT t s, by simpa using h2, by simp [isL]⟩
 rw [h3] at this
 simpa using this
theorem tb_set {w : World} {b fb o : Nat} {lb : ByteArray} {Ai : Option Addr} {ni ci : Nat} {Ao : Option Addr} {no co : Nat} (h : TB w b lb Ai ni ci Ao no co) (hne : b ≠ fb) (u : Value) : TB (w.setCell ⟨fb, o, none⟩ u) b lb Ai ni ci Ao no co := by
 have hg : w.grownBy (w.setCell ⟨fb, o, none⟩ u) (some fb) := Lib.grownBy_setB (grown_refl w (some fb)) o u
 have hn : some b ≠ some fb := fun e => hne (by cases e; rfl)
 exact ⟨hg.cell h.1 hn, hg.cell h.2.1 hn, hg.cell h.2.2 hn⟩
def trD : Tr := ⟨⟨#[]⟩, [], []⟩
/-- the transitions seen so far: of the first i markings, and of number i the first j -/
def frd (N : Nt) (K : List (List Int)) (i j t : Nat) : Bool := (K.take i).any (canT (N.tr.getD t trD)) || (decide (t < j) && canT (N.tr.getD t trD) (K.getD i []))
def frL (N : Nt) (K : List (List Int)) (i j : Nat) : List Bool := (List.range N.tr.length).map (frd N K i j)
theorem frL_len (N : Nt) (K : List (List Int)) (i j : Nat) : (frL N K i j).length = N.tr.length := by simp [frL]
theorem frL_zero (N : Nt) (K : List (List Int)) : frL N K 0 0 = List.replicate N.tr.length false := by
 apply List.ext_getElem
 · simp [frL]
 · intro t h1 h2; simp [frL, frd]
theorem frL_no {N : Nt} {K : List (List Int)} {i j : Nat} (h : j < N.tr.length) (hc : canT N.tr[j] (K.getD i []) = false) : frL N K i (j + 1) = frL N K i j := by
 apply List.ext_getElem
 · simp [frL]
 · intro t h1 h2
   simp only [frL, List.getElem_map, List.getElem_range, frd]
   by_cases ht : t = j
   · subst ht
     have : N.tr.getD t trD = N.tr[t] := by simp [h]
     rw [this, hc]; simp
   · have : decide (t < j + 1) = decide (t < j) := by rw [Bool.eq_iff_iff]; simp; omega
     rw [this]
theorem frL_yes {N : Nt} {K : List (List Int)} {i j : Nat} (h : j < N.tr.length) (hc : canT N.tr[j] (K.getD i []) = true) : frL N K i (j + 1) = (frL N K i j).set j true := by
 apply List.ext_getElem
 · simp [frL]
 · intro t h1 h2
   rw [List.getElem_set]
   simp only [frL, List.getElem_map, List.getElem_range, frd]
   by_cases ht : j = t
   · subst ht
     have : N.tr.getD j trD = N.tr[j] := by simp [h]
     rw [this, hc]; simp
   · have : decide (t < j + 1) = decide (t < j) := by rw [Bool.eq_iff_iff]; simp; omega
     rw [this, if_neg ht]
theorem frL_next {N : Nt} {K : List (List Int)} {i : Nat} (h : i < K.length) : frL N K i N.tr.length = frL N K (i + 1) 0 := by
 apply List.ext_getElem
 · simp [frL]
 · intro t h1 h2
   have ht : t < N.tr.length := by rw [frL_len] at h1; exact h1
   simp only [frL, List.getElem_map, List.getElem_range, frd]
   rw [any_step _ h]
   have : K.getD i [] = K[i] := by simp [h]
   rw [this, decide_eq_true ht]; simp
theorem frL_end (N : Nt) (K : List (List Int)) : noF (frL N K K.length 0) = N.tr.all (firedB K) := by
 rw [Bool.eq_iff_iff]
 unfold noF
 rw [List.all_eq_true, List.all_eq_true]
 constructor
 · intro h t ht
   obtain ⟨k, hk, rfl⟩ := List.getElem_of_mem ht
   have := h (frd N K K.length 0 k) (List.mem_map.2 ⟨k, List.mem_range.2 hk, rfl⟩)
   have e : N.tr.getD k trD = N.tr[k] := by simp [hk]
   unfold frd at this
   rw [e] at this
   simpa [firedB] using this
 · intro h b hb
   obtain ⟨k, hk, rfl⟩ := List.mem_map.1 hb
   have hk' := List.mem_range.1 hk
   have e : N.tr.getD k trD = N.tr[k] := by simp [hk']
   unfold frd
   rw [e]
   have := h _ (List.getElem_mem hk')
   simpa [firedB] using this
theorem mrk_get {N : Nt} {K : List (List Int)} {Z : List Int} {i : Nat} (h : i < K.length) (hz : i < Z.length) : mrkOk N K Z i = (decide (lidx (isL K[i]) K = (i : Int)) && ((decide (K[i] = finM N) == decide (Z[i] = 0)) && (decide (K[i] = finM N) || (N.tr.any (nearT K Z i) && !(decide (0 < K[i].getD N.snk.toNat 0)))))) := by
 have e1 : K.getD i [] = K[i] := by simp [h]
 have e2 : rowV Z i = Z[i] := by simp [rowV, hz]
 unfold mrkOk
 rw [e1, e2]
theorem near_get {K : List (List Int)} {Z : List Int} {i x : Nat} (h : i < K.length) (hz : i < Z.length) {t : Tr} (hx : lidx (isL (fireT t K[i])) K = (x : Int)) (hx2 : x < Z.length) (hc : canT t K[i] = true) : nearT K Z i t = decide (Z[x] < Z[i]) := by
 have e1 : K.getD i [] = K[i] := by simp [h]
 have e2 : rowV Z i = Z[i] := by simp [rowV, hz]
 have e3 : rowV Z x = Z[x] := by simp [rowV, hx2]
 unfold nearT
 rw [e1, hc, hx, Int.toNat_natCast, e2, e3]; rfl
theorem near_no {K : List (List Int)} {Z : List Int} {i : Nat} (h : i < K.length) {t : Tr} (hc : canT t K[i] = false) : nearT K Z i t = false := by
 have e1 : K.getD i [] = K[i] := by simp [h]
 unfold nearT
 rw [e1, hc]; rfl
end
section
open Go.RowKit

set_option maxHeartbeats 1600000 in
set_option maxRecDepth 100000 in
theorem one21_any (pl : Nat) (A : Option Addr) (n c : Nat) (src snk : Int) (p : Nat) (w : World) (hp : p < pl) (hpl : pl ≤ 1000) :
 Calls Tryz.prog 32 #[.agg #[.int .i64 (pl : Int), .slice A n c, .int .i64 src, .int .i64 snk], .int .i64 (p : Int)] w fun e w' => ∃ v, e = .returned v ∧ NS w w' v (oneM pl p) := by
 have HB := hid (below_alloc w (.cells #[.int .i64 (pl : Int), .slice A n c, .int .i64 src, .int .i64 snk] 24))
 have HN := hid (NB.new w (pl : Int) A n c src snk)
 have hmk := mk_ints pl (by omega)
 have hp0 : (0 : Int) ≤ (p : Int) := by omega
 have hp1 : (p : Int) < (pl : Int) := by omega
 have hpl0 : (0 : Int) ≤ (pl : Int) := by omega
 have hc0 : (madeCells #[Value.int .i64 0] pl)[p]? = some (.int .i64 0) := by rw [← Array.getElem?_toList, toList_madeCells_one]; simp [hp]
 have hs0 : (w.alloc (.cells #[.int .i64 (pl : Int), .slice A n c, .int .i64 src, .int .i64 snk] 24)).heap.size = w.heap.size + 1 := by simp
 go_enter Tryz.func32, Tryz.ntmps32
 go_wp2_with fail
 have h1 := NS.one1 (w.alloc (.cells #[.int .i64 (pl : Int), .slice A n c, .int .i64 src, .int .i64 snk] 24)) pl p (by omega)
 rw [hs0] at h1
 go_ret
 exact ⟨_, rfl, NS.up HB.out h1⟩
theorem rsrc_any (N : Nt) (A : Option Addr) (n c : Nat) (hv : ntB N = true) (w : World) : Calls Tryz.prog 32 #[.agg #[.int .i64 N.pl, .slice A n c, .int .i64 N.src, .int .i64 N.snk], .int .i64 N.src] w fun e w' => ∃ v, e = .returned v ∧ NS w w' v (iniM N) := by
 have h1 := nt_small hv
 have h2 := nt_src hv
 have h := one21_any N.pl.toNat A n c N.src N.snk N.src.toNat w (by omega) (by omega)
 rw [show ((N.pl.toNat : Nat) : Int) = N.pl by omega, show ((N.src.toNat : Nat) : Int) = N.src by omega] at h
 exact h
theorem mkX_le {pl : Int} {ext : Bool} {s : List Int} (h : mkX pl ext s = true) (p : Nat) : s.getD p 0 ≤ 100 := by
 rcases Nat.lt_or_ge p s.length with hp | hp
 · rw [List.getD_eq_getElem?_getD, List.getElem?_eq_getElem hp]
   exact (mkX_num h _ (List.getElem_mem hp)).2
 · rw [getD_out hp]; decide
end
end Go.Proofs.YtpnhcimmlnjfaaaGreatDoor
