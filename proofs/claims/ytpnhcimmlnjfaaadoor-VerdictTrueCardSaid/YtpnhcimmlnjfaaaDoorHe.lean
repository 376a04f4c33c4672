/- cover.fire: what a call returns. cover.grow: what a call returns. Spaces: lists of lists and moves of one's own, in memory; the space of a tree, plain. cover.begin and cover.Graph: what a call returns. fire of reference 24: what a call returns. Bounded nets, certificates, runs: plain. cover.Bounded: what a call returns. Fault, HasOmega, SameSpace of reference 24: what a call returns. -/
import Derived.Test.YtpnhcimmlnjfaaaDoorCo
import Derived.Test.YtpnhcimmlnjfaaaDoorDh
import Derived.Test.YtpnhcimmlnjfaaaDoorHa
import Derived.Test.YtpnhcimmlnjfaaaDoorDb
import Derived.Sort.OwnSortedInts
namespace Go.Proofs.YtpnhcimmlnjfaaaDoor
section
open Go.RowKit

/-- all numbers of a list are small -/
def bnd (B : Int) (m : List Int) : Prop := ∀ x ∈ m, -B ≤ x ∧ x ≤ B
theorem bnd_set {B : Int} {m : List Int} (h : bnd B m) (p : Nat) (x : Int) (hx : -(B + 1) ≤ x ∧ x ≤ B + 1) : bnd (B + 1) (m.set p x) := by
 intro y hy
 rcases List.mem_or_eq_of_mem_set hy with h1 | h1
 · have := h y h1; omega
 · subst h1; exact hx
theorem bnd_get {B : Int} {m : List Int} (h : bnd B m) (h0 : 0 ≤ B) (p : Nat) : -B ≤ m.getD p 0 ∧ m.getD p 0 ≤ B := by
 by_cases hp : p < m.length
 · have := h _ (List.getElem_mem hp); simpa [hp] using this
 · rw [List.getD_eq_getElem?_getD, List.getElem?_eq_none (by omega)]; simp; omega
theorem dec1_bnd (x : Int) : x - 1 ≤ dec1 x ∧ dec1 x ≤ x := by unfold dec1; split <;> omega
theorem inc1_bnd (x : Int) : x ≤ inc1 x ∧ inc1 x ≤ x + 1 := by unfold inc1; split <;> omega
theorem decs_bnd (l : List Int) : ∀ (B : Int) (m : List Int), 0 ≤ B → bnd B m → bnd (B + l.length) (decs m l) := by
 induction l with
 | nil => intro B m _ h; simpa [decs] using h
 | cons p l ih =>
  intro B m h0 h
  have h1 := bnd_get h h0 p.toNat
  have h2 := dec1_bnd (m.getD p.toNat 0)
  have := ih (B + 1) (m.set p.toNat (dec1 (m.getD p.toNat 0))) (by omega) (bnd_set h _ _ (by omega))
  rw [List.length_cons, show B + ((l.length + 1 : Nat) : Int) = B + 1 + l.length by omega]
  exact this
theorem incs_bnd (l : List Int) : ∀ (B : Int) (m : List Int), 0 ≤ B → bnd B m → bnd (B + l.length) (incs m l) := by
 induction l with
 | nil => intro B m _ h; simpa [incs] using h
 | cons p l ih =>
  intro B m h0 h
  have h1 := bnd_get h h0 p.toNat
  have h2 := inc1_bnd (m.getD p.toNat 0)
  have := ih (B + 1) (m.set p.toNat (inc1 (m.getD p.toNat 0))) (by omega) (bnd_set h _ _ (by omega))
  rw [List.length_cons, show B + ((l.length + 1 : Nat) : Int) = B + 1 + l.length by omega]
  exact this
/-- one round of a decreasing loop -/
theorem decs_round (M l : List Int) (k p : Nat) (hk : k < l.length) (hp : l[k] = (p : Int)) (hpm : p < M.length) (B : Int) (h0 : 0 ≤ B) (hM : bnd B M) :
 ∃ h : p < (decs M (l.take k)).length, decs M (l.take (k + 1)) = (decs M (l.take k)).set p (dec1 (decs M (l.take k))[p]) ∧ -(B + k) ≤ (decs M (l.take k))[p] ∧ (decs M (l.take k))[p] ≤ B + k := by
 have hlen : (decs M (l.take k)).length = M.length := decs_len _ _
 have hb := decs_bnd (l.take k) B M h0 hM
 rw [List.length_take, Nat.min_eq_left (by omega)] at hb
 have h1 : p < (decs M (l.take k)).length := by omega
 refine ⟨h1, ?_, hb _ (List.getElem_mem h1)⟩
 rw [decs_snoc M l k hk, hp]; simp [h1]
theorem incs_round (M l : List Int) (k p : Nat) (hk : k < l.length) (hp : l[k] = (p : Int)) (hpm : p < M.length) (B : Int) (h0 : 0 ≤ B) (hM : bnd B M) :
 ∃ h : p < (incs M (l.take k)).length, incs M (l.take (k + 1)) = (incs M (l.take k)).set p (inc1 (incs M (l.take k))[p]) ∧ -(B + k) ≤ (incs M (l.take k))[p] ∧ (incs M (l.take k))[p] ≤ B + k := by
 have hlen : (incs M (l.take k)).length = M.length := incs_len _ _
 have hb := incs_bnd (l.take k) B M h0 hM
 rw [List.length_take, Nat.min_eq_left (by omega)] at hb
 have h1 : p < (incs M (l.take k)).length := by omega
 refine ⟨h1, ?_, hb _ (List.getElem_mem h1)⟩
 rw [incs_snoc M l k hk, hp]; simp [h1]
theorem foldl_max_le (l : List Int) : ∀ a c : Int, l.foldl max a ≤ c ↔ a ≤ c ∧ ∀ x ∈ l, x ≤ c := by
 induction l with
 | nil => intro a c; simp
 | cons b l ih => intro a c; rw [List.foldl_cons, ih, Int.max_le]; simp [and_assoc]
theorem max_big (m : List Int) (h : 0 < m.length) : decide (Lib.maxOf m ≤ 100) = !bigM m := by
 cases m with
 | nil => simp at h
 | cons a l =>
  have : Lib.maxOf (a :: l) = l.foldl max a := by unfold Lib.maxOf; rw [List.foldl_cons, List.headD_cons, Int.max_self]
  rw [this, Bool.eq_iff_iff, decide_eq_true_eq, foldl_max_le]
  unfold bigM
  simp
/-- what fire returns -/
def FPo (L : List Int) (b : Bool) (w : World) (e : Ending) (w' : World) : Prop := ∃ v, e = .returned (.tuple #[v, .bool b]) ∧ NS w w' v L
/-- a block that holds a transition -/
def TB (w : World) (b : Nat) (lb : ByteArray) (Ai : Option Addr) (ni ci : Nat) (Ao : Option Addr) (no co : Nat) : Prop := w.cell? ⟨b, 0, none⟩ = some (.string lb) ∧ w.cell? ⟨b, 1, none⟩ = some (.slice Ai ni ci) ∧ w.cell? ⟨b, 2, none⟩ = some (.slice Ao no co)
theorem TB.new (w : World) (lb : ByteArray) (Ai : Option Addr) (ni ci : Nat) (Ao : Option Addr) (no co : Nat) : TB (w.alloc (.cells #[.string lb, .slice Ai ni ci, .slice Ao no co] 48)) w.heap.size lb Ai ni ci Ao no co := by
 have h := heap_alloc_new w (.cells #[.string lb, .slice Ai ni ci, .slice Ao no co] 48)
 refine ⟨?_, ?_, ?_⟩ <;> (unfold World.cell?; rw [h]; rfl)
theorem TB.below {w w' : World} {b : Nat} {lb : ByteArray} {Ai : Option Addr} {ni ci : Nat} {Ao : Option Addr} {no co : Nat} (h : TB w b lb Ai ni ci Ao no co) (hb : Below w.heap.size w w') : TB w' b lb Ai ni ci Ao no co :=
 ⟨cell_stays hb h.1, cell_stays hb h.2.1, cell_stays hb h.2.2⟩
end
section
open Go.RowKit

theorem mkM {N : Nt} {M : List Int} (h : mkB N M = true) : isM M := by
 intro p
 rcases Nat.lt_or_ge p M.length with hp | hp
 · have := mk_nums h _ (List.getElem_mem hp)
   simpa [hp] using this
 · rw [getD_out hp]; omega
theorem pls_ok {n : Int} {l : List Int} {m : Nat} (hm : (m : Int) = n) (h : plB n l = true) : plsOk l m := by
 refine ⟨fun p hp => by have := plB_in n l h p hp; omega, ?_⟩
 show List.Pairwise (· ≠ ·) l
 rw [List.pairwise_iff_getElem]
 intro i j hi hj hij e
 have key : ∀ a b (hb : b < l.length) (hab : a < b), l[a]'(by omega) < l[b] := by
  intro a b
  induction b with
  | zero => intro _ h; omega
  | succ b ih =>
   intro hb hab
   have h1 := plB_lt n l b hb h
   rcases Nat.lt_or_ge a b with h2 | h2
   · have := ih (by omega) h2; omega
   · obtain rfl : a = b := by omega
     exact h1
 have := key i j hj hij
 omega
theorem pls_len {l : List Int} {m : Nat} (h : plsOk l m) : l.length ≤ m := by
 obtain ⟨h1, h2⟩ := h
 have h3 : (l.map Int.toNat).Nodup := by
  show List.Pairwise (· ≠ ·) _
  rw [List.pairwise_map]
  exact List.Pairwise.imp_of_mem (fun {a b} ha hb hne e => hne (by have := h1 a ha; have := h1 b hb; omega)) h2
 have h4 : (l.map Int.toNat) ⊆ List.range m := by
  intro x hx
  obtain ⟨a, ha, rfl⟩ := List.mem_map.1 hx
  have := h1 a ha
  exact List.mem_range.2 (by omega)
 have := h3.length_le_of_subset h4
 simpa using this
theorem netOk_of {N : Nt} {m : Nat} (h : ntB N = true) (hm : (m : Int) = N.pl) : netOk N m := by
 intro k t hk
 unfold ntB at h
 rw [Bool.and_eq_true, Bool.and_eq_true, List.all_eq_true] at h
 have := h.2.1 t (List.mem_of_getElem? hk)
 unfold trB at this
 rw [Bool.and_eq_true, Bool.and_eq_true] at this
 exact ⟨pls_ok hm this.2.1, pls_ok hm this.2.2⟩
end
section
open Go.RowKit

section
variable {w0 wr w' : World} {v : Value} {LL : List (List Int)}
end
/-- a move -/
structure Mv where
 f : Int
 t : Int
 s : Int
def mvC (x : Mv) : List Value := [.int .i64 x.f, .int .i64 x.t, .int .i64 x.s]
section
variable {w0 wr w' : World} {v : Value} {MV : List Mv}
end
end
section
open Go.RowKit

theorem add0 (ad : Addr) : ad.add 0 = ad := by simp [Addr.add]
end
section
open Go.RowKit

theorem pls_take {l : List Int} {n : Nat} (h : plsOk l n) (k : Nat) : plsOk (l.take k) n :=
 ⟨fun p hp => h.1 p (List.mem_of_mem_take hp), List.Sublist.nodup (List.take_sublist k l) h.2⟩
/-- the value at the place that was set last -/
theorem incs_at {M l : List Int} {k p : Nat} (hl : plsOk l M.length) (hk : k < l.length) (hp : l[k] = (p : Int)) (hpm : p < M.length) :
 ∃ h : p < (incs M (l.take k)).length, (incs M (l.take k))[p] = M.getD p 0 := by
 refine ⟨by rw [incs_len]; exact hpm, ?_⟩
 have hg := incs_get M (l.take k) (pls_take hl k) p
 have hn : (p : Int) ∉ l.take k := by
  intro hm
  obtain ⟨j, hj, e⟩ := List.getElem_of_mem hm
  rw [List.getElem_take] at e
  rw [List.length_take] at hj
  have h2 := hl.2
  have h3 : List.Pairwise (· ≠ ·) l := h2
  rw [List.pairwise_iff_getElem] at h3
  exact h3 j k (by omega) hk (by omega) (by rw [e, hp])
 rw [if_neg hn] at hg
 have e : (incs M (l.take k)).getD p 0 = (incs M (l.take k))[p]'(by rw [incs_len]; exact hpm) := by simp [incs_len, hpm]
 rw [← e, hg]
end
section
/-- firing a transition: the marking and the error number -/
def fireV (N : Nt) (m : List Int) (t : Int) : List Int × Int :=
 if t < 0 then ([], 2) else match N.tr[t.toNat]? with
  | none => ([], 2)
  | some x => if canT x m then (if bigM (fireT x m) then ([], 5) else (fireT x m, 0)) else ([], 12)
/-- firing the transitions of a list: the marking, the number of the one that fails, the error number -/
def runV (N : Nt) : List Int → Nat → List Int → List Int × Nat × Int
 | m, k, [] => (m, k, 0)
 | m, k, t :: l => if (fireV N m t).2 = 0 then runV N (fireV N m t).1 (k + 1) l else ([], k, (fireV N m t).2)
end
section
open Go.RowKit

/-- a block that holds a certificate -/
def CtB (w : World) (b : Nat) (vs : Array Value) : Prop := w.heap[b]? = some (.cells vs 29 (0, 0))
section
variable {w w' : World} {b : Nat} {a0 a1 a2 a3 a4 a5 a6 a7 : Value} {vs : Array Value}
theorem CtB.lt (h : CtB w b vs) : b < w.heap.size := (Array.getElem?_eq_some_iff.1 h).1
theorem CtB.below (h : CtB w b vs) (hb : Below w.heap.size w w') : CtB w' b vs := by
 unfold CtB; rw [hb.block b h.lt]; exact h
theorem CtB.cells (h : CtB w b #[a0, a1, a2, a3, a4, a5, a6, a7]) : w.cell? ⟨b, 0, none⟩ = some a0 ∧ w.cell? ⟨b, 1, none⟩ = some a1 ∧ w.cell? ⟨b, 2, none⟩ = some a2 ∧ w.cell? ⟨b, 3, none⟩ = some a3 ∧ w.cell? ⟨b, 4, none⟩ = some a4 ∧ w.cell? ⟨b, 5, none⟩ = some a5 ∧ w.cell? ⟨b, 6, none⟩ = some a6 ∧ w.cell? ⟨b, 7, none⟩ = some a7 := by
 unfold CtB at h
 simp [World.cell?, h]
end
end
section
open Go.RowKit

instance : DecidableEq Mv := fun a b => by
 cases a; cases b
 simp only [Mv.mk.injEq]
 infer_instance
end
end Go.Proofs.YtpnhcimmlnjfaaaDoor
