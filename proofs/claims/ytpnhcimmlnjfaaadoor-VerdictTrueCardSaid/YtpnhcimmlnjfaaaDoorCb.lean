/- Lists of numbers, lists of lists, transitions: as they lie in memory; nets, plain. -/
import Derived.Test.YtpnhcimmlnjfaaaDoorCa
namespace Go.Proofs.YtpnhcimmlnjfaaaDoor
open Go.RowKit

theorem add_zero (g j : Nat) : (⟨g, 0, none⟩ : Addr).add j = ⟨g, 0 + j, none⟩ := by unfold Addr.add; split <;> simp_all
/-- a slice of numbers reads as a list -/
def ZIn (w : World) (A : Option Addr) (Z : List Int) : Prop := ∀ i (h : i < Z.length), ∃ ad, A = some ad ∧ (ad.add i).block < w.heap.size ∧ w.cell? (ad.add i) = some (.int .i64 Z[i])
theorem ZIn.below {w w' : World} {A : Option Addr} {Z : List Int} (h : ZIn w A Z) (hb : Below w.heap.size w w') : ZIn w' A Z := by
 intro i hi
 obtain ⟨ad, e, h1, h2⟩ := h i hi
 exact ⟨ad, e, by have := hb.size; omega, by rw [hb.cell h1]; exact h2⟩
/-- a row of numbers of one's own is a slice of numbers that is read -/
theorem own_ints {w : World} {b n : Nat} {v : Value} {Z : List Int} (h : w.ownsRow b 3 1 v n (Z.map (Value.int .i64))) :
 ∃ A cap, v = .slice A n cap ∧ ZIn w A Z ∧ Z.length = n ∧ n ≤ cap ∧ cap ≤ 9223372036854775807 ∧ (0 < n → ∃ g, A = some ⟨g, 0, none⟩ ∧ b ≤ g ∧ g < w.heap.size ∧ ∀ j, j < Z.length → w.cell? ⟨g, 0 + j, none⟩ = some (.int .i64 (Z.getD j 0))) := by
 have hl := h.1
 rw [List.length_map] at hl
 have hln : Z.length = n := by omega
 rcases h.2 with ⟨hv, hn⟩ | ⟨g, cap, cur, hv, hg, hh, hnc, hc, _⟩
 · refine ⟨none, 0, by rw [hv, hn], fun i hi => ?_, hln, by omega, by omega, fun h => ?_⟩
   · omega
   · omega
 · subst hv
   have hgl : g < w.heap.size := (Array.getElem?_eq_some_iff.1 hh).1
   have hcell : ∀ j (hj : j < Z.length), w.cell? ((⟨g, 0, none⟩ : Addr).add j) = some (.int .i64 Z[j]) := fun j hj =>
    h.cells (g := g) rfl j _ (by simp [hj])
   refine ⟨some ⟨g, 0, none⟩, cap, rfl, fun i hi => ⟨_, rfl, by rw [add_block]; exact hgl, hcell i hi⟩, hln, hnc, hc, fun _ => ⟨g, rfl, hg, hgl, fun j hj => ?_⟩⟩
   rw [← add_zero, hcell j hj]; simp [hj]
theorem lit_ints (w : World) (Z : List Int) (h : Z.length ≤ 1000000) : ZIn (w.alloc (.cells (Z.map (Value.int .i64)).toArray 3)) (some ⟨w.heap.size, 0, none⟩) Z := by
 have := World.ownsRow_lit (base := 0) (e := 3) (size := 1) w (Z.map (Value.int .i64)).toArray Z.length (Nat.zero_le _) (by unfold maxLen; omega) (by simp)
 obtain ⟨A, cap, hv, hz, _⟩ := own_ints (by simpa using this)
 cases hv
 exact hz
/-- a slice value that reads as numbers -/
def SlIn (w : World) (v : Value) (Z : List Int) : Prop := ∃ A n c, v = .slice A n c ∧ ZIn w A Z ∧ Z.length = n ∧ n ≤ c ∧ c ≤ 9223372036854775807
theorem SlIn.below {w w' : World} {v : Value} {Z : List Int} (h : SlIn w v Z) (hb : Below w.heap.size w w') : SlIn w' v Z := by
 obtain ⟨A, n, c, h1, h2, h3⟩ := h
 exact ⟨A, n, c, h1, h2.below hb, h3⟩
/-- a list of lists of numbers -/
def LIn (w : World) (A : Option Addr) (LL : List (List Int)) : Prop :=
 ∀ i (h : i < LL.length), ∃ ad, A = some ad ∧ (ad.add i).block < w.heap.size ∧ ∃ u, w.cell? (ad.add i) = some u ∧ SlIn w u LL[i]
theorem LIn.below {w w' : World} {A : Option Addr} {LL : List (List Int)} (h : LIn w A LL) (hb : Below w.heap.size w w') : LIn w' A LL := by
 intro i hi
 obtain ⟨ad, e, h1, u, h2, h3⟩ := h i hi
 exact ⟨ad, e, by have := hb.size; omega, u, by rw [hb.cell h1]; exact h2, h3.below hb⟩
/-- a transition -/
structure Tr where
 lb : ByteArray
 i : List Int
 o : List Int
/-- a net -/
structure Nt where
 pl : Int
 tr : List Tr
 src : Int
 snk : Int
def TrAt (w : World) (p : Addr) (t : Tr) : Prop :=
 w.cell? p = some (.string t.lb) ∧ (∃ u, w.cell? ⟨p.block, p.off + 1, none⟩ = some u ∧ SlIn w u t.i) ∧ ∃ u, w.cell? ⟨p.block, p.off + 1 + 1, none⟩ = some u ∧ SlIn w u t.o
theorem TrAt.below {w w' : World} {p : Addr} {t : Tr} (h : TrAt w p t) (hp : p.block < w.heap.size) (hb : Below w.heap.size w w') : TrAt w' p t := by
 obtain ⟨h1, ⟨u, h2, h3⟩, v, h4, h5⟩ := h
 have hk : ∀ q : Addr, q.block = p.block → w'.cell? q = w.cell? q := fun q hq => hb.cell (by rw [hq]; exact hp)
 exact ⟨by rw [hk p rfl]; exact h1, ⟨u, by rw [hk ⟨p.block, p.off + 1, none⟩ rfl]; exact h2, h3.below hb⟩, v, by rw [hk ⟨p.block, p.off + 1 + 1, none⟩ rfl]; exact h4, h5.below hb⟩
/-- a list of transitions -/
def TIn (w : World) (A : Option Addr) (L : List Tr) : Prop :=
 ∀ i (h : i < L.length), ∃ ad, A = some ad ∧ (ad.add (i * 3)).block < w.heap.size ∧ TrAt w (ad.add (i * 3)) L[i]
theorem TIn.below {w w' : World} {A : Option Addr} {L : List Tr} (h : TIn w A L) (hb : Below w.heap.size w w') : TIn w' A L := by
 intro i hi
 obtain ⟨ad, e, h1, h2⟩ := h i hi
 exact ⟨ad, e, by have := hb.size; omega, h2.below h1 hb⟩
/-- number i of a list of places is as it must be -/
def plAt (n : Int) (l : List Int) (i : Nat) : Bool := match l[i]? with
 | some x => decide (0 ≤ x) && (decide (x < n) && (match i with | 0 => true | j + 1 => match l[j]? with | some y => decide (y < x) | none => true))
 | none => true
def plTo (n : Int) (l : List Int) (k : Nat) : Bool := (List.range k).all (plAt n l)
/-- a list of places -/
def plB (n : Int) (l : List Int) : Bool := plTo n l l.length
theorem plTo_zero (n : Int) (l : List Int) : plTo n l 0 = true := rfl
theorem plTo_succ (n : Int) (l : List Int) (k : Nat) : plTo n l (k + 1) = (plTo n l k && plAt n l k) := by
 unfold plTo; rw [List.range_succ, List.all_append]; simp
theorem plTo_le (n : Int) (l : List Int) (k m : Nat) (h : k ≤ m) (hm : plTo n l m = true) : plTo n l k = true := by
 unfold plTo at *
 rw [List.all_eq_true] at *
 intro i hi
 exact hm i (by rw [List.mem_range] at *; omega)
theorem plB_no (n : Int) (l : List Int) (k : Nat) (h : k < l.length) (hk : plAt n l k = false) : plB n l = false := by
 cases hb : plB n l with
 | false => rfl
 | true =>
  have := plTo_le n l (k + 1) l.length (by omega) hb
  rw [plTo_succ, hk] at this; simp at this
theorem plAt_zero (n : Int) (l : List Int) (h : 0 < l.length) : plAt n l 0 = (decide (0 ≤ l[0]) && decide (l[0] < n)) := by
 unfold plAt; rw [List.getElem?_eq_getElem h]; simp
theorem plAt_succ (n : Int) (l : List Int) (j : Nat) (h : j + 1 < l.length) : plAt n l (j + 1) = (decide (0 ≤ l[j + 1]) && (decide (l[j + 1] < n) && decide (l[j] < l[j + 1]))) := by
 unfold plAt; rw [List.getElem?_eq_getElem h]; simp only; rw [List.getElem?_eq_getElem (by omega : j < l.length)]
theorem plB_at (n : Int) (l : List Int) (k : Nat) (h : k < l.length) (hb : plB n l = true) : 0 ≤ l[k] ∧ l[k] < n := by
 have := plTo_le n l (k + 1) l.length (by omega) hb
 rw [plTo_succ, Bool.and_eq_true] at this
 have h2 := this.2
 unfold plAt at h2
 rw [List.getElem?_eq_getElem h] at h2
 simp only [Bool.and_eq_true, decide_eq_true_eq] at h2
 exact ⟨h2.1, h2.2.1⟩
theorem plB_lt (n : Int) (l : List Int) (j : Nat) (h : j + 1 < l.length) (hb : plB n l = true) : l[j] < l[j + 1] := by
 have := plTo_le n l (j + 1 + 1) l.length (by omega) hb
 rw [plTo_succ, Bool.and_eq_true] at this
 have h2 := this.2
 rw [plAt_succ n l j h] at h2
 simp only [Bool.and_eq_true, decide_eq_true_eq] at h2
 exact h2.2.2
/-- a transition of a valid net -/
def trB (n : Int) (t : Tr) : Bool := (t.lb.data.toList.isEmpty || isNameB t.lb.data.toList) && (plB n t.i && plB n t.o)
/-- a valid net -/
def ntB (N : Nt) : Bool := decide (1 ≤ N.pl ∧ N.pl ≤ 40 ∧ N.tr.length ≤ 60) && (N.tr.all (trB N.pl) && decide (0 ≤ N.src ∧ N.src < N.pl ∧ 0 ≤ N.snk ∧ N.snk < N.pl))
end Go.Proofs.YtpnhcimmlnjfaaaDoor
