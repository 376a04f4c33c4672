/- Extended markings, firing, the coverability tree: plain Lean, no program in sight. Firing in extended markings; whatever is reached is covered. -/
import Derived.Test.YtkhmngljpfibcaaGreatDoorPUu
import Derived.Test.YtkhmngljpfibcaaGreatDoorPCe
namespace Go.Proofs.YtkhmngljpfibcaaGreatDoor
section
def lessE (a b : Int) : Bool := decide (b = -1) || (decide (a ≠ -1) && decide (a ≤ b))
def atM (x y : List Int) (i : Nat) : Bool := lessE (x.getD i 0) (y.getD i 0)
def atMTo (x y : List Int) (k : Nat) : Bool := (List.range k).all (atM x y)
def atMost (x y : List Int) : Bool := atMTo x y x.length
theorem atMTo_succ (x y : List Int) (k : Nat) : atMTo x y (k + 1) = (atMTo x y k && atM x y k) := by
 unfold atMTo; rw [List.range_succ, List.all_append]; simp
theorem atMTo_le (x y : List Int) (k m : Nat) (h : k ≤ m) (hm : atMTo x y m = true) : atMTo x y k = true := by
 unfold atMTo at *;rw [List.all_eq_true] at *;intro i hi;exact hm i (by rw [List.mem_range] at *; omega)
theorem atMost_no (x y : List Int) (k : Nat) (h : k < x.length) (hk : atM x y k = false) : atMost x y = false := by
 cases hb : atMost x y with
 | false => rfl
 | true =>
  have := atMTo_le x y (k + 1) x.length (by omega) hb;rw [atMTo_succ, hk] at this; simp at this
def canT (t : Tr) (m : List Int) : Bool := t.i.all fun p => decide (m.getD p.toNat 0 ≠ 0)
def dec1 (x : Int) : Int := if x = -1 then -1 else x - 1
def inc1 (x : Int) : Int := if x = -1 then -1 else x + 1
def decs (m l : List Int) : List Int := l.foldl (fun m p => m.set p.toNat (dec1 (m.getD p.toNat 0))) m
def incs (m l : List Int) : List Int := l.foldl (fun m p => m.set p.toNat (inc1 (m.getD p.toNat 0))) m
def fireT (t : Tr) (m : List Int) : List Int := incs (decs m t.i) t.o
def bigM (m : List Int) : Bool := m.any fun x => decide (100 < x)
theorem decs_len (l : List Int) : ∀ m, (decs m l).length = m.length := by
 induction l with
 | nil => intro m; rfl
 | cons p l ih => intro m; show (decs _ l).length = _; rw [ih, List.length_set]
theorem incs_len (l : List Int) : ∀ m, (incs m l).length = m.length := by
 induction l with
 | nil => intro m; rfl
 | cons p l ih => intro m; show (incs _ l).length = _; rw [ih, List.length_set]
theorem fireT_len (t : Tr) (m : List Int) : (fireT t m).length = m.length := by unfold fireT; rw [incs_len, decs_len]
theorem decs_snoc (m l : List Int) (k : Nat) (h : k < l.length) : decs m (l.take (k + 1)) = (decs m (l.take k)).set l[k].toNat (dec1 ((decs m (l.take k)).getD l[k].toNat 0)) := by
 unfold decs; rw [List.take_succ_eq_append_getElem h, List.foldl_append]; rfl
theorem incs_snoc (m l : List Int) (k : Nat) (h : k < l.length) : incs m (l.take (k + 1)) = (incs m (l.take k)).set l[k].toNat (inc1 ((incs m (l.take k)).getD l[k].toNat 0)) := by
 unfold incs; rw [List.take_succ_eq_append_getElem h, List.foldl_append]; rfl
structure Nd where
 pn : List Int
 ms : List Int
 ab : Int
 tr : Int
 st : Nat
 gr : Int
 nw : Bool
 om : Bool
structure TS where
 nodes : List Nd
 states : List (List Int)
end
section
def plsOk (l : List Int) (n : Nat) : Prop := (∀ p ∈ l, 0 ≤ p ∧ p < (n : Int)) ∧ l.Nodup
theorem set_get (m : List Int) (p q : Nat) (x : Int) (h : p < m.length) : (m.set p x).getD q 0 = if p = q then x else m.getD q 0 := by
 rw [List.getD_eq_getElem?_getD, List.getD_eq_getElem?_getD, List.getElem?_set];by_cases e : p = q
 · rw [if_pos e, if_pos e]; subst e; simp [h]
 · rw [if_neg e, if_neg e]
theorem fold_get (f : Int → Int) (l : List Int) : ∀ m : List Int, plsOk l m.length → ∀ p : Nat, (l.foldl (fun m p => m.set p.toNat (f (m.getD p.toNat 0))) m).getD p 0 = if (p : Int) ∈ l then f (m.getD p 0) else m.getD p 0 := by
  induction l with
  | nil => intro m _ p; simp
  | cons a l ih =>
    intro m h p;rw [List.foldl_cons];obtain ⟨h1, h2⟩ := h;rw [List.nodup_cons] at h2;have ha := h1 a (List.mem_cons_self ..);obtain ⟨q, rfl⟩ := Int.eq_ofNat_of_zero_le ha.1;have hq : q < m.length := by omega
    rw [ih _ ⟨by rw [List.length_set]; exact fun p hp => h1 p (List.mem_cons_of_mem _ hp), h2.2⟩ p];simp only [Int.toNat_natCast];rw [set_get m q p _ hq];by_cases e : q = p
    · subst e;rw [if_neg h2.1, if_pos rfl, if_pos (List.mem_cons_self ..)]
    · rw [if_neg e];by_cases hm : (p : Int) ∈ l
      · rw [if_pos hm, if_pos (List.mem_cons_of_mem _ hm)]
      · rw [if_neg hm, if_neg (by rw [List.mem_cons]; rintro (h | h)
                                  · exact e (by omega)
                                  · exact hm h)]
theorem decs_get (m l : List Int) (h : plsOk l m.length) (p : Nat) : (decs m l).getD p 0 = if (p : Int) ∈ l then dec1 (m.getD p 0) else m.getD p 0 := fold_get dec1 l m h p
theorem incs_get (m l : List Int) (h : plsOk l m.length) (p : Nat) : (incs m l).getD p 0 = if (p : Int) ∈ l then inc1 (m.getD p 0) else m.getD p 0 := fold_get inc1 l m h p
def dl (t : Tr) (p : Nat) : Int := (if (p : Int) ∈ t.o then 1 else 0) - (if (p : Int) ∈ t.i then 1 else 0)
def trOk (t : Tr) (n : Nat) : Prop := plsOk t.i n ∧ plsOk t.o n
def okE (m : List Int) : Prop := ∀ p : Nat, -1 ≤ m.getD p 0
theorem canT_get {t : Tr} {m : List Int} (h : canT t m = true) (p : Nat) (hp : (p : Int) ∈ t.i) : m.getD p 0 ≠ 0 := by
 unfold canT at h;rw [List.all_eq_true] at h;have := h _ hp;simpa using this
theorem fire_get {t : Tr} {m : List Int} (ht : trOk t m.length) (hm : okE m) (hc : canT t m = true) (p : Nat) :
 (fireT t m).getD p 0 = (if m.getD p 0 = -1 then -1 else m.getD p 0 + dl t p) ∧ (m.getD p 0 ≠ -1 → 0 ≤ m.getD p 0 + dl t p) := by
 have h1 := hm p;have h2 := canT_get hc p;unfold fireT;rw [incs_get _ _ (by rw [decs_len]; exact ht.2), decs_get _ _ ht.1];unfold dl dec1 inc1;generalize m.getD p 0 = x at *;by_cases hi : (p : Int) ∈ t.i
 · have h3 := h2 hi;simp only [if_pos hi];by_cases ho : (p : Int) ∈ t.o
   · simp only [if_pos ho]; constructor
     · split
       · split <;> omega
       · split <;> omega
     · intro; omega
   · simp only [if_neg ho]; constructor
     · split <;> omega
     · intro; omega
 · simp only [if_neg hi];by_cases ho : (p : Int) ∈ t.o
   · simp only [if_pos ho]; constructor
     · split <;> omega
     · intro; omega
   · simp only [if_neg ho]; constructor
     · split <;> omega
     · intro; omega
def netOk (N : Nt) (n : Nat) : Prop := ∀ (k : Nat) (t : Tr), N.tr[k]? = some t → trOk t n
theorem getD_out {m : List Int} {p : Nat} (h : m.length ≤ p) : m.getD p 0 = 0 := by rw [List.getD_eq_getElem?_getD, List.getElem?_eq_none h]; rfl
def isM (m : List Int) : Prop := ∀ p : Nat, 0 ≤ m.getD p 0 ∧ m.getD p 0 ≤ 100
def nonneg (m : List Int) : Prop := ∀ p : Nat, 0 ≤ m.getD p 0
theorem nonneg.okE {m : List Int} (h : nonneg m) : okE m := fun p => by have := h p; omega
theorem fire_real {t : Tr} {x : List Int} (ht : trOk t x.length) (hx : nonneg x) (hc : canT t x = true) (p : Nat) : (fireT t x).getD p 0 = x.getD p 0 + dl t p ∧ 0 ≤ x.getD p 0 + dl t p := by
 obtain ⟨h1, h2⟩ := fire_get ht hx.okE hc p;have := hx p;rw [if_neg (by omega)] at h1;exact ⟨h1, h2 (by omega)⟩
end
end Go.Proofs.YtkhmngljpfibcaaGreatDoor
