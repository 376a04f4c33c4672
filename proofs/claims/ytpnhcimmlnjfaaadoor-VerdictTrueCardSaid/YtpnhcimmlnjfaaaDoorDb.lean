/- Extended markings, firing, the coverability tree: plain Lean, no program in sight. Firing in extended markings; whatever is reached is covered. -/
import Derived.Test.YtpnhcimmlnjfaaaDoorCb
namespace Go.Proofs.YtpnhcimmlnjfaaaDoor
section
/-- a number is at most another one; -1 is the greatest -/
def lessE (a b : Int) : Bool := decide (b = -1) || (decide (a ≠ -1) && decide (a ≤ b))
def atM (x y : List Int) (i : Nat) : Bool := lessE (x.getD i 0) (y.getD i 0)
def atMTo (x y : List Int) (k : Nat) : Bool := (List.range k).all (atM x y)
/-- an extended marking is at most another one -/
def atMost (x y : List Int) : Bool := atMTo x y x.length
theorem atMTo_succ (x y : List Int) (k : Nat) : atMTo x y (k + 1) = (atMTo x y k && atM x y k) := by
 unfold atMTo; rw [List.range_succ, List.all_append]; simp
theorem atMTo_le (x y : List Int) (k m : Nat) (h : k ≤ m) (hm : atMTo x y m = true) : atMTo x y k = true := by
 unfold atMTo at *
 rw [List.all_eq_true] at *
 intro i hi
 exact hm i (by rw [List.mem_range] at *; omega)
theorem atMost_no (x y : List Int) (k : Nat) (h : k < x.length) (hk : atM x y k = false) : atMost x y = false := by
 cases hb : atMost x y with
 | false => rfl
 | true =>
  have := atMTo_le x y (k + 1) x.length (by omega) hb
  rw [atMTo_succ, hk] at this; simp at this
/-- a transition can fire -/
def canT (t : Tr) (m : List Int) : Bool := t.i.all fun p => decide (m.getD p.toNat 0 ≠ 0)
def dec1 (x : Int) : Int := if x = -1 then -1 else x - 1
def inc1 (x : Int) : Int := if x = -1 then -1 else x + 1
def decs (m l : List Int) : List Int := l.foldl (fun m p => m.set p.toNat (dec1 (m.getD p.toNat 0))) m
def incs (m l : List Int) : List Int := l.foldl (fun m p => m.set p.toNat (inc1 (m.getD p.toNat 0))) m
/-- what firing gives -/
def fireT (t : Tr) (m : List Int) : List Int := incs (decs m t.i) t.o
/-- too many tokens on some place -/
def bigM (m : List Int) : Bool := m.any fun x => decide (100 < x)
theorem decs_len (l : List Int) : ∀ m, (decs m l).length = m.length := by
 induction l with
 | nil => intro m; rfl
 | cons p l ih => intro m; show (decs _ l).length = _; rw [ih, List.length_set]
theorem incs_len (l : List Int) : ∀ m, (incs m l).length = m.length := by
 induction l with
 | nil => intro m; rfl
 | cons p l ih => intro m; show (incs _ l).length = _; rw [ih, List.length_set]
theorem fireT_len (t : Tr) (m : List Int) : (fireT t m).length = m.length := by unfold fireT; rw [incs_len, decs_len]
theorem decs_snoc (m l : List Int) (k : Nat) (h : k < l.length) : decs m (l.take (k + 1)) = (decs m (l.take k)).set l[k].toNat (dec1 ((decs m (l.take k)).getD l[k].toNat 0)) := by
 unfold decs; rw [List.take_succ_eq_append_getElem h, List.foldl_append]; rfl
theorem incs_snoc (m l : List Int) (k : Nat) (h : k < l.length) : incs m (l.take (k + 1)) = (incs m (l.take k)).set l[k].toNat (inc1 ((incs m (l.take k)).getD l[k].toNat 0)) := by
 unfold incs; rw [List.take_succ_eq_append_getElem h, List.foldl_append]; rfl
end
section
/-- a list of places, each once -/
def plsOk (l : List Int) (n : Nat) : Prop := (∀ p ∈ l, 0 ≤ p ∧ p < (n : Int)) ∧ l.Nodup
theorem set_get (m : List Int) (p q : Nat) (x : Int) (h : p < m.length) : (m.set p x).getD q 0 = if p = q then x else m.getD q 0 := by
 rw [List.getD_eq_getElem?_getD, List.getD_eq_getElem?_getD, List.getElem?_set]
 by_cases e : p = q
 · rw [if_pos e, if_pos e]; subst e; simp [h]
 · rw [if_neg e, if_neg e]
theorem fold_get (f : Int → Int) (l : List Int) : ∀ m : List Int, plsOk l m.length → ∀ p : Nat, (l.foldl (fun m p => m.set p.toNat (f (m.getD p.toNat 0))) m).getD p 0 = if (p : Int) ∈ l then f (m.getD p 0) else m.getD p 0 := by
  induction l with
  | nil => intro m _ p; simp
  | cons a l ih =>
    intro m h p
    rw [List.foldl_cons]
    obtain ⟨h1, h2⟩ := h
    rw [List.nodup_cons] at h2
    have ha := h1 a (List.mem_cons_self ..)
    obtain ⟨q, rfl⟩ := Int.eq_ofNat_of_zero_le ha.1
    have hq : q < m.length := by omega
    rw [ih _ ⟨by rw [List.length_set]; exact fun p hp => h1 p (List.mem_cons_of_mem _ hp), h2.2⟩ p]
    simp only [Int.toNat_natCast]
    rw [set_get m q p _ hq]
    by_cases e : q = p
    · subst e
      rw [if_neg h2.1, if_pos rfl, if_pos (List.mem_cons_self ..)]
    · rw [if_neg e]
      by_cases hm : (p : Int) ∈ l
      · rw [if_pos hm, if_pos (List.mem_cons_of_mem _ hm)]
      · rw [if_neg hm, if_neg (by rw [List.mem_cons]; rintro (h | h)
                                  · exact e (by omega)
                                  · exact hm h)]
theorem decs_get (m l : List Int) (h : plsOk l m.length) (p : Nat) : (decs m l).getD p 0 = if (p : Int) ∈ l then dec1 (m.getD p 0) else m.getD p 0 := fold_get dec1 l m h p
theorem incs_get (m l : List Int) (h : plsOk l m.length) (p : Nat) : (incs m l).getD p 0 = if (p : Int) ∈ l then inc1 (m.getD p 0) else m.getD p 0 := fold_get inc1 l m h p
/-- what a transition does to a place -/
def dl (t : Tr) (p : Nat) : Int := (if (p : Int) ∈ t.o then 1 else 0) - (if (p : Int) ∈ t.i then 1 else 0)
def trOk (t : Tr) (n : Nat) : Prop := plsOk t.i n ∧ plsOk t.o n
/-- no number is less than -1 -/
def okE (m : List Int) : Prop := ∀ p : Nat, -1 ≤ m.getD p 0
theorem canT_get {t : Tr} {m : List Int} (h : canT t m = true) (p : Nat) (hp : (p : Int) ∈ t.i) : m.getD p 0 ≠ 0 := by
 unfold canT at h
 rw [List.all_eq_true] at h
 have := h _ hp
 simpa using this
theorem canT_of {t : Tr} {m : List Int} (ht : ∀ p ∈ t.i, 0 ≤ p) (h : ∀ p : Nat, (p : Int) ∈ t.i → m.getD p 0 ≠ 0) : canT t m = true := by
 unfold canT
 rw [List.all_eq_true]
 intro p hp
 obtain ⟨q, rfl⟩ := Int.eq_ofNat_of_zero_le (ht p hp)
 simpa using h q hp
theorem fire_get {t : Tr} {m : List Int} (ht : trOk t m.length) (hm : okE m) (hc : canT t m = true) (p : Nat) :
 (fireT t m).getD p 0 = (if m.getD p 0 = -1 then -1 else m.getD p 0 + dl t p) ∧ (m.getD p 0 ≠ -1 → 0 ≤ m.getD p 0 + dl t p) := by
 have h1 := hm p
 have h2 := canT_get hc p
 unfold fireT
 rw [incs_get _ _ (by rw [decs_len]; exact ht.2), decs_get _ _ ht.1]
 unfold dl dec1 inc1
 generalize m.getD p 0 = x at *
 by_cases hi : (p : Int) ∈ t.i
 · have h3 := h2 hi
   simp only [if_pos hi]
   by_cases ho : (p : Int) ∈ t.o
   · simp only [if_pos ho]; constructor
     · split
       · split <;> omega
       · split <;> omega
     · intro; omega
   · simp only [if_neg ho]; constructor
     · split <;> omega
     · intro; omega
 · simp only [if_neg hi]
   by_cases ho : (p : Int) ∈ t.o
   · simp only [if_pos ho]; constructor
     · split <;> omega
     · intro; omega
   · simp only [if_neg ho]; constructor
     · split <;> omega
     · intro; omega
/-- less or equal, at each place -/
def leE (x y : List Int) : Prop := ∀ p : Nat, p < x.length → lessE (x.getD p 0) (y.getD p 0) = true
theorem lessE_iff (a b : Int) : lessE a b = true ↔ b = -1 ∨ (a ≠ -1 ∧ a ≤ b) := by unfold lessE; simp
theorem atMost_iff (x y : List Int) : atMost x y = true ↔ leE x y := by
 unfold atMost atMTo leE atM
 rw [List.all_eq_true]
 constructor
 · intro h p hp; exact h p (List.mem_range.2 hp)
 · intro h p hp; exact h p (List.mem_range.1 hp)
theorem ext_get {x y : List Int} (hl : x.length = y.length) (h : ∀ p, p < x.length → x.getD p 0 = y.getD p 0) : x = y := by
 apply List.ext_getElem hl
 intro p h1 h2
 have := h p h1
 simpa [h1, h2] using this
/-- all transitions of a net are good for markings of n places -/
def netOk (N : Nt) (n : Nat) : Prop := ∀ (k : Nat) (t : Tr), N.tr[k]? = some t → trOk t n
theorem getD_out {m : List Int} {p : Nat} (h : m.length ≤ p) : m.getD p 0 = 0 := by rw [List.getD_eq_getElem?_getD, List.getElem?_eq_none h]; rfl
/-- a marking -/
def isM (m : List Int) : Prop := ∀ p : Nat, 0 ≤ m.getD p 0 ∧ m.getD p 0 ≤ 100
/-- what can be reached, with any number of tokens -/
inductive Reach (N : Nt) (m : List Int) : List Int → Prop where
 | base : Reach N m m
 | step {x : List Int} {k : Nat} {t : Tr} : Reach N m x → N.tr[k]? = some t → canT t x = true → Reach N m (fireT t x)
def nonneg (m : List Int) : Prop := ∀ p : Nat, 0 ≤ m.getD p 0
theorem nonneg.okE {m : List Int} (h : nonneg m) : okE m := fun p => by have := h p; omega
theorem fire_real {t : Tr} {x : List Int} (ht : trOk t x.length) (hx : nonneg x) (hc : canT t x = true) (p : Nat) : (fireT t x).getD p 0 = x.getD p 0 + dl t p ∧ 0 ≤ x.getD p 0 + dl t p := by
 obtain ⟨h1, h2⟩ := fire_get ht hx.okE hc p
 have := hx p
 rw [if_neg (by omega)] at h1
 exact ⟨h1, h2 (by omega)⟩
theorem Reach.good {N : Nt} {m x : List Int} (h : Reach N m x) (hN : netOk N m.length) (hm : nonneg m) : nonneg x ∧ x.length = m.length := by
 induction h with
 | base => exact ⟨hm, rfl⟩
 | step _ hk hc ih =>
  refine ⟨fun p => ?_, by rw [fireT_len]; exact ih.2⟩
  have := fire_real (by rw [ih.2]; exact hN _ _ hk) ih.1 hc p
  omega
/-- firing is monotone -/
theorem fire_mono {t : Tr} {x y : List Int} (hl : x.length = y.length) (ht : trOk t x.length) (hx : nonneg x) (hy : okE y) (h : leE x y) (hc : canT t x = true) : canT t y = true ∧ leE (fireT t x) (fireT t y) := by
 have hcy : canT t y = true := by
  refine canT_of (fun p hp => (ht.1.1 p hp).1) fun p hp => ?_
  have h1 := canT_get hc p hp
  have hpl : p < x.length := by have := (ht.1.1 _ hp).2; omega
  have h2 := (lessE_iff _ _).1 (h p hpl)
  have h3 := hx p
  omega
 refine ⟨hcy, fun p hp => ?_⟩
 rw [fireT_len] at hp
 have h1 := fire_real ht hx hc p
 have h2 := fire_get (by rw [← hl]; exact ht) hy hcy p
 have h3 := (lessE_iff _ _).1 (h p hp)
 rw [h1.1, h2.1, lessE_iff]
 split
 · exact .inl rfl
 · exact .inr ⟨by omega, by omega⟩
end
end Go.Proofs.YtpnhcimmlnjfaaaDoor
