/- Extended markings, firing, the coverability tree: plain Lean, no program in sight. -/
import Derived.Test.YtjojmmabcjccdaaDoorCb
namespace Go.Proofs.YtjojmmabcjccdaaDoor

/-- a number is at most another one; -1 is the greatest -/
def lessE (a b : Int) : Bool := decide (b = -1) || (decide (a ≠ -1) && decide (a ≤ b))
def atM (x y : List Int) (i : Nat) : Bool := lessE (x.getD i 0) (y.getD i 0)
def atMTo (x y : List Int) (k : Nat) : Bool := (List.range k).all (atM x y)
/-- an extended marking is at most another one -/
def atMost (x y : List Int) : Bool := atMTo x y x.length
theorem atMTo_succ (x y : List Int) (k : Nat) : atMTo x y (k + 1) = (atMTo x y k && atM x y k) := by
  unfold atMTo; rw [List.range_succ, List.all_append]; simp
theorem atMTo_le (x y : List Int) (k m : Nat) (h : k ≤ m) (hm : atMTo x y m = true) : atMTo x y k = true := by
  unfold atMTo at *
  rw [List.all_eq_true] at *
  intro i hi
  exact hm i (by rw [List.mem_range] at *; omega)
theorem atMost_no (x y : List Int) (k : Nat) (h : k < x.length) (hk : atM x y k = false) : atMost x y = false := by
  cases hb : atMost x y with
  | false => rfl
  | true =>
    have := atMTo_le x y (k + 1) x.length (by omega) hb
    rw [atMTo_succ, hk] at this; simp at this
/-- a transition can fire -/
def canT (t : Tr) (m : List Int) : Bool := t.i.all fun p => decide (m.getD p.toNat 0 ≠ 0)
def dec1 (x : Int) : Int := if x = -1 then -1 else x - 1
def inc1 (x : Int) : Int := if x = -1 then -1 else x + 1
def decs (m l : List Int) : List Int := l.foldl (fun m p => m.set p.toNat (dec1 (m.getD p.toNat 0))) m
def incs (m l : List Int) : List Int := l.foldl (fun m p => m.set p.toNat (inc1 (m.getD p.toNat 0))) m
/-- what firing gives -/
def fireT (t : Tr) (m : List Int) : List Int := incs (decs m t.i) t.o
/-- too many tokens on some place -/
def bigM (m : List Int) : Bool := m.any fun x => decide (100 < x)
theorem decs_len (l : List Int) : ∀ m, (decs m l).length = m.length := by
  induction l with
  | nil => intro m; rfl
  | cons p l ih => intro m; show (decs _ l).length = _; rw [ih, List.length_set]
theorem incs_len (l : List Int) : ∀ m, (incs m l).length = m.length := by
  induction l with
  | nil => intro m; rfl
  | cons p l ih => intro m; show (incs _ l).length = _; rw [ih, List.length_set]
theorem fireT_len (t : Tr) (m : List Int) : (fireT t m).length = m.length := by unfold fireT; rw [incs_len, decs_len]
theorem decs_snoc (m l : List Int) (k : Nat) (h : k < l.length) : decs m (l.take (k + 1)) = (decs m (l.take k)).set l[k].toNat (dec1 ((decs m (l.take k)).getD l[k].toNat 0)) := by
  unfold decs; rw [List.take_succ_eq_append_getElem h, List.foldl_append]; rfl
theorem incs_snoc (m l : List Int) (k : Nat) (h : k < l.length) : incs m (l.take (k + 1)) = (incs m (l.take k)).set l[k].toNat (inc1 ((incs m (l.take k)).getD l[k].toNat 0)) := by
  unfold incs; rw [List.take_succ_eq_append_getElem h, List.foldl_append]; rfl
/-- a node of the tree -/
structure Nd where
  pn : List Int
  ms : List Int
  ab : Int
  tr : Int
  st : Nat
  gr : Int
  nw : Bool
  om : Bool
/-- the tree, and its different markings -/
structure TS where
  nodes : List Nd
  states : List (List Int)
/-- a marking is put beneath a node above it -/
def lift1 (z y : List Int) : List Int := if atMost z y && decide (z ≠ y) then List.zipWith (fun a b => if a ≠ b then -1 else b) z y else y
/-- the index of a marking among the states -/
def stIdx (T : TS) (m : List Int) : Nat := T.states.findIdx fun s => decide (s = m)
/-- a node is put in -/
def addN (most : Nat) (T : TS) (x : Nd) : Option TS :=
  if stIdx T x.ms = T.states.length then
    (if T.states.length = most then none else if 20000 < T.nodes.length then none else some ⟨T.nodes ++ [⟨x.pn, x.ms, x.ab, x.tr, T.states.length, x.gr, true, x.om⟩], T.states ++ [x.ms]⟩)
  else (if 20000 < T.nodes.length then none else some ⟨T.nodes ++ [⟨x.pn, x.ms, x.ab, x.tr, stIdx T x.ms, x.gr, false, x.om⟩], T.states⟩)
/-- what is gathered on the way up: the marking, the first node that is lower, whether there is one -/
structure Up where
  y : List Int
  gr : Int
  om : Bool
def upOne (z : List Int) (a : Nat) (u : Up) : Up := if atMost z u.y && decide (z ≠ u.y) then ⟨lift1 z u.y, if u.gr < 0 then (a : Int) else u.gr, true⟩ else u
/-- from a node up to the root -/
def upAll (N : List Nd) : Nat → Int → Up → Up
  | 0, _, u => u
  | f + 1, a, u => if a < 0 then u else match N[a.toNat]? with
    | some d => upAll N f d.ab (upOne d.ms a.toNat u)
    | none => u
/-- a transition at a node -/
def stepK (N : Nt) (most : Nat) (i : Nat) (T : TS) (k : Nat) : Option TS := match T.nodes[i]?, N.tr[k]? with
  | some d, some t => if canT t d.ms then
      (if bigM (fireT t d.ms) then none else
        let u := upAll T.nodes (i + 1) i ⟨fireT t d.ms, -1, false⟩
        addN most T ⟨fireT t d.ms, u.y, i, k, 0, u.gr, false, u.om⟩)
    else some T
  | _, _ => some T
/-- all transitions from number k on, at a node -/
def stepI (N : Nt) (most i : Nat) : Nat → Nat → TS → Option TS
  | 0, _, T => some T
  | f + 1, k, T => if k < N.tr.length then (match stepK N most i T k with | some T' => stepI N most i f (k + 1) T' | none => none) else some T
/-- all nodes from number i on -/
def growF (N : Nt) (most : Nat) : Nat → Nat → TS → Option TS
  | 0, _, T => some T
  | f + 1, i, T => match T.nodes[i]? with
    | some d => if d.nw then (match stepI N most i (N.tr.length + 1) 0 T with | some T' => growF N most f (i + 1) T' | none => none) else growF N most f (i + 1) T
    | none => some T
/-- the coverability tree -/
def growT (N : Nt) (m : List Int) (most : Nat) : Option TS := match addN most ⟨[], []⟩ ⟨m, m, -1, -1, 0, -1, false, false⟩ with
  | some T => growF N most 20002 0 T
  | none => none
end Go.Proofs.YtjojmmabcjccdaaDoor
