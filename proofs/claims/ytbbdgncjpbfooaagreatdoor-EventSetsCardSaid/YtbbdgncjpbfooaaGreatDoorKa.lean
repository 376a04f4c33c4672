/- Tokens of a text: what is to be read, in plain words (no program in sight). -/
import Derived.Lib.AtoiAll
import Derived.Lib.IndexMore
import Derived.Lib.PathFns
namespace Go.Proofs.YtbbdgncjpbfooaaGreatDoor

/-- a byte is a decimal digit -/
def isDig (c : UInt8) : Bool := decide (48 ≤ c.toNat ∧ c.toNat ≤ 57)
/-- a byte is a letter -/
def isLet (c : UInt8) : Bool := decide ((65 ≤ c.toNat ∧ c.toNat ≤ 90) ∨ (97 ≤ c.toNat ∧ c.toNat ≤ 122))
/-- a byte may stand in a name -/
def isNm (c : UInt8) : Bool := isLet c || isDig c || decide (c.toNat = 95 ∨ c.toNat = 45 ∨ c.toNat = 46)
/-- a byte is blank -/
def isBl (c : UInt8) : Bool := decide (c.toNat = 32 ∨ c.toNat = 9 ∨ c.toNat = 10 ∨ c.toNat = 13)
/-- a byte is printable -/
def isPr (c : UInt8) : Bool := decide (32 ≤ c.toNat ∧ c.toNat ≤ 126)
/-- the number that digits spell -/
def dval (l : List UInt8) : Nat := l.foldl (fun n c => 10 * n + (c.toNat - 48)) 0
theorem dval_snoc (l : List UInt8) (c : UInt8) : dval (l ++ [c]) = 10 * dval l + (c.toNat - 48) := by unfold dval; simp

/-- the place behind a byte: line and column -/
def adv (p : Nat × Nat) (c : UInt8) : Nat × Nat := if c.toNat = 10 then (p.1 + 1, 1) else (p.1, p.2 + 1)
def advs (p : Nat × Nat) (l : List UInt8) : Nat × Nat := l.foldl adv p
theorem advs_nil (p : Nat × Nat) : advs p [] = p := rfl
theorem advs_append (p : Nat × Nat) (a b : List UInt8) : advs p (a ++ b) = advs (advs p a) b := by unfold advs; rw [List.foldl_append]
theorem advs_snoc (p : Nat × Nat) (a : List UInt8) (c : UInt8) : advs p (a ++ [c]) = adv (advs p a) c := by rw [advs_append]; rfl
theorem advs_le (p : Nat × Nat) (l : List UInt8) : (advs p l).1 ≤ p.1 + l.length ∧ (advs p l).2 ≤ p.2 + l.length + 1 := by
  induction l generalizing p with
  | nil => simp [advs]
  | cons c l ih =>
    have h0 := ih (adv p c)
    show (advs (adv p c) l).1 ≤ _ ∧ (advs (adv p c) l).2 ≤ _
    simp only [List.length_cons]
    by_cases h : c.toNat = 10
    · have e : adv p c = (p.1 + 1, 1) := by simp [adv, h]
      rw [e] at h0 ⊢
      simp only at h0
      omega
    · have e : adv p c = (p.1, p.2 + 1) := by simp [adv, h]
      rw [e] at h0 ⊢
      simp only at h0
      omega
theorem advs_take (p : Nat × Nat) (l : List UInt8) (k : Nat) (h : k < l.length) : advs p (l.take (k + 1)) = adv (advs p (l.take k)) l[k] := by
  rw [List.take_succ_eq_append_getElem h, advs_snoc]

/-- how many bytes blanks and comments take; the flag: inside a comment -/
def skipN : List UInt8 → Bool → Nat
  | [], _ => 0
  | c :: l, true => if c.toNat = 10 then skipN l false + 1 else skipN l true + 1
  | c :: l, false => if isBl c then skipN l false + 1 else if c.toNat = 35 then skipN l true + 1 else 0
theorem skipN_le (l : List UInt8) : ∀ b, skipN l b ≤ l.length := by
  induction l with
  | nil => intro b; cases b <;> simp [skipN]
  | cons c l ih =>
    intro b
    have h1 := ih true
    have h2 := ih false
    cases b <;> simp only [skipN, List.length_cons]
    · split
      · omega
      · split <;> omega
    · split <;> omega
/-- a comment up to the end of its line -/
def lineN : List UInt8 → Nat
  | [] => 0
  | c :: l => if c.toNat = 10 then 0 else lineN l + 1
theorem lineN_le (l : List UInt8) : lineN l ≤ l.length := by
  induction l with
  | nil => simp [lineN]
  | cons c l ih => simp only [lineN]; split <;> simp; omega
theorem skipN_line (l : List UInt8) : skipN l true = lineN l + skipN (l.drop (lineN l)) false := by
  induction l with
  | nil => simp [skipN, lineN]
  | cons c l ih =>
    by_cases h : c.toNat = 10
    · have hb : isBl c = true := by unfold isBl; simp [h]
      simp only [skipN, lineN, if_pos h, List.drop_zero]
      rw [if_pos hb]; omega
    · simp only [skipN, lineN, if_neg h, List.drop_succ_cons]
      rw [ih]; omega
theorem skipN_hash (c : UInt8) (l : List UInt8) (h : c.toNat = 35) : skipN (c :: l) false = (lineN l + 1) + skipN (l.drop (lineN l)) false := by
  have hb : isBl c = false := by unfold isBl; simp [h]
  simp only [skipN, hb, Bool.false_eq_true, if_false, if_pos h]
  rw [skipN_line]; omega
theorem skipN_blank (c : UInt8) (l : List UInt8) (h : isBl c = true) : skipN (c :: l) false = skipN l false + 1 := by
  simp [skipN, h]
theorem skipN_stop (c : UInt8) (l : List UInt8) (h : isBl c = false) (h' : c.toNat ≠ 35) : skipN (c :: l) false = 0 := by
  simp [skipN, h, h']

/-- a literal behind its first double quote: the text, and how many bytes it takes with the last double quote; or an error number -/
def lit : List UInt8 → Except Nat (List UInt8 × Nat)
  | [] => .error 4
  | c :: l =>
    if c.toNat = 34 then .ok ([], 1)
    else if isPr c = false then .error 3
    else if c.toNat = 92 then
      match l with
      | [] => .error 4
      | d :: m => if d.toNat = 34 ∨ d.toNat = 92 then (match lit m with | .ok (t, n) => .ok (d :: t, n + 2) | .error e => .error e) else .error 3
    else match lit l with | .ok (t, n) => .ok (c :: t, n + 1) | .error e => .error e

/-- the symbols, the longer ones first -/
def syms : List (List UInt8) := [[45, 62], [61, 62], [60, 61], [62, 61], [33, 61], [61, 61], [58, 61], [46, 46], [40], [41], [91], [93], [123], [125], [44], [59], [58], [46], [124], [38], [33], [63], [43], [45], [42], [47], [61], [60], [62], [64], [37], [94], [126]]
def symOf (l : List UInt8) : Option (List UInt8) := syms.find? (fun x => x.isPrefixOf l)

/-- a token without its place -/
structure Tok where
  k : Nat
  t : List UInt8
  n : Nat
deriving DecidableEq

/-- the token at the beginning of a text that begins with no blank, and its length; or an error number -/
def readTok : List UInt8 → Except Nat (Tok × Nat)
  | [] => .error 0
  | c :: l =>
    if isLet c then
      let n := ((c :: l).takeWhile isNm).length
      if 40 < n then .error 5 else .ok (⟨1, (c :: l).take n, 0⟩, n)
    else if isDig c then
      let n := ((c :: l).takeWhile isDig).length
      if (match ((c :: l).drop n) with | [] => false | d :: _ => isLet d || decide (d.toNat = 95)) then .error 3
      else if 4503599627370496 < dval ((c :: l).take n) then .error 6 else .ok (⟨2, [], dval ((c :: l).take n)⟩, n)
    else if c.toNat = 34 then
      match lit l with
      | .ok (t, n) => .ok (⟨3, t, 0⟩, n + 1)
      | .error e => .error e
    else match symOf (c :: l) with
      | some x => .ok (⟨4, x, 0⟩, x.length)
      | none => .error 3

/-- a token with its place -/
abbrev Tk := Tok × (Nat × Nat)
/-- the tokens from a place on, behind those that were read; or the place of a fault and its error number -/
def toks : Nat → List UInt8 → Nat × Nat → List Tk → Except ((Nat × Nat) × Nat) (List Tk)
  | 0, _, p, _ => .error (p, 0)
  | f + 1, l, p, out =>
    let k := skipN l false
    let m := l.drop k
    let q := advs p (l.take k)
    if m = [] then .ok (out ++ [(⟨5, [], 0⟩, q)])
    else match readTok m with
      | .error e => .error (q, e)
      | .ok (t, n) => if out.length = 4000 then .error (q, 5) else toks f (m.drop n) (advs q (m.take n)) (out ++ [(t, q)])
/-- what Tokens answers: the tokens, the place, the error number -/
def tokens (l : List UInt8) : List Tk × (Nat × Nat) × Nat :=
  if 16384 < l.length then ([], (0, 0), 5)
  else match toks (l.length + 1) l (1, 1) [] with
    | .ok out => (out, (0, 0), 0)
    | .error (p, e) => ([], p, e)
end Go.Proofs.YtbbdgncjpbfooaaGreatDoor
