/- Literals of texts, in plain words. -/
import Derived.Test.YtbbdgncjpbfooaaGreatDoorKa
namespace Go.Proofs.YtbbdgncjpbfooaaGreatDoor

/-- a byte inside a literal -/
def escB (c : UInt8) : List UInt8 := if c.toNat = 34 ∨ c.toNat = 92 then [92, c] else [c]
/-- what a literal has behind its first double quote -/
def escL (l : List UInt8) : List UInt8 := l.flatMap escB
/-- the literal of a text -/
def quoteL (l : List UInt8) : List UInt8 := 34 :: (escL l ++ [34])
theorem escL_snoc (l : List UInt8) (c : UInt8) : escL (l ++ [c]) = escL l ++ escB c := by unfold escL; simp
theorem escL_len (l : List UInt8) : (escL l).length ≤ 2 * l.length := by
  induction l with
  | nil => simp [escL]
  | cons c l ih =>
    have e : escL (c :: l) = escB c ++ escL l := rfl
    have h : (escB c).length ≤ 2 := by unfold escB; split <;> simp
    rw [e, List.length_append, List.length_cons]; omega
end Go.Proofs.YtbbdgncjpbfooaaGreatDoor
