/-
  DERIVED. GIVEN WITH THE SEED: THE CARDS: each row of YtpiihmbeedlpkaaGreatDoorRows.lean that lists a variable, with what it lists TIED to the program's text (the seventh form; the later family's looks); each row that meets fmt, with fmt's text TOLD by the authors' own Lean function (tested against real Go, not proved from fmt's source: count such statements apart). THE CARD IS WHAT COUNTS. Prove the row's statement (the work); the ties are given (YtpiihmbeedlpkaaGreatDoorTie.lean); close each card by the builder's one call (the guide's Derived/Test/ToyasCard.lean, 'card_holds'). Laid BY PROGRAM, IN A SANDBOX (cutbox-door.mjs). By AI agents, Wed Nov 11 2026. No macro, syntax, notation, axiom, sorry.
-/
import Derived.Test.YtpiihmbeedlpkaaGreatDoorRows
import GoSem.ClaimSeven
namespace Go.Proofs.YtpiihmbeedlpkaaGreatDoor
namespace Rows

/-- THE TIED CARD OF 'casebooklaw28.SoundTrees'. -/
def soundTreesCard : Claim7 := { stood := { row := soundTreesRow, standIns := [], harness := (true, "a68c5011844a8ff14861a6f298538f52a96ab022659f4088332248b3b0fef305"), looks := false }, kinds := [], alts := [], laidByText := true, laidKinds := [.data, .data, .data], laidTests := true, laidLooks := .later }
def SoundTreesCardSaid : Prop := Claim7.holds Tryz.pinned (.plain (OpenSpec.ofChange soundTreesSpec)) soundTreesCard

/-- THE SECOND FORM's CARD OF 'casebooklaw28.SoundTrees'. -/
def soundTreesUptoCard : Claim7 := { stood := { row := soundTreesUptoRow, standIns := [], harness := (true, "a68c5011844a8ff14861a6f298538f52a96ab022659f4088332248b3b0fef305"), looks := false }, kinds := [], alts := [], laidByText := true, laidKinds := [.data, .data, .data], laidTests := true, laidLooks := .later }
def SoundTreesUptoCardSaid : Prop := Claim7.holds Tryz.pinned (.plain (OpenSpec.upto soundTreesSpec)) soundTreesUptoCard
end Rows
end Go.Proofs.YtpiihmbeedlpkaaGreatDoor
