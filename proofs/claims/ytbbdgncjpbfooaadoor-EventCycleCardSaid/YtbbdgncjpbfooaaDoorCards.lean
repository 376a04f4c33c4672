/-
  DERIVED. GIVEN WITH THE SEED: THE CARDS: each row of YtbbdgncjpbfooaaDoorRows.lean that lists a variable, with what it lists TIED to the program's text (the seventh form; the later family's looks); each row that meets fmt, with fmt's text TOLD by the authors' own Lean function (tested against real Go, not proved from fmt's source: count such statements apart). THE CARD IS WHAT COUNTS. Prove the row's statement (the work); the ties are given (YtbbdgncjpbfooaaDoorTie.lean); close each card by the builder's one call (the guide's Derived/Test/ToyasCard.lean, 'card_holds'). Laid BY PROGRAM, IN A SANDBOX (cutbox-door.mjs). By AI agents, Wed Nov 11 2026. No macro, syntax, notation, axiom, sorry.
-/
import Derived.Test.YtbbdgncjpbfooaaDoorRows
import GoSem.ClaimSeven
namespace Go.Proofs.YtbbdgncjpbfooaaDoor
namespace Rows

/-- THE TIED CARD OF 'casebooklaw11.EventLives'. -/
def eventLivesCard : Claim7 := { stood := { row := eventLivesRow, standIns := [], harness := (true, "6c9c430470bc7d6fb4566b92621efd24911fdd427abbd6529aaa062499316c01"), looks := true }, kinds := [], alts := [], laidByText := true, laidKinds := [.data, .data, .data, .sentinel, .sentinel], laidTests := true, laidLooks := .later }
def EventLivesCardSaid : Prop := Claim7.holds Tryd.pinned (.plain (OpenSpec.ofChange eventLivesSpec)) eventLivesCard

/-- THE TIED CARD OF 'casebooklaw11.EventCycle'. -/
def eventCycleCard : Claim7 := { stood := { row := eventCycleRow, standIns := [], harness := (true, "6c9c430470bc7d6fb4566b92621efd24911fdd427abbd6529aaa062499316c01"), looks := true }, kinds := [], alts := [], laidByText := true, laidKinds := [.data, .data, .data, .sentinel, .sentinel], laidTests := true, laidLooks := .later }
def EventCycleCardSaid : Prop := Claim7.holds Tryd.pinned (.plain (OpenSpec.ofChange eventCycleSpec)) eventCycleCard

/-- THE SECOND FORM's CARD OF 'casebooklaw11.EventLives'. -/
def eventLivesUptoCard : Claim7 := { stood := { row := eventLivesUptoRow, standIns := [], harness := (true, "6c9c430470bc7d6fb4566b92621efd24911fdd427abbd6529aaa062499316c01"), looks := true }, kinds := [], alts := [], laidByText := true, laidKinds := [.data, .data, .data, .sentinel, .sentinel], laidTests := true, laidLooks := .later }
def EventLivesUptoCardSaid : Prop := Claim7.holds Tryd.pinned (.plain (OpenSpec.upto eventLivesSpec)) eventLivesUptoCard

/-- THE SECOND FORM's CARD OF 'casebooklaw11.EventCycle'. -/
def eventCycleUptoCard : Claim7 := { stood := { row := eventCycleUptoRow, standIns := [], harness := (true, "6c9c430470bc7d6fb4566b92621efd24911fdd427abbd6529aaa062499316c01"), looks := true }, kinds := [], alts := [], laidByText := true, laidKinds := [.data, .data, .data, .sentinel, .sentinel], laidTests := true, laidLooks := .later }
def EventCycleUptoCardSaid : Prop := Claim7.holds Tryd.pinned (.plain (OpenSpec.upto eventCycleSpec)) eventCycleUptoCard
end Rows
end Go.Proofs.YtbbdgncjpbfooaaDoor
