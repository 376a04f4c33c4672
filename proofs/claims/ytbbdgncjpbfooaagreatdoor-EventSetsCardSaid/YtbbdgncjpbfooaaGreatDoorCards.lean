/-
  DERIVED. GIVEN WITH THE SEED: THE CARDS: each row of YtbbdgncjpbfooaaGreatDoorRows.lean that lists a variable, with what it lists TIED to the program's text (the seventh form; the later family's looks); each row that meets fmt, with fmt's text TOLD by the authors' own Lean function (tested against real Go, not proved from fmt's source: count such statements apart). THE CARD IS WHAT COUNTS. Prove the row's statement (the work); the ties are given (YtbbdgncjpbfooaaGreatDoorTie.lean); close each card by the builder's one call (the guide's Derived/Test/ToyasCard.lean, 'card_holds'). Laid BY PROGRAM, IN A SANDBOX (cutbox-door.mjs). By AI agents, Wed Nov 11 2026. No macro, syntax, notation, axiom, sorry.
-/
import Derived.Test.YtbbdgncjpbfooaaGreatDoorRows
import GoSem.ClaimSeven
namespace Go.Proofs.YtbbdgncjpbfooaaGreatDoor
namespace Rows

/-- THE TIED CARD OF 'casebooklaw11.EventTexts'. -/
def eventTextsCard : Claim7 := { stood := { row := eventTextsRow, standIns := [], harness := (true, "24560a505364a6bb57cd6f8c2cd33d86370c1ebeb3bf51aad6255ae84175a02d"), looks := true }, kinds := [], alts := [], laidByText := true, laidKinds := [.data, .data, .data, .sentinel, .sentinel], laidTests := true, laidLooks := .later }
def EventTextsCardSaid : Prop := Claim7.holds Tryz.pinned (.plain (OpenSpec.ofChange eventTextsSpec)) eventTextsCard

/-- THE TIED CARD OF 'casebooklaw11.EventForms'. -/
def eventFormsCard : Claim7 := { stood := { row := eventFormsRow, standIns := [], harness := (true, "24560a505364a6bb57cd6f8c2cd33d86370c1ebeb3bf51aad6255ae84175a02d"), looks := true }, kinds := [], alts := [], laidByText := true, laidKinds := [.data, .data, .data, .sentinel, .sentinel], laidTests := true, laidLooks := .later }
def EventFormsCardSaid : Prop := Claim7.holds Tryz.pinned (.plain (OpenSpec.ofChange eventFormsSpec)) eventFormsCard

/-- THE TIED CARD OF 'casebooklaw11.EventFields'. -/
def eventFieldsCard : Claim7 := { stood := { row := eventFieldsRow, standIns := [], harness := (true, "24560a505364a6bb57cd6f8c2cd33d86370c1ebeb3bf51aad6255ae84175a02d"), looks := true }, kinds := [], alts := [], laidByText := true, laidKinds := [.data, .data, .data, .sentinel, .sentinel], laidTests := true, laidLooks := .later }
def EventFieldsCardSaid : Prop := Claim7.holds Tryz.pinned (.plain (OpenSpec.ofChange eventFieldsSpec)) eventFieldsCard

/-- THE TIED CARD OF 'casebooklaw11.EventSets'. -/
def eventSetsCard : Claim7 := { stood := { row := eventSetsRow, standIns := [], harness := (true, "24560a505364a6bb57cd6f8c2cd33d86370c1ebeb3bf51aad6255ae84175a02d"), looks := true }, kinds := [], alts := [], laidByText := true, laidKinds := [.data, .data, .data, .sentinel, .sentinel], laidTests := true, laidLooks := .later }
def EventSetsCardSaid : Prop := Claim7.holds Tryz.pinned (.plain (OpenSpec.ofChange eventSetsSpec)) eventSetsCard

/-- THE SECOND FORM's CARD OF 'casebooklaw11.EventTexts'. -/
def eventTextsUptoCard : Claim7 := { stood := { row := eventTextsUptoRow, standIns := [], harness := (true, "24560a505364a6bb57cd6f8c2cd33d86370c1ebeb3bf51aad6255ae84175a02d"), looks := true }, kinds := [], alts := [], laidByText := true, laidKinds := [.data, .data, .data, .sentinel, .sentinel], laidTests := true, laidLooks := .later }
def EventTextsUptoCardSaid : Prop := Claim7.holds Tryz.pinned (.plain (OpenSpec.upto eventTextsSpec)) eventTextsUptoCard

/-- THE SECOND FORM's CARD OF 'casebooklaw11.EventForms'. -/
def eventFormsUptoCard : Claim7 := { stood := { row := eventFormsUptoRow, standIns := [], harness := (true, "24560a505364a6bb57cd6f8c2cd33d86370c1ebeb3bf51aad6255ae84175a02d"), looks := true }, kinds := [], alts := [], laidByText := true, laidKinds := [.data, .data, .data, .sentinel, .sentinel], laidTests := true, laidLooks := .later }
def EventFormsUptoCardSaid : Prop := Claim7.holds Tryz.pinned (.plain (OpenSpec.upto eventFormsSpec)) eventFormsUptoCard

/-- THE SECOND FORM's CARD OF 'casebooklaw11.EventFields'. -/
def eventFieldsUptoCard : Claim7 := { stood := { row := eventFieldsUptoRow, standIns := [], harness := (true, "24560a505364a6bb57cd6f8c2cd33d86370c1ebeb3bf51aad6255ae84175a02d"), looks := true }, kinds := [], alts := [], laidByText := true, laidKinds := [.data, .data, .data, .sentinel, .sentinel], laidTests := true, laidLooks := .later }
def EventFieldsUptoCardSaid : Prop := Claim7.holds Tryz.pinned (.plain (OpenSpec.upto eventFieldsSpec)) eventFieldsUptoCard

/-- THE SECOND FORM's CARD OF 'casebooklaw11.EventSets'. -/
def eventSetsUptoCard : Claim7 := { stood := { row := eventSetsUptoRow, standIns := [], harness := (true, "24560a505364a6bb57cd6f8c2cd33d86370c1ebeb3bf51aad6255ae84175a02d"), looks := true }, kinds := [], alts := [], laidByText := true, laidKinds := [.data, .data, .data, .sentinel, .sentinel], laidTests := true, laidLooks := .later }
def EventSetsUptoCardSaid : Prop := Claim7.holds Tryz.pinned (.plain (OpenSpec.upto eventSetsSpec)) eventSetsUptoCard
end Rows
end Go.Proofs.YtbbdgncjpbfooaaGreatDoor
