/-
  DERIVED. GIVEN WITH THE SEED: THE CARDS: each row of YtkhmngljpfibcaaGreatDoorRows.lean that lists a variable, with what it lists TIED to the program's text (the seventh form; the later family's looks); each row that meets fmt, with fmt's text TOLD by the authors' own Lean function (tested against real Go, not proved from fmt's source: count such statements apart). THE CARD IS WHAT COUNTS. Prove the row's statement (the work); the ties are given (YtkhmngljpfibcaaGreatDoorTie.lean); close each card by the builder's one call (the guide's Derived/Test/ToyasCard.lean, 'card_holds'). Laid BY PROGRAM, IN A SANDBOX (cutbox-door.mjs). By AI agents, Wed Nov 11 2026. No macro, syntax, notation, axiom, sorry.
-/
import Derived.Test.YtkhmngljpfibcaaGreatDoorRows
import GoSem.ClaimSeven
namespace Go.Proofs.YtkhmngljpfibcaaGreatDoor
namespace Rows

/-- THE TIED CARD OF 'casebooklaw28.SoundVerdicts'. -/
def soundVerdictsCard : Claim7 := { stood := { row := soundVerdictsRow, standIns := [], harness := (true, "3d9c9e7157b6db81af288517e383878a0a38a04924f7292bf70647b6a861f95e"), looks := true }, kinds := [], alts := [], laidByText := true, laidKinds := [.data, .data, .data], laidTests := true, laidLooks := .later }
def SoundVerdictsCardSaid : Prop := Claim7.holds Tryz.pinned (.plain (OpenSpec.ofChange soundVerdictsSpec)) soundVerdictsCard

/-- THE TIED CARD OF 'casebooklaw28.SoundCompletes'. -/
def soundCompletesCard : Claim7 := { stood := { row := soundCompletesRow, standIns := [], harness := (true, "3d9c9e7157b6db81af288517e383878a0a38a04924f7292bf70647b6a861f95e"), looks := true }, kinds := [], alts := [], laidByText := true, laidKinds := [.data, .data, .data], laidTests := true, laidLooks := .later }
def SoundCompletesCardSaid : Prop := Claim7.holds Tryz.pinned (.plain (OpenSpec.ofChange soundCompletesSpec)) soundCompletesCard

/-- THE TIED CARD OF 'casebooklaw28.SoundRelaxed'. -/
def soundRelaxedCard : Claim7 := { stood := { row := soundRelaxedRow, standIns := [], harness := (true, "3d9c9e7157b6db81af288517e383878a0a38a04924f7292bf70647b6a861f95e"), looks := true }, kinds := [], alts := [], laidByText := true, laidKinds := [.data, .data, .data], laidTests := true, laidLooks := .later }
def SoundRelaxedCardSaid : Prop := Claim7.holds Tryz.pinned (.plain (OpenSpec.ofChange soundRelaxedSpec)) soundRelaxedCard

/-- THE TIED CARD OF 'casebooklaw28.SoundRuns'. -/
def soundRunsCard : Claim7 := { stood := { row := soundRunsRow, standIns := [], harness := (true, "3d9c9e7157b6db81af288517e383878a0a38a04924f7292bf70647b6a861f95e"), looks := true }, kinds := [], alts := [], laidByText := true, laidKinds := [.data, .data, .data], laidTests := true, laidLooks := .later }
def SoundRunsCardSaid : Prop := Claim7.holds Tryz.pinned (.plain (OpenSpec.ofChange soundRunsSpec)) soundRunsCard

/-- THE TIED CARD OF 'casebooklaw29.VerdictAccepts'. -/
def verdictAcceptsCard : Claim7 := { stood := { row := verdictAcceptsRow, standIns := [], harness := (true, "3d9c9e7157b6db81af288517e383878a0a38a04924f7292bf70647b6a861f95e"), looks := true }, kinds := [], alts := [], laidByText := true, laidKinds := [.data, .data, .data], laidTests := true, laidLooks := .later }
def VerdictAcceptsCardSaid : Prop := Claim7.holds Tryz.pinned (.plain (OpenSpec.ofChange verdictAcceptsSpec)) verdictAcceptsCard

/-- THE TIED CARD OF 'casebooklaw29.VerdictTexts'. -/
def verdictTextsCard : Claim7 := { stood := { row := verdictTextsRow, standIns := [], harness := (true, "3d9c9e7157b6db81af288517e383878a0a38a04924f7292bf70647b6a861f95e"), looks := true }, kinds := [], alts := [], laidByText := true, laidKinds := [.data, .data, .data, .data, .sentinel, .sentinel, .pinned], laidTests := true, laidLooks := .later }
def VerdictTextsCardSaid : Prop := Claim7.holds Tryz.pinned (.plain (OpenSpec.ofChange verdictTextsSpec)) verdictTextsCard

/-- THE SECOND FORM's CARD OF 'casebooklaw28.SoundVerdicts'. -/
def soundVerdictsUptoCard : Claim7 := { stood := { row := soundVerdictsUptoRow, standIns := [], harness := (true, "3d9c9e7157b6db81af288517e383878a0a38a04924f7292bf70647b6a861f95e"), looks := true }, kinds := [], alts := [], laidByText := true, laidKinds := [.data, .data, .data], laidTests := true, laidLooks := .later }
def SoundVerdictsUptoCardSaid : Prop := Claim7.holds Tryz.pinned (.plain (OpenSpec.upto soundVerdictsSpec)) soundVerdictsUptoCard

/-- THE SECOND FORM's CARD OF 'casebooklaw28.SoundCompletes'. -/
def soundCompletesUptoCard : Claim7 := { stood := { row := soundCompletesUptoRow, standIns := [], harness := (true, "3d9c9e7157b6db81af288517e383878a0a38a04924f7292bf70647b6a861f95e"), looks := true }, kinds := [], alts := [], laidByText := true, laidKinds := [.data, .data, .data], laidTests := true, laidLooks := .later }
def SoundCompletesUptoCardSaid : Prop := Claim7.holds Tryz.pinned (.plain (OpenSpec.upto soundCompletesSpec)) soundCompletesUptoCard

/-- THE SECOND FORM's CARD OF 'casebooklaw28.SoundRelaxed'. -/
def soundRelaxedUptoCard : Claim7 := { stood := { row := soundRelaxedUptoRow, standIns := [], harness := (true, "3d9c9e7157b6db81af288517e383878a0a38a04924f7292bf70647b6a861f95e"), looks := true }, kinds := [], alts := [], laidByText := true, laidKinds := [.data, .data, .data], laidTests := true, laidLooks := .later }
def SoundRelaxedUptoCardSaid : Prop := Claim7.holds Tryz.pinned (.plain (OpenSpec.upto soundRelaxedSpec)) soundRelaxedUptoCard

/-- THE SECOND FORM's CARD OF 'casebooklaw28.SoundRuns'. -/
def soundRunsUptoCard : Claim7 := { stood := { row := soundRunsUptoRow, standIns := [], harness := (true, "3d9c9e7157b6db81af288517e383878a0a38a04924f7292bf70647b6a861f95e"), looks := true }, kinds := [], alts := [], laidByText := true, laidKinds := [.data, .data, .data], laidTests := true, laidLooks := .later }
def SoundRunsUptoCardSaid : Prop := Claim7.holds Tryz.pinned (.plain (OpenSpec.upto soundRunsSpec)) soundRunsUptoCard

/-- THE SECOND FORM's CARD OF 'casebooklaw29.VerdictAccepts'. -/
def verdictAcceptsUptoCard : Claim7 := { stood := { row := verdictAcceptsUptoRow, standIns := [], harness := (true, "3d9c9e7157b6db81af288517e383878a0a38a04924f7292bf70647b6a861f95e"), looks := true }, kinds := [], alts := [], laidByText := true, laidKinds := [.data, .data, .data], laidTests := true, laidLooks := .later }
def VerdictAcceptsUptoCardSaid : Prop := Claim7.holds Tryz.pinned (.plain (OpenSpec.upto verdictAcceptsSpec)) verdictAcceptsUptoCard

/-- THE SECOND FORM's CARD OF 'casebooklaw29.VerdictTexts'. -/
def verdictTextsUptoCard : Claim7 := { stood := { row := verdictTextsUptoRow, standIns := [], harness := (true, "3d9c9e7157b6db81af288517e383878a0a38a04924f7292bf70647b6a861f95e"), looks := true }, kinds := [], alts := [], laidByText := true, laidKinds := [.data, .data, .data, .data, .sentinel, .sentinel, .pinned], laidTests := true, laidLooks := .later }
def VerdictTextsUptoCardSaid : Prop := Claim7.holds Tryz.pinned (.plain (OpenSpec.upto verdictTextsSpec)) verdictTextsUptoCard
end Rows
end Go.Proofs.YtkhmngljpfibcaaGreatDoor
