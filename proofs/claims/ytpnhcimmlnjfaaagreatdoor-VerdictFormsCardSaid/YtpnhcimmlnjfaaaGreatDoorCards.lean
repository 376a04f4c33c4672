/-
  DERIVED. GIVEN WITH THE SEED: THE CARDS: each row of YtpnhcimmlnjfaaaGreatDoorRows.lean that lists a variable, with what it lists TIED to the program's text (the seventh form; the later family's looks); each row that meets fmt, with fmt's text TOLD by the authors' own Lean function (tested against real Go, not proved from fmt's source: count such statements apart). THE CARD IS WHAT COUNTS. Prove the row's statement (the work); the ties are given (YtpnhcimmlnjfaaaGreatDoorTie.lean); close each card by the builder's one call (the guide's Derived/Test/ToyasCard.lean, 'card_holds'). Laid BY PROGRAM, IN A SANDBOX (cutbox-door.mjs). By AI agents, Wed Nov 11 2026. No macro, syntax, notation, axiom, sorry.
-/
import Derived.Test.YtpnhcimmlnjfaaaGreatDoorRows
import GoSem.ClaimSeven
namespace Go.Proofs.YtpnhcimmlnjfaaaGreatDoor
namespace Rows

/-- THE TIED CARD OF 'casebooklaw29.VerdictChecks'. -/
def verdictChecksCard : Claim7 := { stood := { row := verdictChecksRow, standIns := [], harness := (true, "af91d0cf42a9083e29c221b2f9f972d6df79ce88f6601c5e4728ff98d86fc3ff"), looks := false }, kinds := [], alts := [], laidByText := true, laidKinds := [.data, .data, .data], laidTests := true, laidLooks := .later }
def VerdictChecksCardSaid : Prop := Claim7.holds Tryz.pinned (.plain (OpenSpec.ofChange verdictChecksSpec)) verdictChecksCard

/-- THE TIED CARD OF 'casebooklaw29.VerdictForms'. -/
def verdictFormsCard : Claim7 := { stood := { row := verdictFormsRow, standIns := [], harness := (true, "af91d0cf42a9083e29c221b2f9f972d6df79ce88f6601c5e4728ff98d86fc3ff"), looks := false }, kinds := [], alts := [], laidByText := true, laidKinds := [.data, .data, .data], laidTests := true, laidLooks := .later }
def VerdictFormsCardSaid : Prop := Claim7.holds Tryz.pinned (.plain (OpenSpec.ofChange verdictFormsSpec)) verdictFormsCard

/-- THE SECOND FORM's CARD OF 'casebooklaw29.VerdictChecks'. -/
def verdictChecksUptoCard : Claim7 := { stood := { row := verdictChecksUptoRow, standIns := [], harness := (true, "af91d0cf42a9083e29c221b2f9f972d6df79ce88f6601c5e4728ff98d86fc3ff"), looks := false }, kinds := [], alts := [], laidByText := true, laidKinds := [.data, .data, .data], laidTests := true, laidLooks := .later }
def VerdictChecksUptoCardSaid : Prop := Claim7.holds Tryz.pinned (.plain (OpenSpec.upto verdictChecksSpec)) verdictChecksUptoCard

/-- THE SECOND FORM's CARD OF 'casebooklaw29.VerdictForms'. -/
def verdictFormsUptoCard : Claim7 := { stood := { row := verdictFormsUptoRow, standIns := [], harness := (true, "af91d0cf42a9083e29c221b2f9f972d6df79ce88f6601c5e4728ff98d86fc3ff"), looks := false }, kinds := [], alts := [], laidByText := true, laidKinds := [.data, .data, .data], laidTests := true, laidLooks := .later }
def VerdictFormsUptoCardSaid : Prop := Claim7.holds Tryz.pinned (.plain (OpenSpec.upto verdictFormsSpec)) verdictFormsUptoCard
end Rows
end Go.Proofs.YtpnhcimmlnjfaaaGreatDoor
