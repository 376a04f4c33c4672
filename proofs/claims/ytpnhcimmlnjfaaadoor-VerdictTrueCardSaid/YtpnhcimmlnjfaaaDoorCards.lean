/-
  DERIVED. GIVEN WITH THE SEED: THE CARDS: each row of YtpnhcimmlnjfaaaDoorRows.lean that lists a variable, with what it lists TIED to the program's text (the seventh form; the later family's looks); each row that meets fmt, with fmt's text TOLD by the authors' own Lean function (tested against real Go, not proved from fmt's source: count such statements apart). THE CARD IS WHAT COUNTS. Prove the row's statement (the work); the ties are given (YtpnhcimmlnjfaaaDoorTie.lean); close each card by the builder's one call (the guide's Derived/Test/ToyasCard.lean, 'card_holds'). Laid BY PROGRAM, IN A SANDBOX (cutbox-door.mjs). By AI agents, Wed Nov 11 2026. No macro, syntax, notation, axiom, sorry.
-/
import Derived.Test.YtpnhcimmlnjfaaaDoorRows
import GoSem.ClaimSeven
namespace Go.Proofs.YtpnhcimmlnjfaaaDoor
namespace Rows

/-- THE TIED CARD OF 'casebooklaw29.VerdictTrue'. -/
def verdictTrueCard : Claim7 := { stood := { row := verdictTrueRow, standIns := [], harness := (true, "d8e80826a5944ca569d41e1e0d0556378288d3fc340033c712316254005d13d1"), looks := false }, kinds := [], alts := [], laidByText := true, laidKinds := [.data, .data, .data], laidTests := true, laidLooks := .later }
def VerdictTrueCardSaid : Prop := Claim7.holds Tryd.pinned (.plain (OpenSpec.ofChange verdictTrueSpec)) verdictTrueCard

/-- THE TIED CARD OF 'casebooklaw29.VerdictHonest'. -/
def verdictHonestCard : Claim7 := { stood := { row := verdictHonestRow, standIns := [], harness := (true, "d8e80826a5944ca569d41e1e0d0556378288d3fc340033c712316254005d13d1"), looks := false }, kinds := [], alts := [], laidByText := true, laidKinds := [.data, .data, .data], laidTests := true, laidLooks := .later }
def VerdictHonestCardSaid : Prop := Claim7.holds Tryd.pinned (.plain (OpenSpec.ofChange verdictHonestSpec)) verdictHonestCard

/-- THE SECOND FORM's CARD OF 'casebooklaw29.VerdictTrue'. -/
def verdictTrueUptoCard : Claim7 := { stood := { row := verdictTrueUptoRow, standIns := [], harness := (true, "d8e80826a5944ca569d41e1e0d0556378288d3fc340033c712316254005d13d1"), looks := false }, kinds := [], alts := [], laidByText := true, laidKinds := [.data, .data, .data], laidTests := true, laidLooks := .later }
def VerdictTrueUptoCardSaid : Prop := Claim7.holds Tryd.pinned (.plain (OpenSpec.upto verdictTrueSpec)) verdictTrueUptoCard

/-- THE SECOND FORM's CARD OF 'casebooklaw29.VerdictHonest'. -/
def verdictHonestUptoCard : Claim7 := { stood := { row := verdictHonestUptoRow, standIns := [], harness := (true, "d8e80826a5944ca569d41e1e0d0556378288d3fc340033c712316254005d13d1"), looks := false }, kinds := [], alts := [], laidByText := true, laidKinds := [.data, .data, .data], laidTests := true, laidLooks := .later }
def VerdictHonestUptoCardSaid : Prop := Claim7.holds Tryd.pinned (.plain (OpenSpec.upto verdictHonestSpec)) verdictHonestUptoCard
end Rows
end Go.Proofs.YtpnhcimmlnjfaaaDoor
