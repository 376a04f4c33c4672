/-
  DERIVED. GIVEN WITH THE SEED: THE CARDS: each row of YtbdihcpehadbjaaDoorRows.lean that lists a variable, with what it lists TIED to the program's text (the seventh form; the later family's looks); each row that meets fmt, with fmt's text TOLD by the authors' own Lean function (tested against real Go, not proved from fmt's source: count such statements apart). THE CARD IS WHAT COUNTS. Prove the row's statement (the work); the ties are given (YtbdihcpehadbjaaDoorTie.lean); close each card by the builder's one call (the guide's Derived/Test/ToyasCard.lean, 'card_holds'). Laid BY PROGRAM, IN A SANDBOX (cutbox-door.mjs). By AI agents, Wed Nov 11 2026. No macro, syntax, notation, axiom, sorry.
-/
import Derived.Test.YtbdihcpehadbjaaDoorRows
import GoSem.ClaimSeven
namespace Go.Proofs.YtbdihcpehadbjaaDoor
namespace Rows

/-- THE TIED CARD OF 'casebooklaw01.FracMakes'. -/
def fracMakesCard : Claim7 := { stood := { row := fracMakesRow, standIns := [], harness := (true, "546123f42128240ba2bcb64e4ef83b218c904c6854b8cb6f9b91df3f7d5e2435"), looks := true }, kinds := [], alts := [], laidByText := true, laidKinds := [.data, .data, .data], laidTests := true, laidLooks := .later }
def FracMakesCardSaid : Prop := Claim7.holds Tryd.pinned (.plain (OpenSpec.ofChange fracMakesSpec)) fracMakesCard

/-- THE TIED CARD OF 'casebooklaw01.FracRounds'. -/
def fracRoundsCard : Claim7 := { stood := { row := fracRoundsRow, standIns := [], harness := (true, "546123f42128240ba2bcb64e4ef83b218c904c6854b8cb6f9b91df3f7d5e2435"), looks := true }, kinds := [], alts := [], laidByText := true, laidKinds := [.data, .data, .data], laidTests := true, laidLooks := .later }
def FracRoundsCardSaid : Prop := Claim7.holds Tryd.pinned (.plain (OpenSpec.ofChange fracRoundsSpec)) fracRoundsCard

/-- THE TIED CARD OF 'casebooklaw01.FracCompares'. -/
def fracComparesCard : Claim7 := { stood := { row := fracComparesRow, standIns := [], harness := (true, "546123f42128240ba2bcb64e4ef83b218c904c6854b8cb6f9b91df3f7d5e2435"), looks := true }, kinds := [], alts := [], laidByText := true, laidKinds := [.data, .data, .data], laidTests := true, laidLooks := .later }
def FracComparesCardSaid : Prop := Claim7.holds Tryd.pinned (.plain (OpenSpec.ofChange fracComparesSpec)) fracComparesCard

/-- THE TIED CARD OF 'casebooklaw01.FracOrder'. -/
def fracOrderCard : Claim7 := { stood := { row := fracOrderRow, standIns := [], harness := (true, "546123f42128240ba2bcb64e4ef83b218c904c6854b8cb6f9b91df3f7d5e2435"), looks := true }, kinds := [], alts := [], laidByText := true, laidKinds := [.data, .data, .data], laidTests := true, laidLooks := .later }
def FracOrderCardSaid : Prop := Claim7.holds Tryd.pinned (.plain (OpenSpec.ofChange fracOrderSpec)) fracOrderCard

/-- THE TIED CARD OF 'casebooklaw01.FracOps'. -/
def fracOpsCard : Claim7 := { stood := { row := fracOpsRow, standIns := [], harness := (true, "546123f42128240ba2bcb64e4ef83b218c904c6854b8cb6f9b91df3f7d5e2435"), looks := true }, kinds := [], alts := [], laidByText := true, laidKinds := [.data, .data, .data], laidTests := true, laidLooks := .later }
def FracOpsCardSaid : Prop := Claim7.holds Tryd.pinned (.plain (OpenSpec.ofChange fracOpsSpec)) fracOpsCard

/-- THE TIED CARD OF 'casebooklaw01.FracField'. -/
def fracFieldCard : Claim7 := { stood := { row := fracFieldRow, standIns := [], harness := (true, "546123f42128240ba2bcb64e4ef83b218c904c6854b8cb6f9b91df3f7d5e2435"), looks := true }, kinds := [], alts := [], laidByText := true, laidKinds := [.data, .data, .data], laidTests := true, laidLooks := .later }
def FracFieldCardSaid : Prop := Claim7.holds Tryd.pinned (.plain (OpenSpec.ofChange fracFieldSpec)) fracFieldCard

/-- THE TIED CARD OF 'casebooklaw01.FracLists'. -/
def fracListsCard : Claim7 := { stood := { row := fracListsRow, standIns := [], harness := (true, "546123f42128240ba2bcb64e4ef83b218c904c6854b8cb6f9b91df3f7d5e2435"), looks := true }, kinds := [], alts := [], laidByText := true, laidKinds := [.data, .data, .data], laidTests := true, laidLooks := .later }
def FracListsCardSaid : Prop := Claim7.holds Tryd.pinned (.plain (OpenSpec.ofChange fracListsSpec)) fracListsCard

/-- THE TIED CARD OF 'casebooklaw01.FracTexts'. -/
def fracTextsCard : Claim7 := { stood := { row := fracTextsRow, standIns := [], harness := (true, "546123f42128240ba2bcb64e4ef83b218c904c6854b8cb6f9b91df3f7d5e2435"), looks := true }, kinds := [], alts := [], laidByText := true, laidKinds := [.data, .data, .data, .sentinel, .sentinel], laidTests := true, laidLooks := .later }
def FracTextsCardSaid : Prop := Claim7.holds Tryd.pinned (.plain (OpenSpec.ofChange fracTextsSpec)) fracTextsCard

/-- THE SECOND FORM's CARD OF 'casebooklaw01.FracMakes'. -/
def fracMakesUptoCard : Claim7 := { stood := { row := fracMakesUptoRow, standIns := [], harness := (true, "546123f42128240ba2bcb64e4ef83b218c904c6854b8cb6f9b91df3f7d5e2435"), looks := true }, kinds := [], alts := [], laidByText := true, laidKinds := [.data, .data, .data], laidTests := true, laidLooks := .later }
def FracMakesUptoCardSaid : Prop := Claim7.holds Tryd.pinned (.plain (OpenSpec.upto fracMakesSpec)) fracMakesUptoCard

/-- THE SECOND FORM's CARD OF 'casebooklaw01.FracRounds'. -/
def fracRoundsUptoCard : Claim7 := { stood := { row := fracRoundsUptoRow, standIns := [], harness := (true, "546123f42128240ba2bcb64e4ef83b218c904c6854b8cb6f9b91df3f7d5e2435"), looks := true }, kinds := [], alts := [], laidByText := true, laidKinds := [.data, .data, .data], laidTests := true, laidLooks := .later }
def FracRoundsUptoCardSaid : Prop := Claim7.holds Tryd.pinned (.plain (OpenSpec.upto fracRoundsSpec)) fracRoundsUptoCard

/-- THE SECOND FORM's CARD OF 'casebooklaw01.FracCompares'. -/
def fracComparesUptoCard : Claim7 := { stood := { row := fracComparesUptoRow, standIns := [], harness := (true, "546123f42128240ba2bcb64e4ef83b218c904c6854b8cb6f9b91df3f7d5e2435"), looks := true }, kinds := [], alts := [], laidByText := true, laidKinds := [.data, .data, .data], laidTests := true, laidLooks := .later }
def FracComparesUptoCardSaid : Prop := Claim7.holds Tryd.pinned (.plain (OpenSpec.upto fracComparesSpec)) fracComparesUptoCard

/-- THE SECOND FORM's CARD OF 'casebooklaw01.FracOrder'. -/
def fracOrderUptoCard : Claim7 := { stood := { row := fracOrderUptoRow, standIns := [], harness := (true, "546123f42128240ba2bcb64e4ef83b218c904c6854b8cb6f9b91df3f7d5e2435"), looks := true }, kinds := [], alts := [], laidByText := true, laidKinds := [.data, .data, .data], laidTests := true, laidLooks := .later }
def FracOrderUptoCardSaid : Prop := Claim7.holds Tryd.pinned (.plain (OpenSpec.upto fracOrderSpec)) fracOrderUptoCard

/-- THE SECOND FORM's CARD OF 'casebooklaw01.FracOps'. -/
def fracOpsUptoCard : Claim7 := { stood := { row := fracOpsUptoRow, standIns := [], harness := (true, "546123f42128240ba2bcb64e4ef83b218c904c6854b8cb6f9b91df3f7d5e2435"), looks := true }, kinds := [], alts := [], laidByText := true, laidKinds := [.data, .data, .data], laidTests := true, laidLooks := .later }
def FracOpsUptoCardSaid : Prop := Claim7.holds Tryd.pinned (.plain (OpenSpec.upto fracOpsSpec)) fracOpsUptoCard

/-- THE SECOND FORM's CARD OF 'casebooklaw01.FracField'. -/
def fracFieldUptoCard : Claim7 := { stood := { row := fracFieldUptoRow, standIns := [], harness := (true, "546123f42128240ba2bcb64e4ef83b218c904c6854b8cb6f9b91df3f7d5e2435"), looks := true }, kinds := [], alts := [], laidByText := true, laidKinds := [.data, .data, .data], laidTests := true, laidLooks := .later }
def FracFieldUptoCardSaid : Prop := Claim7.holds Tryd.pinned (.plain (OpenSpec.upto fracFieldSpec)) fracFieldUptoCard

/-- THE SECOND FORM's CARD OF 'casebooklaw01.FracLists'. -/
def fracListsUptoCard : Claim7 := { stood := { row := fracListsUptoRow, standIns := [], harness := (true, "546123f42128240ba2bcb64e4ef83b218c904c6854b8cb6f9b91df3f7d5e2435"), looks := true }, kinds := [], alts := [], laidByText := true, laidKinds := [.data, .data, .data], laidTests := true, laidLooks := .later }
def FracListsUptoCardSaid : Prop := Claim7.holds Tryd.pinned (.plain (OpenSpec.upto fracListsSpec)) fracListsUptoCard

/-- THE SECOND FORM's CARD OF 'casebooklaw01.FracTexts'. -/
def fracTextsUptoCard : Claim7 := { stood := { row := fracTextsUptoRow, standIns := [], harness := (true, "546123f42128240ba2bcb64e4ef83b218c904c6854b8cb6f9b91df3f7d5e2435"), looks := true }, kinds := [], alts := [], laidByText := true, laidKinds := [.data, .data, .data, .sentinel, .sentinel], laidTests := true, laidLooks := .later }
def FracTextsUptoCardSaid : Prop := Claim7.holds Tryd.pinned (.plain (OpenSpec.upto fracTextsSpec)) fracTextsUptoCard
end Rows
end Go.Proofs.YtbdihcpehadbjaaDoor
