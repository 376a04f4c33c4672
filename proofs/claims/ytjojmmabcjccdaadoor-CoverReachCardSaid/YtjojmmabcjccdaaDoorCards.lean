/-
  DERIVED. GIVEN WITH THE SEED: THE CARDS: each row of YtjojmmabcjccdaaDoorRows.lean that lists a variable, with what it lists TIED to the program's text (the seventh form; the later family's looks); each row that meets fmt, with fmt's text TOLD by the authors' own Lean function (tested against real Go, not proved from fmt's source: count such statements apart). THE CARD IS WHAT COUNTS. Prove the row's statement (the work); the ties are given (YtjojmmabcjccdaaDoorTie.lean); close each card by the builder's one call (the guide's Derived/Test/ToyasCard.lean, 'card_holds'). Laid BY PROGRAM, IN A SANDBOX (cutbox-door.mjs). By AI agents, Wed Nov 11 2026. No macro, syntax, notation, axiom, sorry.
-/
import Derived.Test.YtjojmmabcjccdaaDoorRows
import GoSem.ClaimSeven
namespace Go.Proofs.YtjojmmabcjccdaaDoor
namespace Rows

/-- THE TIED CARD OF 'casebooklaw24.CoverGraphs'. -/
def coverGraphsCard : Claim7 := { stood := { row := coverGraphsRow, standIns := [], harness := (true, "37e7646252ffc48e22b006d25bbbe25fd9aa6c40c40ab6b40ff27b82d72883f7"), looks := false }, kinds := [], alts := [], laidByText := true, laidKinds := [.data, .data, .data], laidTests := true, laidLooks := .later }
def CoverGraphsCardSaid : Prop := Claim7.holds Tryd.pinned (.plain (OpenSpec.ofChange coverGraphsSpec)) coverGraphsCard

/-- THE TIED CARD OF 'casebooklaw24.CoverBounded'. -/
def coverBoundedCard : Claim7 := { stood := { row := coverBoundedRow, standIns := [], harness := (true, "37e7646252ffc48e22b006d25bbbe25fd9aa6c40c40ab6b40ff27b82d72883f7"), looks := false }, kinds := [], alts := [], laidByText := true, laidKinds := [.data, .data, .data], laidTests := true, laidLooks := .later }
def CoverBoundedCardSaid : Prop := Claim7.holds Tryd.pinned (.plain (OpenSpec.ofChange coverBoundedSpec)) coverBoundedCard

/-- THE TIED CARD OF 'casebooklaw24.CoverBounds'. -/
def coverBoundsCard : Claim7 := { stood := { row := coverBoundsRow, standIns := [], harness := (true, "37e7646252ffc48e22b006d25bbbe25fd9aa6c40c40ab6b40ff27b82d72883f7"), looks := false }, kinds := [], alts := [], laidByText := true, laidKinds := [.data, .data, .data], laidTests := true, laidLooks := .later }
def CoverBoundsCardSaid : Prop := Claim7.holds Tryd.pinned (.plain (OpenSpec.ofChange coverBoundsSpec)) coverBoundsCard

/-- THE TIED CARD OF 'casebooklaw24.CoverMore'. -/
def coverMoreCard : Claim7 := { stood := { row := coverMoreRow, standIns := [], harness := (true, "37e7646252ffc48e22b006d25bbbe25fd9aa6c40c40ab6b40ff27b82d72883f7"), looks := false }, kinds := [], alts := [], laidByText := true, laidKinds := [.data, .data, .data], laidTests := true, laidLooks := .later }
def CoverMoreCardSaid : Prop := Claim7.holds Tryd.pinned (.plain (OpenSpec.ofChange coverMoreSpec)) coverMoreCard

/-- THE TIED CARD OF 'casebooklaw24.CoverChecks'. -/
def coverChecksCard : Claim7 := { stood := { row := coverChecksRow, standIns := [], harness := (true, "37e7646252ffc48e22b006d25bbbe25fd9aa6c40c40ab6b40ff27b82d72883f7"), looks := false }, kinds := [], alts := [], laidByText := true, laidKinds := [.data, .data, .data], laidTests := true, laidLooks := .later }
def CoverChecksCardSaid : Prop := Claim7.holds Tryd.pinned (.plain (OpenSpec.ofChange coverChecksSpec)) coverChecksCard

/-- THE TIED CARD OF 'casebooklaw24.CoverReach'. -/
def coverReachCard : Claim7 := { stood := { row := coverReachRow, standIns := [], harness := (true, "37e7646252ffc48e22b006d25bbbe25fd9aa6c40c40ab6b40ff27b82d72883f7"), looks := false }, kinds := [], alts := [], laidByText := true, laidKinds := [.data, .data, .data], laidTests := true, laidLooks := .later }
def CoverReachCardSaid : Prop := Claim7.holds Tryd.pinned (.plain (OpenSpec.ofChange coverReachSpec)) coverReachCard

/-- THE TIED CARD OF 'casebooklaw24.CoverPumps'. -/
def coverPumpsCard : Claim7 := { stood := { row := coverPumpsRow, standIns := [], harness := (true, "37e7646252ffc48e22b006d25bbbe25fd9aa6c40c40ab6b40ff27b82d72883f7"), looks := false }, kinds := [], alts := [], laidByText := true, laidKinds := [.data, .data, .data], laidTests := true, laidLooks := .later }
def CoverPumpsCardSaid : Prop := Claim7.holds Tryd.pinned (.plain (OpenSpec.ofChange coverPumpsSpec)) coverPumpsCard

/-- THE SECOND FORM's CARD OF 'casebooklaw24.CoverGraphs'. -/
def coverGraphsUptoCard : Claim7 := { stood := { row := coverGraphsUptoRow, standIns := [], harness := (true, "37e7646252ffc48e22b006d25bbbe25fd9aa6c40c40ab6b40ff27b82d72883f7"), looks := false }, kinds := [], alts := [], laidByText := true, laidKinds := [.data, .data, .data], laidTests := true, laidLooks := .later }
def CoverGraphsUptoCardSaid : Prop := Claim7.holds Tryd.pinned (.plain (OpenSpec.upto coverGraphsSpec)) coverGraphsUptoCard

/-- THE SECOND FORM's CARD OF 'casebooklaw24.CoverBounded'. -/
def coverBoundedUptoCard : Claim7 := { stood := { row := coverBoundedUptoRow, standIns := [], harness := (true, "37e7646252ffc48e22b006d25bbbe25fd9aa6c40c40ab6b40ff27b82d72883f7"), looks := false }, kinds := [], alts := [], laidByText := true, laidKinds := [.data, .data, .data], laidTests := true, laidLooks := .later }
def CoverBoundedUptoCardSaid : Prop := Claim7.holds Tryd.pinned (.plain (OpenSpec.upto coverBoundedSpec)) coverBoundedUptoCard

/-- THE SECOND FORM's CARD OF 'casebooklaw24.CoverBounds'. -/
def coverBoundsUptoCard : Claim7 := { stood := { row := coverBoundsUptoRow, standIns := [], harness := (true, "37e7646252ffc48e22b006d25bbbe25fd9aa6c40c40ab6b40ff27b82d72883f7"), looks := false }, kinds := [], alts := [], laidByText := true, laidKinds := [.data, .data, .data], laidTests := true, laidLooks := .later }
def CoverBoundsUptoCardSaid : Prop := Claim7.holds Tryd.pinned (.plain (OpenSpec.upto coverBoundsSpec)) coverBoundsUptoCard

/-- THE SECOND FORM's CARD OF 'casebooklaw24.CoverMore'. -/
def coverMoreUptoCard : Claim7 := { stood := { row := coverMoreUptoRow, standIns := [], harness := (true, "37e7646252ffc48e22b006d25bbbe25fd9aa6c40c40ab6b40ff27b82d72883f7"), looks := false }, kinds := [], alts := [], laidByText := true, laidKinds := [.data, .data, .data], laidTests := true, laidLooks := .later }
def CoverMoreUptoCardSaid : Prop := Claim7.holds Tryd.pinned (.plain (OpenSpec.upto coverMoreSpec)) coverMoreUptoCard

/-- THE SECOND FORM's CARD OF 'casebooklaw24.CoverChecks'. -/
def coverChecksUptoCard : Claim7 := { stood := { row := coverChecksUptoRow, standIns := [], harness := (true, "37e7646252ffc48e22b006d25bbbe25fd9aa6c40c40ab6b40ff27b82d72883f7"), looks := false }, kinds := [], alts := [], laidByText := true, laidKinds := [.data, .data, .data], laidTests := true, laidLooks := .later }
def CoverChecksUptoCardSaid : Prop := Claim7.holds Tryd.pinned (.plain (OpenSpec.upto coverChecksSpec)) coverChecksUptoCard

/-- THE SECOND FORM's CARD OF 'casebooklaw24.CoverReach'. -/
def coverReachUptoCard : Claim7 := { stood := { row := coverReachUptoRow, standIns := [], harness := (true, "37e7646252ffc48e22b006d25bbbe25fd9aa6c40c40ab6b40ff27b82d72883f7"), looks := false }, kinds := [], alts := [], laidByText := true, laidKinds := [.data, .data, .data], laidTests := true, laidLooks := .later }
def CoverReachUptoCardSaid : Prop := Claim7.holds Tryd.pinned (.plain (OpenSpec.upto coverReachSpec)) coverReachUptoCard

/-- THE SECOND FORM's CARD OF 'casebooklaw24.CoverPumps'. -/
def coverPumpsUptoCard : Claim7 := { stood := { row := coverPumpsUptoRow, standIns := [], harness := (true, "37e7646252ffc48e22b006d25bbbe25fd9aa6c40c40ab6b40ff27b82d72883f7"), looks := false }, kinds := [], alts := [], laidByText := true, laidKinds := [.data, .data, .data], laidTests := true, laidLooks := .later }
def CoverPumpsUptoCardSaid : Prop := Claim7.holds Tryd.pinned (.plain (OpenSpec.upto coverPumpsSpec)) coverPumpsUptoCard
end Rows
end Go.Proofs.YtjojmmabcjccdaaDoor
