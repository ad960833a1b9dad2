/-
  DERIVED. GIVEN WITH THE SEED: THE CARDS: each row of YtkakfmcjiabjjaaGreatDoorRows.lean that lists a variable, with what it lists TIED to the program's text (the seventh form; the later family's looks); each row that meets fmt, with fmt's text TOLD by the authors' own Lean function (tested against real Go, not proved from fmt's source: count such statements apart). THE CARD IS WHAT COUNTS. Prove the row's statement (the work); the ties are given (YtkakfmcjiabjjaaGreatDoorTie.lean); close each card by the builder's one call (the guide's Derived/Test/ToyasCard.lean, 'card_holds'). Laid BY PROGRAM, IN A SANDBOX (cutbox-door.mjs). By AI agents, Wed Nov 11 2026. No macro, syntax, notation, axiom, sorry.
-/
import Derived.Test.YtkakfmcjiabjjaaGreatDoorRows
import GoSem.ClaimSeven
namespace Go.Proofs.YtkakfmcjiabjjaaGreatDoor
namespace Rows

/-- THE TIED CARD OF 'worldmintlaw36.MoveHomes'. -/
def moveHomesCard : Claim7 := { stood := { row := moveHomesRow, standIns := [], harness := (true, "f44dadac1087f487e0c4cea0dd7ac996ef91d526267a1d1366140917cfeb9d30"), looks := true }, kinds := [], alts := [], laidByText := true, laidKinds := [.data, .data, .data, .data, .sentinel, .sentinel, .pinned], laidTests := true, laidLooks := .later }
def MoveHomesCardSaid : Prop := Claim7.holds Tryz.pinned (.plain (OpenSpec.ofChange moveHomesSpec)) moveHomesCard

/-- THE TIED CARD OF 'worldmintlaw36.MoveSplits'. -/
def moveSplitsCard : Claim7 := { stood := { row := moveSplitsRow, standIns := [], harness := (true, "f44dadac1087f487e0c4cea0dd7ac996ef91d526267a1d1366140917cfeb9d30"), looks := true }, kinds := [], alts := [], laidByText := true, laidKinds := [.data, .data, .data, .data, .sentinel, .sentinel, .pinned], laidTests := true, laidLooks := .later }
def MoveSplitsCardSaid : Prop := Claim7.holds Tryz.pinned (.plain (OpenSpec.ofChange moveSplitsSpec)) moveSplitsCard

/-- THE TIED CARD OF 'worldmintlaw36.MoveLives'. -/
def moveLivesCard : Claim7 := { stood := { row := moveLivesRow, standIns := [], harness := (true, "f44dadac1087f487e0c4cea0dd7ac996ef91d526267a1d1366140917cfeb9d30"), looks := true }, kinds := [], alts := [], laidByText := true, laidKinds := [.data, .data, .data, .data, .sentinel, .sentinel, .pinned], laidTests := true, laidLooks := .later }
def MoveLivesCardSaid : Prop := Claim7.holds Tryz.pinned (.plain (OpenSpec.ofChange moveLivesSpec)) moveLivesCard

/-- THE TIED CARD OF 'worldmintlaw36.MoveMoving'. -/
def moveMovingCard : Claim7 := { stood := { row := moveMovingRow, standIns := [], harness := (true, "f44dadac1087f487e0c4cea0dd7ac996ef91d526267a1d1366140917cfeb9d30"), looks := true }, kinds := [], alts := [], laidByText := true, laidKinds := [.data, .data, .data, .data, .sentinel, .sentinel, .pinned], laidTests := true, laidLooks := .later }
def MoveMovingCardSaid : Prop := Claim7.holds Tryz.pinned (.plain (OpenSpec.ofChange moveMovingSpec)) moveMovingCard

/-- THE TIED CARD OF 'worldmintlaw36.MovePlans'. -/
def movePlansCard : Claim7 := { stood := { row := movePlansRow, standIns := [], harness := (true, "f44dadac1087f487e0c4cea0dd7ac996ef91d526267a1d1366140917cfeb9d30"), looks := true }, kinds := [], alts := [], laidByText := true, laidKinds := [.data, .data, .data, .data, .sentinel, .sentinel, .pinned], laidTests := true, laidLooks := .later }
def MovePlansCardSaid : Prop := Claim7.holds Tryz.pinned (.plain (OpenSpec.ofChange movePlansSpec)) movePlansCard

/-- THE TIED CARD OF 'worldmintlaw36.MoveLegs'. -/
def moveLegsCard : Claim7 := { stood := { row := moveLegsRow, standIns := [], harness := (true, "f44dadac1087f487e0c4cea0dd7ac996ef91d526267a1d1366140917cfeb9d30"), looks := true }, kinds := [], alts := [], laidByText := true, laidKinds := [.data, .data, .data, .data, .sentinel, .sentinel, .pinned], laidTests := true, laidLooks := .later }
def MoveLegsCardSaid : Prop := Claim7.holds Tryz.pinned (.plain (OpenSpec.ofChange moveLegsSpec)) moveLegsCard

/-- THE SECOND FORM's CARD OF 'worldmintlaw36.MoveHomes'. -/
def moveHomesUptoCard : Claim7 := { stood := { row := moveHomesUptoRow, standIns := [], harness := (true, "f44dadac1087f487e0c4cea0dd7ac996ef91d526267a1d1366140917cfeb9d30"), looks := true }, kinds := [], alts := [], laidByText := true, laidKinds := [.data, .data, .data, .data, .sentinel, .sentinel, .pinned], laidTests := true, laidLooks := .later }
def MoveHomesUptoCardSaid : Prop := Claim7.holds Tryz.pinned (.plain (OpenSpec.upto moveHomesSpec)) moveHomesUptoCard

/-- THE SECOND FORM's CARD OF 'worldmintlaw36.MoveSplits'. -/
def moveSplitsUptoCard : Claim7 := { stood := { row := moveSplitsUptoRow, standIns := [], harness := (true, "f44dadac1087f487e0c4cea0dd7ac996ef91d526267a1d1366140917cfeb9d30"), looks := true }, kinds := [], alts := [], laidByText := true, laidKinds := [.data, .data, .data, .data, .sentinel, .sentinel, .pinned], laidTests := true, laidLooks := .later }
def MoveSplitsUptoCardSaid : Prop := Claim7.holds Tryz.pinned (.plain (OpenSpec.upto moveSplitsSpec)) moveSplitsUptoCard

/-- THE SECOND FORM's CARD OF 'worldmintlaw36.MoveLives'. -/
def moveLivesUptoCard : Claim7 := { stood := { row := moveLivesUptoRow, standIns := [], harness := (true, "f44dadac1087f487e0c4cea0dd7ac996ef91d526267a1d1366140917cfeb9d30"), looks := true }, kinds := [], alts := [], laidByText := true, laidKinds := [.data, .data, .data, .data, .sentinel, .sentinel, .pinned], laidTests := true, laidLooks := .later }
def MoveLivesUptoCardSaid : Prop := Claim7.holds Tryz.pinned (.plain (OpenSpec.upto moveLivesSpec)) moveLivesUptoCard

/-- THE SECOND FORM's CARD OF 'worldmintlaw36.MoveMoving'. -/
def moveMovingUptoCard : Claim7 := { stood := { row := moveMovingUptoRow, standIns := [], harness := (true, "f44dadac1087f487e0c4cea0dd7ac996ef91d526267a1d1366140917cfeb9d30"), looks := true }, kinds := [], alts := [], laidByText := true, laidKinds := [.data, .data, .data, .data, .sentinel, .sentinel, .pinned], laidTests := true, laidLooks := .later }
def MoveMovingUptoCardSaid : Prop := Claim7.holds Tryz.pinned (.plain (OpenSpec.upto moveMovingSpec)) moveMovingUptoCard

/-- THE SECOND FORM's CARD OF 'worldmintlaw36.MovePlans'. -/
def movePlansUptoCard : Claim7 := { stood := { row := movePlansUptoRow, standIns := [], harness := (true, "f44dadac1087f487e0c4cea0dd7ac996ef91d526267a1d1366140917cfeb9d30"), looks := true }, kinds := [], alts := [], laidByText := true, laidKinds := [.data, .data, .data, .data, .sentinel, .sentinel, .pinned], laidTests := true, laidLooks := .later }
def MovePlansUptoCardSaid : Prop := Claim7.holds Tryz.pinned (.plain (OpenSpec.upto movePlansSpec)) movePlansUptoCard

/-- THE SECOND FORM's CARD OF 'worldmintlaw36.MoveLegs'. -/
def moveLegsUptoCard : Claim7 := { stood := { row := moveLegsUptoRow, standIns := [], harness := (true, "f44dadac1087f487e0c4cea0dd7ac996ef91d526267a1d1366140917cfeb9d30"), looks := true }, kinds := [], alts := [], laidByText := true, laidKinds := [.data, .data, .data, .data, .sentinel, .sentinel, .pinned], laidTests := true, laidLooks := .later }
def MoveLegsUptoCardSaid : Prop := Claim7.holds Tryz.pinned (.plain (OpenSpec.upto moveLegsSpec)) moveLegsUptoCard
end Rows
end Go.Proofs.YtkakfmcjiabjjaaGreatDoor
