/-
  DERIVED. GIVEN WITH THE SEED: THE CARDS: each row of YtlaengnhfjlphaaGreatDoorRows.lean that lists a variable, with what it lists TIED to the program's text (the seventh form; the later family's looks); each row that meets fmt, with fmt's text TOLD by the authors' own Lean function (tested against real Go, not proved from fmt's source: count such statements apart). THE CARD IS WHAT COUNTS. Prove the row's statement (the work); the ties are given (YtlaengnhfjlphaaGreatDoorTie.lean); close each card by the builder's one call (the guide's Derived/Test/ToyasCard.lean, 'card_holds'). Laid BY PROGRAM, IN A SANDBOX (cutbox-door.mjs). By AI agents, Wed Nov 11 2026. No macro, syntax, notation, axiom, sorry.
-/
import Derived.Test.YtlaengnhfjlphaaGreatDoorRows
import GoSem.ClaimSeven
namespace Go.Proofs.YtlaengnhfjlphaaGreatDoor
namespace Rows

/-- THE TIED CARD OF 'sackunglaw12.WardenWrites'. -/
def wardenWritesCard : Claim7 := { stood := { row := wardenWritesRow, standIns := [], harness := (true, "943d012f1c7e515ed54296a0093d634e757821eec766ebd1a8bf152a890be344"), looks := true }, kinds := [], alts := [], laidByText := true, laidKinds := [.data, .data, .data, .data, .sentinel, .sentinel, .pinned], laidTests := true, laidLooks := .later }
def WardenWritesCardSaid : Prop := Claim7.holds Tryz.pinned (.plain (OpenSpec.ofChange wardenWritesSpec)) wardenWritesCard

/-- THE TIED CARD OF 'sackunglaw12.WardenStops'. -/
def wardenStopsCard : Claim7 := { stood := { row := wardenStopsRow, standIns := [], harness := (true, "943d012f1c7e515ed54296a0093d634e757821eec766ebd1a8bf152a890be344"), looks := true }, kinds := [], alts := [], laidByText := true, laidKinds := [.data, .data, .data, .data, .sentinel, .sentinel, .pinned], laidTests := true, laidLooks := .later }
def WardenStopsCardSaid : Prop := Claim7.holds Tryz.pinned (.plain (OpenSpec.ofChange wardenStopsSpec)) wardenStopsCard

/-- THE TIED CARD OF 'sackunglaw12.WardenBound'. -/
def wardenBoundCard : Claim7 := { stood := { row := wardenBoundRow, standIns := [], harness := (true, "943d012f1c7e515ed54296a0093d634e757821eec766ebd1a8bf152a890be344"), looks := true }, kinds := [], alts := [], laidByText := true, laidKinds := [.data, .data, .data, .data, .sentinel, .sentinel, .pinned], laidTests := true, laidLooks := .later }
def WardenBoundCardSaid : Prop := Claim7.holds Tryz.pinned (.plain (OpenSpec.ofChange wardenBoundSpec)) wardenBoundCard

/-- THE TIED CARD OF 'sackunglaw12.WardenFirst'. -/
def wardenFirstCard : Claim7 := { stood := { row := wardenFirstRow, standIns := [], harness := (true, "943d012f1c7e515ed54296a0093d634e757821eec766ebd1a8bf152a890be344"), looks := true }, kinds := [], alts := [], laidByText := true, laidKinds := [.data, .data, .data, .data, .sentinel, .sentinel, .pinned], laidTests := true, laidLooks := .later }
def WardenFirstCardSaid : Prop := Claim7.holds Tryz.pinned (.plain (OpenSpec.ofChange wardenFirstSpec)) wardenFirstCard

/-- THE SECOND FORM's CARD OF 'sackunglaw12.WardenWrites'. -/
def wardenWritesUptoCard : Claim7 := { stood := { row := wardenWritesUptoRow, standIns := [], harness := (true, "943d012f1c7e515ed54296a0093d634e757821eec766ebd1a8bf152a890be344"), looks := true }, kinds := [], alts := [], laidByText := true, laidKinds := [.data, .data, .data, .data, .sentinel, .sentinel, .pinned], laidTests := true, laidLooks := .later }
def WardenWritesUptoCardSaid : Prop := Claim7.holds Tryz.pinned (.plain (OpenSpec.upto wardenWritesSpec)) wardenWritesUptoCard

/-- THE SECOND FORM's CARD OF 'sackunglaw12.WardenStops'. -/
def wardenStopsUptoCard : Claim7 := { stood := { row := wardenStopsUptoRow, standIns := [], harness := (true, "943d012f1c7e515ed54296a0093d634e757821eec766ebd1a8bf152a890be344"), looks := true }, kinds := [], alts := [], laidByText := true, laidKinds := [.data, .data, .data, .data, .sentinel, .sentinel, .pinned], laidTests := true, laidLooks := .later }
def WardenStopsUptoCardSaid : Prop := Claim7.holds Tryz.pinned (.plain (OpenSpec.upto wardenStopsSpec)) wardenStopsUptoCard

/-- THE SECOND FORM's CARD OF 'sackunglaw12.WardenBound'. -/
def wardenBoundUptoCard : Claim7 := { stood := { row := wardenBoundUptoRow, standIns := [], harness := (true, "943d012f1c7e515ed54296a0093d634e757821eec766ebd1a8bf152a890be344"), looks := true }, kinds := [], alts := [], laidByText := true, laidKinds := [.data, .data, .data, .data, .sentinel, .sentinel, .pinned], laidTests := true, laidLooks := .later }
def WardenBoundUptoCardSaid : Prop := Claim7.holds Tryz.pinned (.plain (OpenSpec.upto wardenBoundSpec)) wardenBoundUptoCard

/-- THE SECOND FORM's CARD OF 'sackunglaw12.WardenFirst'. -/
def wardenFirstUptoCard : Claim7 := { stood := { row := wardenFirstUptoRow, standIns := [], harness := (true, "943d012f1c7e515ed54296a0093d634e757821eec766ebd1a8bf152a890be344"), looks := true }, kinds := [], alts := [], laidByText := true, laidKinds := [.data, .data, .data, .data, .sentinel, .sentinel, .pinned], laidTests := true, laidLooks := .later }
def WardenFirstUptoCardSaid : Prop := Claim7.holds Tryz.pinned (.plain (OpenSpec.upto wardenFirstSpec)) wardenFirstUptoCard
end Rows
end Go.Proofs.YtlaengnhfjlphaaGreatDoor
