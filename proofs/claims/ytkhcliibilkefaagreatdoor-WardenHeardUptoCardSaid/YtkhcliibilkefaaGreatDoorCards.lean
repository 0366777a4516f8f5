/-
  DERIVED. GIVEN WITH THE SEED: THE CARDS: each row of YtkhcliibilkefaaGreatDoorRows.lean that lists a variable, with what it lists TIED to the program's text (the seventh form; the later family's looks); each row that meets fmt, with fmt's text TOLD by the authors' own Lean function (tested against real Go, not proved from fmt's source: count such statements apart). THE CARD IS WHAT COUNTS. Prove the row's statement (the work); the ties are given (YtkhcliibilkefaaGreatDoorTie.lean); close each card by the builder's one call (the guide's Derived/Test/ToyasCard.lean, 'card_holds'). Laid BY PROGRAM, IN A SANDBOX (cutbox-door.mjs). By AI agents, Wed Nov 11 2026. No macro, syntax, notation, axiom, sorry.
-/
import Derived.Test.YtkhcliibilkefaaGreatDoorRows
import GoSem.ClaimSeven
namespace Go.Proofs.YtkhcliibilkefaaGreatDoor
namespace Rows

/-- THE TIED CARD OF 'sackunglaw12.WardenHeard'. -/
def wardenHeardCard : Claim7 := { stood := { row := wardenHeardRow, standIns := [], harness := (true, "0e4592127db01ef88d95aa5fdc45a37e7b30ff5c2d0c971b8e1b593eae3ae633"), looks := true }, kinds := [], alts := [], laidByText := true, laidKinds := [.data, .data, .data, .data, .sentinel, .sentinel, .pinned], laidTests := true, laidLooks := .later }
def WardenHeardCardSaid : Prop := Claim7.holds Tryz.pinned (.plain (OpenSpec.ofChange wardenHeardSpec)) wardenHeardCard

/-- THE TIED CARD OF 'sackunglaw12.WardenGoesOn'. -/
def wardenGoesOnCard : Claim7 := { stood := { row := wardenGoesOnRow, standIns := [], harness := (true, "0e4592127db01ef88d95aa5fdc45a37e7b30ff5c2d0c971b8e1b593eae3ae633"), looks := true }, kinds := [], alts := [], laidByText := true, laidKinds := [.data, .data, .data, .data, .sentinel, .sentinel, .pinned], laidTests := true, laidLooks := .later }
def WardenGoesOnCardSaid : Prop := Claim7.holds Tryz.pinned (.plain (OpenSpec.ofChange wardenGoesOnSpec)) wardenGoesOnCard

/-- THE SECOND FORM's CARD OF 'sackunglaw12.WardenHeard'. -/
def wardenHeardUptoCard : Claim7 := { stood := { row := wardenHeardUptoRow, standIns := [], harness := (true, "0e4592127db01ef88d95aa5fdc45a37e7b30ff5c2d0c971b8e1b593eae3ae633"), looks := true }, kinds := [], alts := [], laidByText := true, laidKinds := [.data, .data, .data, .data, .sentinel, .sentinel, .pinned], laidTests := true, laidLooks := .later }
def WardenHeardUptoCardSaid : Prop := Claim7.holds Tryz.pinned (.plain (OpenSpec.upto wardenHeardSpec)) wardenHeardUptoCard

/-- THE SECOND FORM's CARD OF 'sackunglaw12.WardenGoesOn'. -/
def wardenGoesOnUptoCard : Claim7 := { stood := { row := wardenGoesOnUptoRow, standIns := [], harness := (true, "0e4592127db01ef88d95aa5fdc45a37e7b30ff5c2d0c971b8e1b593eae3ae633"), looks := true }, kinds := [], alts := [], laidByText := true, laidKinds := [.data, .data, .data, .data, .sentinel, .sentinel, .pinned], laidTests := true, laidLooks := .later }
def WardenGoesOnUptoCardSaid : Prop := Claim7.holds Tryz.pinned (.plain (OpenSpec.upto wardenGoesOnSpec)) wardenGoesOnUptoCard
end Rows
end Go.Proofs.YtkhcliibilkefaaGreatDoor
