/-
  DERIVED. GIVEN WITH THE SEED: THE CARDS: each row of YtoihgnkhalhocaaGreatDoorRows.lean that lists a variable, with what it lists TIED to the program's text (the seventh form; the later family's looks); each row that meets fmt, with fmt's text TOLD by the authors' own Lean function (tested against real Go, not proved from fmt's source: count such statements apart). THE CARD IS WHAT COUNTS. Prove the row's statement (the work); the ties are given (YtoihgnkhalhocaaGreatDoorTie.lean); close each card by the builder's one call (the guide's Derived/Test/ToyasCard.lean, 'card_holds'). Laid BY PROGRAM, IN A SANDBOX (cutbox-door.mjs). By AI agents, Wed Nov 11 2026. No macro, syntax, notation, axiom, sorry.
-/
import Derived.Test.YtoihgnkhalhocaaGreatDoorRows
import GoSem.ClaimSeven
namespace Go.Proofs.YtoihgnkhalhocaaGreatDoor
namespace Rows

/-- THE TIED CARD OF 'brevetlaw23.FedHolds'. -/
def fedHoldsCard : Claim7 := { stood := { row := fedHoldsRow, standIns := [], harness := (true, "8b861fe5ebc826a81b8bd184bdb3eae60495d583403ec6ad09d182f9c633ce99"), looks := false }, kinds := [], alts := [], laidByText := true, laidKinds := [.data, .data, .pinned], laidTests := true, laidLooks := .later }
def FedHoldsCardSaid : Prop := Claim7.holds Tryz.pinned (.plain (OpenSpec.ofChange fedHoldsSpec)) fedHoldsCard

/-- THE TIED CARD OF 'brevetlaw23.FedOwns'. -/
def fedOwnsCard : Claim7 := { stood := { row := fedOwnsRow, standIns := [], harness := (true, "8b861fe5ebc826a81b8bd184bdb3eae60495d583403ec6ad09d182f9c633ce99"), looks := false }, kinds := [], alts := [], laidByText := true, laidKinds := [.data, .data, .pinned], laidTests := true, laidLooks := .later }
def FedOwnsCardSaid : Prop := Claim7.holds Tryz.pinned (.plain (OpenSpec.ofChange fedOwnsSpec)) fedOwnsCard

/-- THE SECOND FORM's CARD OF 'brevetlaw23.FedHolds'. -/
def fedHoldsUptoCard : Claim7 := { stood := { row := fedHoldsUptoRow, standIns := [], harness := (true, "8b861fe5ebc826a81b8bd184bdb3eae60495d583403ec6ad09d182f9c633ce99"), looks := false }, kinds := [], alts := [], laidByText := true, laidKinds := [.data, .data, .pinned], laidTests := true, laidLooks := .later }
def FedHoldsUptoCardSaid : Prop := Claim7.holds Tryz.pinned (.plain (OpenSpec.upto fedHoldsSpec)) fedHoldsUptoCard

/-- THE SECOND FORM's CARD OF 'brevetlaw23.FedOwns'. -/
def fedOwnsUptoCard : Claim7 := { stood := { row := fedOwnsUptoRow, standIns := [], harness := (true, "8b861fe5ebc826a81b8bd184bdb3eae60495d583403ec6ad09d182f9c633ce99"), looks := false }, kinds := [], alts := [], laidByText := true, laidKinds := [.data, .data, .pinned], laidTests := true, laidLooks := .later }
def FedOwnsUptoCardSaid : Prop := Claim7.holds Tryz.pinned (.plain (OpenSpec.upto fedOwnsSpec)) fedOwnsUptoCard
end Rows
end Go.Proofs.YtoihgnkhalhocaaGreatDoor
