/-
  DERIVED. GIVEN WITH THE SEED: THE CARDS: each row of YtlkikjeccamheaaGreatDoorRows.lean that lists a variable, with what it lists TIED to the program's text (the seventh form; the later family's looks); each row that meets fmt, with fmt's text TOLD by the authors' own Lean function (tested against real Go, not proved from fmt's source: count such statements apart). THE CARD IS WHAT COUNTS. Prove the row's statement (the work); the ties are given (YtlkikjeccamheaaGreatDoorTie.lean); close each card by the builder's one call (the guide's Derived/Test/ToyasCard.lean, 'card_holds'). Laid BY PROGRAM, IN A SANDBOX (cutbox-door.mjs). By AI agents, Wed Nov 11 2026. No macro, syntax, notation, axiom, sorry.
-/
import Derived.Test.YtlkikjeccamheaaGreatDoorRows
import GoSem.ClaimSeven
namespace Go.Proofs.YtlkikjeccamheaaGreatDoor
namespace Rows

/-- THE TIED CARD OF 'brevetlaw11.JwkWrites'. -/
def jwkWritesCard : Claim7 := { stood := { row := jwkWritesRow, standIns := [], harness := (true, "babb35e591ff3c4d261a651cc7c18cc5d12451f712e2205b77aee1d6ceea5473"), looks := false }, kinds := [], alts := [], laidByText := true, laidKinds := [.data, .data, .pinned], laidTests := true, laidLooks := .later }
def JwkWritesCardSaid : Prop := Claim7.holds Tryz.pinned (.plain (OpenSpec.ofChange jwkWritesSpec)) jwkWritesCard

/-- THE TIED CARD OF 'brevetlaw11.JwkReads'. -/
def jwkReadsCard : Claim7 := { stood := { row := jwkReadsRow, standIns := [], harness := (true, "babb35e591ff3c4d261a651cc7c18cc5d12451f712e2205b77aee1d6ceea5473"), looks := false }, kinds := [], alts := [], laidByText := true, laidKinds := [.data, .data, .pinned], laidTests := true, laidLooks := .later }
def JwkReadsCardSaid : Prop := Claim7.holds Tryz.pinned (.plain (OpenSpec.ofChange jwkReadsSpec)) jwkReadsCard

/-- THE SECOND FORM's CARD OF 'brevetlaw11.JwkWrites'. -/
def jwkWritesUptoCard : Claim7 := { stood := { row := jwkWritesUptoRow, standIns := [], harness := (true, "babb35e591ff3c4d261a651cc7c18cc5d12451f712e2205b77aee1d6ceea5473"), looks := false }, kinds := [], alts := [], laidByText := true, laidKinds := [.data, .data, .pinned], laidTests := true, laidLooks := .later }
def JwkWritesUptoCardSaid : Prop := Claim7.holds Tryz.pinned (.plain (OpenSpec.upto jwkWritesSpec)) jwkWritesUptoCard

/-- THE SECOND FORM's CARD OF 'brevetlaw11.JwkReads'. -/
def jwkReadsUptoCard : Claim7 := { stood := { row := jwkReadsUptoRow, standIns := [], harness := (true, "babb35e591ff3c4d261a651cc7c18cc5d12451f712e2205b77aee1d6ceea5473"), looks := false }, kinds := [], alts := [], laidByText := true, laidKinds := [.data, .data, .pinned], laidTests := true, laidLooks := .later }
def JwkReadsUptoCardSaid : Prop := Claim7.holds Tryz.pinned (.plain (OpenSpec.upto jwkReadsSpec)) jwkReadsUptoCard
end Rows
end Go.Proofs.YtlkikjeccamheaaGreatDoor
