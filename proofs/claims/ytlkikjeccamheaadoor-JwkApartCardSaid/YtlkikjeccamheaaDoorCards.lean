/-
  DERIVED. GIVEN WITH THE SEED: THE CARDS: each row of YtlkikjeccamheaaDoorRows.lean that lists a variable, with what it lists TIED to the program's text (the seventh form; the later family's looks); each row that meets fmt, with fmt's text TOLD by the authors' own Lean function (tested against real Go, not proved from fmt's source: count such statements apart). THE CARD IS WHAT COUNTS. Prove the row's statement (the work); the ties are given (YtlkikjeccamheaaDoorTie.lean); close each card by the builder's one call (the guide's Derived/Test/ToyasCard.lean, 'card_holds'). Laid BY PROGRAM, IN A SANDBOX (cutbox-door.mjs). By AI agents, Wed Nov 11 2026. No macro, syntax, notation, axiom, sorry.
-/
import Derived.Test.YtlkikjeccamheaaDoorRows
import GoSem.ClaimSeven
namespace Go.Proofs.YtlkikjeccamheaaDoor
namespace Rows

/-- THE TIED CARD OF 'brevetlaw11.JwkNames'. -/
def jwkNamesCard : Claim7 := { stood := { row := jwkNamesRow, standIns := [], harness := (true, "3cb4439a1eac194b7635d0755f5ac32a19826cfc4084b41c9075a3c4c6c73b8c"), looks := false }, kinds := [], alts := [], laidByText := true, laidKinds := [.data, .data, .pinned], laidTests := true, laidLooks := .later }
def JwkNamesCardSaid : Prop := Claim7.holds Tryd.pinned (.plain (OpenSpec.ofChange jwkNamesSpec)) jwkNamesCard

/-- THE TIED CARD OF 'brevetlaw11.JwkApart'. -/
def jwkApartCard : Claim7 := { stood := { row := jwkApartRow, standIns := [], harness := (true, "3cb4439a1eac194b7635d0755f5ac32a19826cfc4084b41c9075a3c4c6c73b8c"), looks := false }, kinds := [], alts := [], laidByText := true, laidKinds := [.data, .data, .pinned], laidTests := true, laidLooks := .later }
def JwkApartCardSaid : Prop := Claim7.holds Tryd.pinned (.plain (OpenSpec.ofChange jwkApartSpec)) jwkApartCard

/-- THE TIED CARD OF 'brevetlaw11.JwkFinds'. -/
def jwkFindsCard : Claim7 := { stood := { row := jwkFindsRow, standIns := [], harness := (true, "3cb4439a1eac194b7635d0755f5ac32a19826cfc4084b41c9075a3c4c6c73b8c"), looks := false }, kinds := [], alts := [], laidByText := true, laidKinds := [.data, .data, .pinned], laidTests := true, laidLooks := .later }
def JwkFindsCardSaid : Prop := Claim7.holds Tryd.pinned (.plain (OpenSpec.ofChange jwkFindsSpec)) jwkFindsCard

/-- THE SECOND FORM's CARD OF 'brevetlaw11.JwkNames'. -/
def jwkNamesUptoCard : Claim7 := { stood := { row := jwkNamesUptoRow, standIns := [], harness := (true, "3cb4439a1eac194b7635d0755f5ac32a19826cfc4084b41c9075a3c4c6c73b8c"), looks := false }, kinds := [], alts := [], laidByText := true, laidKinds := [.data, .data, .pinned], laidTests := true, laidLooks := .later }
def JwkNamesUptoCardSaid : Prop := Claim7.holds Tryd.pinned (.plain (OpenSpec.upto jwkNamesSpec)) jwkNamesUptoCard

/-- THE SECOND FORM's CARD OF 'brevetlaw11.JwkApart'. -/
def jwkApartUptoCard : Claim7 := { stood := { row := jwkApartUptoRow, standIns := [], harness := (true, "3cb4439a1eac194b7635d0755f5ac32a19826cfc4084b41c9075a3c4c6c73b8c"), looks := false }, kinds := [], alts := [], laidByText := true, laidKinds := [.data, .data, .pinned], laidTests := true, laidLooks := .later }
def JwkApartUptoCardSaid : Prop := Claim7.holds Tryd.pinned (.plain (OpenSpec.upto jwkApartSpec)) jwkApartUptoCard

/-- THE SECOND FORM's CARD OF 'brevetlaw11.JwkFinds'. -/
def jwkFindsUptoCard : Claim7 := { stood := { row := jwkFindsUptoRow, standIns := [], harness := (true, "3cb4439a1eac194b7635d0755f5ac32a19826cfc4084b41c9075a3c4c6c73b8c"), looks := false }, kinds := [], alts := [], laidByText := true, laidKinds := [.data, .data, .pinned], laidTests := true, laidLooks := .later }
def JwkFindsUptoCardSaid : Prop := Claim7.holds Tryd.pinned (.plain (OpenSpec.upto jwkFindsSpec)) jwkFindsUptoCard
end Rows
end Go.Proofs.YtlkikjeccamheaaDoor
