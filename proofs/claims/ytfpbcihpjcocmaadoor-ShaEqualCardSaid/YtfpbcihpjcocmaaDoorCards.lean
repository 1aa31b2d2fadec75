/-
  DERIVED. GIVEN WITH THE SEED: THE CARDS: each row of YtfpbcihpjcocmaaDoorRows.lean that lists a variable, with what it lists TIED to the program's text (the seventh form; the later family's looks); each row that meets fmt, with fmt's text TOLD by the authors' own Lean function (tested against real Go, not proved from fmt's source: count such statements apart). THE CARD IS WHAT COUNTS. Prove the row's statement (the work); the ties are given (YtfpbcihpjcocmaaDoorTie.lean); close each card by the builder's one call (the guide's Derived/Test/ToyasCard.lean, 'card_holds'). Laid BY PROGRAM, IN A SANDBOX (cutbox-door.mjs). By AI agents, Wed Nov 11 2026. No macro, syntax, notation, axiom, sorry.
-/
import Derived.Test.YtfpbcihpjcocmaaDoorRows
import GoSem.ClaimSeven
namespace Go.Proofs.YtfpbcihpjcocmaaDoor
namespace Rows

/-- THE TIED CARD OF 'brevetlaw01.Sha256'. -/
def sha256Card : Claim7 := { stood := { row := sha256Row, standIns := [], harness := (true, "a7486a48ba759a6466b8dd5c8b7ffeb79a752895c2616d3644a78786c2b6a528"), looks := false }, kinds := [], alts := [], laidByText := true, laidKinds := [.data], laidTests := true, laidLooks := .later }
def Sha256CardSaid : Prop := Claim7.holds Tryd.pinned (.plain (OpenSpec.ofChange sha256Spec)) sha256Card

/-- THE TIED CARD OF 'brevetlaw01.Sha512'. -/
def sha512Card : Claim7 := { stood := { row := sha512Row, standIns := [], harness := (true, "a7486a48ba759a6466b8dd5c8b7ffeb79a752895c2616d3644a78786c2b6a528"), looks := false }, kinds := [], alts := [], laidByText := true, laidKinds := [.data], laidTests := true, laidLooks := .later }
def Sha512CardSaid : Prop := Claim7.holds Tryd.pinned (.plain (OpenSpec.ofChange sha512Spec)) sha512Card

/-- THE TIED CARD OF 'brevetlaw01.ShaLengths'. -/
def shaLengthsCard : Claim7 := { stood := { row := shaLengthsRow, standIns := [], harness := (true, "a7486a48ba759a6466b8dd5c8b7ffeb79a752895c2616d3644a78786c2b6a528"), looks := false }, kinds := [], alts := [], laidByText := true, laidKinds := [.data], laidTests := true, laidLooks := .later }
def ShaLengthsCardSaid : Prop := Claim7.holds Tryd.pinned (.plain (OpenSpec.ofChange shaLengthsSpec)) shaLengthsCard

/-- THE TIED CARD OF 'brevetlaw01.ShaOwns'. -/
def shaOwnsCard : Claim7 := { stood := { row := shaOwnsRow, standIns := [], harness := (true, "a7486a48ba759a6466b8dd5c8b7ffeb79a752895c2616d3644a78786c2b6a528"), looks := false }, kinds := [], alts := [], laidByText := true, laidKinds := [.data], laidTests := true, laidLooks := .later }
def ShaOwnsCardSaid : Prop := Claim7.holds Tryd.pinned (.plain (OpenSpec.ofChange shaOwnsSpec)) shaOwnsCard

/-- THE TIED CARD OF 'brevetlaw01.ShaEqual'. -/
def shaEqualCard : Claim7 := { stood := { row := shaEqualRow, standIns := [], harness := (true, "a7486a48ba759a6466b8dd5c8b7ffeb79a752895c2616d3644a78786c2b6a528"), looks := false }, kinds := [], alts := [], laidByText := true, laidKinds := [.data], laidTests := true, laidLooks := .later }
def ShaEqualCardSaid : Prop := Claim7.holds Tryd.pinned (.plain (OpenSpec.ofChange shaEqualSpec)) shaEqualCard

/-- THE SECOND FORM's CARD OF 'brevetlaw01.Sha256'. -/
def sha256UptoCard : Claim7 := { stood := { row := sha256UptoRow, standIns := [], harness := (true, "a7486a48ba759a6466b8dd5c8b7ffeb79a752895c2616d3644a78786c2b6a528"), looks := false }, kinds := [], alts := [], laidByText := true, laidKinds := [.data], laidTests := true, laidLooks := .later }
def Sha256UptoCardSaid : Prop := Claim7.holds Tryd.pinned (.plain (OpenSpec.upto sha256Spec)) sha256UptoCard

/-- THE SECOND FORM's CARD OF 'brevetlaw01.Sha512'. -/
def sha512UptoCard : Claim7 := { stood := { row := sha512UptoRow, standIns := [], harness := (true, "a7486a48ba759a6466b8dd5c8b7ffeb79a752895c2616d3644a78786c2b6a528"), looks := false }, kinds := [], alts := [], laidByText := true, laidKinds := [.data], laidTests := true, laidLooks := .later }
def Sha512UptoCardSaid : Prop := Claim7.holds Tryd.pinned (.plain (OpenSpec.upto sha512Spec)) sha512UptoCard

/-- THE SECOND FORM's CARD OF 'brevetlaw01.ShaLengths'. -/
def shaLengthsUptoCard : Claim7 := { stood := { row := shaLengthsUptoRow, standIns := [], harness := (true, "a7486a48ba759a6466b8dd5c8b7ffeb79a752895c2616d3644a78786c2b6a528"), looks := false }, kinds := [], alts := [], laidByText := true, laidKinds := [.data], laidTests := true, laidLooks := .later }
def ShaLengthsUptoCardSaid : Prop := Claim7.holds Tryd.pinned (.plain (OpenSpec.upto shaLengthsSpec)) shaLengthsUptoCard

/-- THE SECOND FORM's CARD OF 'brevetlaw01.ShaOwns'. -/
def shaOwnsUptoCard : Claim7 := { stood := { row := shaOwnsUptoRow, standIns := [], harness := (true, "a7486a48ba759a6466b8dd5c8b7ffeb79a752895c2616d3644a78786c2b6a528"), looks := false }, kinds := [], alts := [], laidByText := true, laidKinds := [.data], laidTests := true, laidLooks := .later }
def ShaOwnsUptoCardSaid : Prop := Claim7.holds Tryd.pinned (.plain (OpenSpec.upto shaOwnsSpec)) shaOwnsUptoCard

/-- THE SECOND FORM's CARD OF 'brevetlaw01.ShaEqual'. -/
def shaEqualUptoCard : Claim7 := { stood := { row := shaEqualUptoRow, standIns := [], harness := (true, "a7486a48ba759a6466b8dd5c8b7ffeb79a752895c2616d3644a78786c2b6a528"), looks := false }, kinds := [], alts := [], laidByText := true, laidKinds := [.data], laidTests := true, laidLooks := .later }
def ShaEqualUptoCardSaid : Prop := Claim7.holds Tryd.pinned (.plain (OpenSpec.upto shaEqualSpec)) shaEqualUptoCard
end Rows
end Go.Proofs.YtfpbcihpjcocmaaDoor
