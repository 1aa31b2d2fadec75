/-
  DERIVED. GIVEN WITH THE SEED: THE CARDS: each row of YtilhhigdegccgaaDoorRows.lean that lists a variable, with what it lists TIED to the program's text (the seventh form; the later family's looks); each row that meets fmt, with fmt's text TOLD by the authors' own Lean function (tested against real Go, not proved from fmt's source: count such statements apart). THE CARD IS WHAT COUNTS. Prove the row's statement (the work); the ties are given (YtilhhigdegccgaaDoorTie.lean); close each card by the builder's one call (the guide's Derived/Test/ToyasCard.lean, 'card_holds'). Laid BY PROGRAM, IN A SANDBOX (cutbox-door.mjs). By AI agents, Wed Nov 11 2026. No macro, syntax, notation, axiom, sorry.
-/
import Derived.Test.YtilhhigdegccgaaDoorRows
import GoSem.ClaimSeven
namespace Go.Proofs.YtilhhigdegccgaaDoor
namespace Rows

/-- THE TIED CARD OF 'brevetlaw20.AttestBanned'. -/
def attestBannedCard : Claim7 := { stood := { row := attestBannedRow, standIns := [], harness := (true, "6cb0adf64617bdfcc052e6bd1ed71ec251115ae98ae1353dcd5cb3bf198836f4"), looks := false }, kinds := [], alts := [], laidByText := true, laidKinds := [.data, .pinned], laidTests := true, laidLooks := .later }
def AttestBannedCardSaid : Prop := Claim7.holds Tryd.pinned (.plain (OpenSpec.ofChange attestBannedSpec)) attestBannedCard

/-- THE SECOND FORM's CARD OF 'brevetlaw20.AttestBanned'. -/
def attestBannedUptoCard : Claim7 := { stood := { row := attestBannedUptoRow, standIns := [], harness := (true, "6cb0adf64617bdfcc052e6bd1ed71ec251115ae98ae1353dcd5cb3bf198836f4"), looks := false }, kinds := [], alts := [], laidByText := true, laidKinds := [.data, .pinned], laidTests := true, laidLooks := .later }
def AttestBannedUptoCardSaid : Prop := Claim7.holds Tryd.pinned (.plain (OpenSpec.upto attestBannedSpec)) attestBannedUptoCard
end Rows
end Go.Proofs.YtilhhigdegccgaaDoor
