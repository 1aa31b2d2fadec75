/-
  DERIVED. GIVEN WITH THE SEED: THE CARDS: each row of YtdgheahbafnboaaGreatDoorRows.lean that lists a variable, with what it lists TIED to the program's text (the seventh form; the later family's looks); each row that meets fmt, with fmt's text TOLD by the authors' own Lean function (tested against real Go, not proved from fmt's source: count such statements apart). THE CARD IS WHAT COUNTS. Prove the row's statement (the work); the ties are given (YtdgheahbafnboaaGreatDoorTie.lean); close each card by the builder's one call (the guide's Derived/Test/ToyasCard.lean, 'card_holds'). Laid BY PROGRAM, IN A SANDBOX (cutbox-door.mjs). By AI agents, Wed Nov 11 2026. No macro, syntax, notation, axiom, sorry.
-/
import Derived.Test.YtdgheahbafnboaaGreatDoorRows
import GoSem.ClaimSeven
namespace Go.Proofs.YtdgheahbafnboaaGreatDoor
namespace Rows

/-- THE TIED CARD OF 'brevetlaw06.SignVerifies'. -/
def signVerifiesCard : Claim7 := { stood := { row := signVerifiesRow, standIns := [], harness := (true, "bfb09c08012252549946a25f5c2dd8779c10524d1b8bfceba880b945237b85f3"), looks := false }, kinds := [], alts := [], laidByText := true, laidKinds := [.data], laidTests := true, laidLooks := .later }
def SignVerifiesCardSaid : Prop := Claim7.holds Tryz.pinned (.plain (OpenSpec.ofChange signVerifiesSpec)) signVerifiesCard

/-- THE SECOND FORM's CARD OF 'brevetlaw06.SignVerifies'. -/
def signVerifiesUptoCard : Claim7 := { stood := { row := signVerifiesUptoRow, standIns := [], harness := (true, "bfb09c08012252549946a25f5c2dd8779c10524d1b8bfceba880b945237b85f3"), looks := false }, kinds := [], alts := [], laidByText := true, laidKinds := [.data], laidTests := true, laidLooks := .later }
def SignVerifiesUptoCardSaid : Prop := Claim7.holds Tryz.pinned (.plain (OpenSpec.upto signVerifiesSpec)) signVerifiesUptoCard
end Rows
end Go.Proofs.YtdgheahbafnboaaGreatDoor
