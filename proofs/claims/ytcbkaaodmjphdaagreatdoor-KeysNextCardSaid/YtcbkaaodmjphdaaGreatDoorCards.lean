/-
  DERIVED. GIVEN WITH THE SEED: THE CARDS: each row of YtcbkaaodmjphdaaGreatDoorRows.lean that lists a variable, with what it lists TIED to the program's text (the seventh form; the later family's looks); each row that meets fmt, with fmt's text TOLD by the authors' own Lean function (tested against real Go, not proved from fmt's source: count such statements apart). THE CARD IS WHAT COUNTS. Prove the row's statement (the work); the ties are given (YtcbkaaodmjphdaaGreatDoorTie.lean); close each card by the builder's one call (the guide's Derived/Test/ToyasCard.lean, 'card_holds'). Laid BY PROGRAM, IN A SANDBOX (cutbox-door.mjs). By AI agents, Wed Nov 11 2026. No macro, syntax, notation, axiom, sorry.
-/
import Derived.Test.YtcbkaaodmjphdaaGreatDoorRows
import GoSem.ClaimSeven
namespace Go.Proofs.YtcbkaaodmjphdaaGreatDoor
namespace Rows

/-- THE TIED CARD OF 'brevetlaw19.KeysNext'. -/
def keysNextCard : Claim7 := { stood := { row := keysNextRow, standIns := [], harness := (true, "0a14b84a8469a56d708c0e747c7eccf4dc36af1cf25f5e1ca49cced2b6b16f70"), looks := false }, kinds := [], alts := [], laidByText := true, laidKinds := [.data], laidTests := true, laidLooks := .later }
def KeysNextCardSaid : Prop := Claim7.holds Tryz.pinned (.plain (OpenSpec.ofChange keysNextSpec)) keysNextCard

/-- THE SECOND FORM's CARD OF 'brevetlaw19.KeysNext'. -/
def keysNextUptoCard : Claim7 := { stood := { row := keysNextUptoRow, standIns := [], harness := (true, "0a14b84a8469a56d708c0e747c7eccf4dc36af1cf25f5e1ca49cced2b6b16f70"), looks := false }, kinds := [], alts := [], laidByText := true, laidKinds := [.data], laidTests := true, laidLooks := .later }
def KeysNextUptoCardSaid : Prop := Claim7.holds Tryz.pinned (.plain (OpenSpec.upto keysNextSpec)) keysNextUptoCard
end Rows
end Go.Proofs.YtcbkaaodmjphdaaGreatDoor
