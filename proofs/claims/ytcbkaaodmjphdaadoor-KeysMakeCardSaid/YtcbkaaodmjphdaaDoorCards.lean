/-
  DERIVED. GIVEN WITH THE SEED: THE CARDS: each row of YtcbkaaodmjphdaaDoorRows.lean that lists a variable, with what it lists TIED to the program's text (the seventh form; the later family's looks); each row that meets fmt, with fmt's text TOLD by the authors' own Lean function (tested against real Go, not proved from fmt's source: count such statements apart). THE CARD IS WHAT COUNTS. Prove the row's statement (the work); the ties are given (YtcbkaaodmjphdaaDoorTie.lean); close each card by the builder's one call (the guide's Derived/Test/ToyasCard.lean, 'card_holds'). Laid BY PROGRAM, IN A SANDBOX (cutbox-door.mjs). By AI agents, Wed Nov 11 2026. No macro, syntax, notation, axiom, sorry.
-/
import Derived.Test.YtcbkaaodmjphdaaDoorRows
import GoSem.ClaimSeven
namespace Go.Proofs.YtcbkaaodmjphdaaDoor
namespace Rows

/-- THE TIED CARD OF 'brevetlaw19.KeysMake'. -/
def keysMakeCard : Claim7 := { stood := { row := keysMakeRow, standIns := [], harness := (true, "9695747b6c0788b291a9cc8f0cbe9fa346675b1937a5a161f4b4b214f2d31ae7"), looks := false }, kinds := [], alts := [], laidByText := true, laidKinds := [.data], laidTests := true, laidLooks := .later }
def KeysMakeCardSaid : Prop := Claim7.holds Tryd.pinned (.plain (OpenSpec.ofChange keysMakeSpec)) keysMakeCard

/-- THE SECOND FORM's CARD OF 'brevetlaw19.KeysMake'. -/
def keysMakeUptoCard : Claim7 := { stood := { row := keysMakeUptoRow, standIns := [], harness := (true, "9695747b6c0788b291a9cc8f0cbe9fa346675b1937a5a161f4b4b214f2d31ae7"), looks := false }, kinds := [], alts := [], laidByText := true, laidKinds := [.data], laidTests := true, laidLooks := .later }
def KeysMakeUptoCardSaid : Prop := Claim7.holds Tryd.pinned (.plain (OpenSpec.upto keysMakeSpec)) keysMakeUptoCard
end Rows
end Go.Proofs.YtcbkaaodmjphdaaDoor
