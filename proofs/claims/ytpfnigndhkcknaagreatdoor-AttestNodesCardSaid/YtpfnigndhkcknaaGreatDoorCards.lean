/-
  DERIVED. GIVEN WITH THE SEED: THE CARDS: each row of YtpfnigndhkcknaaGreatDoorRows.lean that lists a variable, with what it lists TIED to the program's text (the seventh form; the later family's looks); each row that meets fmt, with fmt's text TOLD by the authors' own Lean function (tested against real Go, not proved from fmt's source: count such statements apart). THE CARD IS WHAT COUNTS. Prove the row's statement (the work); the ties are given (YtpfnigndhkcknaaGreatDoorTie.lean); close each card by the builder's one call (the guide's Derived/Test/ToyasCard.lean, 'card_holds'). Laid BY PROGRAM, IN A SANDBOX (cutbox-door.mjs). By AI agents, Wed Nov 11 2026. No macro, syntax, notation, axiom, sorry.
-/
import Derived.Test.YtpfnigndhkcknaaGreatDoorRows
import GoSem.ClaimSeven
namespace Go.Proofs.YtpfnigndhkcknaaGreatDoor
namespace Rows

/-- THE TIED CARD OF 'brevetlaw20.AttestNodes'. -/
def attestNodesCard : Claim7 := { stood := { row := attestNodesRow, standIns := [], harness := (true, "6fa6854da04170210e77b550f98b164ddd73875f5187cd469e1a6e315b0f0c89"), looks := false }, kinds := [], alts := [], laidByText := true, laidKinds := [.data, .pinned], laidTests := true, laidLooks := .later }
def AttestNodesCardSaid : Prop := Claim7.holds Tryz.pinned (.plain (OpenSpec.ofChange attestNodesSpec)) attestNodesCard

/-- THE SECOND FORM's CARD OF 'brevetlaw20.AttestNodes'. -/
def attestNodesUptoCard : Claim7 := { stood := { row := attestNodesUptoRow, standIns := [], harness := (true, "6fa6854da04170210e77b550f98b164ddd73875f5187cd469e1a6e315b0f0c89"), looks := false }, kinds := [], alts := [], laidByText := true, laidKinds := [.data, .pinned], laidTests := true, laidLooks := .later }
def AttestNodesUptoCardSaid : Prop := Claim7.holds Tryz.pinned (.plain (OpenSpec.upto attestNodesSpec)) attestNodesUptoCard
end Rows
end Go.Proofs.YtpfnigndhkcknaaGreatDoor
