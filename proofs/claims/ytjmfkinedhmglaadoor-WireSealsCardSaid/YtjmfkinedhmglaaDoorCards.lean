/-
  DERIVED. GIVEN WITH THE SEED: THE CARDS: each row of YtjmfkinedhmglaaDoorRows.lean that lists a variable, with what it lists TIED to the program's text (the seventh form; the later family's looks); each row that meets fmt, with fmt's text TOLD by the authors' own Lean function (tested against real Go, not proved from fmt's source: count such statements apart). THE CARD IS WHAT COUNTS. Prove the row's statement (the work); the ties are given (YtjmfkinedhmglaaDoorTie.lean); close each card by the builder's one call (the guide's Derived/Test/ToyasCard.lean, 'card_holds'). Laid BY PROGRAM, IN A SANDBOX (cutbox-door.mjs). By AI agents, Wed Nov 11 2026. No macro, syntax, notation, axiom, sorry.
-/
import Derived.Test.YtjmfkinedhmglaaDoorRows
import GoSem.ClaimSeven
namespace Go.Proofs.YtjmfkinedhmglaaDoor
namespace Rows

/-- THE TIED CARD OF 'brevetlaw12.WireChecks'. -/
def wireChecksCard : Claim7 := { stood := { row := wireChecksRow, standIns := [], harness := (true, "9af6ed4c055c7f93735f68cf44f20d2d2a2806192a3b95abb8fd58fc27c4a1c7"), looks := false }, kinds := [], alts := [], laidByText := true, laidKinds := [.data], laidTests := true, laidLooks := .later }
def WireChecksCardSaid : Prop := Claim7.holds Tryd.pinned (.plain (OpenSpec.ofChange wireChecksSpec)) wireChecksCard

/-- THE TIED CARD OF 'brevetlaw12.WireSeals'. -/
def wireSealsCard : Claim7 := { stood := { row := wireSealsRow, standIns := [], harness := (true, "9af6ed4c055c7f93735f68cf44f20d2d2a2806192a3b95abb8fd58fc27c4a1c7"), looks := false }, kinds := [], alts := [], laidByText := true, laidKinds := [.data], laidTests := true, laidLooks := .later }
def WireSealsCardSaid : Prop := Claim7.holds Tryd.pinned (.plain (OpenSpec.ofChange wireSealsSpec)) wireSealsCard

/-- THE SECOND FORM's CARD OF 'brevetlaw12.WireChecks'. -/
def wireChecksUptoCard : Claim7 := { stood := { row := wireChecksUptoRow, standIns := [], harness := (true, "9af6ed4c055c7f93735f68cf44f20d2d2a2806192a3b95abb8fd58fc27c4a1c7"), looks := false }, kinds := [], alts := [], laidByText := true, laidKinds := [.data], laidTests := true, laidLooks := .later }
def WireChecksUptoCardSaid : Prop := Claim7.holds Tryd.pinned (.plain (OpenSpec.upto wireChecksSpec)) wireChecksUptoCard

/-- THE SECOND FORM's CARD OF 'brevetlaw12.WireSeals'. -/
def wireSealsUptoCard : Claim7 := { stood := { row := wireSealsUptoRow, standIns := [], harness := (true, "9af6ed4c055c7f93735f68cf44f20d2d2a2806192a3b95abb8fd58fc27c4a1c7"), looks := false }, kinds := [], alts := [], laidByText := true, laidKinds := [.data], laidTests := true, laidLooks := .later }
def WireSealsUptoCardSaid : Prop := Claim7.holds Tryd.pinned (.plain (OpenSpec.upto wireSealsSpec)) wireSealsUptoCard
end Rows
end Go.Proofs.YtjmfkinedhmglaaDoor
