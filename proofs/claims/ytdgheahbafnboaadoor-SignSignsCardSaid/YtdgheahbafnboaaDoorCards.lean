/-
  DERIVED. GIVEN WITH THE SEED: THE CARDS: each row of YtdgheahbafnboaaDoorRows.lean that lists a variable, with what it lists TIED to the program's text (the seventh form; the later family's looks); each row that meets fmt, with fmt's text TOLD by the authors' own Lean function (tested against real Go, not proved from fmt's source: count such statements apart). THE CARD IS WHAT COUNTS. Prove the row's statement (the work); the ties are given (YtdgheahbafnboaaDoorTie.lean); close each card by the builder's one call (the guide's Derived/Test/ToyasCard.lean, 'card_holds'). Laid BY PROGRAM, IN A SANDBOX (cutbox-door.mjs). By AI agents, Wed Nov 11 2026. No macro, syntax, notation, axiom, sorry.
-/
import Derived.Test.YtdgheahbafnboaaDoorRows
import GoSem.ClaimSeven
namespace Go.Proofs.YtdgheahbafnboaaDoor
namespace Rows

/-- THE TIED CARD OF 'brevetlaw06.SignPublic'. -/
def signPublicCard : Claim7 := { stood := { row := signPublicRow, standIns := [], harness := (true, "0784ad3089ade6ce65c23d6f7e779087f08751140f5f821148598f103a639288"), looks := false }, kinds := [], alts := [], laidByText := true, laidKinds := [.data], laidTests := true, laidLooks := .later }
def SignPublicCardSaid : Prop := Claim7.holds Tryd.pinned (.plain (OpenSpec.ofChange signPublicSpec)) signPublicCard

/-- THE TIED CARD OF 'brevetlaw06.SignSigns'. -/
def signSignsCard : Claim7 := { stood := { row := signSignsRow, standIns := [], harness := (true, "0784ad3089ade6ce65c23d6f7e779087f08751140f5f821148598f103a639288"), looks := false }, kinds := [], alts := [], laidByText := true, laidKinds := [.data], laidTests := true, laidLooks := .later }
def SignSignsCardSaid : Prop := Claim7.holds Tryd.pinned (.plain (OpenSpec.ofChange signSignsSpec)) signSignsCard

/-- THE TIED CARD OF 'brevetlaw06.SignRound'. -/
def signRoundCard : Claim7 := { stood := { row := signRoundRow, standIns := [], harness := (true, "0784ad3089ade6ce65c23d6f7e779087f08751140f5f821148598f103a639288"), looks := false }, kinds := [], alts := [], laidByText := true, laidKinds := [.data], laidTests := true, laidLooks := .later }
def SignRoundCardSaid : Prop := Claim7.holds Tryd.pinned (.plain (OpenSpec.ofChange signRoundSpec)) signRoundCard

/-- THE TIED CARD OF 'brevetlaw06.SignGreat'. -/
def signGreatCard : Claim7 := { stood := { row := signGreatRow, standIns := [], harness := (true, "0784ad3089ade6ce65c23d6f7e779087f08751140f5f821148598f103a639288"), looks := false }, kinds := [], alts := [], laidByText := true, laidKinds := [.data], laidTests := true, laidLooks := .later }
def SignGreatCardSaid : Prop := Claim7.holds Tryd.pinned (.plain (OpenSpec.ofChange signGreatSpec)) signGreatCard

/-- THE TIED CARD OF 'brevetlaw06.SignOwns'. -/
def signOwnsCard : Claim7 := { stood := { row := signOwnsRow, standIns := [], harness := (true, "0784ad3089ade6ce65c23d6f7e779087f08751140f5f821148598f103a639288"), looks := false }, kinds := [], alts := [], laidByText := true, laidKinds := [.data], laidTests := true, laidLooks := .later }
def SignOwnsCardSaid : Prop := Claim7.holds Tryd.pinned (.plain (OpenSpec.ofChange signOwnsSpec)) signOwnsCard

/-- THE SECOND FORM's CARD OF 'brevetlaw06.SignPublic'. -/
def signPublicUptoCard : Claim7 := { stood := { row := signPublicUptoRow, standIns := [], harness := (true, "0784ad3089ade6ce65c23d6f7e779087f08751140f5f821148598f103a639288"), looks := false }, kinds := [], alts := [], laidByText := true, laidKinds := [.data], laidTests := true, laidLooks := .later }
def SignPublicUptoCardSaid : Prop := Claim7.holds Tryd.pinned (.plain (OpenSpec.upto signPublicSpec)) signPublicUptoCard

/-- THE SECOND FORM's CARD OF 'brevetlaw06.SignSigns'. -/
def signSignsUptoCard : Claim7 := { stood := { row := signSignsUptoRow, standIns := [], harness := (true, "0784ad3089ade6ce65c23d6f7e779087f08751140f5f821148598f103a639288"), looks := false }, kinds := [], alts := [], laidByText := true, laidKinds := [.data], laidTests := true, laidLooks := .later }
def SignSignsUptoCardSaid : Prop := Claim7.holds Tryd.pinned (.plain (OpenSpec.upto signSignsSpec)) signSignsUptoCard

/-- THE SECOND FORM's CARD OF 'brevetlaw06.SignRound'. -/
def signRoundUptoCard : Claim7 := { stood := { row := signRoundUptoRow, standIns := [], harness := (true, "0784ad3089ade6ce65c23d6f7e779087f08751140f5f821148598f103a639288"), looks := false }, kinds := [], alts := [], laidByText := true, laidKinds := [.data], laidTests := true, laidLooks := .later }
def SignRoundUptoCardSaid : Prop := Claim7.holds Tryd.pinned (.plain (OpenSpec.upto signRoundSpec)) signRoundUptoCard

/-- THE SECOND FORM's CARD OF 'brevetlaw06.SignGreat'. -/
def signGreatUptoCard : Claim7 := { stood := { row := signGreatUptoRow, standIns := [], harness := (true, "0784ad3089ade6ce65c23d6f7e779087f08751140f5f821148598f103a639288"), looks := false }, kinds := [], alts := [], laidByText := true, laidKinds := [.data], laidTests := true, laidLooks := .later }
def SignGreatUptoCardSaid : Prop := Claim7.holds Tryd.pinned (.plain (OpenSpec.upto signGreatSpec)) signGreatUptoCard

/-- THE SECOND FORM's CARD OF 'brevetlaw06.SignOwns'. -/
def signOwnsUptoCard : Claim7 := { stood := { row := signOwnsUptoRow, standIns := [], harness := (true, "0784ad3089ade6ce65c23d6f7e779087f08751140f5f821148598f103a639288"), looks := false }, kinds := [], alts := [], laidByText := true, laidKinds := [.data], laidTests := true, laidLooks := .later }
def SignOwnsUptoCardSaid : Prop := Claim7.holds Tryd.pinned (.plain (OpenSpec.upto signOwnsSpec)) signOwnsUptoCard
end Rows
end Go.Proofs.YtdgheahbafnboaaDoor
