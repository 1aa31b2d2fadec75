/-
  NARROWER THAN 'FOR EVERY INPUT', by the rows' own cells (each row's printed sentence says how): JsonWrites: loops · JsonRound: loops.
  DERIVED. THE GIVEN ROWS OF THIS SEAT. 4 by the template 'for every input the law returns true; each argument reads behind the call as it read before'; 0 by the template 'total and deterministic' (their statements: YtcfbnjaelniahaaTotals.lean).
  GIVEN WITH THE SEED: the statements are not yours to turn. If you find one false, say at which input.
  Laid BY PROGRAM, IN A SANDBOX (cutbox-rows.mjs): the forced cells as the released guide's own fill.sh prints them over the translation 7dc372189676537c… (all of the seat's roots in one cut). By AI agents, Wed Nov 11 2026. No macro, syntax, notation, axiom, sorry.
-/
import Derived.Test.YtcfbnjaelniahaaChecked
import GoSem.Claim
import GoSem.ClaimJoined
import GoSem.ClaimMapViews
import Derived.JoinedTies
import Derived.KernelRfl
namespace Go.Proofs.Ytcfbnjaelniahaa
/- THE CELL 'sum', in the pinned program and in every row, IS THE sha256 OF THE DUMP (.gsa) THAT YtcfbnjaelniahaaProg.lean LOADS. Nothing in Lean hashes anything: it is a label: what it is worth is what the hold of that sum in a sandbox is worth. -/
noncomputable def Try.pinned : Pinned := { name := "ytcfbnjaelniahaa", sum := "7dc372189676537c0526a2c81ac07c3d6a0b8ae9615d514cb5d2395cc1b2962e", checked := Try.checked }
namespace Rows
def none {H : Type} : Left H := { results := [], args := [] }

/-- 'brevetlaw08.JsonWrites': WHATEVER THE INPUT: true; the input reads as it did. -/
def jsonWritesSpec : ChangeSpec := { name := "jsonWrites", fn := fun _ => fun
  | [d] => { results := [.lit (.bool true)], args := [d] }
  | _ => none }
def jsonWritesRow : OpenClaim := { program := "ytcfbnjaelniahaa", sum := "7dc372189676537c0526a2c81ac07c3d6a0b8ae9615d514cb5d2395cc1b2962e", func := "brevet/brevetlaw08.JsonWrites", spec := "jsonWrites", inPlace := ["internal/abi.NoEscape", "internal/bytealg.IndexByteString"], unfollowed := true, recurses := true, loops := true, apart := false }
def JsonWritesSaid : Prop := jsonWritesRow.holds Try.pinned (OpenSpec.ofChange jsonWritesSpec)

/-- ITS FALSE NEIGHBOUR: 'it returns false'. Refute it at one input. -/
def jsonWritesWrong : ChangeSpec := { name := "jsonWrites", fn := fun _ => fun
  | [d] => { results := [.lit (.bool false)], args := [d] }
  | _ => none }
def JsonWritesWrongFalsely : Prop := jsonWritesRow.holds Try.pinned (OpenSpec.ofChange jsonWritesWrong)

/-- 'brevetlaw08.JsonRound': WHATEVER THE INPUT: true; the input reads as it did. -/
def jsonRoundSpec : ChangeSpec := { name := "jsonRound", fn := fun _ => fun
  | [d1, d2] => { results := [.lit (.bool true)], args := [d1, d2] }
  | _ => none }
def jsonRoundRow : OpenClaim := { program := "ytcfbnjaelniahaa", sum := "7dc372189676537c0526a2c81ac07c3d6a0b8ae9615d514cb5d2395cc1b2962e", func := "brevet/brevetlaw08.JsonRound", spec := "jsonRound", inPlace := ["internal/abi.NoEscape", "internal/bytealg.IndexByteString"], unfollowed := true, recurses := true, loops := true, apart := false }
def JsonRoundSaid : Prop := jsonRoundRow.holds Try.pinned (OpenSpec.ofChange jsonRoundSpec)

/-- ITS FALSE NEIGHBOUR: 'it returns false'. Refute it at one input. -/
def jsonRoundWrong : ChangeSpec := { name := "jsonRound", fn := fun _ => fun
  | [d1, d2] => { results := [.lit (.bool false)], args := [d1, d2] }
  | _ => none }
def JsonRoundWrongFalsely : Prop := jsonRoundRow.holds Try.pinned (OpenSpec.ofChange jsonRoundWrong)

/-- 'brevetlaw08.JsonBlanks': WHATEVER THE INPUT: true; the input reads as it did. -/
def jsonBlanksSpec : ChangeSpec := { name := "jsonBlanks", fn := fun _ => fun
  | [d1, d2] => { results := [.lit (.bool true)], args := [d1, d2] }
  | _ => none }
def jsonBlanksRow : OpenClaim := { program := "ytcfbnjaelniahaa", sum := "7dc372189676537c0526a2c81ac07c3d6a0b8ae9615d514cb5d2395cc1b2962e", func := "brevet/brevetlaw08.JsonBlanks", spec := "jsonBlanks", inPlace := ["internal/bytealg.IndexByteString", "internal/abi.NoEscape"], unfollowed := true, recurses := true, apart := false }
def JsonBlanksSaid : Prop := jsonBlanksRow.holds Try.pinned (OpenSpec.ofChange jsonBlanksSpec)

/-- ITS FALSE NEIGHBOUR: 'it returns false'. Refute it at one input. -/
def jsonBlanksWrong : ChangeSpec := { name := "jsonBlanks", fn := fun _ => fun
  | [d1, d2] => { results := [.lit (.bool false)], args := [d1, d2] }
  | _ => none }
def JsonBlanksWrongFalsely : Prop := jsonBlanksRow.holds Try.pinned (OpenSpec.ofChange jsonBlanksWrong)

/-- 'brevetlaw08.JsonDeep': WHATEVER THE INPUT: true; the input reads as it did. -/
def jsonDeepSpec : ChangeSpec := { name := "jsonDeep", fn := fun _ => fun
  | [d1, d2] => { results := [.lit (.bool true)], args := [d1, d2] }
  | _ => none }
def jsonDeepRow : OpenClaim := { program := "ytcfbnjaelniahaa", sum := "7dc372189676537c0526a2c81ac07c3d6a0b8ae9615d514cb5d2395cc1b2962e", func := "brevet/brevetlaw08.JsonDeep", spec := "jsonDeep", inPlace := ["internal/bytealg.IndexByteString", "internal/abi.NoEscape"], unfollowed := true, recurses := true, apart := false }
def JsonDeepSaid : Prop := jsonDeepRow.holds Try.pinned (OpenSpec.ofChange jsonDeepSpec)

/-- ITS FALSE NEIGHBOUR: 'it returns false'. Refute it at one input. -/
def jsonDeepWrong : ChangeSpec := { name := "jsonDeep", fn := fun _ => fun
  | [d1, d2] => { results := [.lit (.bool false)], args := [d1, d2] }
  | _ => none }
def JsonDeepWrongFalsely : Prop := jsonDeepRow.holds Try.pinned (OpenSpec.ofChange jsonDeepWrong)

/- THE SECOND FORM. 'bulk': how many values and letters a reading holds, each counted each time it is reached (what is shared counts as often as it is met; a slice's spare places count too). A statement '..UptoSaid' is the law's where the arguments, and the package variables that the reading takes, are together of bulk at most 1048576: NARROWER than '..Said'. Prove '..Said' where nothing that the law and all that it calls make is longer than what came in: it says more and counts as full. Else prove '..UptoSaid'. A law counts once. -/
mutual
def uptoBulk {H : Type} : DataW H → Nat
  | .lit (.string bytes) => bytes.length + 1
  | .lit _ => 1
  | .nil => 1
  | .ptr d => uptoBulk d + 1
  | .slice elems spare => uptoBulkAll elems + uptoBulkAll spare + 1
  | .agg parts => uptoBulkAll parts + 1
  | .iface _ d => uptoBulk d + 1
  | .map entries => uptoBulkEntries entries + 1
  | .held _ => 1
def uptoBulkAll {H : Type} : List (DataW H) → Nat
  | [] => 0
  | d :: r => uptoBulk d + uptoBulkAll r
def uptoBulkEntries {H : Type} : List (Lit × DataW H) → Nat
  | [] => 0
  | x :: r => uptoBulkEntry x + uptoBulkEntries r
def uptoBulkEntry {H : Type} : Lit × DataW H → Nat
  | (.string bytes, d) => bytes.length + uptoBulk d + 1
  | (_, d) => uptoBulk d + 1
 end
def uptoSmall : (H : Type) → List (DataW H) → Bool := fun _ ds => decide (uptoBulkAll ds ≤ 1048576)
def OpenSpec.upto (s : _root_.Go.ChangeSpec) : _root_.Go.OpenSpec := { _root_.Go.OpenSpec.ofChange s with cond := some uptoSmall }

/-- 'brevetlaw08.JsonWrites', WHERE WHAT IT READS IS OF BULK AT MOST 1048576: true; the input reads as it did. -/
def jsonWritesUptoRow : OpenClaim := { program := "ytcfbnjaelniahaa", sum := "7dc372189676537c0526a2c81ac07c3d6a0b8ae9615d514cb5d2395cc1b2962e", func := "brevet/brevetlaw08.JsonWrites", spec := "jsonWrites", inPlace := ["internal/abi.NoEscape", "internal/bytealg.IndexByteString"], unfollowed := true, recurses := true, loops := true, apart := false, narrowed := true }
def JsonWritesUptoSaid : Prop := jsonWritesUptoRow.holds Try.pinned (OpenSpec.upto jsonWritesSpec)

/-- 'brevetlaw08.JsonRound', WHERE WHAT IT READS IS OF BULK AT MOST 1048576: true; the input reads as it did. -/
def jsonRoundUptoRow : OpenClaim := { program := "ytcfbnjaelniahaa", sum := "7dc372189676537c0526a2c81ac07c3d6a0b8ae9615d514cb5d2395cc1b2962e", func := "brevet/brevetlaw08.JsonRound", spec := "jsonRound", inPlace := ["internal/abi.NoEscape", "internal/bytealg.IndexByteString"], unfollowed := true, recurses := true, loops := true, apart := false, narrowed := true }
def JsonRoundUptoSaid : Prop := jsonRoundUptoRow.holds Try.pinned (OpenSpec.upto jsonRoundSpec)

/-- 'brevetlaw08.JsonBlanks', WHERE WHAT IT READS IS OF BULK AT MOST 1048576: true; the input reads as it did. -/
def jsonBlanksUptoRow : OpenClaim := { program := "ytcfbnjaelniahaa", sum := "7dc372189676537c0526a2c81ac07c3d6a0b8ae9615d514cb5d2395cc1b2962e", func := "brevet/brevetlaw08.JsonBlanks", spec := "jsonBlanks", inPlace := ["internal/bytealg.IndexByteString", "internal/abi.NoEscape"], unfollowed := true, recurses := true, apart := false, narrowed := true }
def JsonBlanksUptoSaid : Prop := jsonBlanksUptoRow.holds Try.pinned (OpenSpec.upto jsonBlanksSpec)

/-- 'brevetlaw08.JsonDeep', WHERE WHAT IT READS IS OF BULK AT MOST 1048576: true; the input reads as it did. -/
def jsonDeepUptoRow : OpenClaim := { program := "ytcfbnjaelniahaa", sum := "7dc372189676537c0526a2c81ac07c3d6a0b8ae9615d514cb5d2395cc1b2962e", func := "brevet/brevetlaw08.JsonDeep", spec := "jsonDeep", inPlace := ["internal/bytealg.IndexByteString", "internal/abi.NoEscape"], unfollowed := true, recurses := true, apart := false, narrowed := true }
def JsonDeepUptoSaid : Prop := jsonDeepUptoRow.holds Try.pinned (OpenSpec.upto jsonDeepSpec)

end Rows
end Go.Proofs.Ytcfbnjaelniahaa
