/-
  No cell of these rows narrows 'for every input' (looked for: loops, veiled, ifaces, maps, wideKeys, modest, calm, conditions, laid).
  DERIVED. THE GIVEN ROWS OF THIS SEAT. 7 by the template 'for every input the law returns true; each argument reads behind the call as it read before'; 0 by the template 'total and deterministic' (their statements: YtbeokfpbhemcfaaTotals.lean).
  GIVEN WITH THE SEED: the statements are not yours to turn. If you find one false, say at which input.
  Laid BY PROGRAM, IN A SANDBOX (cutbox-rows.mjs): the forced cells as the released guide's own fill.sh prints them over the translation ce85e0651a238cc5… (all of the seat's roots in one cut). By AI agents, Wed Nov 11 2026. No macro, syntax, notation, axiom, sorry.
-/
import Derived.Test.YtbeokfpbhemcfaaChecked
import GoSem.Claim
import GoSem.ClaimJoined
import GoSem.ClaimMapViews
import Derived.JoinedTies
import Derived.KernelRfl
namespace Go.Proofs.Ytbeokfpbhemcfaa
/- THE CELL 'sum', in the pinned program and in every row, IS THE sha256 OF THE DUMP (.gsa) THAT YtbeokfpbhemcfaaProg.lean LOADS. Nothing in Lean hashes anything: it is a label: what it is worth is what the hold of that sum in a sandbox is worth. -/
noncomputable def Try.pinned : Pinned := { name := "ytbeokfpbhemcfaa", sum := "ce85e0651a238cc521e158a42f174d5177deaeb7a3692e4ddffbae6a814bf282", checked := Try.checked }
namespace Rows
def none {H : Type} : Left H := { results := [], args := [] }

/-- 'brevetlaw05.CurveAdds': WHATEVER THE INPUT: true; the input reads as it did. -/
def curveAddsSpec : ChangeSpec := { name := "curveAdds", fn := fun _ => fun
  | [d1, d2] => { results := [.lit (.bool true)], args := [d1, d2] }
  | _ => none }
def curveAddsRow : OpenClaim := { program := "ytbeokfpbhemcfaa", sum := "ce85e0651a238cc521e158a42f174d5177deaeb7a3692e4ddffbae6a814bf282", func := "brevet/brevetlaw05.CurveAdds", spec := "curveAdds", inPlace := ["math/bits.Add64"], apart := false }
def CurveAddsSaid : Prop := curveAddsRow.holds Try.pinned (OpenSpec.ofChange curveAddsSpec)

/-- ITS FALSE NEIGHBOUR: 'it returns false'. Refute it at one input. -/
def curveAddsWrong : ChangeSpec := { name := "curveAdds", fn := fun _ => fun
  | [d1, d2] => { results := [.lit (.bool false)], args := [d1, d2] }
  | _ => none }
def CurveAddsWrongFalsely : Prop := curveAddsRow.holds Try.pinned (OpenSpec.ofChange curveAddsWrong)

/-- 'brevetlaw05.CurveMuls': WHATEVER THE INPUT: true; the input reads as it did. -/
def curveMulsSpec : ChangeSpec := { name := "curveMuls", fn := fun _ => fun
  | [d1, d2, d3] => { results := [.lit (.bool true)], args := [d1, d2, d3] }
  | _ => none }
def curveMulsRow : OpenClaim := { program := "ytbeokfpbhemcfaa", sum := "ce85e0651a238cc521e158a42f174d5177deaeb7a3692e4ddffbae6a814bf282", func := "brevet/brevetlaw05.CurveMuls", spec := "curveMuls", inPlace := ["math/bits.Add64"], apart := false }
def CurveMulsSaid : Prop := curveMulsRow.holds Try.pinned (OpenSpec.ofChange curveMulsSpec)

/-- ITS FALSE NEIGHBOUR: 'it returns false'. Refute it at one input. -/
def curveMulsWrong : ChangeSpec := { name := "curveMuls", fn := fun _ => fun
  | [d1, d2, d3] => { results := [.lit (.bool false)], args := [d1, d2, d3] }
  | _ => none }
def CurveMulsWrongFalsely : Prop := curveMulsRow.holds Try.pinned (OpenSpec.ofChange curveMulsWrong)

/-- 'brevetlaw05.CurveNeg': WHATEVER THE INPUT: true; the input reads as it did. -/
def curveNegSpec : ChangeSpec := { name := "curveNeg", fn := fun _ => fun
  | [d] => { results := [.lit (.bool true)], args := [d] }
  | _ => none }
def curveNegRow : OpenClaim := { program := "ytbeokfpbhemcfaa", sum := "ce85e0651a238cc521e158a42f174d5177deaeb7a3692e4ddffbae6a814bf282", func := "brevet/brevetlaw05.CurveNeg", spec := "curveNeg", inPlace := ["math/bits.Add64"], apart := false }
def CurveNegSaid : Prop := curveNegRow.holds Try.pinned (OpenSpec.ofChange curveNegSpec)

/-- ITS FALSE NEIGHBOUR: 'it returns false'. Refute it at one input. -/
def curveNegWrong : ChangeSpec := { name := "curveNeg", fn := fun _ => fun
  | [d] => { results := [.lit (.bool false)], args := [d] }
  | _ => none }
def CurveNegWrongFalsely : Prop := curveNegRow.holds Try.pinned (OpenSpec.ofChange curveNegWrong)

/-- 'brevetlaw05.CurveBase': WHATEVER THE INPUT: true; the input reads as it did. -/
def curveBaseSpec : ChangeSpec := { name := "curveBase", fn := fun _ => fun
  | [d] => { results := [.lit (.bool true)], args := [d] }
  | _ => none }
def curveBaseRow : OpenClaim := { program := "ytbeokfpbhemcfaa", sum := "ce85e0651a238cc521e158a42f174d5177deaeb7a3692e4ddffbae6a814bf282", func := "brevet/brevetlaw05.CurveBase", spec := "curveBase", inPlace := ["math/bits.Add64"], apart := false }
def CurveBaseSaid : Prop := curveBaseRow.holds Try.pinned (OpenSpec.ofChange curveBaseSpec)

/-- ITS FALSE NEIGHBOUR: 'it returns false'. Refute it at one input. -/
def curveBaseWrong : ChangeSpec := { name := "curveBase", fn := fun _ => fun
  | [d] => { results := [.lit (.bool false)], args := [d] }
  | _ => none }
def CurveBaseWrongFalsely : Prop := curveBaseRow.holds Try.pinned (OpenSpec.ofChange curveBaseWrong)

/-- 'brevetlaw05.CurveGroup': WHATEVER THE INPUT: true; the input reads as it did. -/
def curveGroupSpec : ChangeSpec := { name := "curveGroup", fn := fun _ => fun
  | [d1, d2, d3] => { results := [.lit (.bool true)], args := [d1, d2, d3] }
  | _ => none }
def curveGroupRow : OpenClaim := { program := "ytbeokfpbhemcfaa", sum := "ce85e0651a238cc521e158a42f174d5177deaeb7a3692e4ddffbae6a814bf282", func := "brevet/brevetlaw05.CurveGroup", spec := "curveGroup", inPlace := ["math/bits.Add64"], apart := false }
def CurveGroupSaid : Prop := curveGroupRow.holds Try.pinned (OpenSpec.ofChange curveGroupSpec)

/-- ITS FALSE NEIGHBOUR: 'it returns false'. Refute it at one input. -/
def curveGroupWrong : ChangeSpec := { name := "curveGroup", fn := fun _ => fun
  | [d1, d2, d3] => { results := [.lit (.bool false)], args := [d1, d2, d3] }
  | _ => none }
def CurveGroupWrongFalsely : Prop := curveGroupRow.holds Try.pinned (OpenSpec.ofChange curveGroupWrong)

/-- 'brevetlaw05.CurveReads': WHATEVER THE INPUT: true; the input reads as it did. -/
def curveReadsSpec : ChangeSpec := { name := "curveReads", fn := fun _ => fun
  | [d] => { results := [.lit (.bool true)], args := [d] }
  | _ => none }
def curveReadsRow : OpenClaim := { program := "ytbeokfpbhemcfaa", sum := "ce85e0651a238cc521e158a42f174d5177deaeb7a3692e4ddffbae6a814bf282", func := "brevet/brevetlaw05.CurveReads", spec := "curveReads", inPlace := ["math/bits.Add64"], apart := false }
def CurveReadsSaid : Prop := curveReadsRow.holds Try.pinned (OpenSpec.ofChange curveReadsSpec)

/-- ITS FALSE NEIGHBOUR: 'it returns false'. Refute it at one input. -/
def curveReadsWrong : ChangeSpec := { name := "curveReads", fn := fun _ => fun
  | [d] => { results := [.lit (.bool false)], args := [d] }
  | _ => none }
def CurveReadsWrongFalsely : Prop := curveReadsRow.holds Try.pinned (OpenSpec.ofChange curveReadsWrong)

/-- 'brevetlaw05.CurveBytes': WHATEVER THE INPUT: true; the input reads as it did. -/
def curveBytesSpec : ChangeSpec := { name := "curveBytes", fn := fun _ => fun
  | [d1, d2] => { results := [.lit (.bool true)], args := [d1, d2] }
  | _ => none }
def curveBytesRow : OpenClaim := { program := "ytbeokfpbhemcfaa", sum := "ce85e0651a238cc521e158a42f174d5177deaeb7a3692e4ddffbae6a814bf282", func := "brevet/brevetlaw05.CurveBytes", spec := "curveBytes", inPlace := ["math/bits.Add64"], apart := false }
def CurveBytesSaid : Prop := curveBytesRow.holds Try.pinned (OpenSpec.ofChange curveBytesSpec)

/-- ITS FALSE NEIGHBOUR: 'it returns false'. Refute it at one input. -/
def curveBytesWrong : ChangeSpec := { name := "curveBytes", fn := fun _ => fun
  | [d1, d2] => { results := [.lit (.bool false)], args := [d1, d2] }
  | _ => none }
def CurveBytesWrongFalsely : Prop := curveBytesRow.holds Try.pinned (OpenSpec.ofChange curveBytesWrong)

/- THE SECOND FORM. 'bulk': how many values and letters a reading holds, each counted each time it is reached (what is shared counts as often as it is met; a slice's spare places count too). A statement '..UptoSaid' is the law's where the arguments, and the package variables that the reading takes, are together of bulk at most 1048576: NARROWER than '..Said'. Prove '..Said' where nothing that the law and all that it calls make is longer than what came in: it says more and counts as full. Else prove '..UptoSaid'. A law counts once. -/
mutual
def uptoBulk {H : Type} : DataW H → Nat
  | .lit (.string bytes) => bytes.length + 1
  | .lit _ => 1
  | .nil => 1
  | .ptr d => uptoBulk d + 1
  | .slice elems spare => uptoBulkAll elems + uptoBulkAll spare + 1
  | .agg parts => uptoBulkAll parts + 1
  | .iface _ d => uptoBulk d + 1
  | .map entries => uptoBulkEntries entries + 1
  | .held _ => 1
def uptoBulkAll {H : Type} : List (DataW H) → Nat
  | [] => 0
  | d :: r => uptoBulk d + uptoBulkAll r
def uptoBulkEntries {H : Type} : List (Lit × DataW H) → Nat
  | [] => 0
  | x :: r => uptoBulkEntry x + uptoBulkEntries r
def uptoBulkEntry {H : Type} : Lit × DataW H → Nat
  | (.string bytes, d) => bytes.length + uptoBulk d + 1
  | (_, d) => uptoBulk d + 1
 end
def uptoSmall : (H : Type) → List (DataW H) → Bool := fun _ ds => decide (uptoBulkAll ds ≤ 1048576)
def OpenSpec.upto (s : _root_.Go.ChangeSpec) : _root_.Go.OpenSpec := { _root_.Go.OpenSpec.ofChange s with cond := some uptoSmall }

/-- 'brevetlaw05.CurveAdds', WHERE WHAT IT READS IS OF BULK AT MOST 1048576: true; the input reads as it did. -/
def curveAddsUptoRow : OpenClaim := { program := "ytbeokfpbhemcfaa", sum := "ce85e0651a238cc521e158a42f174d5177deaeb7a3692e4ddffbae6a814bf282", func := "brevet/brevetlaw05.CurveAdds", spec := "curveAdds", inPlace := ["math/bits.Add64"], apart := false, narrowed := true }
def CurveAddsUptoSaid : Prop := curveAddsUptoRow.holds Try.pinned (OpenSpec.upto curveAddsSpec)

/-- 'brevetlaw05.CurveMuls', WHERE WHAT IT READS IS OF BULK AT MOST 1048576: true; the input reads as it did. -/
def curveMulsUptoRow : OpenClaim := { program := "ytbeokfpbhemcfaa", sum := "ce85e0651a238cc521e158a42f174d5177deaeb7a3692e4ddffbae6a814bf282", func := "brevet/brevetlaw05.CurveMuls", spec := "curveMuls", inPlace := ["math/bits.Add64"], apart := false, narrowed := true }
def CurveMulsUptoSaid : Prop := curveMulsUptoRow.holds Try.pinned (OpenSpec.upto curveMulsSpec)

/-- 'brevetlaw05.CurveNeg', WHERE WHAT IT READS IS OF BULK AT MOST 1048576: true; the input reads as it did. -/
def curveNegUptoRow : OpenClaim := { program := "ytbeokfpbhemcfaa", sum := "ce85e0651a238cc521e158a42f174d5177deaeb7a3692e4ddffbae6a814bf282", func := "brevet/brevetlaw05.CurveNeg", spec := "curveNeg", inPlace := ["math/bits.Add64"], apart := false, narrowed := true }
def CurveNegUptoSaid : Prop := curveNegUptoRow.holds Try.pinned (OpenSpec.upto curveNegSpec)

/-- 'brevetlaw05.CurveBase', WHERE WHAT IT READS IS OF BULK AT MOST 1048576: true; the input reads as it did. -/
def curveBaseUptoRow : OpenClaim := { program := "ytbeokfpbhemcfaa", sum := "ce85e0651a238cc521e158a42f174d5177deaeb7a3692e4ddffbae6a814bf282", func := "brevet/brevetlaw05.CurveBase", spec := "curveBase", inPlace := ["math/bits.Add64"], apart := false, narrowed := true }
def CurveBaseUptoSaid : Prop := curveBaseUptoRow.holds Try.pinned (OpenSpec.upto curveBaseSpec)

/-- 'brevetlaw05.CurveGroup', WHERE WHAT IT READS IS OF BULK AT MOST 1048576: true; the input reads as it did. -/
def curveGroupUptoRow : OpenClaim := { program := "ytbeokfpbhemcfaa", sum := "ce85e0651a238cc521e158a42f174d5177deaeb7a3692e4ddffbae6a814bf282", func := "brevet/brevetlaw05.CurveGroup", spec := "curveGroup", inPlace := ["math/bits.Add64"], apart := false, narrowed := true }
def CurveGroupUptoSaid : Prop := curveGroupUptoRow.holds Try.pinned (OpenSpec.upto curveGroupSpec)

/-- 'brevetlaw05.CurveReads', WHERE WHAT IT READS IS OF BULK AT MOST 1048576: true; the input reads as it did. -/
def curveReadsUptoRow : OpenClaim := { program := "ytbeokfpbhemcfaa", sum := "ce85e0651a238cc521e158a42f174d5177deaeb7a3692e4ddffbae6a814bf282", func := "brevet/brevetlaw05.CurveReads", spec := "curveReads", inPlace := ["math/bits.Add64"], apart := false, narrowed := true }
def CurveReadsUptoSaid : Prop := curveReadsUptoRow.holds Try.pinned (OpenSpec.upto curveReadsSpec)

/-- 'brevetlaw05.CurveBytes', WHERE WHAT IT READS IS OF BULK AT MOST 1048576: true; the input reads as it did. -/
def curveBytesUptoRow : OpenClaim := { program := "ytbeokfpbhemcfaa", sum := "ce85e0651a238cc521e158a42f174d5177deaeb7a3692e4ddffbae6a814bf282", func := "brevet/brevetlaw05.CurveBytes", spec := "curveBytes", inPlace := ["math/bits.Add64"], apart := false, narrowed := true }
def CurveBytesUptoSaid : Prop := curveBytesUptoRow.holds Try.pinned (OpenSpec.upto curveBytesSpec)

end Rows
end Go.Proofs.Ytbeokfpbhemcfaa
