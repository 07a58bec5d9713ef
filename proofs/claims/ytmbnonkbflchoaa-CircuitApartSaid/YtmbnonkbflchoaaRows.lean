/-
  No cell of these rows narrows 'for every input' (looked for: loops, veiled, ifaces, maps, wideKeys, modest, calm, conditions, laid).
  DERIVED. THE GIVEN ROWS OF THIS SEAT. 5 by the template 'for every input the law returns true; each argument reads behind the call as it read before'; 0 by the template 'total and deterministic' (their statements: YtmbnonkbflchoaaTotals.lean).
  GIVEN WITH THE SEED: the statements are not yours to turn. If you find one false, say at which input.
  Laid BY PROGRAM, IN A SANDBOX (cutbox-rows.mjs): the forced cells as the released guide's own fill.sh prints them over the translation 578440a5daa3fd86… (all of the seat's roots in one cut). By AI agents, Wed Nov 11 2026. No macro, syntax, notation, axiom, sorry.
-/
import Derived.Test.YtmbnonkbflchoaaChecked
import GoSem.Claim
import GoSem.ClaimJoined
import GoSem.ClaimMapViews
import Derived.JoinedTies
import Derived.KernelRfl
namespace Go.Proofs.Ytmbnonkbflchoaa
/- THE CELL 'sum', in the pinned program and in every row, IS THE sha256 OF THE DUMP (.gsa) THAT YtmbnonkbflchoaaProg.lean LOADS. Nothing in Lean hashes anything: it is a label: what it is worth is what the hold of that sum in a sandbox is worth. -/
noncomputable def Try.pinned : Pinned := { name := "ytmbnonkbflchoaa", sum := "578440a5daa3fd86fb9243a215306a36d82f8c76697a51eb4a78d0d627b045a2", checked := Try.checked }
namespace Rows
def none {H : Type} : Left H := { results := [], args := [] }

/-- 'withylaw25.CircuitPorts': WHATEVER THE INPUT: true; the input reads as it did. -/
def circuitPortsSpec : ChangeSpec := { name := "circuitPorts", fn := fun _ => fun
  | [d1, d2] => { results := [.lit (.bool true)], args := [d1, d2] }
  | _ => none }
def circuitPortsRow : OpenClaim := { program := "ytmbnonkbflchoaa", sum := "578440a5daa3fd86fb9243a215306a36d82f8c76697a51eb4a78d0d627b045a2", func := "withy/withylaw25.CircuitPorts", spec := "circuitPorts", apart := false }
def CircuitPortsSaid : Prop := circuitPortsRow.holds Try.pinned (OpenSpec.ofChange circuitPortsSpec)

/-- ITS FALSE NEIGHBOUR: 'it returns false'. Refute it at one input. -/
def circuitPortsWrong : ChangeSpec := { name := "circuitPorts", fn := fun _ => fun
  | [d1, d2] => { results := [.lit (.bool false)], args := [d1, d2] }
  | _ => none }
def CircuitPortsWrongFalsely : Prop := circuitPortsRow.holds Try.pinned (OpenSpec.ofChange circuitPortsWrong)

/-- 'withylaw25.CircuitFull': WHATEVER THE INPUT: true; the input reads as it did. -/
def circuitFullSpec : ChangeSpec := { name := "circuitFull", fn := fun _ => fun
  | [d1, d2] => { results := [.lit (.bool true)], args := [d1, d2] }
  | _ => none }
def circuitFullRow : OpenClaim := { program := "ytmbnonkbflchoaa", sum := "578440a5daa3fd86fb9243a215306a36d82f8c76697a51eb4a78d0d627b045a2", func := "withy/withylaw25.CircuitFull", spec := "circuitFull", apart := false }
def CircuitFullSaid : Prop := circuitFullRow.holds Try.pinned (OpenSpec.ofChange circuitFullSpec)

/-- ITS FALSE NEIGHBOUR: 'it returns false'. Refute it at one input. -/
def circuitFullWrong : ChangeSpec := { name := "circuitFull", fn := fun _ => fun
  | [d1, d2] => { results := [.lit (.bool false)], args := [d1, d2] }
  | _ => none }
def CircuitFullWrongFalsely : Prop := circuitFullRow.holds Try.pinned (OpenSpec.ofChange circuitFullWrong)

/-- 'withylaw25.CircuitTwins': WHATEVER THE INPUT: true; the input reads as it did. -/
def circuitTwinsSpec : ChangeSpec := { name := "circuitTwins", fn := fun _ => fun
  | [d] => { results := [.lit (.bool true)], args := [d] }
  | _ => none }
def circuitTwinsRow : OpenClaim := { program := "ytmbnonkbflchoaa", sum := "578440a5daa3fd86fb9243a215306a36d82f8c76697a51eb4a78d0d627b045a2", func := "withy/withylaw25.CircuitTwins", spec := "circuitTwins", apart := false }
def CircuitTwinsSaid : Prop := circuitTwinsRow.holds Try.pinned (OpenSpec.ofChange circuitTwinsSpec)

/-- ITS FALSE NEIGHBOUR: 'it returns false'. Refute it at one input. -/
def circuitTwinsWrong : ChangeSpec := { name := "circuitTwins", fn := fun _ => fun
  | [d] => { results := [.lit (.bool false)], args := [d] }
  | _ => none }
def CircuitTwinsWrongFalsely : Prop := circuitTwinsRow.holds Try.pinned (OpenSpec.ofChange circuitTwinsWrong)

/-- 'withylaw25.CircuitFails': WHATEVER THE INPUT: true; the input reads as it did. -/
def circuitFailsSpec : ChangeSpec := { name := "circuitFails", fn := fun _ => fun
  | [d1, d2] => { results := [.lit (.bool true)], args := [d1, d2] }
  | _ => none }
def circuitFailsRow : OpenClaim := { program := "ytmbnonkbflchoaa", sum := "578440a5daa3fd86fb9243a215306a36d82f8c76697a51eb4a78d0d627b045a2", func := "withy/withylaw25.CircuitFails", spec := "circuitFails", apart := false }
def CircuitFailsSaid : Prop := circuitFailsRow.holds Try.pinned (OpenSpec.ofChange circuitFailsSpec)

/-- ITS FALSE NEIGHBOUR: 'it returns false'. Refute it at one input. -/
def circuitFailsWrong : ChangeSpec := { name := "circuitFails", fn := fun _ => fun
  | [d1, d2] => { results := [.lit (.bool false)], args := [d1, d2] }
  | _ => none }
def CircuitFailsWrongFalsely : Prop := circuitFailsRow.holds Try.pinned (OpenSpec.ofChange circuitFailsWrong)

/-- 'withylaw25.CircuitApart': WHATEVER THE INPUT: true; the input reads as it did. -/
def circuitApartSpec : ChangeSpec := { name := "circuitApart", fn := fun _ => fun
  | [d1, d2, d3, d4] => { results := [.lit (.bool true)], args := [d1, d2, d3, d4] }
  | _ => none }
def circuitApartRow : OpenClaim := { program := "ytmbnonkbflchoaa", sum := "578440a5daa3fd86fb9243a215306a36d82f8c76697a51eb4a78d0d627b045a2", func := "withy/withylaw25.CircuitApart", spec := "circuitApart", apart := false }
def CircuitApartSaid : Prop := circuitApartRow.holds Try.pinned (OpenSpec.ofChange circuitApartSpec)

/-- ITS FALSE NEIGHBOUR: 'it returns false'. Refute it at one input. -/
def circuitApartWrong : ChangeSpec := { name := "circuitApart", fn := fun _ => fun
  | [d1, d2, d3, d4] => { results := [.lit (.bool false)], args := [d1, d2, d3, d4] }
  | _ => none }
def CircuitApartWrongFalsely : Prop := circuitApartRow.holds Try.pinned (OpenSpec.ofChange circuitApartWrong)

/- THE SECOND FORM. 'bulk': how many values and letters a reading holds, each counted each time it is reached (what is shared counts as often as it is met; a slice's spare places count too). A statement '..UptoSaid' is the law's where the arguments, and the package variables that the reading takes, are together of bulk at most 1048576: NARROWER than '..Said'. Prove '..Said' where nothing that the law and all that it calls make is longer than what came in: it says more and counts as full. Else prove '..UptoSaid'. A law counts once. -/
mutual
def uptoBulk {H : Type} : DataW H → Nat
  | .lit (.string bytes) => bytes.length + 1
  | .lit _ => 1
  | .nil => 1
  | .ptr d => uptoBulk d + 1
  | .slice elems spare => uptoBulkAll elems + uptoBulkAll spare + 1
  | .agg parts => uptoBulkAll parts + 1
  | .iface _ d => uptoBulk d + 1
  | .map entries => uptoBulkEntries entries + 1
  | .held _ => 1
def uptoBulkAll {H : Type} : List (DataW H) → Nat
  | [] => 0
  | d :: r => uptoBulk d + uptoBulkAll r
def uptoBulkEntries {H : Type} : List (Lit × DataW H) → Nat
  | [] => 0
  | x :: r => uptoBulkEntry x + uptoBulkEntries r
def uptoBulkEntry {H : Type} : Lit × DataW H → Nat
  | (.string bytes, d) => bytes.length + uptoBulk d + 1
  | (_, d) => uptoBulk d + 1
 end
def uptoSmall : (H : Type) → List (DataW H) → Bool := fun _ ds => decide (uptoBulkAll ds ≤ 1048576)
def OpenSpec.upto (s : _root_.Go.ChangeSpec) : _root_.Go.OpenSpec := { _root_.Go.OpenSpec.ofChange s with cond := some uptoSmall }

/-- 'withylaw25.CircuitPorts', WHERE WHAT IT READS IS OF BULK AT MOST 1048576: true; the input reads as it did. -/
def circuitPortsUptoRow : OpenClaim := { program := "ytmbnonkbflchoaa", sum := "578440a5daa3fd86fb9243a215306a36d82f8c76697a51eb4a78d0d627b045a2", func := "withy/withylaw25.CircuitPorts", spec := "circuitPorts", apart := false, narrowed := true }
def CircuitPortsUptoSaid : Prop := circuitPortsUptoRow.holds Try.pinned (OpenSpec.upto circuitPortsSpec)

/-- 'withylaw25.CircuitFull', WHERE WHAT IT READS IS OF BULK AT MOST 1048576: true; the input reads as it did. -/
def circuitFullUptoRow : OpenClaim := { program := "ytmbnonkbflchoaa", sum := "578440a5daa3fd86fb9243a215306a36d82f8c76697a51eb4a78d0d627b045a2", func := "withy/withylaw25.CircuitFull", spec := "circuitFull", apart := false, narrowed := true }
def CircuitFullUptoSaid : Prop := circuitFullUptoRow.holds Try.pinned (OpenSpec.upto circuitFullSpec)

/-- 'withylaw25.CircuitTwins', WHERE WHAT IT READS IS OF BULK AT MOST 1048576: true; the input reads as it did. -/
def circuitTwinsUptoRow : OpenClaim := { program := "ytmbnonkbflchoaa", sum := "578440a5daa3fd86fb9243a215306a36d82f8c76697a51eb4a78d0d627b045a2", func := "withy/withylaw25.CircuitTwins", spec := "circuitTwins", apart := false, narrowed := true }
def CircuitTwinsUptoSaid : Prop := circuitTwinsUptoRow.holds Try.pinned (OpenSpec.upto circuitTwinsSpec)

/-- 'withylaw25.CircuitFails', WHERE WHAT IT READS IS OF BULK AT MOST 1048576: true; the input reads as it did. -/
def circuitFailsUptoRow : OpenClaim := { program := "ytmbnonkbflchoaa", sum := "578440a5daa3fd86fb9243a215306a36d82f8c76697a51eb4a78d0d627b045a2", func := "withy/withylaw25.CircuitFails", spec := "circuitFails", apart := false, narrowed := true }
def CircuitFailsUptoSaid : Prop := circuitFailsUptoRow.holds Try.pinned (OpenSpec.upto circuitFailsSpec)

/-- 'withylaw25.CircuitApart', WHERE WHAT IT READS IS OF BULK AT MOST 1048576: true; the input reads as it did. -/
def circuitApartUptoRow : OpenClaim := { program := "ytmbnonkbflchoaa", sum := "578440a5daa3fd86fb9243a215306a36d82f8c76697a51eb4a78d0d627b045a2", func := "withy/withylaw25.CircuitApart", spec := "circuitApart", apart := false, narrowed := true }
def CircuitApartUptoSaid : Prop := circuitApartUptoRow.holds Try.pinned (OpenSpec.upto circuitApartSpec)

end Rows
end Go.Proofs.Ytmbnonkbflchoaa
