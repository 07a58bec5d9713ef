/-
  No cell of these rows narrows 'for every input' (looked for: loops, veiled, ifaces, maps, wideKeys, modest, calm, conditions, laid).
  DERIVED. THE GIVEN ROWS OF THIS SEAT. 5 by the template 'for every input the law returns true; each argument reads behind the call as it read before'; 0 by the template 'total and deterministic' (their statements: YtjhcengdaclihaaTotals.lean).
  GIVEN WITH THE SEED: the statements are not yours to turn. If you find one false, say at which input.
  Laid BY PROGRAM, IN A SANDBOX (cutbox-rows.mjs): the forced cells as the released guide's own fill.sh prints them over the translation 239ced379bbec222… (all of the seat's roots in one cut). By AI agents, Wed Nov 11 2026. No macro, syntax, notation, axiom, sorry.
-/
import Derived.Test.YtjhcengdaclihaaChecked
import GoSem.Claim
import GoSem.ClaimJoined
import GoSem.ClaimMapViews
import Derived.JoinedTies
import Derived.KernelRfl
namespace Go.Proofs.Ytjhcengdaclihaa
/- THE CELL 'sum', in the pinned program and in every row, IS THE sha256 OF THE DUMP (.gsa) THAT YtjhcengdaclihaaProg.lean LOADS. Nothing in Lean hashes anything: it is a label: what it is worth is what the hold of that sum in a sandbox is worth. -/
noncomputable def Try.pinned : Pinned := { name := "ytjhcengdaclihaa", sum := "239ced379bbec222db23706e07971abf8e75e52f28d70ad77967e2fab65e4590", checked := Try.checked }
namespace Rows
def none {H : Type} : Left H := { results := [], args := [] }

/-- 'withylaw11.TimerActs': WHATEVER THE INPUT: true; the input reads as it did. -/
def timerActsSpec : ChangeSpec := { name := "timerActs", fn := fun _ => fun
  | [d] => { results := [.lit (.bool true)], args := [d] }
  | _ => none }
def timerActsRow : OpenClaim := { program := "ytjhcengdaclihaa", sum := "239ced379bbec222db23706e07971abf8e75e52f28d70ad77967e2fab65e4590", func := "withy/withylaw11.TimerActs", spec := "timerActs", unfollowed := true, recurses := true, apart := false }
def TimerActsSaid : Prop := timerActsRow.holds Try.pinned (OpenSpec.ofChange timerActsSpec)

/-- ITS FALSE NEIGHBOUR: 'it returns false'. Refute it at one input. -/
def timerActsWrong : ChangeSpec := { name := "timerActs", fn := fun _ => fun
  | [d] => { results := [.lit (.bool false)], args := [d] }
  | _ => none }
def TimerActsWrongFalsely : Prop := timerActsRow.holds Try.pinned (OpenSpec.ofChange timerActsWrong)

/-- 'withylaw11.TimerAll': WHATEVER THE INPUT: true; the input reads as it did. -/
def timerAllSpec : ChangeSpec := { name := "timerAll", fn := fun _ => fun
  | [d1, d2] => { results := [.lit (.bool true)], args := [d1, d2] }
  | _ => none }
def timerAllRow : OpenClaim := { program := "ytjhcengdaclihaa", sum := "239ced379bbec222db23706e07971abf8e75e52f28d70ad77967e2fab65e4590", func := "withy/withylaw11.TimerAll", spec := "timerAll", unfollowed := true, recurses := true, apart := false }
def TimerAllSaid : Prop := timerAllRow.holds Try.pinned (OpenSpec.ofChange timerAllSpec)

/-- ITS FALSE NEIGHBOUR: 'it returns false'. Refute it at one input. -/
def timerAllWrong : ChangeSpec := { name := "timerAll", fn := fun _ => fun
  | [d1, d2] => { results := [.lit (.bool false)], args := [d1, d2] }
  | _ => none }
def TimerAllWrongFalsely : Prop := timerAllRow.holds Try.pinned (OpenSpec.ofChange timerAllWrong)

/-- 'withylaw11.TimerFull': WHATEVER THE INPUT: true; the input reads as it did. -/
def timerFullSpec : ChangeSpec := { name := "timerFull", fn := fun _ => fun
  | [d1, d2] => { results := [.lit (.bool true)], args := [d1, d2] }
  | _ => none }
def timerFullRow : OpenClaim := { program := "ytjhcengdaclihaa", sum := "239ced379bbec222db23706e07971abf8e75e52f28d70ad77967e2fab65e4590", func := "withy/withylaw11.TimerFull", spec := "timerFull", unfollowed := true, recurses := true, apart := false }
def TimerFullSaid : Prop := timerFullRow.holds Try.pinned (OpenSpec.ofChange timerFullSpec)

/-- ITS FALSE NEIGHBOUR: 'it returns false'. Refute it at one input. -/
def timerFullWrong : ChangeSpec := { name := "timerFull", fn := fun _ => fun
  | [d1, d2] => { results := [.lit (.bool false)], args := [d1, d2] }
  | _ => none }
def TimerFullWrongFalsely : Prop := timerFullRow.holds Try.pinned (OpenSpec.ofChange timerFullWrong)

/-- 'withylaw11.TimerParts': WHATEVER THE INPUT: true; the input reads as it did. -/
def timerPartsSpec : ChangeSpec := { name := "timerParts", fn := fun _ => fun
  | [d1, d2, d3, d4] => { results := [.lit (.bool true)], args := [d1, d2, d3, d4] }
  | _ => none }
def timerPartsRow : OpenClaim := { program := "ytjhcengdaclihaa", sum := "239ced379bbec222db23706e07971abf8e75e52f28d70ad77967e2fab65e4590", func := "withy/withylaw11.TimerParts", spec := "timerParts", unfollowed := true, recurses := true, apart := false }
def TimerPartsSaid : Prop := timerPartsRow.holds Try.pinned (OpenSpec.ofChange timerPartsSpec)

/-- ITS FALSE NEIGHBOUR: 'it returns false'. Refute it at one input. -/
def timerPartsWrong : ChangeSpec := { name := "timerParts", fn := fun _ => fun
  | [d1, d2, d3, d4] => { results := [.lit (.bool false)], args := [d1, d2, d3, d4] }
  | _ => none }
def TimerPartsWrongFalsely : Prop := timerPartsRow.holds Try.pinned (OpenSpec.ofChange timerPartsWrong)

/-- 'withylaw11.TimerTurns': WHATEVER THE INPUT: true; the input reads as it did. -/
def timerTurnsSpec : ChangeSpec := { name := "timerTurns", fn := fun _ => fun
  | [d1, d2, d3, d4] => { results := [.lit (.bool true)], args := [d1, d2, d3, d4] }
  | _ => none }
def timerTurnsRow : OpenClaim := { program := "ytjhcengdaclihaa", sum := "239ced379bbec222db23706e07971abf8e75e52f28d70ad77967e2fab65e4590", func := "withy/withylaw11.TimerTurns", spec := "timerTurns", unfollowed := true, recurses := true, apart := false }
def TimerTurnsSaid : Prop := timerTurnsRow.holds Try.pinned (OpenSpec.ofChange timerTurnsSpec)

/-- ITS FALSE NEIGHBOUR: 'it returns false'. Refute it at one input. -/
def timerTurnsWrong : ChangeSpec := { name := "timerTurns", fn := fun _ => fun
  | [d1, d2, d3, d4] => { results := [.lit (.bool false)], args := [d1, d2, d3, d4] }
  | _ => none }
def TimerTurnsWrongFalsely : Prop := timerTurnsRow.holds Try.pinned (OpenSpec.ofChange timerTurnsWrong)

/- THE SECOND FORM. 'bulk': how many values and letters a reading holds, each counted each time it is reached (what is shared counts as often as it is met; a slice's spare places count too). A statement '..UptoSaid' is the law's where the arguments, and the package variables that the reading takes, are together of bulk at most 1048576: NARROWER than '..Said'. Prove '..Said' where nothing that the law and all that it calls make is longer than what came in: it says more and counts as full. Else prove '..UptoSaid'. A law counts once. -/
mutual
def uptoBulk {H : Type} : DataW H → Nat
  | .lit (.string bytes) => bytes.length + 1
  | .lit _ => 1
  | .nil => 1
  | .ptr d => uptoBulk d + 1
  | .slice elems spare => uptoBulkAll elems + uptoBulkAll spare + 1
  | .agg parts => uptoBulkAll parts + 1
  | .iface _ d => uptoBulk d + 1
  | .map entries => uptoBulkEntries entries + 1
  | .held _ => 1
def uptoBulkAll {H : Type} : List (DataW H) → Nat
  | [] => 0
  | d :: r => uptoBulk d + uptoBulkAll r
def uptoBulkEntries {H : Type} : List (Lit × DataW H) → Nat
  | [] => 0
  | x :: r => uptoBulkEntry x + uptoBulkEntries r
def uptoBulkEntry {H : Type} : Lit × DataW H → Nat
  | (.string bytes, d) => bytes.length + uptoBulk d + 1
  | (_, d) => uptoBulk d + 1
 end
def uptoSmall : (H : Type) → List (DataW H) → Bool := fun _ ds => decide (uptoBulkAll ds ≤ 1048576)
def OpenSpec.upto (s : _root_.Go.ChangeSpec) : _root_.Go.OpenSpec := { _root_.Go.OpenSpec.ofChange s with cond := some uptoSmall }

/-- 'withylaw11.TimerActs', WHERE WHAT IT READS IS OF BULK AT MOST 1048576: true; the input reads as it did. -/
def timerActsUptoRow : OpenClaim := { program := "ytjhcengdaclihaa", sum := "239ced379bbec222db23706e07971abf8e75e52f28d70ad77967e2fab65e4590", func := "withy/withylaw11.TimerActs", spec := "timerActs", unfollowed := true, recurses := true, apart := false, narrowed := true }
def TimerActsUptoSaid : Prop := timerActsUptoRow.holds Try.pinned (OpenSpec.upto timerActsSpec)

/-- 'withylaw11.TimerAll', WHERE WHAT IT READS IS OF BULK AT MOST 1048576: true; the input reads as it did. -/
def timerAllUptoRow : OpenClaim := { program := "ytjhcengdaclihaa", sum := "239ced379bbec222db23706e07971abf8e75e52f28d70ad77967e2fab65e4590", func := "withy/withylaw11.TimerAll", spec := "timerAll", unfollowed := true, recurses := true, apart := false, narrowed := true }
def TimerAllUptoSaid : Prop := timerAllUptoRow.holds Try.pinned (OpenSpec.upto timerAllSpec)

/-- 'withylaw11.TimerFull', WHERE WHAT IT READS IS OF BULK AT MOST 1048576: true; the input reads as it did. -/
def timerFullUptoRow : OpenClaim := { program := "ytjhcengdaclihaa", sum := "239ced379bbec222db23706e07971abf8e75e52f28d70ad77967e2fab65e4590", func := "withy/withylaw11.TimerFull", spec := "timerFull", unfollowed := true, recurses := true, apart := false, narrowed := true }
def TimerFullUptoSaid : Prop := timerFullUptoRow.holds Try.pinned (OpenSpec.upto timerFullSpec)

/-- 'withylaw11.TimerParts', WHERE WHAT IT READS IS OF BULK AT MOST 1048576: true; the input reads as it did. -/
def timerPartsUptoRow : OpenClaim := { program := "ytjhcengdaclihaa", sum := "239ced379bbec222db23706e07971abf8e75e52f28d70ad77967e2fab65e4590", func := "withy/withylaw11.TimerParts", spec := "timerParts", unfollowed := true, recurses := true, apart := false, narrowed := true }
def TimerPartsUptoSaid : Prop := timerPartsUptoRow.holds Try.pinned (OpenSpec.upto timerPartsSpec)

/-- 'withylaw11.TimerTurns', WHERE WHAT IT READS IS OF BULK AT MOST 1048576: true; the input reads as it did. -/
def timerTurnsUptoRow : OpenClaim := { program := "ytjhcengdaclihaa", sum := "239ced379bbec222db23706e07971abf8e75e52f28d70ad77967e2fab65e4590", func := "withy/withylaw11.TimerTurns", spec := "timerTurns", unfollowed := true, recurses := true, apart := false, narrowed := true }
def TimerTurnsUptoSaid : Prop := timerTurnsUptoRow.holds Try.pinned (OpenSpec.upto timerTurnsSpec)

end Rows
end Go.Proofs.Ytjhcengdaclihaa
