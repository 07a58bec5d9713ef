/-
  No cell of these rows narrows 'for every input' (looked for: loops, veiled, ifaces, maps, wideKeys, modest, calm, conditions, laid).
  DERIVED. THE GIVEN ROWS OF THIS SEAT. 3 by the template 'for every input the law returns true; each argument reads behind the call as it read before'; 0 by the template 'total and deterministic' (their statements: YtnlahhfbbbnieaaTotals.lean).
  GIVEN WITH THE SEED: the statements are not yours to turn. If you find one false, say at which input.
  Laid BY PROGRAM, IN A SANDBOX (cutbox-rows.mjs): the forced cells as the released guide's own fill.sh prints them over the translation 2d2ed34d5f6dd51e… (all of the seat's roots in one cut). By AI agents, Wed Nov 11 2026. No macro, syntax, notation, axiom, sorry.
-/
import Derived.Test.YtnlahhfbbbnieaaChecked
import GoSem.Claim
import GoSem.ClaimJoined
import GoSem.ClaimMapViews
import Derived.JoinedTies
import Derived.KernelRfl
namespace Go.Proofs.Ytnlahhfbbbnieaa
/- THE CELL 'sum', in the pinned program and in every row, IS THE sha256 OF THE DUMP (.gsa) THAT YtnlahhfbbbnieaaProg.lean LOADS. Nothing in Lean hashes anything: it is a label: what it is worth is what the hold of that sum in a sandbox is worth. -/
noncomputable def Try.pinned : Pinned := { name := "ytnlahhfbbbnieaa", sum := "2d2ed34d5f6dd51edf17e40b1fec3d95b34a4221e13b2a7d31a0f9a28dc20cd7", checked := Try.checked }
namespace Rows
def none {H : Type} : Left H := { results := [], args := [] }

/-- 'withylaw21.Elects': WHATEVER THE INPUT: true; the input reads as it did. -/
def electsSpec : ChangeSpec := { name := "elects", fn := fun _ => fun
  | [d1, d2, d3, d4] => { results := [.lit (.bool true)], args := [d1, d2, d3, d4] }
  | _ => none }
def electsRow : OpenClaim := { program := "ytnlahhfbbbnieaa", sum := "2d2ed34d5f6dd51edf17e40b1fec3d95b34a4221e13b2a7d31a0f9a28dc20cd7", func := "withy/withylaw21.Elects", spec := "elects", apart := false }
def ElectsSaid : Prop := electsRow.holds Try.pinned (OpenSpec.ofChange electsSpec)

/-- ITS FALSE NEIGHBOUR: 'it returns false'. Refute it at one input. -/
def electsWrong : ChangeSpec := { name := "elects", fn := fun _ => fun
  | [d1, d2, d3, d4] => { results := [.lit (.bool false)], args := [d1, d2, d3, d4] }
  | _ => none }
def ElectsWrongFalsely : Prop := electsRow.holds Try.pinned (OpenSpec.ofChange electsWrong)

/-- 'withylaw21.ElectOne': WHATEVER THE INPUT: true; the input reads as it did. -/
def electOneSpec : ChangeSpec := { name := "electOne", fn := fun _ => fun
  | [d1, d2, d3, d4] => { results := [.lit (.bool true)], args := [d1, d2, d3, d4] }
  | _ => none }
def electOneRow : OpenClaim := { program := "ytnlahhfbbbnieaa", sum := "2d2ed34d5f6dd51edf17e40b1fec3d95b34a4221e13b2a7d31a0f9a28dc20cd7", func := "withy/withylaw21.ElectOne", spec := "electOne", apart := false }
def ElectOneSaid : Prop := electOneRow.holds Try.pinned (OpenSpec.ofChange electOneSpec)

/-- ITS FALSE NEIGHBOUR: 'it returns false'. Refute it at one input. -/
def electOneWrong : ChangeSpec := { name := "electOne", fn := fun _ => fun
  | [d1, d2, d3, d4] => { results := [.lit (.bool false)], args := [d1, d2, d3, d4] }
  | _ => none }
def ElectOneWrongFalsely : Prop := electOneRow.holds Try.pinned (OpenSpec.ofChange electOneWrong)

/-- 'withylaw21.ElectDrops': WHATEVER THE INPUT: true; the input reads as it did. -/
def electDropsSpec : ChangeSpec := { name := "electDrops", fn := fun _ => fun
  | [d1, d2, d3] => { results := [.lit (.bool true)], args := [d1, d2, d3] }
  | _ => none }
def electDropsRow : OpenClaim := { program := "ytnlahhfbbbnieaa", sum := "2d2ed34d5f6dd51edf17e40b1fec3d95b34a4221e13b2a7d31a0f9a28dc20cd7", func := "withy/withylaw21.ElectDrops", spec := "electDrops", apart := false }
def ElectDropsSaid : Prop := electDropsRow.holds Try.pinned (OpenSpec.ofChange electDropsSpec)

/-- ITS FALSE NEIGHBOUR: 'it returns false'. Refute it at one input. -/
def electDropsWrong : ChangeSpec := { name := "electDrops", fn := fun _ => fun
  | [d1, d2, d3] => { results := [.lit (.bool false)], args := [d1, d2, d3] }
  | _ => none }
def ElectDropsWrongFalsely : Prop := electDropsRow.holds Try.pinned (OpenSpec.ofChange electDropsWrong)

/- THE SECOND FORM. 'bulk': how many values and letters a reading holds, each counted each time it is reached (what is shared counts as often as it is met; a slice's spare places count too). A statement '..UptoSaid' is the law's where the arguments, and the package variables that the reading takes, are together of bulk at most 1048576: NARROWER than '..Said'. Prove '..Said' where nothing that the law and all that it calls make is longer than what came in: it says more and counts as full. Else prove '..UptoSaid'. A law counts once. -/
mutual
def uptoBulk {H : Type} : DataW H → Nat
  | .lit (.string bytes) => bytes.length + 1
  | .lit _ => 1
  | .nil => 1
  | .ptr d => uptoBulk d + 1
  | .slice elems spare => uptoBulkAll elems + uptoBulkAll spare + 1
  | .agg parts => uptoBulkAll parts + 1
  | .iface _ d => uptoBulk d + 1
  | .map entries => uptoBulkEntries entries + 1
  | .held _ => 1
def uptoBulkAll {H : Type} : List (DataW H) → Nat
  | [] => 0
  | d :: r => uptoBulk d + uptoBulkAll r
def uptoBulkEntries {H : Type} : List (Lit × DataW H) → Nat
  | [] => 0
  | x :: r => uptoBulkEntry x + uptoBulkEntries r
def uptoBulkEntry {H : Type} : Lit × DataW H → Nat
  | (.string bytes, d) => bytes.length + uptoBulk d + 1
  | (_, d) => uptoBulk d + 1
 end
def uptoSmall : (H : Type) → List (DataW H) → Bool := fun _ ds => decide (uptoBulkAll ds ≤ 1048576)
def OpenSpec.upto (s : _root_.Go.ChangeSpec) : _root_.Go.OpenSpec := { _root_.Go.OpenSpec.ofChange s with cond := some uptoSmall }

/-- 'withylaw21.Elects', WHERE WHAT IT READS IS OF BULK AT MOST 1048576: true; the input reads as it did. -/
def electsUptoRow : OpenClaim := { program := "ytnlahhfbbbnieaa", sum := "2d2ed34d5f6dd51edf17e40b1fec3d95b34a4221e13b2a7d31a0f9a28dc20cd7", func := "withy/withylaw21.Elects", spec := "elects", apart := false, narrowed := true }
def ElectsUptoSaid : Prop := electsUptoRow.holds Try.pinned (OpenSpec.upto electsSpec)

/-- 'withylaw21.ElectOne', WHERE WHAT IT READS IS OF BULK AT MOST 1048576: true; the input reads as it did. -/
def electOneUptoRow : OpenClaim := { program := "ytnlahhfbbbnieaa", sum := "2d2ed34d5f6dd51edf17e40b1fec3d95b34a4221e13b2a7d31a0f9a28dc20cd7", func := "withy/withylaw21.ElectOne", spec := "electOne", apart := false, narrowed := true }
def ElectOneUptoSaid : Prop := electOneUptoRow.holds Try.pinned (OpenSpec.upto electOneSpec)

/-- 'withylaw21.ElectDrops', WHERE WHAT IT READS IS OF BULK AT MOST 1048576: true; the input reads as it did. -/
def electDropsUptoRow : OpenClaim := { program := "ytnlahhfbbbnieaa", sum := "2d2ed34d5f6dd51edf17e40b1fec3d95b34a4221e13b2a7d31a0f9a28dc20cd7", func := "withy/withylaw21.ElectDrops", spec := "electDrops", apart := false, narrowed := true }
def ElectDropsUptoSaid : Prop := electDropsUptoRow.holds Try.pinned (OpenSpec.upto electDropsSpec)

end Rows
end Go.Proofs.Ytnlahhfbbbnieaa
