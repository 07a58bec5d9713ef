/-
  No cell of these rows narrows 'for every input' (looked for: loops, veiled, ifaces, maps, wideKeys, modest, calm, conditions, laid).
  DERIVED. THE GIVEN ROWS OF THIS SEAT. 5 by the template 'for every input the law returns true; each argument reads behind the call as it read before'; 0 by the template 'total and deterministic' (their statements: YtjjpknlejjbblaaTotals.lean).
  GIVEN WITH THE SEED: the statements are not yours to turn. If you find one false, say at which input.
  Laid BY PROGRAM, IN A SANDBOX (cutbox-rows.mjs): the forced cells as the released guide's own fill.sh prints them over the translation c86cc2976dd3cf71… (all of the seat's roots in one cut). By AI agents, Wed Nov 11 2026. No macro, syntax, notation, axiom, sorry.
-/
import Derived.Test.YtjjpknlejjbblaaChecked
import GoSem.Claim
import GoSem.ClaimJoined
import GoSem.ClaimMapViews
import Derived.JoinedTies
import Derived.KernelRfl
namespace Go.Proofs.Ytjjpknlejjbblaa
/- THE CELL 'sum', in the pinned program and in every row, IS THE sha256 OF THE DUMP (.gsa) THAT YtjjpknlejjbblaaProg.lean LOADS. Nothing in Lean hashes anything: it is a label: what it is worth is what the hold of that sum in a sandbox is worth. -/
noncomputable def Try.pinned : Pinned := { name := "ytjjpknlejjbblaa", sum := "c86cc2976dd3cf71cdb5cb2f3655cbd44f8242907f253caffcd85dd773b16245", checked := Try.checked }
namespace Rows
def none {H : Type} : Left H := { results := [], args := [] }

/-- 'withylaw13.DigestKnown': WHATEVER THE INPUT: true; the input reads as it did. -/
def digestKnownSpec : ChangeSpec := { name := "digestKnown", fn := fun _ => fun
  | [] => { results := [.lit (.bool true)], args := [] }
  | _ => none }
def digestKnownRow : OpenClaim := { program := "ytjjpknlejjbblaa", sum := "c86cc2976dd3cf71cdb5cb2f3655cbd44f8242907f253caffcd85dd773b16245", func := "withy/withylaw13.DigestKnown", spec := "digestKnown", apart := false }
def DigestKnownSaid : Prop := digestKnownRow.holds Try.pinned (OpenSpec.ofChange digestKnownSpec)

/-- ITS FALSE NEIGHBOUR: 'it returns false'. Refute it at one input. -/
def digestKnownWrong : ChangeSpec := { name := "digestKnown", fn := fun _ => fun
  | [] => { results := [.lit (.bool false)], args := [] }
  | _ => none }
def DigestKnownWrongFalsely : Prop := digestKnownRow.holds Try.pinned (OpenSpec.ofChange digestKnownWrong)

/-- 'withylaw13.Digests': WHATEVER THE INPUT: true; the input reads as it did. -/
def digestsSpec : ChangeSpec := { name := "digests", fn := fun _ => fun
  | [d1, d2, d3, d4] => { results := [.lit (.bool true)], args := [d1, d2, d3, d4] }
  | _ => none }
def digestsRow : OpenClaim := { program := "ytjjpknlejjbblaa", sum := "c86cc2976dd3cf71cdb5cb2f3655cbd44f8242907f253caffcd85dd773b16245", func := "withy/withylaw13.Digests", spec := "digests", apart := false }
def DigestsSaid : Prop := digestsRow.holds Try.pinned (OpenSpec.ofChange digestsSpec)

/-- ITS FALSE NEIGHBOUR: 'it returns false'. Refute it at one input. -/
def digestsWrong : ChangeSpec := { name := "digests", fn := fun _ => fun
  | [d1, d2, d3, d4] => { results := [.lit (.bool false)], args := [d1, d2, d3, d4] }
  | _ => none }
def DigestsWrongFalsely : Prop := digestsRow.holds Try.pinned (OpenSpec.ofChange digestsWrong)

/-- 'withylaw13.DigestChaps': WHATEVER THE INPUT: true; the input reads as it did. -/
def digestChapsSpec : ChangeSpec := { name := "digestChaps", fn := fun _ => fun
  | [d1, d2, d3] => { results := [.lit (.bool true)], args := [d1, d2, d3] }
  | _ => none }
def digestChapsRow : OpenClaim := { program := "ytjjpknlejjbblaa", sum := "c86cc2976dd3cf71cdb5cb2f3655cbd44f8242907f253caffcd85dd773b16245", func := "withy/withylaw13.DigestChaps", spec := "digestChaps", apart := false }
def DigestChapsSaid : Prop := digestChapsRow.holds Try.pinned (OpenSpec.ofChange digestChapsSpec)

/-- ITS FALSE NEIGHBOUR: 'it returns false'. Refute it at one input. -/
def digestChapsWrong : ChangeSpec := { name := "digestChaps", fn := fun _ => fun
  | [d1, d2, d3] => { results := [.lit (.bool false)], args := [d1, d2, d3] }
  | _ => none }
def DigestChapsWrongFalsely : Prop := digestChapsRow.holds Try.pinned (OpenSpec.ofChange digestChapsWrong)

/-- 'withylaw13.DigestEnds': WHATEVER THE INPUT: true; the input reads as it did. -/
def digestEndsSpec : ChangeSpec := { name := "digestEnds", fn := fun _ => fun
  | [d1, d2] => { results := [.lit (.bool true)], args := [d1, d2] }
  | _ => none }
def digestEndsRow : OpenClaim := { program := "ytjjpknlejjbblaa", sum := "c86cc2976dd3cf71cdb5cb2f3655cbd44f8242907f253caffcd85dd773b16245", func := "withy/withylaw13.DigestEnds", spec := "digestEnds", apart := false }
def DigestEndsSaid : Prop := digestEndsRow.holds Try.pinned (OpenSpec.ofChange digestEndsSpec)

/-- ITS FALSE NEIGHBOUR: 'it returns false'. Refute it at one input. -/
def digestEndsWrong : ChangeSpec := { name := "digestEnds", fn := fun _ => fun
  | [d1, d2] => { results := [.lit (.bool false)], args := [d1, d2] }
  | _ => none }
def DigestEndsWrongFalsely : Prop := digestEndsRow.holds Try.pinned (OpenSpec.ofChange digestEndsWrong)

/-- 'withylaw13.DigestParts': WHATEVER THE INPUT: true; the input reads as it did. -/
def digestPartsSpec : ChangeSpec := { name := "digestParts", fn := fun _ => fun
  | [d1, d2, d3] => { results := [.lit (.bool true)], args := [d1, d2, d3] }
  | _ => none }
def digestPartsRow : OpenClaim := { program := "ytjjpknlejjbblaa", sum := "c86cc2976dd3cf71cdb5cb2f3655cbd44f8242907f253caffcd85dd773b16245", func := "withy/withylaw13.DigestParts", spec := "digestParts", apart := false }
def DigestPartsSaid : Prop := digestPartsRow.holds Try.pinned (OpenSpec.ofChange digestPartsSpec)

/-- ITS FALSE NEIGHBOUR: 'it returns false'. Refute it at one input. -/
def digestPartsWrong : ChangeSpec := { name := "digestParts", fn := fun _ => fun
  | [d1, d2, d3] => { results := [.lit (.bool false)], args := [d1, d2, d3] }
  | _ => none }
def DigestPartsWrongFalsely : Prop := digestPartsRow.holds Try.pinned (OpenSpec.ofChange digestPartsWrong)

/- THE SECOND FORM. 'bulk': how many values and letters a reading holds, each counted each time it is reached (what is shared counts as often as it is met; a slice's spare places count too). A statement '..UptoSaid' is the law's where the arguments, and the package variables that the reading takes, are together of bulk at most 1048576: NARROWER than '..Said'. Prove '..Said' where nothing that the law and all that it calls make is longer than what came in: it says more and counts as full. Else prove '..UptoSaid'. A law counts once. -/
mutual
def uptoBulk {H : Type} : DataW H → Nat
  | .lit (.string bytes) => bytes.length + 1
  | .lit _ => 1
  | .nil => 1
  | .ptr d => uptoBulk d + 1
  | .slice elems spare => uptoBulkAll elems + uptoBulkAll spare + 1
  | .agg parts => uptoBulkAll parts + 1
  | .iface _ d => uptoBulk d + 1
  | .map entries => uptoBulkEntries entries + 1
  | .held _ => 1
def uptoBulkAll {H : Type} : List (DataW H) → Nat
  | [] => 0
  | d :: r => uptoBulk d + uptoBulkAll r
def uptoBulkEntries {H : Type} : List (Lit × DataW H) → Nat
  | [] => 0
  | x :: r => uptoBulkEntry x + uptoBulkEntries r
def uptoBulkEntry {H : Type} : Lit × DataW H → Nat
  | (.string bytes, d) => bytes.length + uptoBulk d + 1
  | (_, d) => uptoBulk d + 1
 end
def uptoSmall : (H : Type) → List (DataW H) → Bool := fun _ ds => decide (uptoBulkAll ds ≤ 1048576)
def OpenSpec.upto (s : _root_.Go.ChangeSpec) : _root_.Go.OpenSpec := { _root_.Go.OpenSpec.ofChange s with cond := some uptoSmall }

/-- 'withylaw13.DigestKnown', WHERE WHAT IT READS IS OF BULK AT MOST 1048576: true; the input reads as it did. -/
def digestKnownUptoRow : OpenClaim := { program := "ytjjpknlejjbblaa", sum := "c86cc2976dd3cf71cdb5cb2f3655cbd44f8242907f253caffcd85dd773b16245", func := "withy/withylaw13.DigestKnown", spec := "digestKnown", apart := false, narrowed := true }
def DigestKnownUptoSaid : Prop := digestKnownUptoRow.holds Try.pinned (OpenSpec.upto digestKnownSpec)

/-- 'withylaw13.Digests', WHERE WHAT IT READS IS OF BULK AT MOST 1048576: true; the input reads as it did. -/
def digestsUptoRow : OpenClaim := { program := "ytjjpknlejjbblaa", sum := "c86cc2976dd3cf71cdb5cb2f3655cbd44f8242907f253caffcd85dd773b16245", func := "withy/withylaw13.Digests", spec := "digests", apart := false, narrowed := true }
def DigestsUptoSaid : Prop := digestsUptoRow.holds Try.pinned (OpenSpec.upto digestsSpec)

/-- 'withylaw13.DigestChaps', WHERE WHAT IT READS IS OF BULK AT MOST 1048576: true; the input reads as it did. -/
def digestChapsUptoRow : OpenClaim := { program := "ytjjpknlejjbblaa", sum := "c86cc2976dd3cf71cdb5cb2f3655cbd44f8242907f253caffcd85dd773b16245", func := "withy/withylaw13.DigestChaps", spec := "digestChaps", apart := false, narrowed := true }
def DigestChapsUptoSaid : Prop := digestChapsUptoRow.holds Try.pinned (OpenSpec.upto digestChapsSpec)

/-- 'withylaw13.DigestEnds', WHERE WHAT IT READS IS OF BULK AT MOST 1048576: true; the input reads as it did. -/
def digestEndsUptoRow : OpenClaim := { program := "ytjjpknlejjbblaa", sum := "c86cc2976dd3cf71cdb5cb2f3655cbd44f8242907f253caffcd85dd773b16245", func := "withy/withylaw13.DigestEnds", spec := "digestEnds", apart := false, narrowed := true }
def DigestEndsUptoSaid : Prop := digestEndsUptoRow.holds Try.pinned (OpenSpec.upto digestEndsSpec)

/-- 'withylaw13.DigestParts', WHERE WHAT IT READS IS OF BULK AT MOST 1048576: true; the input reads as it did. -/
def digestPartsUptoRow : OpenClaim := { program := "ytjjpknlejjbblaa", sum := "c86cc2976dd3cf71cdb5cb2f3655cbd44f8242907f253caffcd85dd773b16245", func := "withy/withylaw13.DigestParts", spec := "digestParts", apart := false, narrowed := true }
def DigestPartsUptoSaid : Prop := digestPartsUptoRow.holds Try.pinned (OpenSpec.upto digestPartsSpec)

end Rows
end Go.Proofs.Ytjjpknlejjbblaa
