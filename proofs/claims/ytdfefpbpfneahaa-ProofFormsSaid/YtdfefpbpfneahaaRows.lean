/-
  No cell of these rows narrows 'for every input' (looked for: loops, veiled, ifaces, maps, wideKeys, modest, calm, conditions, laid).
  DERIVED. THE GIVEN ROWS OF THIS SEAT. 5 by the template 'for every input the law returns true; each argument reads behind the call as it read before'; 0 by the template 'total and deterministic' (their statements: YtdfefpbpfneahaaTotals.lean).
  GIVEN WITH THE SEED: the statements are not yours to turn. If you find one false, say at which input.
  Laid BY PROGRAM, IN A SANDBOX (cutbox-rows.mjs): the forced cells as the released guide's own fill.sh prints them over the translation e909bad4f137bf71… (all of the seat's roots in one cut). By AI agents, Wed Nov 11 2026. No macro, syntax, notation, axiom, sorry.
-/
import Derived.Test.YtdfefpbpfneahaaChecked
import GoSem.Claim
import GoSem.ClaimJoined
import GoSem.ClaimMapViews
import Derived.JoinedTies
import Derived.KernelRfl
namespace Go.Proofs.Ytdfefpbpfneahaa
/- THE CELL 'sum', in the pinned program and in every row, IS THE sha256 OF THE DUMP (.gsa) THAT YtdfefpbpfneahaaProg.lean LOADS. Nothing in Lean hashes anything: it is a label: what it is worth is what the hold of that sum in a sandbox is worth. -/
noncomputable def Try.pinned : Pinned := { name := "ytdfefpbpfneahaa", sum := "e909bad4f137bf71d7d51ecea3e62e85e89a07832598b8e28f6d47aff4533ac0", checked := Try.checked }
namespace Rows
def none {H : Type} : Left H := { results := [], args := [] }

/-- 'withylaw16.ProofAnswers': WHATEVER THE INPUT: true; the input reads as it did. -/
def proofAnswersSpec : ChangeSpec := { name := "proofAnswers", fn := fun _ => fun
  | [d1, d2, d3] => { results := [.lit (.bool true)], args := [d1, d2, d3] }
  | _ => none }
def proofAnswersRow : OpenClaim := { program := "ytdfefpbpfneahaa", sum := "e909bad4f137bf71d7d51ecea3e62e85e89a07832598b8e28f6d47aff4533ac0", func := "withy/withylaw16.ProofAnswers", spec := "proofAnswers", apart := false }
def ProofAnswersSaid : Prop := proofAnswersRow.holds Try.pinned (OpenSpec.ofChange proofAnswersSpec)

/-- ITS FALSE NEIGHBOUR: 'it returns false'. Refute it at one input. -/
def proofAnswersWrong : ChangeSpec := { name := "proofAnswers", fn := fun _ => fun
  | [d1, d2, d3] => { results := [.lit (.bool false)], args := [d1, d2, d3] }
  | _ => none }
def ProofAnswersWrongFalsely : Prop := proofAnswersRow.holds Try.pinned (OpenSpec.ofChange proofAnswersWrong)

/-- 'withylaw16.ProofWrong': WHATEVER THE INPUT: true; the input reads as it did. -/
def proofWrongSpec : ChangeSpec := { name := "proofWrong", fn := fun _ => fun
  | [d1, d2] => { results := [.lit (.bool true)], args := [d1, d2] }
  | _ => none }
def proofWrongRow : OpenClaim := { program := "ytdfefpbpfneahaa", sum := "e909bad4f137bf71d7d51ecea3e62e85e89a07832598b8e28f6d47aff4533ac0", func := "withy/withylaw16.ProofWrong", spec := "proofWrong", apart := false }
def ProofWrongSaid : Prop := proofWrongRow.holds Try.pinned (OpenSpec.ofChange proofWrongSpec)

/-- ITS FALSE NEIGHBOUR: 'it returns false'. Refute it at one input. -/
def proofWrongWrong : ChangeSpec := { name := "proofWrong", fn := fun _ => fun
  | [d1, d2] => { results := [.lit (.bool false)], args := [d1, d2] }
  | _ => none }
def ProofWrongWrongFalsely : Prop := proofWrongRow.holds Try.pinned (OpenSpec.ofChange proofWrongWrong)

/-- 'withylaw16.ProofForms': WHATEVER THE INPUT: true; the input reads as it did. -/
def proofFormsSpec : ChangeSpec := { name := "proofForms", fn := fun _ => fun
  | [d1, d2, d3, d4, d5] => { results := [.lit (.bool true)], args := [d1, d2, d3, d4, d5] }
  | _ => none }
def proofFormsRow : OpenClaim := { program := "ytdfefpbpfneahaa", sum := "e909bad4f137bf71d7d51ecea3e62e85e89a07832598b8e28f6d47aff4533ac0", func := "withy/withylaw16.ProofForms", spec := "proofForms", apart := false }
def ProofFormsSaid : Prop := proofFormsRow.holds Try.pinned (OpenSpec.ofChange proofFormsSpec)

/-- ITS FALSE NEIGHBOUR: 'it returns false'. Refute it at one input. -/
def proofFormsWrong : ChangeSpec := { name := "proofForms", fn := fun _ => fun
  | [d1, d2, d3, d4, d5] => { results := [.lit (.bool false)], args := [d1, d2, d3, d4, d5] }
  | _ => none }
def ProofFormsWrongFalsely : Prop := proofFormsRow.holds Try.pinned (OpenSpec.ofChange proofFormsWrong)

/-- 'withylaw16.ProofActs': WHATEVER THE INPUT: true; the input reads as it did. -/
def proofActsSpec : ChangeSpec := { name := "proofActs", fn := fun _ => fun
  | [d1, d2, d3, d4, d5] => { results := [.lit (.bool true)], args := [d1, d2, d3, d4, d5] }
  | _ => none }
def proofActsRow : OpenClaim := { program := "ytdfefpbpfneahaa", sum := "e909bad4f137bf71d7d51ecea3e62e85e89a07832598b8e28f6d47aff4533ac0", func := "withy/withylaw16.ProofActs", spec := "proofActs", apart := false }
def ProofActsSaid : Prop := proofActsRow.holds Try.pinned (OpenSpec.ofChange proofActsSpec)

/-- ITS FALSE NEIGHBOUR: 'it returns false'. Refute it at one input. -/
def proofActsWrong : ChangeSpec := { name := "proofActs", fn := fun _ => fun
  | [d1, d2, d3, d4, d5] => { results := [.lit (.bool false)], args := [d1, d2, d3, d4, d5] }
  | _ => none }
def ProofActsWrongFalsely : Prop := proofActsRow.holds Try.pinned (OpenSpec.ofChange proofActsWrong)

/-- 'withylaw16.ProofTries': WHATEVER THE INPUT: true; the input reads as it did. -/
def proofTriesSpec : ChangeSpec := { name := "proofTries", fn := fun _ => fun
  | [d1, d2] => { results := [.lit (.bool true)], args := [d1, d2] }
  | _ => none }
def proofTriesRow : OpenClaim := { program := "ytdfefpbpfneahaa", sum := "e909bad4f137bf71d7d51ecea3e62e85e89a07832598b8e28f6d47aff4533ac0", func := "withy/withylaw16.ProofTries", spec := "proofTries", apart := false }
def ProofTriesSaid : Prop := proofTriesRow.holds Try.pinned (OpenSpec.ofChange proofTriesSpec)

/-- ITS FALSE NEIGHBOUR: 'it returns false'. Refute it at one input. -/
def proofTriesWrong : ChangeSpec := { name := "proofTries", fn := fun _ => fun
  | [d1, d2] => { results := [.lit (.bool false)], args := [d1, d2] }
  | _ => none }
def ProofTriesWrongFalsely : Prop := proofTriesRow.holds Try.pinned (OpenSpec.ofChange proofTriesWrong)

/- THE SECOND FORM. 'bulk': how many values and letters a reading holds, each counted each time it is reached (what is shared counts as often as it is met; a slice's spare places count too). A statement '..UptoSaid' is the law's where the arguments, and the package variables that the reading takes, are together of bulk at most 1048576: NARROWER than '..Said'. Prove '..Said' where nothing that the law and all that it calls make is longer than what came in: it says more and counts as full. Else prove '..UptoSaid'. A law counts once. -/
mutual
def uptoBulk {H : Type} : DataW H → Nat
  | .lit (.string bytes) => bytes.length + 1
  | .lit _ => 1
  | .nil => 1
  | .ptr d => uptoBulk d + 1
  | .slice elems spare => uptoBulkAll elems + uptoBulkAll spare + 1
  | .agg parts => uptoBulkAll parts + 1
  | .iface _ d => uptoBulk d + 1
  | .map entries => uptoBulkEntries entries + 1
  | .held _ => 1
def uptoBulkAll {H : Type} : List (DataW H) → Nat
  | [] => 0
  | d :: r => uptoBulk d + uptoBulkAll r
def uptoBulkEntries {H : Type} : List (Lit × DataW H) → Nat
  | [] => 0
  | x :: r => uptoBulkEntry x + uptoBulkEntries r
def uptoBulkEntry {H : Type} : Lit × DataW H → Nat
  | (.string bytes, d) => bytes.length + uptoBulk d + 1
  | (_, d) => uptoBulk d + 1
 end
def uptoSmall : (H : Type) → List (DataW H) → Bool := fun _ ds => decide (uptoBulkAll ds ≤ 1048576)
def OpenSpec.upto (s : _root_.Go.ChangeSpec) : _root_.Go.OpenSpec := { _root_.Go.OpenSpec.ofChange s with cond := some uptoSmall }

/-- 'withylaw16.ProofAnswers', WHERE WHAT IT READS IS OF BULK AT MOST 1048576: true; the input reads as it did. -/
def proofAnswersUptoRow : OpenClaim := { program := "ytdfefpbpfneahaa", sum := "e909bad4f137bf71d7d51ecea3e62e85e89a07832598b8e28f6d47aff4533ac0", func := "withy/withylaw16.ProofAnswers", spec := "proofAnswers", apart := false, narrowed := true }
def ProofAnswersUptoSaid : Prop := proofAnswersUptoRow.holds Try.pinned (OpenSpec.upto proofAnswersSpec)

/-- 'withylaw16.ProofWrong', WHERE WHAT IT READS IS OF BULK AT MOST 1048576: true; the input reads as it did. -/
def proofWrongUptoRow : OpenClaim := { program := "ytdfefpbpfneahaa", sum := "e909bad4f137bf71d7d51ecea3e62e85e89a07832598b8e28f6d47aff4533ac0", func := "withy/withylaw16.ProofWrong", spec := "proofWrong", apart := false, narrowed := true }
def ProofWrongUptoSaid : Prop := proofWrongUptoRow.holds Try.pinned (OpenSpec.upto proofWrongSpec)

/-- 'withylaw16.ProofForms', WHERE WHAT IT READS IS OF BULK AT MOST 1048576: true; the input reads as it did. -/
def proofFormsUptoRow : OpenClaim := { program := "ytdfefpbpfneahaa", sum := "e909bad4f137bf71d7d51ecea3e62e85e89a07832598b8e28f6d47aff4533ac0", func := "withy/withylaw16.ProofForms", spec := "proofForms", apart := false, narrowed := true }
def ProofFormsUptoSaid : Prop := proofFormsUptoRow.holds Try.pinned (OpenSpec.upto proofFormsSpec)

/-- 'withylaw16.ProofActs', WHERE WHAT IT READS IS OF BULK AT MOST 1048576: true; the input reads as it did. -/
def proofActsUptoRow : OpenClaim := { program := "ytdfefpbpfneahaa", sum := "e909bad4f137bf71d7d51ecea3e62e85e89a07832598b8e28f6d47aff4533ac0", func := "withy/withylaw16.ProofActs", spec := "proofActs", apart := false, narrowed := true }
def ProofActsUptoSaid : Prop := proofActsUptoRow.holds Try.pinned (OpenSpec.upto proofActsSpec)

/-- 'withylaw16.ProofTries', WHERE WHAT IT READS IS OF BULK AT MOST 1048576: true; the input reads as it did. -/
def proofTriesUptoRow : OpenClaim := { program := "ytdfefpbpfneahaa", sum := "e909bad4f137bf71d7d51ecea3e62e85e89a07832598b8e28f6d47aff4533ac0", func := "withy/withylaw16.ProofTries", spec := "proofTries", apart := false, narrowed := true }
def ProofTriesUptoSaid : Prop := proofTriesUptoRow.holds Try.pinned (OpenSpec.upto proofTriesSpec)

end Rows
end Go.Proofs.Ytdfefpbpfneahaa
