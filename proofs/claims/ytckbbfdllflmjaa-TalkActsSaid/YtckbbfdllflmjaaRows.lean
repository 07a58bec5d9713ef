/-
  No cell of these rows narrows 'for every input' (looked for: loops, veiled, ifaces, maps, wideKeys, modest, calm, conditions, laid).
  DERIVED. THE GIVEN ROWS OF THIS SEAT. 7 by the template 'for every input the law returns true; each argument reads behind the call as it read before'; 0 by the template 'total and deterministic' (their statements: YtckbbfdllflmjaaTotals.lean).
  GIVEN WITH THE SEED: the statements are not yours to turn. If you find one false, say at which input.
  Laid BY PROGRAM, IN A SANDBOX (cutbox-rows.mjs): the forced cells as the released guide's own fill.sh prints them over the translation 3d0fd2fc449d97b5… (all of the seat's roots in one cut). By AI agents, Wed Nov 11 2026. No macro, syntax, notation, axiom, sorry.
-/
import Derived.Test.YtckbbfdllflmjaaChecked
import GoSem.Claim
import GoSem.ClaimJoined
import GoSem.ClaimMapViews
import Derived.JoinedTies
import Derived.KernelRfl
namespace Go.Proofs.Ytckbbfdllflmjaa
/- THE CELL 'sum', in the pinned program and in every row, IS THE sha256 OF THE DUMP (.gsa) THAT YtckbbfdllflmjaaProg.lean LOADS. Nothing in Lean hashes anything: it is a label: what it is worth is what the hold of that sum in a sandbox is worth. -/
noncomputable def Try.pinned : Pinned := { name := "ytckbbfdllflmjaa", sum := "3d0fd2fc449d97b590faa65fc630f308ccb5507c3b9bdb90370f8c297e2627a8", checked := Try.checked }
namespace Rows
def none {H : Type} : Left H := { results := [], args := [] }

/-- 'withylaw22.TalkActs': WHATEVER THE INPUT: true; the input reads as it did. -/
def talkActsSpec : ChangeSpec := { name := "talkActs", fn := fun _ => fun
  | [d1, d2, d3] => { results := [.lit (.bool true)], args := [d1, d2, d3] }
  | _ => none }
def talkActsRow : OpenClaim := { program := "ytckbbfdllflmjaa", sum := "3d0fd2fc449d97b590faa65fc630f308ccb5507c3b9bdb90370f8c297e2627a8", func := "withy/withylaw22.TalkActs", spec := "talkActs", inPlace := ["internal/abi.NoEscape"], unfollowed := true, recurses := true, apart := false }
def TalkActsSaid : Prop := talkActsRow.holds Try.pinned (OpenSpec.ofChange talkActsSpec)

/-- ITS FALSE NEIGHBOUR: 'it returns false'. Refute it at one input. -/
def talkActsWrong : ChangeSpec := { name := "talkActs", fn := fun _ => fun
  | [d1, d2, d3] => { results := [.lit (.bool false)], args := [d1, d2, d3] }
  | _ => none }
def TalkActsWrongFalsely : Prop := talkActsRow.holds Try.pinned (OpenSpec.ofChange talkActsWrong)

/-- 'withylaw22.TalkCross': WHATEVER THE INPUT: true; the input reads as it did. -/
def talkCrossSpec : ChangeSpec := { name := "talkCross", fn := fun _ => fun
  | [d1, d2, d3, d4] => { results := [.lit (.bool true)], args := [d1, d2, d3, d4] }
  | _ => none }
def talkCrossRow : OpenClaim := { program := "ytckbbfdllflmjaa", sum := "3d0fd2fc449d97b590faa65fc630f308ccb5507c3b9bdb90370f8c297e2627a8", func := "withy/withylaw22.TalkCross", spec := "talkCross", inPlace := ["internal/abi.NoEscape"], unfollowed := true, recurses := true, apart := false }
def TalkCrossSaid : Prop := talkCrossRow.holds Try.pinned (OpenSpec.ofChange talkCrossSpec)

/-- ITS FALSE NEIGHBOUR: 'it returns false'. Refute it at one input. -/
def talkCrossWrong : ChangeSpec := { name := "talkCross", fn := fun _ => fun
  | [d1, d2, d3, d4] => { results := [.lit (.bool false)], args := [d1, d2, d3, d4] }
  | _ => none }
def TalkCrossWrongFalsely : Prop := talkCrossRow.holds Try.pinned (OpenSpec.ofChange talkCrossWrong)

/-- 'withylaw22.TalkTries': WHATEVER THE INPUT: true; the input reads as it did. -/
def talkTriesSpec : ChangeSpec := { name := "talkTries", fn := fun _ => fun
  | [d1, d2] => { results := [.lit (.bool true)], args := [d1, d2] }
  | _ => none }
def talkTriesRow : OpenClaim := { program := "ytckbbfdllflmjaa", sum := "3d0fd2fc449d97b590faa65fc630f308ccb5507c3b9bdb90370f8c297e2627a8", func := "withy/withylaw22.TalkTries", spec := "talkTries", inPlace := ["internal/abi.NoEscape"], unfollowed := true, recurses := true, apart := false }
def TalkTriesSaid : Prop := talkTriesRow.holds Try.pinned (OpenSpec.ofChange talkTriesSpec)

/-- ITS FALSE NEIGHBOUR: 'it returns false'. Refute it at one input. -/
def talkTriesWrong : ChangeSpec := { name := "talkTries", fn := fun _ => fun
  | [d1, d2] => { results := [.lit (.bool false)], args := [d1, d2] }
  | _ => none }
def TalkTriesWrongFalsely : Prop := talkTriesRow.holds Try.pinned (OpenSpec.ofChange talkTriesWrong)

/-- 'withylaw22.TalkOthers': WHATEVER THE INPUT: true; the input reads as it did. -/
def talkOthersSpec : ChangeSpec := { name := "talkOthers", fn := fun _ => fun
  | [d1, d2, d3, d4] => { results := [.lit (.bool true)], args := [d1, d2, d3, d4] }
  | _ => none }
def talkOthersRow : OpenClaim := { program := "ytckbbfdllflmjaa", sum := "3d0fd2fc449d97b590faa65fc630f308ccb5507c3b9bdb90370f8c297e2627a8", func := "withy/withylaw22.TalkOthers", spec := "talkOthers", inPlace := ["internal/abi.NoEscape"], unfollowed := true, recurses := true, apart := false }
def TalkOthersSaid : Prop := talkOthersRow.holds Try.pinned (OpenSpec.ofChange talkOthersSpec)

/-- ITS FALSE NEIGHBOUR: 'it returns false'. Refute it at one input. -/
def talkOthersWrong : ChangeSpec := { name := "talkOthers", fn := fun _ => fun
  | [d1, d2, d3, d4] => { results := [.lit (.bool false)], args := [d1, d2, d3, d4] }
  | _ => none }
def TalkOthersWrongFalsely : Prop := talkOthersRow.holds Try.pinned (OpenSpec.ofChange talkOthersWrong)

/-- 'withylaw22.TalkAnswers': WHATEVER THE INPUT: true; the input reads as it did. -/
def talkAnswersSpec : ChangeSpec := { name := "talkAnswers", fn := fun _ => fun
  | [d1, d2, d3] => { results := [.lit (.bool true)], args := [d1, d2, d3] }
  | _ => none }
def talkAnswersRow : OpenClaim := { program := "ytckbbfdllflmjaa", sum := "3d0fd2fc449d97b590faa65fc630f308ccb5507c3b9bdb90370f8c297e2627a8", func := "withy/withylaw22.TalkAnswers", spec := "talkAnswers", inPlace := ["internal/abi.NoEscape"], unfollowed := true, recurses := true, apart := false }
def TalkAnswersSaid : Prop := talkAnswersRow.holds Try.pinned (OpenSpec.ofChange talkAnswersSpec)

/-- ITS FALSE NEIGHBOUR: 'it returns false'. Refute it at one input. -/
def talkAnswersWrong : ChangeSpec := { name := "talkAnswers", fn := fun _ => fun
  | [d1, d2, d3] => { results := [.lit (.bool false)], args := [d1, d2, d3] }
  | _ => none }
def TalkAnswersWrongFalsely : Prop := talkAnswersRow.holds Try.pinned (OpenSpec.ofChange talkAnswersWrong)

/-- 'withylaw22.TalkIds': WHATEVER THE INPUT: true; the input reads as it did. -/
def talkIdsSpec : ChangeSpec := { name := "talkIds", fn := fun _ => fun
  | [d] => { results := [.lit (.bool true)], args := [d] }
  | _ => none }
def talkIdsRow : OpenClaim := { program := "ytckbbfdllflmjaa", sum := "3d0fd2fc449d97b590faa65fc630f308ccb5507c3b9bdb90370f8c297e2627a8", func := "withy/withylaw22.TalkIds", spec := "talkIds", inPlace := ["internal/abi.NoEscape"], unfollowed := true, recurses := true, apart := false }
def TalkIdsSaid : Prop := talkIdsRow.holds Try.pinned (OpenSpec.ofChange talkIdsSpec)

/-- ITS FALSE NEIGHBOUR: 'it returns false'. Refute it at one input. -/
def talkIdsWrong : ChangeSpec := { name := "talkIds", fn := fun _ => fun
  | [d] => { results := [.lit (.bool false)], args := [d] }
  | _ => none }
def TalkIdsWrongFalsely : Prop := talkIdsRow.holds Try.pinned (OpenSpec.ofChange talkIdsWrong)

/-- 'withylaw22.TalkStatus': WHATEVER THE INPUT: true; the input reads as it did. -/
def talkStatusSpec : ChangeSpec := { name := "talkStatus", fn := fun _ => fun
  | [d1, d2, d3, d4] => { results := [.lit (.bool true)], args := [d1, d2, d3, d4] }
  | _ => none }
def talkStatusRow : OpenClaim := { program := "ytckbbfdllflmjaa", sum := "3d0fd2fc449d97b590faa65fc630f308ccb5507c3b9bdb90370f8c297e2627a8", func := "withy/withylaw22.TalkStatus", spec := "talkStatus", inPlace := ["internal/abi.NoEscape"], unfollowed := true, recurses := true, apart := false }
def TalkStatusSaid : Prop := talkStatusRow.holds Try.pinned (OpenSpec.ofChange talkStatusSpec)

/-- ITS FALSE NEIGHBOUR: 'it returns false'. Refute it at one input. -/
def talkStatusWrong : ChangeSpec := { name := "talkStatus", fn := fun _ => fun
  | [d1, d2, d3, d4] => { results := [.lit (.bool false)], args := [d1, d2, d3, d4] }
  | _ => none }
def TalkStatusWrongFalsely : Prop := talkStatusRow.holds Try.pinned (OpenSpec.ofChange talkStatusWrong)

/- THE SECOND FORM. 'bulk': how many values and letters a reading holds, each counted each time it is reached (what is shared counts as often as it is met; a slice's spare places count too). A statement '..UptoSaid' is the law's where the arguments, and the package variables that the reading takes, are together of bulk at most 1048576: NARROWER than '..Said'. Prove '..Said' where nothing that the law and all that it calls make is longer than what came in: it says more and counts as full. Else prove '..UptoSaid'. A law counts once. -/
mutual
def uptoBulk {H : Type} : DataW H → Nat
  | .lit (.string bytes) => bytes.length + 1
  | .lit _ => 1
  | .nil => 1
  | .ptr d => uptoBulk d + 1
  | .slice elems spare => uptoBulkAll elems + uptoBulkAll spare + 1
  | .agg parts => uptoBulkAll parts + 1
  | .iface _ d => uptoBulk d + 1
  | .map entries => uptoBulkEntries entries + 1
  | .held _ => 1
def uptoBulkAll {H : Type} : List (DataW H) → Nat
  | [] => 0
  | d :: r => uptoBulk d + uptoBulkAll r
def uptoBulkEntries {H : Type} : List (Lit × DataW H) → Nat
  | [] => 0
  | x :: r => uptoBulkEntry x + uptoBulkEntries r
def uptoBulkEntry {H : Type} : Lit × DataW H → Nat
  | (.string bytes, d) => bytes.length + uptoBulk d + 1
  | (_, d) => uptoBulk d + 1
 end
def uptoSmall : (H : Type) → List (DataW H) → Bool := fun _ ds => decide (uptoBulkAll ds ≤ 1048576)
def OpenSpec.upto (s : _root_.Go.ChangeSpec) : _root_.Go.OpenSpec := { _root_.Go.OpenSpec.ofChange s with cond := some uptoSmall }

/-- 'withylaw22.TalkActs', WHERE WHAT IT READS IS OF BULK AT MOST 1048576: true; the input reads as it did. -/
def talkActsUptoRow : OpenClaim := { program := "ytckbbfdllflmjaa", sum := "3d0fd2fc449d97b590faa65fc630f308ccb5507c3b9bdb90370f8c297e2627a8", func := "withy/withylaw22.TalkActs", spec := "talkActs", inPlace := ["internal/abi.NoEscape"], unfollowed := true, recurses := true, apart := false, narrowed := true }
def TalkActsUptoSaid : Prop := talkActsUptoRow.holds Try.pinned (OpenSpec.upto talkActsSpec)

/-- 'withylaw22.TalkCross', WHERE WHAT IT READS IS OF BULK AT MOST 1048576: true; the input reads as it did. -/
def talkCrossUptoRow : OpenClaim := { program := "ytckbbfdllflmjaa", sum := "3d0fd2fc449d97b590faa65fc630f308ccb5507c3b9bdb90370f8c297e2627a8", func := "withy/withylaw22.TalkCross", spec := "talkCross", inPlace := ["internal/abi.NoEscape"], unfollowed := true, recurses := true, apart := false, narrowed := true }
def TalkCrossUptoSaid : Prop := talkCrossUptoRow.holds Try.pinned (OpenSpec.upto talkCrossSpec)

/-- 'withylaw22.TalkTries', WHERE WHAT IT READS IS OF BULK AT MOST 1048576: true; the input reads as it did. -/
def talkTriesUptoRow : OpenClaim := { program := "ytckbbfdllflmjaa", sum := "3d0fd2fc449d97b590faa65fc630f308ccb5507c3b9bdb90370f8c297e2627a8", func := "withy/withylaw22.TalkTries", spec := "talkTries", inPlace := ["internal/abi.NoEscape"], unfollowed := true, recurses := true, apart := false, narrowed := true }
def TalkTriesUptoSaid : Prop := talkTriesUptoRow.holds Try.pinned (OpenSpec.upto talkTriesSpec)

/-- 'withylaw22.TalkOthers', WHERE WHAT IT READS IS OF BULK AT MOST 1048576: true; the input reads as it did. -/
def talkOthersUptoRow : OpenClaim := { program := "ytckbbfdllflmjaa", sum := "3d0fd2fc449d97b590faa65fc630f308ccb5507c3b9bdb90370f8c297e2627a8", func := "withy/withylaw22.TalkOthers", spec := "talkOthers", inPlace := ["internal/abi.NoEscape"], unfollowed := true, recurses := true, apart := false, narrowed := true }
def TalkOthersUptoSaid : Prop := talkOthersUptoRow.holds Try.pinned (OpenSpec.upto talkOthersSpec)

/-- 'withylaw22.TalkAnswers', WHERE WHAT IT READS IS OF BULK AT MOST 1048576: true; the input reads as it did. -/
def talkAnswersUptoRow : OpenClaim := { program := "ytckbbfdllflmjaa", sum := "3d0fd2fc449d97b590faa65fc630f308ccb5507c3b9bdb90370f8c297e2627a8", func := "withy/withylaw22.TalkAnswers", spec := "talkAnswers", inPlace := ["internal/abi.NoEscape"], unfollowed := true, recurses := true, apart := false, narrowed := true }
def TalkAnswersUptoSaid : Prop := talkAnswersUptoRow.holds Try.pinned (OpenSpec.upto talkAnswersSpec)

/-- 'withylaw22.TalkIds', WHERE WHAT IT READS IS OF BULK AT MOST 1048576: true; the input reads as it did. -/
def talkIdsUptoRow : OpenClaim := { program := "ytckbbfdllflmjaa", sum := "3d0fd2fc449d97b590faa65fc630f308ccb5507c3b9bdb90370f8c297e2627a8", func := "withy/withylaw22.TalkIds", spec := "talkIds", inPlace := ["internal/abi.NoEscape"], unfollowed := true, recurses := true, apart := false, narrowed := true }
def TalkIdsUptoSaid : Prop := talkIdsUptoRow.holds Try.pinned (OpenSpec.upto talkIdsSpec)

/-- 'withylaw22.TalkStatus', WHERE WHAT IT READS IS OF BULK AT MOST 1048576: true; the input reads as it did. -/
def talkStatusUptoRow : OpenClaim := { program := "ytckbbfdllflmjaa", sum := "3d0fd2fc449d97b590faa65fc630f308ccb5507c3b9bdb90370f8c297e2627a8", func := "withy/withylaw22.TalkStatus", spec := "talkStatus", inPlace := ["internal/abi.NoEscape"], unfollowed := true, recurses := true, apart := false, narrowed := true }
def TalkStatusUptoSaid : Prop := talkStatusUptoRow.holds Try.pinned (OpenSpec.upto talkStatusSpec)

end Rows
end Go.Proofs.Ytckbbfdllflmjaa
