/- A parameter that is a slice of strings, opened as rows of one cell. No condition. -/
import Derived.Test.YtdfefpbpfneahaaRowsAt
namespace Go.Proofs.Ytdfefpbpfneahaa
open Go.ChangeShapes Go.WideShapes Go.Deep Go.RowKit
set_option linter.unusedVariables false
def StrRow (B : Nat) (cs : List Value) : Prop := ∃ s : ByteArray, cs = [.string s] ∧ s.size ≤ B
section
variable {H : Type} {enc : TypeId × Value → H} {w : World} {base : Nat} {spare : Nat → Bool} {held : Bool}
theorem str_row (n : Nat) (cs : List Value) (d : DataW H) (p : List MemPlace) (h : DataW.trod enc Try.prog w base spare held n 9 cs = some (d, p)) (B : Nat) (hB : ∀ x ∈ DataW.weights Try.prog 9 d, x ≤ B) : StrRow B cs := by
  obtain ⟨s, rfl, e, _⟩ := DataW.trod_string Try.underlying9 h
  have e1 : d = .lit (.string s.data.toList) := congrArg Prod.fst e
  refine ⟨s, rfl, ?_⟩
  have := hB s.data.toList.length (by rw [e1]; simp [DataW.weights])
  simpa using this
theorem open_strlist {r : Reach} {b0 : Nat} {v : Value} {d : DataW H} {p : List MemPlace} (hval : Value.okWide Try.prog w r b0 22 v) (h : DataW.Trod enc Try.prog w base spare held 22 v d p) :
    ∃ (A : Option Addr) (len cap : Nat) (rows : List (List Value)), v = .slice A len cap ∧ RowsAt w A len 1 rows ∧ (A = none → len = 0 ∧ cap = 0) ∧ len ≤ cap ∧ cap ≤ maxLen ∧
      ∀ B, (∀ n ∈ d.weights Try.prog 22, n ≤ B) → len * 16 ≤ B ∧ ∀ r ∈ rows, StrRow B r :=
  open_rows Try.underlying22 (by kernel_rfl) (by omega) (by kernel_rfl) StrRow str_row (okWide_slice Try.underlying22 hval) h
end
end Go.Proofs.Ytdfefpbpfneahaa
