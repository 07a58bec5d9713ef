/- The walk of the law DigestParts. No condition but sizes. -/
import Derived.Test.YtjjpknlejjbblaaDigPartsA
import Derived.Test.YtjjpknlejjbblaaDigPartsB
namespace Go.Proofs.Ytjjpknlejjbblaa
open Go.RowKit
set_option linter.unusedVariables false
set_option linter.unusedSimpArgs false
theorem parts_walk (a b : ByteArray) (cut : Int) (ha : a.size ≤ 140737488351232) (hb : b.size ≤ 140737488351232) (hc : (Lit.int .i64 cut).wf = true) (w : World) : Calls Try.prog 7 #[.string a, .string b, .int .i64 cut] w fun e w' => e = .returned (.bool true) ∧ Below w.heap.size w w' := by
  by_cases h0 : (a ++ b).size = 0
  · exact parts_nil a b cut ha hb hc h0 w
  · exact parts_some a b cut ha hb hc h0 w
end Go.Proofs.Ytjjpknlejjbblaa
