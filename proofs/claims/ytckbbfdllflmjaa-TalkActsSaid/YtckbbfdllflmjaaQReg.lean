/- A region that draws its order, whose operations read or call what answers one value in every world of a class and leaves one of the class: one walk in the order of the text. No condition. -/
import Derived.Test.YtckbbfdllflmjaaNum
import Derived.Deep.QuietTactic
import Derived.BigQuiet
namespace Go.Proofs.Ytckbbfdllflmjaa
open Go.RowKit
set_option linter.unusedVariables false
set_option linter.unusedSimpArgs false
theorem region_quiet {P : Program} {id : Nat} {Q : Exit → Act → World → Prop} {a : Act} {w : World} {l : List Oper} (C : World → Prop) (hm : P.follows .mixedOrders = true) (hB : Region.lexB .any l.toArray = true) (hC : C w.drew)
    (h : wpQuiet P l.toArray C (fun a' => ∀ w', C w' → Q .normal a' w') l a) : (Code.region id l.toArray true).wp P Q a w :=
  wp_region_quiet (C := C) hm hB hC (by simpa using h)
theorem below_call {B : Nat} {w W u : World} (hW : Below B w W) (hb : Below W.heap.size W u) (hB : B ≤ w.heap.size) : Below B w u := hW.trans (hb.mono (Nat.le_trans hB hW.size))
end Go.Proofs.Ytckbbfdllflmjaa
