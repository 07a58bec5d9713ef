/- A region that draws its order, whose operations but the last few only read or call quietly: one walk. The world behind the draw is w.drew. No condition. -/
import Derived.Test.YtckbbfdllflmjaaNum
import Derived.StillTailTactics
namespace Go.Proofs.Ytckbbfdllflmjaa
open Go.RowKit
set_option linter.unusedVariables false
set_option linter.unusedSimpArgs false
theorem region_tail {P : Program} {id : Nat} {Q : Exit → Act → World → Prop} {a : Act} {w : World} {l : List Oper} (n : Nat) (hm : P.follows .mixedOrders = true) (hB : Region.lexTailB .any l.toArray n = true)
    (h : wpStill P l.toArray w.drew (fun a' => wpList P l.toArray Q (l.drop n) a' w.drew) (l.take n) a) : (Code.region id l.toArray true).wp P Q a w :=
  wp_region_still_tail n hm hB h
theorem num_still (x : Int) (w : World) : Calls Try.prog 12 #[.int .i64 x] w (fun e w' => e = .returned (.int .i64 x) ∧ w' = w) := (num_any x w).mono fun e w' h => ⟨h.1, h.2.symm⟩
end Go.Proofs.Ytckbbfdllflmjaa
