/- Contracts of elect.Request and Crossed and of their reference: what each answers, in plain Lean words. No condition. -/
import Derived.Test.YtckbbfdllflmjaaStr
namespace Go.Proofs.Ytckbbfdllflmjaa
open Go.RowKit
set_option linter.unusedVariables false
set_option linter.unusedSimpArgs false
def reqB (c : Int) : Bool := (c == 1) || (c == 3) || (c == 5)
def crossB (f : Bool) (m i : Int) : Bool := if (m == 5) != (i == 5) then (i == 5) else f
theorem req_any (c : Int) (w : World) : Calls Try.prog 32 #[.int .i64 c] w fun e w' => e = .returned (.bool (reqB c)) ∧ w = w' := by
  cases h1 : (c == 1) <;> cases h2 : (c == 3) <;> cases h3 : (c == 5)
  all_goals
    go_enter Try.func32, Try.ntmps32
    go_wp2
    go_ret
    exact ⟨by simp only [reqB, h1, h2, h3]; rfl, rfl⟩
theorem cross_any (f : Bool) (m i : Int) (w : World) : Calls Try.prog 44 #[.bool f, .int .i64 m, .int .i64 i] w fun e w' => e = .returned (.bool (crossB f m i)) ∧ w = w' := by
  cases h1 : (m == 5) <;> cases h2 : (i == 5)
  all_goals
    go_enter Try.func44, Try.ntmps44
    go_wp2
    go_ret
    exact ⟨by simp only [crossB, h1, h2]; rfl, rfl⟩
theorem rreq_any (c : Int) (w : World) : Calls Try.prog 35 #[.int .i64 c] w fun e w' => e = .returned (.bool (reqB c)) ∧ w = w' := by
  cases h1 : (c == 1) <;> cases h2 : (c == 3) <;> cases h3 : (c == 5)
  all_goals
    go_enter Try.func35, Try.ntmps35
    go_wp2
    go_ret
    exact ⟨by simp only [reqB, h1, h2, h3]; rfl, rfl⟩
theorem rcross_any (f : Bool) (m i : Int) (w : World) : Calls Try.prog 38 #[.int .i64 m, .int .i64 i, .bool f] w fun e w' => e = .returned (.bool (crossB f m i)) ∧ w = w' := by
  cases h1 : (m == 5) <;> cases h2 : (i == 5)
  all_goals
    go_enter Try.func38, Try.ntmps38
    go_wp2
    go_ret
    exact ⟨by simp only [crossB, h1, h2]; rfl, rfl⟩
end Go.Proofs.Ytckbbfdllflmjaa
