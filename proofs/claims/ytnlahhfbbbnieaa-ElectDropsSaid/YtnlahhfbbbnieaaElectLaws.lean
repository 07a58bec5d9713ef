/- The walks of the laws over package elect: each returns true. No condition. -/
import Derived.Test.YtnlahhfbbbnieaaElect
import Derived.RowKit3
namespace Go.Proofs.Ytnlahhfbbbnieaa
open Go.RowKit
set_option linter.unusedVariables false

theorem awake_any (w : World) : Calls Try.prog 11 #[] w fun e w' => e = .returned (.bool true) ∧ w = w' := by
  have a1 : favB 1 2 = true := by decide
  have a2 : favE 1 2 = 0 := by decide
  have a3 : favE 2 2 = 2100 := by decide
  have a4 : winB 1 2 5 1 = false := by decide
  have a5 : winE 1 2 5 1 = 0 := by decide
  go_enter Try.func11, Try.ntmps11
  go_wp2_with (first | (go_at_call 6; refine (fav_any _ _ _).mono ?_; rintro e w' ⟨rfl, rfl⟩) | (go_at_call 8; refine (wins_any _ _ _ _ _).mono ?_; rintro e w' ⟨rfl, rfl⟩) | (go_at_call 10; refine (num_any _ _).mono ?_; rintro e w' ⟨rfl, rfl⟩))
  go_ret
  exact ⟨rfl, rfl⟩

theorem elects_walk (a b m i : Int) (w0 : (Lit.int .i64 a).wf = true) (w1 : (Lit.int .i64 b).wf = true) (w2 : (Lit.int .i64 m).wf = true) (w3 : (Lit.int .i64 i).wf = true) (w : World) : Calls Try.prog 3 #[.int .i64 a, .int .i64 b, .int .i64 m, .int .i64 i] w fun e w' => e = .returned (.bool true) ∧ Grown w w' := by
  clear w0 w1 w2 w3
  go_enter Try.func3, Try.ntmps3
  go_wp2_with (first | (go_at_call 6; refine (fav_any _ _ _).mono ?_; rintro e w' ⟨rfl, rfl⟩) | (go_at_call 8; refine (wins_any _ _ _ _ _).mono ?_; rintro e w' ⟨rfl, rfl⟩) | (go_at_call 10; refine (num_any _ _).mono ?_; rintro e w' ⟨rfl, rfl⟩) | (go_at_call 7; refine (rfav_any _ _ _).mono ?_; rintro e w' ⟨rfl, rfl⟩) | (go_at_call 9; refine (rwins_any _ _ _ _ _).mono ?_; rintro e w' ⟨rfl, rfl⟩) | (go_at_call 11; refine (awake_any _).mono ?_; rintro e w' ⟨rfl, rfl⟩))
  go_ret
  exact ⟨rfl, Grown.refl _⟩

end Go.Proofs.Ytnlahhfbbbnieaa
