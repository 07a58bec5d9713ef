/- The contracts of the document's own May, and of statement 14's awake. No condition. -/
import Derived.Test.YtjmcgekegenobaaPolG
import Derived.Test.YtjmcgekegenobaaMake
namespace Go.Proofs.Ytjmcgekegenobaa
open Go.RowKit
set_option linter.unusedVariables false
set_option linter.unusedSimpArgs false
attribute [local go_sem] conv1 conv1d conv1n conv1a conv1ad conv1an conv2 conv2d conv2n conv2a conv2ad conv2an conv4 conv4d conv4n conv4a conv4ad conv4an conv5 conv5d conv5n conv5a conv5ad conv5an size_nums byt_fold
theorem runit_any (x : Int) (w : World) : Calls Try.prog 34 #[.int .i64 x] w fun e w' => e = .returned (.bool (unitB x)) ∧ w = w' := by
  by_cases h1 : 128 ≤ x <;> by_cases h2 : x ≤ 1500
  all_goals
    go_enter Try.func34, Try.ntmps34
    go_wp2
    go_ret
    exact ⟨by simp [unitB, h1, h2], rfl⟩
def sizeB (x : Int) : Bool := decide (x = 0) || unitB x
theorem rsize_any (x : Int) (w : World) : Calls Try.prog 27 #[.int .i64 x] w fun e w' => e = .returned (.bool (sizeB x)) ∧ w = w' := by
  by_cases h : x = 0
  · subst h
    go_enter Try.func27, Try.ntmps27
    go_wp2_with fail
    go_ret
    exact ⟨rfl, rfl⟩
  · have h1 : (x == 0) = false := by simpa using h
    have h2 : decide (x = 0) = false := decide_eq_false h
    obtain ⟨p, hp⟩ : ∃ p, unitB x = p := ⟨_, rfl⟩
    unfold sizeB
    rw [h2, hp]
    clear h h2
    go_enter Try.func27, Try.ntmps27
    go_wp2_with (first | (go_at_call 34; refine (runit_any _ _).mono ?_; rintro e w' ⟨rfl, rfl⟩; rw [hp]))
    go_ret
    exact ⟨by cases p <;> rfl, rfl⟩
set_option maxHeartbeats 2000000 in
theorem mayref_any (l : Lk) (w : World) : Calls Try.prog 14 #[lkV l] w fun e w' => e = .returned (.bool (mayB l)) ∧ Below w.heap.size w w' := by
  obtain ⟨mru, magic, mrru, short, disc, num⟩ := l
  unfold lkV mayB
  show Calls _ _ #[.agg #[.int .i64 mru, .int .i64 magic, .int .i64 mrru, .bool short, .string disc, .int .i64 num]] w _
  obtain ⟨p, hp⟩ : ∃ p, sizeB mru = p := ⟨_, rfl⟩
  obtain ⟨q, hq⟩ : ∃ q, sizeB mrru = q := ⟨_, rfl⟩
  show Calls _ _ _ _ fun e w' => e = .returned (.bool (sizeB mru && sizeB mrru && decide (0 ≤ magic) && decide (magic ≤ 4294967295) && decide (disc.size ≤ 20) && decide (0 ≤ num) && decide (num ≤ 65535))) ∧ _
  rw [hp, hq]
  cases p <;> cases q
  all_goals
    go_enter Try.func14, Try.ntmps14
    go_wp2_with (first | (go_at_call 27; refine (rsize_any _ _).mono ?_; rintro e w' ⟨rfl, rfl⟩; first | rw [hp] | rw [hq]))
    all_goals
      go_ret
      exact ⟨by simp_all <;> omega, (by repeat' (first | (with_reducible exact Below.refl _ _) | (with_reducible apply Below.drew) | (with_reducible apply below_drewN) | (with_reducible apply Below.setCell) | (with_reducible apply Below.alloc) | (with_reducible refine below_step ?_ (by assumption) ?_) | omega | (simp; done) | (simp; omega)))⟩
end Go.Proofs.Ytjmcgekegenobaa
