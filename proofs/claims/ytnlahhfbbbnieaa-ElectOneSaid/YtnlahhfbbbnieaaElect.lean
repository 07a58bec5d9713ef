/- Contracts of package elect and of its reference: what each function answers, in plain Lean words. No condition. -/
import Derived.Test.YtnlahhfbbbnieaaChecked
import Derived.WalkKit
import Derived.Deep.QuietTactic
import Derived.BigQuiet
import Derived.WalkSpells
import Derived.Lib.Hide
namespace Go.Proofs.Ytnlahhfbbbnieaa
open Go.RowKit

def mgB (x : Int) : Bool := decide (1 ≤ x ∧ x ≤ 4294967295)
def favB (a b : Int) : Bool := mgB a && mgB b && decide (a < b)
def favE (a b : Int) : Int := if mgB a && mgB b && !(a == b) then 0 else 2100
def reqB (c : Int) : Bool := (c == 1) || (c == 3) || (c == 5)
def crossB (f : Bool) (m i : Int) : Bool := if (m == 5) != (i == 5) then (i == 5) else f
def winB (a b m i : Int) : Bool := if favE a b == 0 && reqB m && reqB i then crossB (favB a b) m i else false
def winE (a b m i : Int) : Int := if favE a b == 0 && reqB m && reqB i then 0 else 2100

theorem magic_any (x : Int) (w : World) : Calls Try.prog 12 #[.int .i64 x] w fun e w' => e = .returned (.bool (mgB x)) ∧ w = w' := by
  by_cases h1 : 1 ≤ x
  · by_cases h2 : x ≤ 4294967295
    all_goals
      go_enter Try.func12, Try.ntmps12
      go_wp2
      go_ret
      exact ⟨by congr 2; unfold mgB; simp; omega, rfl⟩
  · go_enter Try.func12, Try.ntmps12
    go_wp2
    go_ret
    exact ⟨by congr 2; unfold mgB; simp; omega, rfl⟩

theorem fav_any (a b : Int) (w : World) : Calls Try.prog 6 #[.int .i64 a, .int .i64 b] w fun e w' => e = .returned (.tuple #[.bool (favB a b), .int .i64 (favE a b)]) ∧ w = w' := by
  cases h1 : mgB a
  · go_enter Try.func6, Try.ntmps6
    go_wp2_with (go_at_call 12; refine (magic_any _ _).mono ?_; rintro e w' ⟨rfl, rfl⟩)
    go_ret2
    exact ⟨by simp [favB, favE, h1], rfl⟩
  · cases h2 : mgB b
    · go_enter Try.func6, Try.ntmps6
      go_wp2_with (go_at_call 12; refine (magic_any _ _).mono ?_; rintro e w' ⟨rfl, rfl⟩)
      go_ret2
      exact ⟨by simp [favB, favE, h1, h2], rfl⟩
    · cases h3 : (a == b)
      all_goals
        go_enter Try.func6, Try.ntmps6
        go_wp2_with (go_at_call 12; refine (magic_any _ _).mono ?_; rintro e w' ⟨rfl, rfl⟩)
        go_ret2
        refine ⟨?_, rfl⟩
        simp only [favB, favE, h1, h2, h3, Bool.true_and, Bool.not_true, Bool.not_false]
        simp at h3
        simp [h3]

theorem req_any (c : Int) (w : World) : Calls Try.prog 14 #[.int .i64 c] w fun e w' => e = .returned (.bool (reqB c)) ∧ w = w' := by
  cases h1 : (c == 1) <;> cases h2 : (c == 3) <;> cases h3 : (c == 5)
  all_goals
    go_enter Try.func14, Try.ntmps14
    go_wp2
    go_ret
    exact ⟨by simp only [reqB, h1, h2, h3]; rfl, rfl⟩

theorem cross_any (f : Bool) (m i : Int) (w : World) : Calls Try.prog 15 #[.bool f, .int .i64 m, .int .i64 i] w fun e w' => e = .returned (.bool (crossB f m i)) ∧ w = w' := by
  cases h1 : (m == 5) <;> cases h2 : (i == 5)
  all_goals
    go_enter Try.func15, Try.ntmps15
    go_wp2
    go_ret
    exact ⟨by simp only [crossB, h1, h2]; rfl, rfl⟩

theorem wins_any (a b m i : Int) (w : World) : Calls Try.prog 8 #[.int .i64 a, .int .i64 b, .int .i64 m, .int .i64 i] w fun e w' => e = .returned (.tuple #[.bool (winB a b m i), .int .i64 (winE a b m i)]) ∧ w = w' := by
  cases h1 : (favE a b == 0) <;> cases h2 : reqB m <;> cases h3 : reqB i
  all_goals
    have h1' : (favE a b != 0) = _ := congrArg not h1
    simp only [Bool.not_true, Bool.not_false] at h1'
    go_enter Try.func8, Try.ntmps8
    go_wp2_with (first | (go_at_call 6; refine (fav_any _ _ _).mono ?_; rintro e w' ⟨rfl, rfl⟩) | (go_at_call 14; refine (req_any _ _).mono ?_; rintro e w' ⟨rfl, rfl⟩) | (go_at_call 15; refine (cross_any _ _ _ _).mono ?_; rintro e w' ⟨rfl, rfl⟩))
    go_ret2
    exact ⟨by simp only [winB, winE, h1, h2, h3]; rfl, rfl⟩

theorem rmagic_any (x : Int) (w : World) : Calls Try.prog 13 #[.int .i64 x] w fun e w' => e = .returned (.bool (mgB x)) ∧ w = w' := by
  by_cases h1 : 1 ≤ x
  · by_cases h2 : x ≤ 4294967295
    all_goals
      go_enter Try.func13, Try.ntmps13
      go_wp2
      go_ret
      exact ⟨by congr 2; unfold mgB; simp; omega, rfl⟩
  · go_enter Try.func13, Try.ntmps13
    go_wp2
    go_ret
    exact ⟨by congr 2; unfold mgB; simp; omega, rfl⟩

theorem rfav_any (a b : Int) (w : World) : Calls Try.prog 7 #[.int .i64 a, .int .i64 b] w fun e w' => e = .returned (.tuple #[.bool (favB a b), .int .i64 (favE a b)]) ∧ w = w' := by
  cases h1 : mgB a
  · go_enter Try.func7, Try.ntmps7
    go_wp2_with (go_at_call 13; refine (rmagic_any _ _).mono ?_; rintro e w' ⟨rfl, rfl⟩)
    go_ret2
    exact ⟨by simp [favB, favE, h1], rfl⟩
  · cases h2 : mgB b
    · go_enter Try.func7, Try.ntmps7
      go_wp2_with (go_at_call 13; refine (rmagic_any _ _).mono ?_; rintro e w' ⟨rfl, rfl⟩)
      go_ret2
      exact ⟨by simp [favB, favE, h1, h2], rfl⟩
    · cases h3 : (a == b)
      all_goals
        go_enter Try.func7, Try.ntmps7
        go_wp2_with (go_at_call 13; refine (rmagic_any _ _).mono ?_; rintro e w' ⟨rfl, rfl⟩)
        go_ret2
        refine ⟨?_, rfl⟩
        simp only [favB, favE, h1, h2, h3, Bool.true_and, Bool.not_true, Bool.not_false]
        simp at h3
        simp [h3]

theorem rreq_any (c : Int) (w : World) : Calls Try.prog 16 #[.int .i64 c] w fun e w' => e = .returned (.bool (reqB c)) ∧ w = w' := by
  cases h1 : (c == 1) <;> cases h2 : (c == 3) <;> cases h3 : (c == 5)
  all_goals
    go_enter Try.func16, Try.ntmps16
    go_wp2
    go_ret
    exact ⟨by simp only [reqB, h1, h2, h3]; rfl, rfl⟩

theorem rcross_any (f : Bool) (m i : Int) (w : World) : Calls Try.prog 17 #[.int .i64 m, .int .i64 i, .bool f] w fun e w' => e = .returned (.bool (crossB f m i)) ∧ w = w' := by
  cases h1 : (m == 5) <;> cases h2 : (i == 5)
  all_goals
    go_enter Try.func17, Try.ntmps17
    go_wp2
    go_ret
    exact ⟨by simp only [crossB, h1, h2]; rfl, rfl⟩

theorem rwins_any (a b m i : Int) (w : World) : Calls Try.prog 9 #[.int .i64 a, .int .i64 b, .int .i64 m, .int .i64 i] w fun e w' => e = .returned (.tuple #[.bool (winB a b m i), .int .i64 (winE a b m i)]) ∧ w = w' := by
  cases h1 : (favE a b == 0) <;> cases h2 : reqB m <;> cases h3 : reqB i
  all_goals
    have h1' : (favE a b != 0) = _ := congrArg not h1
    simp only [Bool.not_true, Bool.not_false] at h1'
    go_enter Try.func9, Try.ntmps9
    go_wp2_with (first | (go_at_call 7; refine (rfav_any _ _ _).mono ?_; rintro e w' ⟨rfl, rfl⟩) | (go_at_call 16; refine (rreq_any _ _).mono ?_; rintro e w' ⟨rfl, rfl⟩) | (go_at_call 17; refine (rcross_any _ _ _ _).mono ?_; rintro e w' ⟨rfl, rfl⟩))
    go_ret2
    exact ⟨by simp only [winB, winE, h1, h2, h3]; rfl, rfl⟩

theorem num_any (x : Int) (w : World) : Calls Try.prog 10 #[.int .i64 x] w fun e w' => e = .returned (.int .i64 x) ∧ w = w' := by
  go_enter Try.func10, Try.ntmps10
  go_wp2
  go_ret
  exact ⟨rfl, rfl⟩
end Go.Proofs.Ytnlahhfbbbnieaa
