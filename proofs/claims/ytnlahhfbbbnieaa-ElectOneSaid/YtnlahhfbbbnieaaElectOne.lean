/- The walk of the law ElectOne: it returns true. No condition. -/
import Derived.Test.YtnlahhfbbbnieaaElectLaws
import Derived.Test.YtnlahhfbbbnieaaPlain
namespace Go.Proofs.Ytnlahhfbbbnieaa
open Go.RowKit
set_option linter.unusedVariables false

theorem mg_of (p : Int) (h : 0 ≤ p) (h2 : p < 4000000000) : mgB (1 + p) = true := by unfold mgB; simp; omega
theorem umod3 (x : Int) : (IntKind.u64.wrap x).tmod 3 = 0 ∨ (IntKind.u64.wrap x).tmod 3 = 1 ∨ (IntKind.u64.wrap x).tmod 3 = 2 := by
  rw [IntKind.wrap_u64, Int.tmod_eq_emod_of_nonneg (by omega)]; omega
theorem fav_lt (p q : Nat) (h : p < q) (hq : q < 4000000000) : favB (1 + p) (1 + q) = true ∧ favE (1 + p) (1 + q) = 0 ∧ favB (1 + q) (1 + p) = false ∧ favE (1 + q) (1 + p) = 0 := by
  have h1 := mg_of p (by omega) (by omega)
  have h2 := mg_of q (by omega) (by omega)
  have e1 : ((1 + (p : Int)) == 1 + q) = false := by simp; omega
  have e2 : ((1 + (q : Int)) == 1 + p) = false := by simp; omega
  simp [favB, favE, h1, h2, e1, e2]; omega
theorem fav_eq (p : Nat) (hq : p < 4000000000) : favB (1 + p) (1 + p) = false ∧ favE (1 + p) (1 + p) = 2100 := by
  simp [favB, favE]

theorem cross_not (u v : Int) : crossB true u v = !crossB false v u := by
  unfold crossB; cases (u == 5) <;> cases (v == 5) <;> rfl
theorem win_lt (p q : Nat) (h : p < q) (hq : q < 4000000000) (u v : Int) (hu : reqB u = true) (hv : reqB v = true) :
    winE (1 + p) (1 + q) u v = 0 ∧ winE (1 + q) (1 + p) v u = 0 ∧ winB (1 + p) (1 + q) u v = !crossB false v u ∧ winB (1 + q) (1 + p) v u = crossB false v u := by
  obtain ⟨f1, f2, f3, f4⟩ := fav_lt p q h hq
  simp [winE, winB, f1, f2, f3, f4, hu, hv, cross_not]
theorem win_eq (p : Nat) (hq : p < 4000000000) (u v : Int) : winE (1 + p) (1 + p) u v = 2100 ∧ winB (1 + p) (1 + p) u v = false := by
  obtain ⟨f1, f2⟩ := fav_eq p hq
  simp [winE, winB, f2]

set_option maxHeartbeats 1000000 in
theorem electOne_lt (a b x y : Int) (p q : Nat) (hp : bits .and .i64 a 1048575 = (p : Int)) (hp1 : p < 1048576) (hq : bits .and .i64 b 1048575 = (q : Int)) (hq1 : q < 1048576) (h : p < q) (w : World) :
    Calls Try.prog 4 #[.int .i64 a, .int .i64 b, .int .i64 x, .int .i64 y] w fun e w' => e = .returned (.bool true) ∧ Grown w w' := by
  have hx := umod3 x
  have hy := umod3 y
  obtain ⟨f1, f2, f3, f4⟩ := fav_lt p q h (by omega)
  have e1 : ((1 : Int) + p == 1 + q) = false := by simp; omega
  have g1 : ∀ u v, reqB u = true → reqB v = true → winE (1 + p) (1 + q) u v = 0 := fun u v hu hv => (win_lt p q h (by omega) u v hu hv).1
  have g2 : ∀ u v, reqB u = true → reqB v = true → winE (1 + q) (1 + p) v u = 0 := fun u v hu hv => (win_lt p q h (by omega) u v hu hv).2.1
  have g3 : ∀ u v, reqB u = true → reqB v = true → winB (1 + p) (1 + q) u v = !crossB false v u := fun u v hu hv => (win_lt p q h (by omega) u v hu hv).2.2.1
  have g4 : ∀ u v, reqB u = true → reqB v = true → winB (1 + q) (1 + p) v u = crossB false v u := fun u v hu hv => (win_lt p q h (by omega) u v hu hv).2.2.2
  have r1 : reqB 1 = true := by decide
  have r3 : reqB 3 = true := by decide
  have r5 : reqB 5 = true := by decide
  rcases hx with hx | hx | hx <;> rcases hy with hy | hy | hy
  all_goals
    go_enter Try.func4, Try.ntmps4
    go_wp2_with (first | (go_at_call 11; refine (awake_any _).mono ?_; rintro e w' ⟨rfl, rfl⟩))
    go_quiet (fail)
    go_wp2_with (first | (go_at_call 6; refine (fav_any _ _ _).mono ?_; rintro e w' ⟨rfl, rfl⟩) | (go_at_call 8; refine (wins_any _ _ _ _ _).mono ?_; rintro e w' ⟨rfl, rfl⟩) | (go_at_call 10; refine (num_any _ _).mono ?_; rintro e w' ⟨rfl, rfl⟩))
    go_ret
    exact ⟨by first | rfl | simp; omega, by repeat (first | exact Grown.refl _ | apply Grown.drewN | apply Grown.drew | apply Grown.alloc)⟩
set_option maxHeartbeats 1000000 in
theorem electOne_gt (a b x y : Int) (p q : Nat) (hp : bits .and .i64 a 1048575 = (p : Int)) (hp1 : p < 1048576) (hq : bits .and .i64 b 1048575 = (q : Int)) (hq1 : q < 1048576) (h : q < p) (w : World) :
    Calls Try.prog 4 #[.int .i64 a, .int .i64 b, .int .i64 x, .int .i64 y] w fun e w' => e = .returned (.bool true) ∧ Grown w w' := by
  have hx := umod3 x
  have hy := umod3 y
  obtain ⟨f1, f2, f3, f4⟩ := fav_lt q p h (by omega)
  have e1 : ((1 : Int) + p == 1 + q) = false := by simp; omega
  have g1 : ∀ u v, reqB u = true → reqB v = true → winE (1 + q) (1 + p) u v = 0 := fun u v hu hv => (win_lt q p h (by omega) u v hu hv).1
  have g2 : ∀ u v, reqB u = true → reqB v = true → winE (1 + p) (1 + q) v u = 0 := fun u v hu hv => (win_lt q p h (by omega) u v hu hv).2.1
  have g3 : ∀ u v, reqB u = true → reqB v = true → winB (1 + q) (1 + p) u v = !crossB false v u := fun u v hu hv => (win_lt q p h (by omega) u v hu hv).2.2.1
  have g4 : ∀ u v, reqB u = true → reqB v = true → winB (1 + p) (1 + q) v u = crossB false v u := fun u v hu hv => (win_lt q p h (by omega) u v hu hv).2.2.2
  have r1 : reqB 1 = true := by decide
  have r3 : reqB 3 = true := by decide
  have r5 : reqB 5 = true := by decide
  rcases hx with hx | hx | hx <;> rcases hy with hy | hy | hy
  all_goals
    go_enter Try.func4, Try.ntmps4
    go_wp2_with (first | (go_at_call 11; refine (awake_any _).mono ?_; rintro e w' ⟨rfl, rfl⟩))
    go_quiet (fail)
    go_wp2_with (first | (go_at_call 6; refine (fav_any _ _ _).mono ?_; rintro e w' ⟨rfl, rfl⟩) | (go_at_call 8; refine (wins_any _ _ _ _ _).mono ?_; rintro e w' ⟨rfl, rfl⟩) | (go_at_call 10; refine (num_any _ _).mono ?_; rintro e w' ⟨rfl, rfl⟩))
    go_ret
    exact ⟨by first | rfl | simp; omega, by repeat (first | exact Grown.refl _ | apply Grown.drewN | apply Grown.drew | apply Grown.alloc)⟩
set_option maxHeartbeats 1000000 in
theorem electOne_eq (a b x y : Int) (p : Nat) (hp : bits .and .i64 a 1048575 = (p : Int)) (hp1 : p < 1048576) (hq : bits .and .i64 b 1048575 = (p : Int)) (w : World) :
    Calls Try.prog 4 #[.int .i64 a, .int .i64 b, .int .i64 x, .int .i64 y] w fun e w' => e = .returned (.bool true) ∧ Grown w w' := by
  have hx := umod3 x
  have hy := umod3 y
  obtain ⟨f1, f2⟩ := fav_eq p (by omega)
  have g1 : ∀ u v, winE (1 + p) (1 + p) u v = 2100 := fun u v => (win_eq p (by omega) u v).1
  have g2 : ∀ u v, winB (1 + p) (1 + p) u v = false := fun u v => (win_eq p (by omega) u v).2
  rcases hx with hx | hx | hx <;> rcases hy with hy | hy | hy
  all_goals
    go_enter Try.func4, Try.ntmps4
    go_wp2_with (first | (go_at_call 11; refine (awake_any _).mono ?_; rintro e w' ⟨rfl, rfl⟩))
    go_quiet (fail)
    go_wp2_with (first | (go_at_call 6; refine (fav_any _ _ _).mono ?_; rintro e w' ⟨rfl, rfl⟩) | (go_at_call 8; refine (wins_any _ _ _ _ _).mono ?_; rintro e w' ⟨rfl, rfl⟩) | (go_at_call 10; refine (num_any _ _).mono ?_; rintro e w' ⟨rfl, rfl⟩))
    go_ret
    exact ⟨by first | rfl | simp; omega, by repeat (first | exact Grown.refl _ | apply Grown.drewN | apply Grown.drew | apply Grown.alloc)⟩
theorem electOne_walk (a b x y : Int) (w0 : (Lit.int .i64 a).wf = true) (w1 : (Lit.int .i64 b).wf = true) (w2 : (Lit.int .i64 x).wf = true) (w3 : (Lit.int .i64 y).wf = true) (w : World) : Calls Try.prog 4 #[.int .i64 a, .int .i64 b, .int .i64 x, .int .i64 y] w fun e w' => e = .returned (.bool true) ∧ Grown w w' := by
  obtain ⟨p, hp, hp1, -⟩ := mask_nat 20 (by decide) 1048575 (by decide) a
  obtain ⟨q, hq, hq1, -⟩ := mask_nat 20 (by decide) 1048575 (by decide) b
  rcases Nat.lt_trichotomy p q with h | h | h
  · exact electOne_lt a b x y p q hp hp1 hq hq1 h w
  · subst h; exact electOne_eq a b x y p hp hp1 hq w
  · exact electOne_gt a b x y p q hp hp1 hq hq1 h w
end Go.Proofs.Ytnlahhfbbbnieaa
