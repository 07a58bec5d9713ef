/- The walk of the law ElectDrops: it returns true. No condition. -/
import Derived.Test.YtnlahhfbbbnieaaElectLaws
import Derived.Test.YtnlahhfbbbnieaaPlain
namespace Go.Proofs.Ytnlahhfbbbnieaa
open Go.RowKit
set_option linter.unusedVariables false

theorem drops_facts (p q : Nat) (hp : p < 1048576) (hq : q < 1048576) (c : Int) (hc : c = 1 ∨ c = 3) :
    winE (1 + p) (2000000 + q) 5 c = 0 ∧ winB (1 + p) (2000000 + q) 5 c = false ∧ winE (2000000 + q) (1 + p) c 5 = 0 ∧ winB (2000000 + q) (1 + p) c 5 = true ∧
    winE (1 + p) (2000000 + q) 5 5 = 0 ∧ winB (1 + p) (2000000 + q) 5 5 = true ∧ winE (1 + p) (2000000 + q) 7 c = 2100 ∧ favE 0 (2000000 + q) = 2100 := by
  have m1 : mgB (1 + p) = true := by unfold mgB; simp; omega
  have m2 : mgB (2000000 + q) = true := by unfold mgB; simp; omega
  have m0 : mgB 0 = false := by decide
  have e1 : ((1 + (p : Int)) == 2000000 + q) = false := by simp; omega
  have e2 : ((2000000 + (q : Int)) == 1 + p) = false := by simp; omega
  have l1 : decide (1 + (p : Int) < 2000000 + q) = true := by simp; omega
  have l2 : decide (2000000 + (q : Int) < 1 + p) = false := by simp; omega
  have f1 : favE (1 + p) (2000000 + q) = 0 := by simp [favE, m1, m2, e1]
  have f2 : favE (2000000 + q) (1 + p) = 0 := by simp [favE, m1, m2, e2]
  have f3 : favB (1 + p) (2000000 + q) = true := by simp only [favB, m1, m2, l1]; rfl
  have f4 : favB (2000000 + q) (1 + p) = false := by simp only [favB, m1, m2, l2]; rfl
  have f5 : favE 0 (2000000 + q) = 2100 := by simp [favE, m0]
  have r5 : reqB 5 = true := by decide
  have r7 : reqB 7 = false := by decide
  rcases hc with rfl | rfl
  all_goals simp [winE, winB, f1, f2, f3, f4, f5, r5, r7]; decide

set_option maxHeartbeats 1000000 in
theorem electDrops_walk (a b k : Int) (w0 : (Lit.int .i64 a).wf = true) (w1 : (Lit.int .i64 b).wf = true) (w2 : (Lit.int .i64 k).wf = true) (w : World) : Calls Try.prog 5 #[.int .i64 a, .int .i64 b, .int .i64 k] w fun e w' => e = .returned (.bool true) ∧ Grown w w' := by
  clear w0 w1 w2
  obtain ⟨p, hp, hp1, -⟩ := mask_nat 20 (by decide) 1048575 (by decide) a
  obtain ⟨q, hq, hq1, -⟩ := mask_nat 20 (by decide) 1048575 (by decide) b
  obtain ⟨r, hr, hr1, -⟩ := mask_nat 1 (by decide) 1 (by decide) k
  obtain ⟨c1, c2, c3, c4, c5, c6, c7, c8⟩ := drops_facts p q (by omega) (by omega) 1 (Or.inl rfl)
  obtain ⟨d1, d2, d3, d4, d5, d6, d7, d8⟩ := drops_facts p q (by omega) (by omega) 3 (Or.inr rfl)
  have hz : r = 0 ∨ r = 1 := by omega
  rcases hz with rfl | rfl
  all_goals
    simp only [Int.cast_ofNat_Int] at hr
    go_enter Try.func5, Try.ntmps5
    go_wp2_with (first | (go_at_call 11; refine (awake_any _).mono ?_; rintro e w' ⟨rfl, rfl⟩) | (go_at_call 6; refine (fav_any _ _ _).mono ?_; rintro e w' ⟨rfl, rfl⟩) | (go_at_call 8; refine (wins_any _ _ _ _ _).mono ?_; rintro e w' ⟨rfl, rfl⟩) | (go_at_call 10; refine (num_any _ _).mono ?_; rintro e w' ⟨rfl, rfl⟩))
    go_ret
    exact ⟨rfl, Grown.refl _⟩
end Go.Proofs.Ytnlahhfbbbnieaa
