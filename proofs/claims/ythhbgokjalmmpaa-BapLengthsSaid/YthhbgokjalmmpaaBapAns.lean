/- The walk of the law BapAnswers: it returns true. No condition. -/
import Derived.Test.YthhbgokjalmmpaaBapBack
namespace Go.Proofs.Ythhbgokjalmmpaa
open Go.RowKit
set_option linter.unusedVariables false
set_option linter.unusedSimpArgs false
attribute [local go_sem] conv1 conv1d conv1n conv1a conv1ad conv1an conv2 conv2d conv2n conv2a conv2ad conv2an conv4 conv4d conv4n conv4a conv4ad conv4an conv5 conv5d conv5n conv5a conv5ad conv5an size_nums byt_fold
theorem resp_nat (c : Nat) (h1 : 1 ≤ c) (h8 : c ≤ 8) : bResp (c : Int) = decide (c % 2 = 0) := by
  have : c = 1 ∨ c = 2 ∨ c = 3 ∨ c = 4 ∨ c = 5 ∨ c = 6 ∨ c = 7 ∨ c = 8 := by omega
  rcases this with rfl | rfl | rfl | rfl | rfl | rfl | rfl | rfl <;> decide
theorem ans_good (c i a : Nat) (h1 : 1 ≤ c) (h8 : c ≤ 8) (hi : i < 256) (ha : a < 256) (h : c % 2 = 0 ∨ a = 0) :
    bE c i a [] = 0 ∧ bS c i a [] = headed c i (bBody c a []) ∧ (bBody c a []).size = (if c % 2 = 0 then 1 else 0) := by
  have hr := resp_nat c h1 h8
  have hsz : (bBody c a []).size = (if c % 2 = 0 then 1 else 0) := by
    unfold bBody; rw [hr]
    by_cases h2 : c % 2 = 0
    · rw [decide_eq_true h2, if_pos h2]; show (strOfNums [(a : Int)] ++ oJoin []).size = 1; rw [size_app, size_nums]; rfl
    · rw [decide_eq_false h2, if_neg h2]; rfl
  have e : bE c i a [] = 0 := by
    have hm : bMay (c : Int) (i : Int) = true := by unfold bMay; exact decide_eq_true (by omega)
    have hg : bGood c i a [] = true := by
      unfold bGood; rw [hm, hr]
      have : oE [] = 0 := by decide
      rw [this]
      simp; refine ⟨by omega, by omega⟩
    unfold bE; rw [hg, hsz, if_pos rfl]; rw [if_neg (by split <;> omega)]
  exact ⟨e, by unfold bS; rw [if_pos e], hsz⟩
theorem ans_bad (c i a : Nat) (h1 : 1 ≤ c) (h8 : c ≤ 8) (h2 : ¬ c % 2 = 0) (ha : ¬ a = 0) : bE c i a [] = 900 ∧ bS c i a [] = ⟨#[]⟩ := by
  have hr := resp_nat c h1 h8
  have e : bE c i a [] = 900 := by
    have hg : bGood c i a [] = false := by unfold bGood; rw [hr, decide_eq_false h2]; simp; omega
    unfold bE; rw [hg]; rfl
  exact ⟨e, by unfold bS; rw [e]; rfl⟩
theorem ans_zero (T : ByteArray) : gE (⟨#[0]⟩ ++ T) = 900 := by
  refine gE_bad (.inr (.inl ?_))
  have : byt ((⟨#[0]⟩ : ByteArray) ++ T) 0 = 0 := by rw [byt_app_l _ _ _ (by decide)]; decide
  rw [this]; unfold bMay; exact decide_eq_false (by omega)
set_option maxRecDepth 100000 in
set_option maxHeartbeats 1000000 in
theorem answers_bad (code id answer : Int) (c i a m : Nat) (w : World) (hm : (IntKind.u64.wrap code).tmod 8 = (m : Int)) (hm8 : m < 8) (hc : 1 + (m : Int) = (c : Int)) (hi : bits .and .i64 id 255 = (i : Int)) (hi1 : i < 256) (ha : bits .and .i64 answer 255 = (a : Int)) (ha1 : a < 256)
    (hp : bits .and .i64 (c : Int) 1 = 1) (h2 : ¬ c % 2 = 0) (h0 : ¬ a = 0) :
    Calls Try.prog 4 #[.int .i64 code, .int .i64 id, .int .i64 answer] w fun e w' => e = .returned (.bool true) ∧ Below w.heap.size w w' := by
  have R := Lib.hid (ans_bad c i a (by omega) (by omega) h2 h0)
  have hz : ((a : Int) != 0) = true := by simp; omega
  go_enter Try.func4, Try.ntmps4
  go_wp2_with (first | (go_at_call 8; refine (num_any _ _).mono ?_; rintro e w' ⟨rfl, rfl⟩))
  refine (awake_any _).mono ?_
  rintro e w1 ⟨rfl, hb1⟩
  have hz1 := hb1.size
  go_wp2_with (first | (go_at_call 8; refine (num_any _ _).mono ?_; rintro e w' ⟨rfl, rfl⟩))
  refine (bapput_any _ _ _ _ _ _ [] _ (OptsAt.nil _ _) (by simp)).mono ?_
  rintro e w2 ⟨rfl, hb2⟩
  rw [R.out.1, R.out.2]
  go_wp2_with (first | (go_at_call 8; refine (num_any _ _).mono ?_; rintro e w' ⟨rfl, rfl⟩))
  go_ret
  exact ⟨rfl, below_step hb1 hb2 hz1⟩
set_option maxRecDepth 100000 in
set_option maxHeartbeats 1000000 in
theorem answers_ok (code id answer : Int) (c i a m p k : Nat) (w : World) (hm : (IntKind.u64.wrap code).tmod 8 = (m : Int)) (hm8 : m < 8) (hc : 1 + (m : Int) = (c : Int)) (hi : bits .and .i64 id 255 = (i : Int)) (hi1 : i < 256) (ha : bits .and .i64 answer 255 = (a : Int)) (ha1 : a < 256)
    (hpk : (p = 1 ∧ k = 4 ∧ a = 0) ∨ (p = 0 ∧ k = 5)) (hp : bits .and .i64 (c : Int) 1 = (p : Int)) (h2 : c % 2 = p) :
    Calls Try.prog 4 #[.int .i64 code, .int .i64 id, .int .i64 answer] w fun e w' => e = .returned (.bool true) ∧ Below w.heap.size w w' := by
  obtain ⟨g1, g2, g3⟩ := ans_good c i a (by omega) (by omega) hi1 ha1 (by omega)
  have hback := bap_back ⟨#[]⟩ g1
  have hS : (headed (c : Int) (i : Int) (bBody (c : Int) (a : Int) [])).size = k := by rw [headed_size, g3]; split <;> omega
  rw [app_empty] at hback
  obtain ⟨T, hT⟩ : ∃ T, headed (c : Int) (i : Int) (bBody (c : Int) (a : Int) []) = T := ⟨_, rfl⟩
  rw [hT] at hback hS g2
  have G1 := Lib.hid g1; have G2 := Lib.hid g2; have HB := Lib.hid hback; have HZ := Lib.hid (ans_zero (T.extract 1 T.size))
  clear g1 g2 g3 hback hT h2
  have hz : p = 1 → ((a : Int) != 0) = false := fun h => by simp; omega
  have hpk2 : (p = 1 ∧ k = 4) ∨ (p = 0 ∧ k = 5) := by omega
  clear hpk
  rcases hpk2 with ⟨rfl, rfl⟩ | ⟨rfl, rfl⟩
  all_goals
    try have hz0 := hz rfl
    clear hz
    have t1 : 1 ≤ T.size := by omega
    go_enter Try.func4, Try.ntmps4
    go_wp2_with (first | (go_at_call 8; refine (num_any _ _).mono ?_; rintro e w' ⟨rfl, rfl⟩))
    refine (awake_any _).mono ?_
    rintro e w1 ⟨rfl, hb1⟩
    have hz1 := hb1.size
    go_wp2_with (first | (go_at_call 8; refine (num_any _ _).mono ?_; rintro e w' ⟨rfl, rfl⟩))
    refine (bapput_any _ _ _ _ _ _ [] _ (OptsAt.nil _ _) (by simp)).mono ?_
    rintro e w2 ⟨rfl, hb2⟩
    rw [G1.out, G2.out]
    have hz2 := hb2.size
    have bel2 := below_step hb1 hb2 hz1
    go_wp2_with (first | (go_at_call 8; refine (num_any _ _).mono ?_; rintro e w' ⟨rfl, rfl⟩))
    refine (bapget_any _ _).mono ?_
    rintro e w3 ⟨A3, cap3, rfl, hown3, hb3⟩
    rw [HB.out.1, HB.out.2.1, HB.out.2.2.1, HB.out.2.2.2.1, HB.out.2.2.2.2]
    clear hown3
    have hz3 := hb3.size
    have bel3 := below_step bel2 hb3 (by omega)
    have BQ3 := Lib.hid (Box.new w3 w3.heap.size rfl #[.int .i64 c, .int .i64 i, .int .i64 a, .slice A3 0 cap3] 24)
    go_wp2_with (first | (go_at_call 8; refine (num_any _ _).mono ?_; rintro e w' ⟨rfl, rfl⟩))
    refine (bapget_any _ _).mono ?_
    rintro e w4 ⟨A4, cap4, rfl, hown4, hb4⟩
    rw [ans_zero]
    clear hown4
    have hz4 := hb4.size
    simp at hz4
    have bel4 : Below w.heap.size w w4 := (bel3.alloc (by omega) _).trans (hb4.mono (by simp; omega))
    have BQ4 := BQ3.out.keep hb4
    have q0 := BQ4.2 0 _ rfl
    have q1 := BQ4.2 1 _ rfl
    have q2 := BQ4.2 2 _ rfl
    have q3 := BQ4.2 3 _ rfl
    clear BQ4
    have zz2 : w3.heap.size < w4.heap.size := by omega
    go_wp2_with (first | (go_at_call 8; refine (num_any _ _).mono ?_; rintro e w' ⟨rfl, rfl⟩))
    refine (sameb_any c i a _ _ _ _ _ _ [] _ (OptsAt.nil _ _) (OptsAt.nil _ _) (by omega)).mono ?_
    rintro e w5 ⟨rfl, hb5⟩
    go_wp2_with (first | (go_at_call 8; refine (num_any _ _).mono ?_; rintro e w' ⟨rfl, rfl⟩))
    go_ret
    exact ⟨by simp, (bel4.alloc (by omega) _).trans (hb5.mono (by simp; omega))⟩
theorem and1 (c : Nat) (h : c ≤ 8) : bits .and .i64 (c : Int) 1 = ((c % 2 : Nat) : Int) := by
  have : c = 0 ∨ c = 1 ∨ c = 2 ∨ c = 3 ∨ c = 4 ∨ c = 5 ∨ c = 6 ∨ c = 7 ∨ c = 8 := by omega
  rcases this with rfl | rfl | rfl | rfl | rfl | rfl | rfl | rfl | rfl <;> decide +kernel
theorem bapAnswers_walk (code id answer : Int) (k0 : (Lit.int .i64 code).wf = true) (k1 : (Lit.int .i64 id).wf = true) (k2 : (Lit.int .i64 answer).wf = true) (w : World) :
    Calls Try.prog 4 #[.int .i64 code, .int .i64 id, .int .i64 answer] w fun e w' => e = .returned (.bool true) ∧ Below w.heap.size w w' := by
  obtain ⟨i, hi, hi1, _⟩ := mask_nat 8 (by decide) 255 (by decide) id
  obtain ⟨a, ha, ha1, _⟩ := mask_nat 8 (by decide) 255 (by decide) answer
  have hu : 0 ≤ IntKind.u64.wrap code := by rw [IntKind.wrap_u64]; omega
  obtain ⟨m, hm, hm8⟩ : ∃ m : Nat, (IntKind.u64.wrap code).tmod 8 = (m : Int) ∧ m < 8 := ⟨((IntKind.u64.wrap code) % 8).toNat, by rw [Int.tmod_eq_emod_of_nonneg hu]; omega, by omega⟩
  have hc : 1 + (m : Int) = ((1 + m : Nat) : Int) := by omega
  have h1 := and1 (1 + m) (by omega)
  rcases Nat.mod_two_eq_zero_or_one (1 + m) with h | h
  · exact answers_ok code id answer (1 + m) i a m 0 5 w hm hm8 hc hi hi1 ha ha1 (by omega) (by rw [h1, h]) h
  · by_cases h0 : a = 0
    · exact answers_ok code id answer (1 + m) i a m 1 4 w hm hm8 hc hi hi1 ha ha1 (by omega) (by rw [h1, h]) h
    · exact answers_bad code id answer (1 + m) i a m w hm hm8 hc hi hi1 ha ha1 (by rw [h1, h]; rfl) (by omega) h0
end Go.Proofs.Ythhbgokjalmmpaa
