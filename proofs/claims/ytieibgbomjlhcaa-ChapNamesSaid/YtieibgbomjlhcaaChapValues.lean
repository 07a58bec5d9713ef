/- The walks of the laws ChapValues and ChapNames: each returns true. No condition. -/
import Derived.Test.YtieibgbomjlhcaaChapLaws
import Derived.Test.YtieibgbomjlhcaaChapPlain
import Derived.Test.YtieibgbomjlhcaaMake
namespace Go.Proofs.Ytieibgbomjlhcaa
open Go.RowKit
set_option linter.unusedVariables false
set_option linter.unusedSimpArgs false
attribute [local go_sem] conv1 conv1d conv1n conv1a conv1ad conv1an conv2 conv2d conv2n conv2a conv2ad conv2an conv4 conv4d conv4n conv4a conv4ad conv4an conv5 conv5d conv5n conv5a conv5ad conv5an size_nums byt_fold
attribute [local go_sem] conv_z zstr_size

theorem umod4 (x : Int) : ∃ c : Nat, (IntKind.u64.wrap x).tmod 4 = (c : Int) ∧ c < 4 := by
  refine ⟨((IntKind.u64.wrap x).tmod 4).toNat, ?_, ?_⟩ <;>
  · rw [IntKind.wrap_u64, Int.tmod_eq_emod_of_nonneg (by omega)]; omega
theorem val_fit {c i : Int} {v : ByteArray} (h1 : 1 ≤ c) (h2 : c ≤ 4) (hi : 0 ≤ i) (hi2 : i ≤ 255) (hf : (c ≤ 2 ∧ 1 ≤ v.size ∧ v.size ≤ 255) ∨ (2 < c ∧ v.size = 0)) : chFit c i v = true := by
  refine chFit_yes h1 h2 (by unfold octB; simp; omega) ?_ (by omega)
  rcases hf with ⟨a, b, d⟩ | ⟨a, b⟩
  · rw [nonempty_of v (by omega)]; unfold valB
    have : c = 1 ∨ c = 2 := by omega
    rcases this with rfl | rfl <;> rfl
  · rw [empty_of v b]; unfold valB
    have : c = 3 ∨ c = 4 := by omega
    rcases this with rfl | rfl <;> rfl
theorem val_unfit {c i : Int} {v : ByteArray} (h1 : 1 ≤ c) (h2 : c ≤ 4) (hf : ¬ ((c ≤ 2 ∧ 1 ≤ v.size ∧ v.size ≤ 255) ∨ (2 < c ∧ v.size = 0))) : chFit c i v = false := by
  refine chFit_no ?_
  by_cases h : 255 < v.size
  · exact .inr (.inr (.inr (.inr (by omega))))
  · refine .inr (.inr (.inr (.inl ?_)))
    unfold valB
    by_cases h0 : v.size = 0
    · have : c = 1 ∨ c = 2 := by omega
      rw [empty_of v h0]
      rcases this with rfl | rfl <;> decide
    · have : c = 3 ∨ c = 4 := by omega
      rw [nonempty_of v (by omega)]
      rcases this with rfl | rfl <;> decide
theorem val_yes {c i : Int} {v m : ByteArray} (h1 : 1 ≤ c) (h2 : c ≤ 4) (hi : 0 ≤ i) (hi2 : i ≤ 255) (hf : (c ≤ 2 ∧ 1 ≤ v.size ∧ v.size ≤ 255) ∨ (2 < c ∧ v.size = 0)) (hm : m.size ≤ 253) : chE c i v m = 0 := by
  unfold chE; rw [val_fit h1 h2 hi hi2 hf, if_pos rfl, if_pos hm]
theorem val_no {c i : Int} {v m : ByteArray} (h1 : 1 ≤ c) (h2 : c ≤ 4) (hf : ¬ ((c ≤ 2 ∧ 1 ≤ v.size ∧ v.size ≤ 255) ∨ (2 < c ∧ v.size = 0))) : chE c i v m = 600 := by
  unfold chE; rw [val_unfit h1 h2 hf]; rfl

set_option maxHeartbeats 1000000 in
theorem values_yes (code many : Int) (nm m : ByteArray) (w : World) (c k : Nat) (hk : bits .and .i64 many 511 = (k : Int)) (hk1 : k < 512) (hc : (IntKind.u64.wrap code).tmod 4 = (c : Int)) (hc1 : c < 4)
    (hf : (c < 2 ∧ 1 ≤ k ∧ k ≤ 255) ∨ (2 ≤ c ∧ k = 0)) (hm : (nm.size ≤ 100 ∧ m = nm) ∨ (100 < nm.size ∧ m = nm.extract 0 100)) :
    Calls Try.prog 5 #[.int .i64 code, .int .i64 many, .string nm] w fun e w' => e = .returned (.bool true) ∧ Below w.heap.size w w' := by
  have hm1 : m.size ≤ 253 := by
    rcases hm with ⟨a, rfl⟩ | ⟨a, rfl⟩
    · omega
    · rw [size_ext]; omega
  have e : chE (1 + (c : Int)) 1 (zstr k) m = 0 := val_yes (by omega) (by omega) (by omega) (by omega) (by rw [zstr_size]; omega) hm1
  obtain ⟨r1, r2, r3, r4, r5⟩ := chap_back0 e
  have hs := chS_of e
  have hmk := run_mk k (by omega)
  have hb : ((k : Int) == 0) = decide (2 ≤ c) := by
    rcases hf with ⟨a, b, d⟩ | ⟨a, b⟩
    · rw [decide_eq_false (by omega)]; simp; omega
    · rw [decide_eq_true a, b]; rfl
  rcases hm with ⟨hn, rfl⟩ | ⟨hn, rfl⟩
  all_goals
    rcases hf with ⟨f1, f2, f3⟩ | ⟨f1, f2⟩
    · rw [decide_eq_false (by omega)] at hb
      go_enter Try.func5, Try.ntmps5
      (go_wp2_with (first | (go_at_call 12; refine (num_any _ _).mono ?_; rintro e w' ⟨rfl, rfl⟩)); refine (awake_any _).mono ?_; rintro e w1 ⟨rfl, hb1⟩; obtain ⟨hc1, hf1⟩ := bcell hb1; have hz1 := hb1.size; try simp at hz1)
      (go_wp2_with (first | (go_at_call 12; refine (num_any _ _).mono ?_; rintro e w' ⟨rfl, rfl⟩)); refine (put_any _ _ _ _ _).mono ?_; rintro e w2 ⟨rfl, hb2⟩; obtain ⟨hc2, hf2⟩ := bcell hb2; have hz2 := hb2.size; try simp at hz2)
      (go_wp2_with (first | (go_at_call 12; refine (num_any _ _).mono ?_; rintro e w' ⟨rfl, rfl⟩)); refine (get_any _ _).mono ?_; rintro e w3 ⟨rfl, hb3⟩; obtain ⟨hc3, hf3⟩ := bcell hb3; have hz3 := hb3.size; try simp at hz3)
      go_wp2_with (first | (go_at_call 12; refine (num_any _ _).mono ?_; rintro e w' ⟨rfl, rfl⟩))
      go_ret
      exact ⟨rfl, (by repeat' (first | (with_reducible exact Below.refl _ _) | (with_reducible apply Below.drew) | (with_reducible apply below_drewN) | (with_reducible apply Below.setCell) | (with_reducible apply Below.alloc) | (with_reducible refine below_step ?_ (by assumption) ?_) | omega | (simp; done) | (simp; omega)))⟩
    · rw [decide_eq_true f1] at hb
      have f3 : k ≤ 0 := by omega
      clear f2
      go_enter Try.func5, Try.ntmps5
      (go_wp2_with (first | (go_at_call 12; refine (num_any _ _).mono ?_; rintro e w' ⟨rfl, rfl⟩)); refine (awake_any _).mono ?_; rintro e w1 ⟨rfl, hb1⟩; obtain ⟨hc1, hf1⟩ := bcell hb1; have hz1 := hb1.size; try simp at hz1)
      (go_wp2_with (first | (go_at_call 12; refine (num_any _ _).mono ?_; rintro e w' ⟨rfl, rfl⟩)); refine (put_any _ _ _ _ _).mono ?_; rintro e w2 ⟨rfl, hb2⟩; obtain ⟨hc2, hf2⟩ := bcell hb2; have hz2 := hb2.size; try simp at hz2)
      (go_wp2_with (first | (go_at_call 12; refine (num_any _ _).mono ?_; rintro e w' ⟨rfl, rfl⟩)); refine (get_any _ _).mono ?_; rintro e w3 ⟨rfl, hb3⟩; obtain ⟨hc3, hf3⟩ := bcell hb3; have hz3 := hb3.size; try simp at hz3)
      go_wp2_with (first | (go_at_call 12; refine (num_any _ _).mono ?_; rintro e w' ⟨rfl, rfl⟩))
      go_ret
      exact ⟨rfl, (by repeat' (first | (with_reducible exact Below.refl _ _) | (with_reducible apply Below.drew) | (with_reducible apply below_drewN) | (with_reducible apply Below.setCell) | (with_reducible apply Below.alloc) | (with_reducible refine below_step ?_ (by assumption) ?_) | omega | (simp; done) | (simp; omega)))⟩
set_option maxHeartbeats 1000000 in
theorem values_no (code many : Int) (nm m : ByteArray) (w : World) (c k : Nat) (hk : bits .and .i64 many 511 = (k : Int)) (hk1 : k < 512) (hc : (IntKind.u64.wrap code).tmod 4 = (c : Int)) (hc1 : c < 4)
    (hf : ¬ ((c < 2 ∧ 1 ≤ k ∧ k ≤ 255) ∨ (2 ≤ c ∧ k = 0))) (hm : (nm.size ≤ 100 ∧ m = nm) ∨ (100 < nm.size ∧ m = nm.extract 0 100)) :
    Calls Try.prog 5 #[.int .i64 code, .int .i64 many, .string nm] w fun e w' => e = .returned (.bool true) ∧ Below w.heap.size w w' := by
  have e : chE (1 + (c : Int)) 1 (zstr k) m = 600 := val_no (by omega) (by omega) (by rw [zstr_size]; omega)
  have hs := chS_not (c := 1 + (c : Int)) (i := 1) (v := zstr k) (nm := m) (by rw [e]; decide)
  have hmk := run_mk k (by omega)
  have hf2 : (c < 2 ∧ k ≤ 0) ∨ (c < 2 ∧ 255 < k) ∨ (2 ≤ c ∧ 0 < k) := by omega
  clear hf
  rcases hm with ⟨hn, rfl⟩ | ⟨hn, rfl⟩
  all_goals
    rcases hf2 with ⟨f1, f2⟩ | ⟨f1, f2⟩ | ⟨f1, f2⟩
    · have hb : ((k : Int) == 0) = true := by simp; omega
      go_enter Try.func5, Try.ntmps5
      (go_wp2_with (first | (go_at_call 12; refine (num_any _ _).mono ?_; rintro e w' ⟨rfl, rfl⟩)); refine (awake_any _).mono ?_; rintro e w1 ⟨rfl, hb1⟩; obtain ⟨hc1, hf1⟩ := bcell hb1; have hz1 := hb1.size; try simp at hz1)
      (go_wp2_with (first | (go_at_call 12; refine (num_any _ _).mono ?_; rintro e w' ⟨rfl, rfl⟩)); refine (put_any _ _ _ _ _).mono ?_; rintro e w2 ⟨rfl, hb2⟩; obtain ⟨hc2, hf2⟩ := bcell hb2; have hz2 := hb2.size; try simp at hz2)
      go_wp2_with (first | (go_at_call 12; refine (num_any _ _).mono ?_; rintro e w' ⟨rfl, rfl⟩))
      go_ret
      exact ⟨rfl, (by repeat' (first | (with_reducible exact Below.refl _ _) | (with_reducible apply Below.drew) | (with_reducible apply below_drewN) | (with_reducible apply Below.setCell) | (with_reducible apply Below.alloc) | (with_reducible refine below_step ?_ (by assumption) ?_) | omega | (simp; done) | (simp; omega)))⟩
    · have hb : ((k : Int) == 0) = false := by simp; omega
      have hd : decide ((k : Int) ≤ 255) = false := by simp; omega
      go_enter Try.func5, Try.ntmps5
      (go_wp2_with (first | (go_at_call 12; refine (num_any _ _).mono ?_; rintro e w' ⟨rfl, rfl⟩)); refine (awake_any _).mono ?_; rintro e w1 ⟨rfl, hb1⟩; obtain ⟨hc1, hf1⟩ := bcell hb1; have hz1 := hb1.size; try simp at hz1)
      (go_wp2_with (first | (go_at_call 12; refine (num_any _ _).mono ?_; rintro e w' ⟨rfl, rfl⟩)); refine (put_any _ _ _ _ _).mono ?_; rintro e w2 ⟨rfl, hb2⟩; obtain ⟨hc2, hf2⟩ := bcell hb2; have hz2 := hb2.size; try simp at hz2)
      go_wp2_with (first | (go_at_call 12; refine (num_any _ _).mono ?_; rintro e w' ⟨rfl, rfl⟩))
      go_ret
      exact ⟨rfl, (by repeat' (first | (with_reducible exact Below.refl _ _) | (with_reducible apply Below.drew) | (with_reducible apply below_drewN) | (with_reducible apply Below.setCell) | (with_reducible apply Below.alloc) | (with_reducible refine below_step ?_ (by assumption) ?_) | omega | (simp; done) | (simp; omega)))⟩
    · have hb : ((k : Int) == 0) = false := by simp; omega
      go_enter Try.func5, Try.ntmps5
      (go_wp2_with (first | (go_at_call 12; refine (num_any _ _).mono ?_; rintro e w' ⟨rfl, rfl⟩)); refine (awake_any _).mono ?_; rintro e w1 ⟨rfl, hb1⟩; obtain ⟨hc1, hf1⟩ := bcell hb1; have hz1 := hb1.size; try simp at hz1)
      (go_wp2_with (first | (go_at_call 12; refine (num_any _ _).mono ?_; rintro e w' ⟨rfl, rfl⟩)); refine (put_any _ _ _ _ _).mono ?_; rintro e w2 ⟨rfl, hb2⟩; obtain ⟨hc2, hf2⟩ := bcell hb2; have hz2 := hb2.size; try simp at hz2)
      go_wp2_with (first | (go_at_call 12; refine (num_any _ _).mono ?_; rintro e w' ⟨rfl, rfl⟩))
      go_ret
      exact ⟨rfl, (by repeat' (first | (with_reducible exact Below.refl _ _) | (with_reducible apply Below.drew) | (with_reducible apply below_drewN) | (with_reducible apply Below.setCell) | (with_reducible apply Below.alloc) | (with_reducible refine below_step ?_ (by assumption) ?_) | omega | (simp; done) | (simp; omega)))⟩
theorem chapValues_walk (code many : Int) (nm : ByteArray) (k0 : (Lit.int .i64 code).wf = true) (k1 : (Lit.int .i64 many).wf = true) (k2 : nm.size ≤ 140737488351232) (w : World) :
    Calls Try.prog 5 #[.int .i64 code, .int .i64 many, .string nm] w fun e w' => e = .returned (.bool true) ∧ Below w.heap.size w w' := by
  obtain ⟨k, hk, hk1, -⟩ := mask_nat 9 (by decide) 511 (by decide) many
  obtain ⟨c, hc, hc1⟩ := umod4 code
  by_cases hf : (c < 2 ∧ 1 ≤ k ∧ k ≤ 255) ∨ (2 ≤ c ∧ k = 0)
  · by_cases hn : nm.size ≤ 100
    · exact values_yes code many nm nm w c k hk (by omega) hc hc1 hf (.inl ⟨hn, rfl⟩)
    · exact values_yes code many nm _ w c k hk (by omega) hc hc1 hf (.inr ⟨by omega, rfl⟩)
  · by_cases hn : nm.size ≤ 100
    · exact values_no code many nm nm w c k hk (by omega) hc hc1 hf (.inl ⟨hn, rfl⟩)
    · exact values_no code many nm _ w c k hk (by omega) hc hc1 hf (.inr ⟨by omega, rfl⟩)
end Go.Proofs.Ytieibgbomjlhcaa
