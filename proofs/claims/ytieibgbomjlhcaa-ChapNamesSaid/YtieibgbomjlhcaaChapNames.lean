/- The walk of the law ChapNames: it returns true. No condition. -/
import Derived.Test.YtieibgbomjlhcaaChapValues
namespace Go.Proofs.Ytieibgbomjlhcaa
open Go.RowKit
set_option linter.unusedVariables false
set_option linter.unusedSimpArgs false
attribute [local go_sem] conv1 conv1d conv1n conv1a conv1ad conv1an conv2 conv2d conv2n conv2a conv2ad conv2an conv4 conv4d conv4n conv4a conv4ad conv4an conv5 conv5d conv5n conv5a conv5ad conv5an size_nums byt_fold
attribute [local go_sem] conv_z zstr_size
theorem names_bad {c i : Int} {v m : ByteArray} (h1 : 1 ≤ c) (h2 : c ≤ 4) (hi : 0 ≤ i) (hi2 : i ≤ 255) (hf : (c ≤ 2 ∧ 1 ≤ v.size ∧ v.size ≤ 255) ∨ (2 < c ∧ v.size = 0)) (hm : 253 < m.size) : chE c i v m = 601 := by
  unfold chE; rw [val_fit h1 h2 hi hi2 hf, if_pos rfl, if_neg (by omega)]
set_option maxHeartbeats 1000000 in
theorem names_v (many code : Int) (w : World) (c k : Nat) (hk : bits .and .i64 many 7 = (k : Int)) (hk1 : k < 8) (hc : (IntKind.u64.wrap code).tmod 4 = (c : Int)) (hc1 : c < 4)
    (v : ByteArray) (hv : (c < 2 ∧ v = ⟨#[118]⟩) ∨ (2 ≤ c ∧ v = ⟨#[]⟩)) :
    Calls Try.prog 7 #[.int .i64 many, .int .i64 code] w fun e w' => e = .returned (.bool true) ∧ Below w.heap.size w w' := by
  have hsz : (1 + (c : Int) ≤ 2 ∧ 1 ≤ v.size ∧ v.size ≤ 255) ∨ (2 < 1 + (c : Int) ∧ v.size = 0) := by
    rcases hv with ⟨a, rfl⟩ | ⟨a, rfl⟩
    · exact .inl ⟨by omega, by decide, by decide⟩
    · exact .inr ⟨by omega, by decide⟩
  have e0 : chE (1 + (c : Int)) 2 v ⟨#[]⟩ = 0 := val_yes (by omega) (by omega) (by omega) (by omega) hsz (by decide)
  obtain ⟨q1, q2, q3, q4, q5⟩ := chap_back0 e0
  have hs0 := chS_of e0
  obtain ⟨K, hK⟩ : ∃ K : Nat, 249 + (k : Int) = (K : Int) := ⟨249 + k, by omega⟩
  have hmk := run_mk K (by omega)
  have hK2 : K ≤ 256 := by omega
  by_cases hl : K ≤ 253
  · have e : chE (1 + (c : Int)) 2 v (zstr K) = 0 := val_yes (by omega) (by omega) (by omega) (by omega) hsz (by rw [zstr_size]; exact hl)
    obtain ⟨r1, r2, r3, r4, r5⟩ := chap_back0 e
    have hs := chS_of e
    rcases hv with ⟨f1, rfl⟩ | ⟨f1, rfl⟩
    all_goals
      go_enter Try.func7, Try.ntmps7
      (go_wp2_with (first | (go_at_call 12; refine (num_any _ _).mono ?_; rintro e w' ⟨rfl, rfl⟩)); refine (awake_any _).mono ?_; rintro e w1 ⟨rfl, hb1⟩; obtain ⟨hc1, hf1⟩ := bcell hb1; have hz1 := hb1.size; try simp at hz1)
      (go_wp2_with (first | (go_at_call 12; refine (num_any _ _).mono ?_; rintro e w' ⟨rfl, rfl⟩)); refine (put_any _ _ _ _ _).mono ?_; rintro e w2 ⟨rfl, hb2⟩; obtain ⟨hc2, hf2⟩ := bcell hb2; have hz2 := hb2.size; try simp at hz2)
      (go_wp2_with (first | (go_at_call 12; refine (num_any _ _).mono ?_; rintro e w' ⟨rfl, rfl⟩)); refine (put_any _ _ _ _ _).mono ?_; rintro e w3 ⟨rfl, hb3⟩; obtain ⟨hc3, hf3⟩ := bcell hb3; have hz3 := hb3.size; try simp at hz3)
      (go_wp2_with (first | (go_at_call 12; refine (num_any _ _).mono ?_; rintro e w' ⟨rfl, rfl⟩)); refine (get_any _ _).mono ?_; rintro e w4 ⟨rfl, hb4⟩; obtain ⟨hc4, hf4⟩ := bcell hb4; have hz4 := hb4.size; try simp at hz4)
      (go_wp2_with (first | (go_at_call 12; refine (num_any _ _).mono ?_; rintro e w' ⟨rfl, rfl⟩)); refine (get_any _ _).mono ?_; rintro e w5 ⟨rfl, hb5⟩; obtain ⟨hc5, hf5⟩ := bcell hb5; have hz5 := hb5.size; try simp at hz5)
      have z5 : w4.heap.size < w5.heap.size := by omega
      go_wp2_with (first | (go_at_call 12; refine (num_any _ _).mono ?_; rintro e w' ⟨rfl, rfl⟩))
      go_ret
      exact ⟨rfl, (by repeat' (first | (with_reducible exact Below.refl _ _) | (with_reducible apply Below.drew) | (with_reducible apply below_drewN) | (with_reducible apply Below.setCell) | (with_reducible apply Below.alloc) | (with_reducible refine below_step ?_ (by assumption) ?_) | omega | (simp; done) | (simp; omega)))⟩
  · have e : chE (1 + (c : Int)) 2 v (zstr K) = 601 := names_bad (by omega) (by omega) (by omega) (by omega) hsz (by rw [zstr_size]; omega)
    have hs := chS_not (c := 1 + (c : Int)) (i := 2) (v := v) (nm := zstr K) (by rw [e]; decide)
    rcases hv with ⟨f1, rfl⟩ | ⟨f1, rfl⟩
    all_goals
      go_enter Try.func7, Try.ntmps7
      (go_wp2_with (first | (go_at_call 12; refine (num_any _ _).mono ?_; rintro e w' ⟨rfl, rfl⟩)); refine (awake_any _).mono ?_; rintro e w1 ⟨rfl, hb1⟩; obtain ⟨hc1, hf1⟩ := bcell hb1; have hz1 := hb1.size; try simp at hz1)
      (go_wp2_with (first | (go_at_call 12; refine (num_any _ _).mono ?_; rintro e w' ⟨rfl, rfl⟩)); refine (put_any _ _ _ _ _).mono ?_; rintro e w2 ⟨rfl, hb2⟩; obtain ⟨hc2, hf2⟩ := bcell hb2; have hz2 := hb2.size; try simp at hz2)
      (go_wp2_with (first | (go_at_call 12; refine (num_any _ _).mono ?_; rintro e w' ⟨rfl, rfl⟩)); refine (put_any _ _ _ _ _).mono ?_; rintro e w3 ⟨rfl, hb3⟩; obtain ⟨hc3, hf3⟩ := bcell hb3; have hz3 := hb3.size; try simp at hz3)
      (go_wp2_with (first | (go_at_call 12; refine (num_any _ _).mono ?_; rintro e w' ⟨rfl, rfl⟩)); refine (get_any _ _).mono ?_; rintro e w4 ⟨rfl, hb4⟩; obtain ⟨hc4, hf4⟩ := bcell hb4; have hz4 := hb4.size; try simp at hz4)
      go_wp2_with (first | (go_at_call 12; refine (num_any _ _).mono ?_; rintro e w' ⟨rfl, rfl⟩))
      go_ret
      exact ⟨rfl, (by repeat' (first | (with_reducible exact Below.refl _ _) | (with_reducible apply Below.drew) | (with_reducible apply below_drewN) | (with_reducible apply Below.setCell) | (with_reducible apply Below.alloc) | (with_reducible refine below_step ?_ (by assumption) ?_) | omega | (simp; done) | (simp; omega)))⟩
theorem chapNames_walk (many code : Int) (k0 : (Lit.int .i64 many).wf = true) (k1 : (Lit.int .i64 code).wf = true) (w : World) :
    Calls Try.prog 7 #[.int .i64 many, .int .i64 code] w fun e w' => e = .returned (.bool true) ∧ Below w.heap.size w w' := by
  obtain ⟨k, hk, hk1, -⟩ := mask_nat 3 (by decide) 7 (by decide) many
  obtain ⟨c, hc, hc1⟩ := umod4 code
  by_cases h : c < 2
  · exact names_v many code w c k hk (by omega) hc hc1 _ (.inl ⟨h, rfl⟩)
  · exact names_v many code w c k hk (by omega) hc hc1 _ (.inr ⟨by omega, rfl⟩)
end Go.Proofs.Ytieibgbomjlhcaa
