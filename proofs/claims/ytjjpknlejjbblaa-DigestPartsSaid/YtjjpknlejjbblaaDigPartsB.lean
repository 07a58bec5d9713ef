/- The walk of the law DigestParts, not both texts empty. No condition but sizes. -/
import Derived.Test.YtjjpknlejjbblaaDigLaws
import Derived.Test.YtjjpknlejjbblaaQReg
namespace Go.Proofs.Ytjjpknlejjbblaa
open Go.RowKit
set_option linter.unusedVariables false
set_option linter.unusedSimpArgs false
attribute [local go_sem] conv1 conv1d conv1n conv1a conv1ad conv1an conv2 conv2d conv2n conv2a conv2ad conv2an conv4 conv4d conv4n conv4a conv4ad conv4an conv5 conv5d conv5n conv5a conv5ad conv5an size_nums byt_fold
attribute [local go_sem high] run_string_add_sum
theorem ext_joinB (S : ByteArray) (k n : Nat) (hk : k ≤ n) (hn : S.size = n) : S.extract 0 k ++ S.extract k n = S := by
  subst hn
  apply ByteArray.ext
  simp [ByteArray.data_append, ByteArray.data_extract]
theorem chapT_B (a b : ByteArray) : chapT 65 a b = ⟨#[65]⟩ ++ (a ++ b) := by
  unfold chapT
  rw [ByteArray.append_assoc]
  rfl
set_option maxHeartbeats 16000000 in
theorem parts_some (a b : ByteArray) (cut : Int) (ha : a.size ≤ 140737488351232) (hb : b.size ≤ 140737488351232) (hc : (Lit.int .i64 cut).wf = true) (h0 : (a ++ b).size ≠ 0) (w : World) : Calls Try.prog 7 #[.string a, .string b, .int .i64 cut] w fun e w' => e = .returned (.bool true) ∧ Below w.heap.size w w' := by
  obtain ⟨S, hS⟩ : ∃ S, a ++ b = S := ⟨_, rfl⟩
  obtain ⟨n, hn⟩ : ∃ n, S.size = n := ⟨_, rfl⟩
  rw [hS, hn] at h0
  have hn2 : n ≤ 300000000000000 := by rw [← hn, ← hS, size_app]; omega
  have HS := Lib.hid hS
  have h1 : (0 : Int) < (n : Int) := by omega
  have hu : 0 ≤ IntKind.u64.wrap cut := by rw [IntKind.wrap_u64]; omega
  have hw1 : IntKind.i64.wrap ((n : Int) + 1) = (n : Int) + 1 := IntWalk.i64_in _ (by omega)
  have hw2 : IntKind.u64.wrap ((n : Int) + 1) = (n : Int) + 1 := by rw [IntKind.wrap_u64]; omega
  obtain ⟨k, hk⟩ : ∃ k : Nat, (IntKind.u64.wrap cut).tmod ((n : Int) + 1) = (k : Int) := ⟨((IntKind.u64.wrap cut) % ((n : Int) + 1)).toNat, by rw [Int.tmod_eq_emod_of_nonneg hu]; have := Int.emod_nonneg (IntKind.u64.wrap cut) (by omega : (n : Int) + 1 ≠ 0); omega⟩
  have hkn : k ≤ n := by
    rw [Int.tmod_eq_emod_of_nonneg hu] at hk
    have := Int.emod_lt_of_pos (IntKind.u64.wrap cut) (by omega : (0 : Int) < (n : Int) + 1)
    omega
  have hw3 : IntKind.i64.wrap (k : Int) = (k : Int) := IntWalk.i64_in _ (by omega)
  have hz0 : (n : Int) + 1 ≠ 0 := by omega
  have hkn2 : (k : Int) ≤ (n : Int) := by omega
  have HJ := Lib.hid (ext_joinB S k n hkn hn)
  have HAS := Lib.hid (show ((⟨#[65]⟩ : ByteArray) ++ S).size ≤ 1000000000000000 from by rw [size_app]; show 1 + S.size ≤ _; omega)
  go_enter Try.func7, Try.ntmps7
  go_wp2_with fail
  refine (awake_any _).mono ?_
  rintro e u0 ⟨rfl, ha0⟩
  have bu0 : Below w.heap.size w u0 := below_step (Below.refl _ _) ha0 (by omega)
  go_wp2_with fail
  have hj := HJ.out
  (refine region_quiet (Below w.heap.size w) (by kernel_rfl) (by kernel_rfl) bu0.drew ?_; (repeat (first | go_big_quiet_skip | (go_big_quiet_want; go_big_quiet_op; first | go_big_quiet_on | (apply Exists.intro; refine ⟨fun W hW => ?_, ?_⟩; (· (first | rfl | ((first | (go_at_call 9; refine (of_any _ _ (by first | omega | exact HAS.out)).mono ?_; rintro e u ⟨rfl, hbu⟩; exact ⟨rfl, below_call hW hbu (Nat.le_refl _)⟩) | (go_at_call 11; refine (dchap_any 65 _ _ _ (by first | omega | (rw [size_ext]; omega)) (by first | omega | (rw [size_ext]; omega))).mono ?_; rintro e u ⟨rfl, hbu⟩; rw [chapT_B]; (first | rw [HS.out] | rw [HJ.out]); exact ⟨rfl, below_call hW hbu (Nat.le_refl _)⟩) | (go_at_call 14; refine (num_any _ _).mono ?_; rintro e u ⟨rfl, rfl⟩; exact ⟨rfl, hW⟩))))); go_big_quiet_on)))); refine wpQuiet_nil ?_; intro wq hwq)
  go_wp2_with fail
  go_ret
  exact ⟨rfl, hwq⟩
end Go.Proofs.Ytjjpknlejjbblaa
