/- The walk of the law DigestParts, both texts empty. No condition but sizes. -/
import Derived.Test.YtjjpknlejjbblaaDigLaws
import Derived.Test.YtjjpknlejjbblaaQReg
namespace Go.Proofs.Ytjjpknlejjbblaa
open Go.RowKit
set_option linter.unusedVariables false
set_option linter.unusedSimpArgs false
attribute [local go_sem] conv1 conv1d conv1n conv1a conv1ad conv1an conv2 conv2d conv2n conv2a conv2ad conv2an conv4 conv4d conv4n conv4a conv4ad conv4an conv5 conv5d conv5n conv5a conv5ad conv5an size_nums byt_fold
attribute [local go_sem high] run_string_add_sum
theorem ext_join (S : ByteArray) (k n : Nat) (hk : k ≤ n) (hn : S.size = n) : S.extract 0 k ++ S.extract k n = S := by
  subst hn
  apply ByteArray.ext
  simp [ByteArray.data_append, ByteArray.data_extract]
theorem chapT_A (a b : ByteArray) : chapT 65 a b = ⟨#[65]⟩ ++ (a ++ b) := by
  unfold chapT
  rw [ByteArray.append_assoc]
  rfl
set_option maxHeartbeats 16000000 in
theorem parts_nil (a b : ByteArray) (cut : Int) (ha : a.size ≤ 140737488351232) (hb : b.size ≤ 140737488351232) (hc : (Lit.int .i64 cut).wf = true) (h0 : (a ++ b).size = 0) (w : World) : Calls Try.prog 7 #[.string a, .string b, .int .i64 cut] w fun e w' => e = .returned (.bool true) ∧ Below w.heap.size w w' := by
  obtain ⟨S, hS⟩ : ∃ S, a ++ b = S := ⟨_, rfl⟩
  obtain ⟨n, hn⟩ : ∃ n, S.size = n := ⟨_, rfl⟩
  rw [hS, hn] at h0
  have hn2 : n ≤ 300000000000000 := by rw [← hn, ← hS, size_app]; omega
  have HS := Lib.hid hS
  subst h0
  obtain rfl : S = ByteArray.empty := by
    have e : S.data.size = 0 := hn
    simpa using e
  have HJ := Lib.hid (show ByteArray.empty ++ ByteArray.empty = ByteArray.empty from rfl)
  have HE := Lib.hid (show (⟨#[65]⟩ : ByteArray) ++ ByteArray.empty = ⟨#[65]⟩ from rfl)
  go_enter Try.func7, Try.ntmps7
  go_wp2_with fail
  refine (awake_any _).mono ?_
  rintro e u0 ⟨rfl, ha0⟩
  have bu0 : Below w.heap.size w u0 := below_step (Below.refl _ _) ha0 (by omega)
  go_wp2_with fail
  have hj := HJ.out
  (refine region_quiet (Below w.heap.size w) (by kernel_rfl) (by kernel_rfl) bu0.drew ?_; (repeat (first | go_big_quiet_skip | (go_big_quiet_want; go_big_quiet_op; first | go_big_quiet_on | (apply Exists.intro; refine ⟨fun W hW => ?_, ?_⟩; (· (first | rfl | ((first | (go_at_call 9; refine (of_any _ _ (by decide)).mono ?_; rintro e u ⟨rfl, hbu⟩; exact ⟨rfl, below_call hW hbu (Nat.le_refl _)⟩) | (go_at_call 11; refine (dchap_any 65 _ _ _ (by first | omega | decide) (by first | omega | decide)).mono ?_; rintro e u ⟨rfl, hbu⟩; rw [chapT_A]; (first | rw [HS.out] | rw [HJ.out]); rw [HE.out]; exact ⟨rfl, below_call hW hbu (Nat.le_refl _)⟩) | (go_at_call 14; refine (num_any _ _).mono ?_; rintro e u ⟨rfl, rfl⟩; exact ⟨rfl, hW⟩))))); go_big_quiet_on)))); refine wpQuiet_nil ?_; intro wq hwq)
  go_wp2_with fail
  go_ret
  exact ⟨rfl, hwq⟩
end Go.Proofs.Ytjjpknlejjbblaa
