/- The walk of the law ControlLengths where the length is good, a long string. No condition. -/
import Derived.Test.YtmonkjogonjflaaCtlLen
import Derived.BigRegion
import Derived.Test.YtmonkjogonjflaaStill
namespace Go.Proofs.Ytmonkjogonjflaa
open Go.RowKit
set_option linter.unusedVariables false
set_option linter.unusedSimpArgs false
attribute [local go_sem] conv1 conv1d conv1n conv1a conv1ad conv1an conv2 conv2d conv2n conv2a conv2ad conv2an conv4 conv4d conv4n conv4a conv4ad conv4an conv5 conv5d conv5n conv5a conv5ad conv5an size_nums byt_fold
set_option maxRecDepth 100000 in
set_option maxHeartbeats 1000000 in
theorem lengths_ok2 (code length : Int) (s d : ByteArray) (w : World) (m k : Nat) (hm : bits .and .i64 code 63 = (m : Int)) (hm1 : m < 64) (hk : bits .and .i64 length 255 = (k : Int)) (hk1 : k < 256)
    (c : Nat) (hc : 5 + (m : Int) = (c : Int)) (hs : 200 < s.size) (hd : s.extract 0 200 = d) (hlen : d.size ≤ 200) (hf : 4 ≤ k ∧ k ≤ d.size + 4) :
    Calls Try.prog 5 #[.int .i64 code, .int .i64 length, .string s] w fun e w' => e = .returned (.bool true) ∧ Below w.heap.size w w' := by
  have hT : strOfNums [(c : Int), 9, 0, (k : Int)] ++ d = lenT c k d := rfl
  have hc5 : 5 ≤ c := by omega
  have hc6 : c ≤ 68 := by omega
  obtain ⟨h1, h2⟩ := hf
  have R := Lib.hid (len_ok c k d (by omega) hc5 (by omega) h1 h2)
  go_enter Try.func5, Try.ntmps5
  go_wp2_with (first | (go_at_call 13; refine (num_any _ _).mono ?_; rintro e w' ⟨rfl, rfl⟩))
  refine (awake_any _).mono ?_
  rintro e w1 ⟨rfl, hb1⟩
  have hz1 := hb1.size
  go_wp2_with (first | (go_at_call 13; refine (num_any _ _).mono ?_; rintro e w' ⟨rfl, rfl⟩))
  refine (ctlget_any _ _).mono ?_
  rintro e w2 ⟨A2, cap2, rfl, hown2, hb2⟩
  rw [R.out.1, R.out.2.1, R.out.2.2.1, R.out.2.2.2.1, R.out.2.2.2.2]
  clear hown2
  have hz2 := hb2.size
  simp at hz2
  have bel2 : Below w.heap.size w w2 := (hb1.alloc hz1 _).trans (hb2.mono (by simp; omega))
  go_wp2_with (first | (go_at_call 13; refine (num_any _ _).mono ?_; rintro e w' ⟨rfl, rfl⟩))
  have sl : IntKind.i64.wrap ((k : Int) - 4) = ((k - 4 : Nat) : Int) := by rw [IntKind.wrap_i64]; omega
  have sk : k - 4 ≤ d.size := by omega
  have ze : w2.heap.size < w2.heap.size + 1 := by omega
  (refine region_tail 11 (by kernel_rfl) (by kernel_rfl) ?_; simp only [List.take_succ_cons, List.take_zero, List.drop_succ_cons, List.drop_zero]; (repeat (first | (refine wpStill_step (fun K hK => ?_); go_simp; refine hK _ ?_; clear hK K) | (refine wpStill_step (fun K hK => ?_); go_simp; refine ⟨_, num_still _ _, hK _ ?_⟩; clear hK K))); refine wpStill_nil ?_)
  go_wp2_with fail
  refine (samep_any _ _ _ _ _ _ _ _ _ _ _ (OptsAt.nil _ _) (OptsAt.nil _ _) (by omega)).mono ?_
  rintro e w3 ⟨rfl, hb3⟩
  go_wp2_with fail
  go_ret
  exact ⟨by simp, (bel2.alloc (by omega) _).drew.trans (hb3.mono (by simp; omega))⟩
end Go.Proofs.Ytmonkjogonjflaa
