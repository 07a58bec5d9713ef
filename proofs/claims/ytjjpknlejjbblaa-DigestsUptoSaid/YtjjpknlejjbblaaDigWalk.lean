/- The walks of the laws Digests and DigestChaps. No condition but sizes. -/
import Derived.Test.YtjjpknlejjbblaaDigLaws
namespace Go.Proofs.Ytjjpknlejjbblaa
open Go.RowKit
set_option linter.unusedVariables false
set_option linter.unusedSimpArgs false
attribute [local go_sem] conv1 conv1d conv1n conv1a conv1ad conv1an conv2 conv2d conv2n conv2a conv2ad conv2an conv4 conv4d conv4n conv4a conv4ad conv4an conv5 conv5d conv5n conv5a conv5ad conv5an size_nums byt_fold
attribute [local go_sem high] run_string_add_sum
set_option maxHeartbeats 1000000 in
theorem digests_walk (s : ByteArray) (id : Int) (a b : ByteArray) (hs : s.size ≤ 40000000000000) (hid : (Lit.int .i64 id).wf = true) (ha : a.size ≤ 40000000000000) (hb : b.size ≤ 40000000000000) (w : World) : Calls Try.prog 4 #[.string s, .int .i64 id, .string a, .string b] w fun e w' => e = .returned (.bool true) ∧ Below w.heap.size w w' := by
  go_enter Try.func4, Try.ntmps4
  go_wp2_with fail
  refine (of_any s _ (by omega)).mono ?_
  rintro e u0 ⟨rfl, ha0⟩
  have bu0 : Below w.heap.size w u0 := below_step (Below.refl _ _) ha0 (by omega)
  go_wp2_with fail
  refine (rmd5_any s _ (by omega)).mono ?_
  rintro e u1 ⟨rfl, ha1⟩
  have bu1 : Below w.heap.size w u1 := below_step bu0 ha1 (by have := bu0.size; omega)
  go_wp2_with fail
  refine (dchap_any id a b _ (by omega) (by omega)).mono ?_
  rintro e u2 ⟨rfl, ha2⟩
  have bu2 : Below w.heap.size w u2 := below_step bu1 ha2 (by have := bu1.size; omega)
  go_wp2_with fail
  refine (rchap_any id a b _ ha hb).mono ?_
  rintro e u3 ⟨rfl, ha3⟩
  have bu3 : Below w.heap.size w u3 := below_step bu2 ha3 (by have := bu2.size; omega)
  go_wp2_with fail
  refine (awake_any _).mono ?_
  rintro e u4 ⟨rfl, ha4⟩
  have bu4 : Below w.heap.size w u4 := below_step bu3 ha4 (by have := bu3.size; omega)
  go_wp2_with fail
  go_ret
  exact ⟨rfl, bu4⟩
end Go.Proofs.Ytjjpknlejjbblaa
