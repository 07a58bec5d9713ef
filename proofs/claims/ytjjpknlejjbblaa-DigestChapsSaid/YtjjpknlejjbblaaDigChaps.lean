/- The walk of the law DigestChaps. No condition but sizes. -/
import Derived.Test.YtjjpknlejjbblaaDigLaws
namespace Go.Proofs.Ytjjpknlejjbblaa
open Go.RowKit
set_option linter.unusedVariables false
set_option linter.unusedSimpArgs false
attribute [local go_sem] conv1 conv1d conv1n conv1a conv1ad conv1an conv2 conv2d conv2n conv2a conv2ad conv2an conv4 conv4d conv4n conv4a conv4ad conv4an conv5 conv5d conv5n conv5a conv5ad conv5an size_nums byt_fold
attribute [local go_sem high] run_string_add_sum
theorem chapT_mod (id : Int) (a b : ByteArray) : chapT (id % 256) a b = chapT id a b := by unfold chapT; rw [Int.emod_emod_of_dvd id (by decide : (256 : Int) ∣ 256)]
set_option maxHeartbeats 1000000 in
theorem chaps_walk (id : Int) (a b : ByteArray) (hid : (Lit.int .i64 id).wf = true) (ha : a.size ≤ 140737488351232) (hb : b.size ≤ 140737488351232) (w : World) : Calls Try.prog 5 #[.int .i64 id, .string a, .string b] w fun e w' => e = .returned (.bool true) ∧ Below w.heap.size w w' := by
  have hT : strOfNums [id % 256] ++ a ++ b = chapT id a b := rfl
  have hz := chapT_size id a b
  have HZ := Lib.hid hz; clear hz
  have h255 := and255 id
  have h8 : IntKind.u8.wrap (id % 256) = id % 256 := IntWalk.u8_in _ (by omega)
  have hm := md5_size (chapT id a b)
  have hm2 := Lib.hid (chapT_mod id a b)
  go_enter Try.func5, Try.ntmps5
  go_wp2_with fail
  refine (awake_any _).mono ?_
  rintro e u0 ⟨rfl, ha0⟩
  have bu0 : Below w.heap.size w u0 := below_step (Below.refl _ _) ha0 (by omega)
  go_wp2_with fail
  refine (dchap_any id a b _ (by omega) (by omega)).mono ?_
  rintro e u1 ⟨rfl, ha1⟩
  have bu1 : Below w.heap.size w u1 := below_step bu0 ha1 (by have := bu0.size; omega)
  go_wp2_with fail
  refine (of_any _ _ (by have := HZ.out; omega)).mono ?_
  rintro e u2 ⟨rfl, ha2⟩
  have bu2 : Below w.heap.size w u2 := below_step (bu1.alloc bu1.size _) ha2 (by have := bu1.size; simp; omega)
  go_wp2_with fail
  refine (dchap_any (id % 256) a b _ (by omega) (by omega)).mono ?_
  rintro e u3 ⟨rfl, ha3⟩
  rw [hm2.out]
  have bu3 : Below w.heap.size w u3 := below_step bu2 ha3 (by have := bu2.size; omega)
  go_wp2_with fail
  go_ret
  exact ⟨rfl, bu3⟩
end Go.Proofs.Ytjjpknlejjbblaa
