/- The contracts of digest.Chap and of the reference's Chap. No condition but memory's own limits. -/
import Derived.Test.YtdfefpbpfneahaaDigOf
import Derived.Test.YtdfefpbpfneahaaDigMd5
import Derived.Deep.RegionLaw
namespace Go.Proofs.Ytdfefpbpfneahaa
open Go.RowKit
set_option linter.unusedVariables false
set_option linter.unusedSimpArgs false
attribute [local go_sem] conv1 conv1d conv1n conv1a conv1ad conv1an conv2 conv2d conv2n conv2a conv2ad conv2an conv4 conv4d conv4n conv4a conv4ad conv4an conv5 conv5d conv5n conv5a conv5ad conv5an size_nums byt_fold
attribute [local go_sem high] run_string_add_sum
def chapT (id : Int) (a b : ByteArray) : ByteArray := strOfNums [id % 256] ++ a ++ b
theorem chapT_size (id : Int) (a b : ByteArray) : (chapT id a b).size = 1 + a.size + b.size := by unfold chapT; rw [size_app, size_app, size_nums]; rfl
set_option maxHeartbeats 1000000 in
theorem dchap_any (id : Int) (a b : ByteArray) (w : World) (ha : a.size ≤ 400000000000000) (hb : b.size ≤ 400000000000000) : Calls Try.prog 35 #[.int .i64 id, .string a, .string b] w fun e w' => e = .returned (.string (md5 (chapT id a b))) ∧ Below w.heap.size w w' := by
  have hT : strOfNums [id % 256] ++ a ++ b = chapT id a b := rfl
  have hz := chapT_size id a b
  have HZ := Lib.hid hz; clear hz
  go_enter Try.func35, Try.ntmps35
  go_wp2_with fail
  refine (of_any _ _ (by have := HZ.out; omega)).mono ?_
  rintro e w1 ⟨rfl, hb1⟩
  go_wp2_with fail
  go_ret
  exact ⟨rfl, ((Below.refl _ _).alloc (Nat.le_refl _) _).trans (hb1.mono (by simp))⟩
theorem and255 (x : Int) : bits .and .i64 x 255 = x % 256 := i64_mask 8 (by decide) x
set_option maxHeartbeats 1000000 in
theorem rchap_any (id : Int) (a b : ByteArray) (w : World) (ha : a.size ≤ 40000000000000) (hb : b.size ≤ 40000000000000) : Calls Try.prog 14 #[.int .i64 id, .string a, .string b] w fun e w' => e = .returned (.string (md5 (chapT id a b))) ∧ Below w.heap.size w w' := by
  have hT : strOfNums [id % 256] ++ a ++ b = chapT id a b := rfl
  have hz := chapT_size id a b
  have HZ := Lib.hid hz; clear hz
  have h255 := and255 id
  have h8 : IntKind.u8.wrap (id % 256) = id % 256 := IntWalk.u8_in _ (by omega)
  go_enter Try.func14, Try.ntmps14
  go_wp2_with fail
  refine (rmd5_any _ _ (by have := HZ.out; omega)).mono ?_
  rintro e w1 ⟨rfl, hb1⟩
  go_wp2_with fail
  go_ret
  exact ⟨rfl, ((Below.refl _ _).alloc (Nat.le_refl _) _).trans (hb1.mono (by simp))⟩
end Go.Proofs.Ytdfefpbpfneahaa
