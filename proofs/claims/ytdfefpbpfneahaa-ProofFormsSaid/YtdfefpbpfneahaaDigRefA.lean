/- Contracts of the reference's sines and turns. No condition. -/
import Derived.Test.YtdfefpbpfneahaaDigOf
namespace Go.Proofs.Ytdfefpbpfneahaa
open Go.RowKit
set_option linter.unusedVariables false
set_option linter.unusedSimpArgs false
attribute [local go_sem] conv1 conv1d conv1n conv1a conv1ad conv1an conv2 conv2d conv2n conv2a conv2ad conv2an conv4 conv4d conv4n conv4a conv4ad conv4an conv5 conv5d conv5n conv5a conv5ad conv5an size_nums byt_fold
set_option maxRecDepth 100000 in
set_option maxHeartbeats 1000000 in
theorem sines_any (w : World) : Calls Try.prog 36 #[] w fun e w' => e = .returned (.slice (some ⟨w.heap.size, 0, none⟩) 64 64) ∧ w.alloc (.cells kArr 76) = w' := by
  go_enter Try.func36, Try.ntmps36
  go_wp2_with (refine wpList_buildFlat rfl 77 76 64 _ rfl .u32 kL Try.underlying77 (by kernel_rfl) (by kernel_rfl) (by kernel_rfl) (by decide) (by decide) (by kernel_rfl) ?_)
  go_ret
  exact ⟨rfl, rfl⟩
theorem rget (j : Nat) (h : j < 16) : (#[.int .i64 7, .int .i64 12, .int .i64 17, .int .i64 22, .int .i64 5, .int .i64 9, .int .i64 14, .int .i64 20, .int .i64 4, .int .i64 11, .int .i64 16, .int .i64 23, .int .i64 6, .int .i64 10, .int .i64 15, .int .i64 21] : Array Value)[j]? = some (.int .i64 (([7, 12, 17, 22, 5, 9, 14, 20, 4, 11, 16, 23, 6, 10, 15, 21].getD j 0 : Nat) : Int)) := by
  rcases sixteen h with rfl | rfl | rfl | rfl | rfl | rfl | rfl | rfl | rfl | rfl | rfl | rfl | rfl | rfl | rfl | rfl <;> rfl
set_option maxRecDepth 100000 in
set_option maxHeartbeats 1000000 in
theorem rturns_any (i : Nat) (w : World) (hi : i < 64) : Calls Try.prog 40 #[.int .i64 i] w fun e w' => e = .returned (.int .i64 (fT i)) ∧ Below w.heap.size w w' := by
  obtain ⟨q, hq⟩ : ∃ q, i / 16 = q := ⟨_, rfl⟩
  obtain ⟨r, hr⟩ : ∃ r, i % 4 = r := ⟨_, rfl⟩
  obtain ⟨u, hu⟩ : ∃ u, q * 4 = u := ⟨_, rfl⟩
  obtain ⟨j, hj⟩ : ∃ j, u + r = j := ⟨_, rfl⟩
  have HT : Hid (fT i = [7, 12, 17, 22, 5, 9, 14, 20, 4, 11, 16, 23, 6, 10, 15, 21].getD j 0) := Lib.hid (by unfold fT; rw [hq, hr, hu, hj])
  have hqi : (i : Int) / 16 = (q : Int) := by omega
  have hri : (i : Int) % 4 = (r : Int) := by omega
  have hui : (q : Int) * 4 = (u : Int) := by omega
  have hji : (u : Int) + (r : Int) = (j : Int) := by omega
  have hq4 : q < 4 := by omega
  have hr4 : r < 4 := by omega
  have hu16 : u < 16 := by omega
  have hj16 : j < 16 := by omega
  have hjI : (j : Int) < 16 := by omega
  have hget := rget j hj16
  clear hq hr hu hj
  go_enter Try.func40, Try.ntmps40
  go_wp2
  go_ret
  refine ⟨?_, (Below.refl _ _).alloc (Nat.le_refl _) _⟩
  rw [HT.out]
  clear HT hget hji hjI hui hqi hri hu16
  rcases sixteen hj16 with rfl | rfl | rfl | rfl | rfl | rfl | rfl | rfl | rfl | rfl | rfl | rfl | rfl | rfl | rfl | rfl <;> rfl
end Go.Proofs.Ytdfefpbpfneahaa
