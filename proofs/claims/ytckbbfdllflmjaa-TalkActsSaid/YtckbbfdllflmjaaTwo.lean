/- The contract of the reference's two. No condition. -/
import Derived.Test.YtckbbfdllflmjaaHead
namespace Go.Proofs.Ytckbbfdllflmjaa
open Go.RowKit
set_option linter.unusedVariables false
set_option linter.unusedSimpArgs false
attribute [local go_sem] conv1 conv1d conv1n conv1a conv1ad conv1an conv2 conv2d conv2n conv2a conv2ad conv2an conv4 conv4d conv4n conv4a conv4ad conv4an conv5 conv5d conv5n conv5a conv5ad conv5an size_nums byt_fold
theorem and255 (x : Int) : bits .and .i64 x 255 = x % 256 := i64_mask 8 (by decide) x
theorem two_any (x : Int) (h0 : 0 ≤ x) (h1 : x < 65536) (w : World) : Calls Try.prog 43 #[.int .i64 x] w fun e w' => e = .returned (.string (strOfNums [x / 256, x % 256])) ∧ w.alloc (.cells #[.int .u8 (x / 256), .int .u8 (x % 256)] 5) = w' := by
  have e1 : bits .and .i64 (x / 256) 255 = x / 256 := by rw [and255]; omega
  have e2 : bits .and .i64 x 255 = x % 256 := and255 x
  go_enter Try.func43, Try.ntmps43
  go_wp2
  go_ret
  exact ⟨rfl, rfl⟩
end Go.Proofs.Ytckbbfdllflmjaa
