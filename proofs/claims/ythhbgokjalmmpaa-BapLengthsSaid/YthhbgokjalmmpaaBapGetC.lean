/- The contract of bapmsg.Get: any bytes. No condition. -/
import Derived.Test.YthhbgokjalmmpaaBapGetA
import Derived.Test.YthhbgokjalmmpaaBapGetB
namespace Go.Proofs.Ythhbgokjalmmpaa
open Go.RowKit
set_option linter.unusedVariables false
set_option linter.unusedSimpArgs false
attribute [local go_sem] conv1 conv1d conv1n conv1a conv1ad conv1an conv2 conv2d conv2n conv2a conv2ad conv2an conv4 conv4d conv4n conv4a conv4ad conv4an conv5 conv5d conv5n conv5a conv5ad conv5an size_nums byt_fold
theorem bapget_any (s : ByteArray) (w : World) : Calls Try.prog 9 #[.string s] w (BapGet s w) := by
  by_cases h4 : 4 ≤ s.size
  case neg => exact bapget_short s w h4
  have HN : Hid (gN s = gN s) := Lib.hid rfl
  cases hm : bMay (byt s 0) (byt s 1)
  · exact bapget_len s w h4 (gN s) (gN_eq s) HN (.inl hm)
  by_cases hw : gN s < gLeast s ∨ s.size < gN s
  · exact bapget_len s w h4 (gN s) (gN_eq s) HN (.inr ⟨hm, hw⟩)
  cases hr : bResp (byt s 0)
  · have hl : gLeast s = 4 := by unfold gLeast; rw [hr]; rfl
    exact bapget_req s w h4 (gN s) (gN_eq s) HN hm hr (by omega) (by omega)
  · have hl : gLeast s = 5 := by unfold gLeast; rw [hr]; rfl
    exact bapget_resp s w (by omega) (gN s) (gN_eq s) HN hm hr (by omega) (by omega)
end Go.Proofs.Ythhbgokjalmmpaa
