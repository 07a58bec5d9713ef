/- The contract of the reference's Chap (messages): as chapmsg.Put. No condition. -/
import Derived.Test.YtdfefpbpfneahaaChapRefA
import Derived.Test.YtdfefpbpfneahaaChapRefB
import Derived.Test.YtdfefpbpfneahaaChapRefC
import Derived.Test.YtdfefpbpfneahaaNum
namespace Go.Proofs.Ytdfefpbpfneahaa
open Go.RowKit
set_option linter.unusedVariables false
set_option linter.unusedSimpArgs false
attribute [local go_sem] conv1 conv1d conv1n conv1a conv1ad conv1an conv2 conv2d conv2n conv2a conv2ad conv2an conv4 conv4d conv4n conv4a conv4ad conv4an conv5 conv5d conv5n conv5a conv5ad conv5an size_nums byt_fold
theorem rput_any (c i : Int) (v nm : ByteArray) (w : World) :
    Calls Try.prog 32 #[.agg #[.int .i64 c, .int .i64 i, .string v, .string nm]] w (ChPut c i v nm w) := by
  by_cases hf : rcFine c i v nm
  · obtain ⟨h1, h2, h3, h4, h5, h6, h7⟩ := hf
    cases hc1 : (c == 1)
    · cases hc2 : (c == 2)
      · have hv : valB c = false := by unfold valB; rw [hc1, hc2]; rfl
        have h0 : v.size = 0 := by rw [hv] at h5; have := of_decide_eq_false h5.symm; omega
        rw [eq_empty v h0]
        exact rput_o3 c i nm w hc1 hc2 h1 h2 h3 h4 h7
      · obtain rfl : c = 2 := by simpa using hc2
        exact rput_o2 i v nm w h3 h4 (of_decide_eq_true h5.symm) h6 h7
    · obtain rfl : c = 1 := by simpa using hc1
      exact rput_o1 i v nm w h3 h4 (of_decide_eq_true h5.symm) h6 h7
  · cases hc1 : (c == 1)
    · cases hc2 : (c == 2)
      · by_cases h0 : 0 < v.size
        · exact rput_e4 c i v nm w hc1 hc2 h0
        · have e := eq_empty v (by omega)
          subst e
          exact rput_e3 c i nm w hc1 hc2 hf
      · obtain rfl : c = 2 := by simpa using hc2
        exact rput_e2 i v nm w hf
    · obtain rfl : c = 1 := by simpa using hc1
      exact rput_e1 i v nm w hf
end Go.Proofs.Ytdfefpbpfneahaa
