/- The walk of the law ControlLengths: it returns true. No condition. -/
import Derived.Test.YtmonkjogonjflaaCtlLenA
import Derived.Test.YtmonkjogonjflaaCtlLenB
namespace Go.Proofs.Ytmonkjogonjflaa
open Go.RowKit
set_option linter.unusedVariables false
set_option linter.unusedSimpArgs false
theorem controlLengths_walk (code length : Int) (s : ByteArray) (k0 : (Lit.int .i64 code).wf = true) (k1 : (Lit.int .i64 length).wf = true) (hs : s.size ≤ 140737488351232) (w : World) :
    Calls Try.prog 5 #[.int .i64 code, .int .i64 length, .string s] w fun e w' => e = .returned (.bool true) ∧ Below w.heap.size w w' := by
  obtain ⟨m, hm, hm1, _⟩ := mask_nat 6 (by decide) 63 (by decide) code
  obtain ⟨k, hk, hk1, _⟩ := mask_nat 8 (by decide) 255 (by decide) length
  have hc : 5 + (m : Int) = ((5 + m : Nat) : Int) := by omega
  by_cases h2 : 200 < s.size
  · have hl : (s.extract 0 200).size ≤ 200 := by rw [size_ext]; omega
    by_cases hf : 4 ≤ k ∧ k ≤ (s.extract 0 200).size + 4
    · exact lengths_ok2 code length s _ w m k hm hm1 hk hk1 (5 + m) hc h2 rfl hl hf
    · exact lengths_bad2 code length s _ w m k hm hm1 hk hk1 (5 + m) hc h2 rfl hl hf
  · by_cases hf : 4 ≤ k ∧ k ≤ s.size + 4
    · exact lengths_ok1 code length s _ w m k hm hm1 hk hk1 (5 + m) hc (by omega) rfl (by omega) hf
    · exact lengths_bad1 code length s _ w m k hm hm1 hk hk1 (5 + m) hc (by omega) rfl (by omega) hf
end Go.Proofs.Ytmonkjogonjflaa
