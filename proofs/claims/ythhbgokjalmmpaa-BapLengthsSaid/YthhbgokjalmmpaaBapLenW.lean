/- The walk of the law BapLengths: it returns true. No condition. -/
import Derived.Test.YthhbgokjalmmpaaBapLenA
import Derived.Test.YthhbgokjalmmpaaBapLenB
namespace Go.Proofs.Ythhbgokjalmmpaa
open Go.RowKit
set_option linter.unusedVariables false
set_option linter.unusedSimpArgs false
theorem bapLengths_walk (code length : Int) (s : ByteArray) (k0 : (Lit.int .i64 code).wf = true) (k1 : (Lit.int .i64 length).wf = true) (hs : s.size ≤ 140737488351232) (w : World) :
    Calls Try.prog 5 #[.int .i64 code, .int .i64 length, .string s] w fun e w' => e = .returned (.bool true) ∧ Below w.heap.size w w' := by
  have hu : 0 ≤ IntKind.u64.wrap code := by rw [IntKind.wrap_u64]; omega
  obtain ⟨m, hm, hm8⟩ : ∃ m : Nat, (IntKind.u64.wrap code).tmod 4 = (m : Int) ∧ m < 4 := ⟨((IntKind.u64.wrap code) % 4).toNat, by rw [Int.tmod_eq_emod_of_nonneg hu]; omega, by omega⟩
  obtain ⟨k, hk, hk1, _⟩ := mask_nat 6 (by decide) 63 (by decide) length
  have hc : 1 + 2 * (m : Int) = ((1 + 2 * m : Nat) : Int) := by omega
  by_cases h2 : 60 < s.size
  · have hl : (s.extract 0 60).size ≤ 60 := by rw [size_ext]; omega
    by_cases hf : 4 ≤ k ∧ k ≤ (s.extract 0 60).size + 4
    · exact lengths_ok2 code length s _ w m k hm hm8 hk hk1 (1 + 2 * m) hc h2 rfl hl hf
    · exact lengths_bad1 code length s _ w m k hm hm8 hk hk1 (1 + 2 * m) hc (.inr ⟨h2, rfl⟩) hl hf
  · by_cases hf : 4 ≤ k ∧ k ≤ s.size + 4
    · exact lengths_ok1 code length s _ w m k hm hm8 hk hk1 (1 + 2 * m) hc (by omega) rfl (by omega) hf
    · exact lengths_bad1 code length s _ w m k hm hm8 hk hk1 (1 + 2 * m) hc (.inl ⟨by omega, rfl⟩) (by omega) hf
end Go.Proofs.Ythhbgokjalmmpaa
