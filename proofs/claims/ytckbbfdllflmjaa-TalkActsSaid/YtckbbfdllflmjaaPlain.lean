/- Plain lemmas on integers, masks and shifts, used by the walks. No program in sight. -/
import Derived.WalkKit
import Derived.WalkSpells
import Derived.Lib.Hide
namespace Go.Proofs.Ytckbbfdllflmjaa
open Go.RowKit

theorem i64_mask (j : Nat) (hj : j ≤ 62) (n : Int) : bits .and .i64 n (2 ^ j - 1) = n % 2 ^ j := by
  have hc : ((2 : Int) ^ j - 1) = ((2 ^ j - 1 : Nat) : Int) := by
    rw [Int.natCast_sub (Nat.two_pow_pos j)]; simp
  have hlt : 2 ^ j - 1 < 2 ^ 64 := by
    have : 2 ^ j ≤ 2 ^ 62 := Nat.pow_le_pow_right (by decide) hj
    omega
  have hm : (BitVec.ofInt 64 (2 ^ j - 1)).toNat = 2 ^ j - 1 := by
    rw [hc, BitVec.ofInt_natCast, BitVec.toNat_ofNat, Nat.mod_eq_of_lt hlt]
  have key : (BitVec.ofInt 64 n &&& BitVec.ofInt 64 (2 ^ j - 1)).toNat = (n % ((2 ^ 64 : Nat) : Int)).toNat % 2 ^ j := by
    rw [BitVec.toNat_and, BitVec.toNat_ofInt, hm, Nat.and_two_pow_sub_one_eq_mod]
  show IntKind.i64.wrap ((BitVec.ofInt 64 n &&& BitVec.ofInt 64 (2 ^ j - 1)).toNat : Nat) = n % 2 ^ j
  rw [key, IntKind.wrap_i64]
  have hle : (2 ^ j : Nat) ≤ 2 ^ 62 := Nat.pow_le_pow_right (by decide) hj
  have hpos : 0 < (2 ^ j : Nat) := Nat.two_pow_pos j
  have hr : (n % ((2 ^ 64 : Nat) : Int)).toNat % 2 ^ j < 2 ^ j := Nat.mod_lt _ hpos
  have e1 : (((n % ((2 ^ 64 : Nat) : Int)).toNat % 2 ^ j : Nat) : Int) = n % 2 ^ j := by
    rw [Int.natCast_emod, Int.toNat_of_nonneg (Int.emod_nonneg _ (by decide))]
    have hd : ((2 ^ j : Nat) : Int) ∣ ((2 ^ 64 : Nat) : Int) := by
      exact_mod_cast Nat.pow_dvd_pow 2 (by omega : j ≤ 64)
    rw [Int.emod_emod_of_dvd _ hd]
    simp
  have e2 : (n % 2 ^ j : Int) = (((n % ((2 ^ 64 : Nat) : Int)).toNat % 2 ^ j : Nat) : Int) := e1.symm
  rw [e2]
  generalize (n % ((2 ^ 64 : Nat) : Int)).toNat % 2 ^ j = r at hr
  omega

theorem mask_nat (j : Nat) (hj : j ≤ 62) (m : Int) (hm : m = 2 ^ j - 1) (n : Int) : ∃ k : Nat, bits .and .i64 n m = (k : Int) ∧ k < 2 ^ j ∧ (k : Int) = n % 2 ^ j := by
  have hp : (0 : Int) < 2 ^ j := by exact_mod_cast Nat.two_pow_pos j
  refine ⟨(n % 2 ^ j).toNat, ?_, ?_, ?_⟩
  · rw [hm, i64_mask j hj, Int.toNat_of_nonneg (Int.emod_nonneg _ (by omega))]
  · have := Int.emod_lt_of_pos n hp
    have h0 := Int.emod_nonneg n (show (2 ^ j : Int) ≠ 0 by omega)
    have : ((n % 2 ^ j).toNat : Int) < ((2 ^ j : Nat) : Int) := by rw [Int.toNat_of_nonneg h0]; simpa using this
    exact_mod_cast this
  · rw [Int.toNat_of_nonneg (Int.emod_nonneg _ (by omega))]
end Go.Proofs.Ytckbbfdllflmjaa
