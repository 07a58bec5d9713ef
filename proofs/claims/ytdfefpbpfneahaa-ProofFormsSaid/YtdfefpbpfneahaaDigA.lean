/- Contracts of digest's turns, mix and of bits.RotateLeft32. No condition but the numbers' ranges. -/
import Derived.Test.YtdfefpbpfneahaaDigPlain
namespace Go.Proofs.Ytdfefpbpfneahaa
open Go.RowKit
set_option linter.unusedVariables false
set_option linter.unusedSimpArgs false
set_option maxHeartbeats 1000000 in
theorem rot_any (x : Int) (t : Nat) (w : World) (h0 : 0 ≤ x) (h1 : x < 4294967296) (t0 : 1 ≤ t) (t1 : t ≤ 31) : Calls Try.prog 45 #[.int .u32 x, .int .i64 t] w fun e w' => e = .returned (.int .u32 (rotl x t)) ∧ w = w' := by
  have hand : bits .and .u64 (t : Int) 31 = (t : Int) := by
    have : t = 1 ∨ t = 2 ∨ t = 3 ∨ t = 4 ∨ t = 5 ∨ t = 6 ∨ t = 7 ∨ t = 8 ∨ t = 9 ∨ t = 10 ∨ t = 11 ∨ t = 12 ∨ t = 13 ∨ t = 14 ∨ t = 15 ∨ t = 16 ∨ t = 17 ∨ t = 18 ∨ t = 19 ∨ t = 20 ∨ t = 21 ∨ t = 22 ∨ t = 23 ∨ t = 24 ∨ t = 25 ∨ t = 26 ∨ t = 27 ∨ t = 28 ∨ t = 29 ∨ t = 30 ∨ t = 31 := by omega
    rcases this with rfl | rfl | rfl | rfl | rfl | rfl | rfl | rfl | rfl | rfl | rfl | rfl | rfl | rfl | rfl | rfl | rfl | rfl | rfl | rfl | rfl | rfl | rfl | rfl | rfl | rfl | rfl | rfl | rfl | rfl | rfl <;> decide +kernel
  obtain ⟨u, hu⟩ : ∃ u : Nat, 32 - t = u := ⟨_, rfl⟩
  have hu2 : 32 - (t : Int) = (u : Int) := by omega
  have u1 : u ≤ 31 := by omega
  have HU := Lib.hid hu; clear hu
  go_enter Try.func45, Try.ntmps45
  go_wp2
  go_ret
  exact ⟨by unfold rotl; rw [HU.out]; rfl, rfl⟩
theorem u32s : IntKind.u32.signed = false := rfl
theorem ret_fg {F F' G : Int} {G' : Nat} (h1 : F' = F) (h2 : (G' : Int) = G) : Ending.returned (.tuple #[.int .u32 F, .int .i64 G]) = .returned (.tuple #[.int .u32 F', .int .i64 (G' : Int)]) := by rw [h1, h2]
set_option maxHeartbeats 1000000 in
theorem mix_any (i : Nat) (b c d : Int) (w : World) (hi : i < 64) : Calls Try.prog 44 #[.int .i64 i, .int .u32 b, .int .u32 c, .int .u32 d] w fun e w' => e = .returned (.tuple #[.int .u32 (fF i b c d), .int .i64 (fG i)]) ∧ w = w' := by
  obtain ⟨q, hq⟩ : ∃ q, i / 16 = q := ⟨_, rfl⟩
  have hs := u32s
  have HQ := Lib.hid hq
  have hqi : (i : Int) / 16 = (q : Int) := by omega
  clear hq
  rcases (by omega : q = 0 ∨ q = 1 ∨ q = 2 ∨ q = 3) with rfl | rfl | rfl | rfl
  all_goals
    simp at hqi
    go_enter Try.func44, Try.ntmps44
    go_wp2
    go_ret2
    exact ⟨ret_fg (by unfold fF nt; rw [HQ.out]; rfl) (by unfold fG; rw [HQ.out]; simp), rfl⟩
theorem info_u32 : (Try.prog.info? 76).map (fun i => (i.zero, i.size, i.bytes)) = some (some (.int .u32 0), 1, 4) := by kernel_rfl
theorem sixteen {j : Nat} (h : j < 16) : j = 0 ∨ j = 1 ∨ j = 2 ∨ j = 3 ∨ j = 4 ∨ j = 5 ∨ j = 6 ∨ j = 7 ∨ j = 8 ∨ j = 9 ∨ j = 10 ∨ j = 11 ∨ j = 12 ∨ j = 13 ∨ j = 14 ∨ j = 15 := by omega
def tRow (q : Nat) : Array Value := #[.int .i64 (([7, 12, 17, 22, 5, 9, 14, 20, 4, 11, 16, 23, 6, 10, 15, 21].getD (q * 4) 0 : Nat) : Int), .int .i64 (([7, 12, 17, 22, 5, 9, 14, 20, 4, 11, 16, 23, 6, 10, 15, 21].getD (q * 4 + 1) 0 : Nat) : Int), .int .i64 (([7, 12, 17, 22, 5, 9, 14, 20, 4, 11, 16, 23, 6, 10, 15, 21].getD (q * 4 + 2) 0 : Nat) : Int), .int .i64 (([7, 12, 17, 22, 5, 9, 14, 20, 4, 11, 16, 23, 6, 10, 15, 21].getD (q * 4 + 3) 0 : Nat) : Int)]
theorem idx52 (q : Nat) (hq : q < 4) : ∀ w : World, (Instr.index 97 (.agg #[.int .i64 7, .int .i64 12, .int .i64 17, .int .i64 22, .int .i64 5, .int .i64 9, .int .i64 14, .int .i64 20, .int .i64 4, .int .i64 11, .int .i64 16, .int .i64 23, .int .i64 6, .int .i64 10, .int .i64 15, .int .i64 21]) (.int .i64 (q : Int))).run Try.prog w = .ok (.agg (tRow q)) w := by
  intro w
  rcases (by omega : q = 0 ∨ q = 1 ∨ q = 2 ∨ q = 3) with rfl | rfl | rfl | rfl <;> kernel_rfl
theorem idx51 (q r : Nat) (hq : q < 4) (hr : r < 4) : ∀ w : World, (Instr.index 96 (.agg (tRow q)) (.int .i64 (r : Int))).run Try.prog w = .ok (.int .i64 (([7, 12, 17, 22, 5, 9, 14, 20, 4, 11, 16, 23, 6, 10, 15, 21].getD (q * 4 + r) 0 : Nat) : Int)) w := by
  intro w
  rcases (by omega : q = 0 ∨ q = 1 ∨ q = 2 ∨ q = 3) with rfl | rfl | rfl | rfl <;> (rcases (by omega : r = 0 ∨ r = 1 ∨ r = 2 ∨ r = 3) with rfl | rfl | rfl | rfl <;> kernel_rfl)
set_option maxHeartbeats 1000000 in
theorem turns_any (i : Nat) (w : World) (hi : i < 64) : Calls Try.prog 46 #[.int .i64 i] w fun e w' => e = .returned (.int .i64 (fT i)) ∧ w = w' := by
  obtain ⟨q, hq⟩ : ∃ q, i / 16 = q := ⟨_, rfl⟩
  obtain ⟨r, hr⟩ : ∃ r, i % 4 = r := ⟨_, rfl⟩
  have HT : Hid (fT i = [7, 12, 17, 22, 5, 9, 14, 20, 4, 11, 16, 23, 6, 10, 15, 21].getD (q * 4 + r) 0) := Lib.hid (by unfold fT; rw [hq, hr])
  have hqi : (i : Int) / 16 = (q : Int) := by omega
  have hri : (i : Int) % 4 = (r : Int) := by omega
  have hq4 : q < 4 := by omega
  have hr4 : r < 4 := by omega
  clear hq hr
  have hx := idx52 q hq4
  have hy := idx51 q r hq4 hr4
  go_enter Try.func46, Try.ntmps46
  go_wp2
  go_ret
  exact ⟨by rw [HT.out]; rfl, rfl⟩
end Go.Proofs.Ytdfefpbpfneahaa
