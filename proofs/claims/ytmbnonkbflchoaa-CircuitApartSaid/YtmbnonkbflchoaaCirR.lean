/- The law CircuitFails, walked. No condition. -/
import Derived.Test.YtmbnonkbflchoaaCirP
import Derived.Test.YtmbnonkbflchoaaPlain
namespace Go.Proofs.Ytmbnonkbflchoaa
open Go.RowKit
set_option linter.unusedVariables false
set_option linter.unusedSimpArgs false
open Go.Maps
theorem dialA_full {B : Ab} (h : B.ports ≤ B.n) : dialA B = (0, 2501, B) := by unfold dialA; rw [if_pos h]
theorem dialA_owed {B : Ab} (h : ¬ B.ports ≤ B.n) (h2 : 0 < B.owed) : dialA B = (0, 2503, { B with owed := B.owed - 1 }) := by unfold dialA; rw [if_neg h, if_pos h2]
theorem dialA_new {B : Ab} (h : ¬ B.ports ≤ B.n) (h2 : ¬ 0 < B.owed) : dialA B = (B.last + 1, 0, { B with last := B.last + 1, n := B.n + 1, A := fun k => if k = B.last + 1 then some (zeroAP, zeroAP) else B.A k }) := by unfold dialA; rw [if_neg h, if_neg h2]
theorem and1 (x : Int) : ∃ b : Int, bits .and .i64 x 1 = b ∧ (b = 0 ∨ b = 1) := ⟨_, i64_mask 1 (by decide) x, by omega⟩
theorem and7 (x : Int) : ∃ k : Nat, bits .and .i64 x 7 = (k : Int) ∧ k ≤ 7 := by
  have e : bits .and .i64 x 7 = x % 8 := i64_mask 3 (by decide) x
  exact ⟨(x % 8).toNat, by rw [e]; omega, by omega⟩
theorem side_b {b : Int} (h : b = 0 ∨ b = 1) : sideB b = true := by rcases h with rfl | rfl <;> rfl
def FaB (k : Nat) (w0 : World) (g i u : Nat) (w : World) : Prop := ∃ (o : Nat) (A : Int → Option (AP × AP)) (L : Lab), St w0 w L i g ⟨4, 10, (u : Int), (o : Int), u, A⟩ ∧ u ≤ 4 ∧ i ≤ 100 ∧ ((i + o = k ∧ u = 0) ∨ (o = 0 ∧ k ≤ i))
set_option maxRecDepth 100000 in
set_option maxHeartbeats 4000000 in
theorem fails_walk (many dials : Int) (_ : (Lit.int .i64 many).wf = true) (_ : (Lit.int .i64 dials).wf = true) (w0 : World) : Calls Try.prog 6 #[.int .i64 many, .int .i64 dials] w0 fun e w' => e = .returned (.bool true) ∧ Below w0.heap.size w0 w' := by
  obtain ⟨k, hk, hk7⟩ := and7 many
  obtain ⟨D, hD, hD7⟩ := and7 dials
  have hwD : wrap64 (4 + (D : Int)) = 4 + (D : Int) := wrap_in (by omega) (by omega)
  go_enter Try.func6, Try.ntmps6
  go_wp2_with fail
  refine (awake_any _).mono ?_
  rintro e w1 ⟨rfl, hb1⟩
  go_wp2_with fail
  refine (new_under 4 10 _ hb1 (by decide) (by decide) (by decide) (by decide)).mono ?_
  rintro e w2 ⟨rfl, -, L2, h2⟩
  generalize w1.heap.size + 1 = g at *
  go_wp2_with fail
  refine (fail_to (k : Int) h2 (by omega) (by omega)).mono ?_
  rintro e w3 ⟨rfl, L3, h3, -⟩
  go_wp2_with fail
  go_loopw [9, 10] (fun u i wr => ∃ n m : Nat, u = .int .i64 m ∧ i = .int .i64 n ∧ FaB k w0 g n m wr) (fun _ i _ => 20 - (intOf i).toNat)
  case atStart => exact ⟨0, 0, rfl, rfl, k, _, L3, h3, by omega, by omega, .inl ⟨by omega, rfl⟩⟩
  case round =>
    obtain ⟨i, u, rfl, rfl, o, A, L, h, hu, hi, hcase⟩ := hrel
    have H := Lib.hid h; clear h
    by_cases hend : (i : Int) < 4 + (D : Int)
    · have HC := Lib.hid hcase; clear hcase
      go_wp2_with fail
      obtain ⟨b, hb, hb2⟩ := and1 (i : Int)
      have hwb : wrap64 (1 - b) = 1 - b := wrap_in (by omega) (by omega)
      rw [hb, hwb]
      have HB2 := Lib.hid hb2
      clear hb hwb hb2
      have hwi : wrap64 ((i : Int) + 1) = (i : Int) + 1 := wrap_in (by omega) (by omega)
      have hwu : wrap64 ((u : Int) + 1) = (u : Int) + 1 := wrap_in (by omega) (by omega)
      have hcase := HC.out
      by_cases hik : i < k
      · have ho : 0 < o := by omega
        have hu0 : u = 0 := by omega
        subst hu0
        have hik2 : (i : Int) < (k : Int) := by omega
        clear hcase
        refine (dial_to b (1 - b) _ _ H.out (dialA_owed (by show ¬ (4 : Int) ≤ ((0 : Nat) : Int); omega) (by show 0 < (o : Int); omega)) (by omega) (side_b HB2.out) rfl).mono ?_
        rintro e w4 ⟨rfl, L4, h4, -⟩
        have H4 := Lib.hid h4; clear h4
        go_wp2_with (first | (go_at_call 11; refine (num_any _ _).mono ?_; rintro e w' ⟨rfl, rfl⟩) | (go_at_call 13; refine (busy_to 0 0 H4.out rfl rfl).mono ?_; rintro e w' ⟨rfl, rfl⟩))
        go_roundw
        case rel => exact ⟨i + 1, 0, rfl, by go_num, o - 1, _, L4, by
          have e : ((o - 1 : Nat) : Int) = (o : Int) - 1 := by omega
          rw [e]; exact H4.out, by omega, by omega, .inl ⟨by have := HC.out; omega, rfl⟩⟩
        case measure => simp [intOf]; omega
      · have hik2 : ¬ (i : Int) < (k : Int) := by omega
        have ho0 : o = 0 := by omega
        subst ho0
        clear hcase
        by_cases hu4 : u < 4
        · have hu4' : (u : Int) < 4 := by omega
          refine (dial_to b (1 - b) _ _ H.out (dialA_new (by show ¬ (4 : Int) ≤ (u : Int); omega) (by show ¬ 0 < ((0 : Nat) : Int); omega)) (by omega) (side_b HB2.out) rfl).mono ?_
          rintro e w4 ⟨rfl, L4, h4, -⟩
          have H4 := Lib.hid h4; clear h4
          go_wp2_with (first | (go_at_call 11; refine (num_any _ _).mono ?_; rintro e w' ⟨rfl, rfl⟩) | (go_at_call 13; refine (busy_to 0 (u + 1) H4.out rfl rfl).mono ?_; rintro e w' ⟨rfl, rfl⟩))
          go_roundw
          case rel => exact ⟨i + 1, u + 1, by go_num, by go_num, 0, _, L4, H4.out, by omega, by omega, .inr ⟨rfl, by omega⟩⟩
          case measure => simp [intOf]; omega
        · have hu4' : ¬ (u : Int) < 4 := by omega
          refine (dial_to b (1 - b) _ _ H.out (dialA_full (by show (4 : Int) ≤ (u : Int); omega)) (by omega) (side_b HB2.out) rfl).mono ?_
          rintro e w4 ⟨rfl, L4, h4, -⟩
          have H4 := Lib.hid h4; clear h4
          go_wp2_with (first | (go_at_call 11; refine (num_any _ _).mono ?_; rintro e w' ⟨rfl, rfl⟩) | (go_at_call 13; refine (busy_to 0 u H4.out rfl rfl).mono ?_; rintro e w' ⟨rfl, rfl⟩))
          go_roundw
          case rel => exact ⟨i + 1, u, rfl, by go_num, 0, _, L4, H4.out, by omega, by omega, .inr ⟨rfl, by omega⟩⟩
          case measure => simp [intOf]; omega
    · go_wp2_with fail
      refine (fail_bad g (-1) _ (by decide)).mono ?_
      rintro e w4 ⟨rfl, rfl⟩
      go_wp2_with (first | (go_at_call 11; refine (num_any _ _).mono ?_; rintro e w' ⟨rfl, rfl⟩))
      go_ret
      exact ⟨rfl, H.out.2.1⟩
end Go.Proofs.Ytmbnonkbflchoaa
