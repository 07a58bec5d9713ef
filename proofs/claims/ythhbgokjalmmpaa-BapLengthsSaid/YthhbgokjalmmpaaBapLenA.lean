/- The walk of the law BapLengths where the length is good, a short text. No condition. -/
import Derived.Test.YthhbgokjalmmpaaBapLen
import Derived.BigRegion
import Derived.Deep.RegionWith
namespace Go.Proofs.Ythhbgokjalmmpaa
open Go.RowKit
set_option linter.unusedVariables false
set_option linter.unusedSimpArgs false
attribute [local go_sem] conv1 conv1d conv1n conv1a conv1ad conv1an conv2 conv2d conv2n conv2a conv2ad conv2an conv4 conv4d conv4n conv4a conv4ad conv4an conv5 conv5d conv5n conv5a conv5ad conv5an size_nums byt_fold
attribute [local go_sem high] run_string_add run_string_add_sum
set_option maxRecDepth 100000 in
set_option maxHeartbeats 8000000 in
theorem lengths_ok1 (code length : Int) (s d : ByteArray) (w : World) (m k : Nat) (hm : (IntKind.u64.wrap code).tmod 4 = (m : Int)) (hm1 : m < 4) (hk : bits .and .i64 length 63 = (k : Int)) (hk1 : k < 64)
    (c : Nat) (hc : 1 + 2 * (m : Int) = (c : Int)) (hs : s.size ≤ 60) (hd : d = s) (hlen : d.size ≤ 60) (hf : 4 ≤ k ∧ k ≤ d.size + 4) :
    Calls Try.prog 5 #[.int .i64 code, .int .i64 length, .string s] w fun e w' => e = .returned (.bool true) ∧ Below w.heap.size w w' := by
  have hT : strOfNums [(c : Int), 3, 0, (k : Int)] ++ d = lenT c k d := rfl
  have hU : strOfNums [(c : Int), 3, 0, (k : Int)] ++ d.extract 0 (k - 4) = lenT c k (d.extract 0 (k - 4)) := rfl
  have hc6 : c ≤ 7 := by omega
  obtain ⟨h1, h2⟩ := hf
  obtain ⟨r1, r2, r3, r4, r5, r6⟩ := len_ok c k d (by omega) (by omega) (by omega) h1 h2
  generalize lenT c k (d.extract 0 (k - 4)) = U at r1 r2 r3 r4 r5 r6 hU
  have hlU : (gL U).length ≤ 2048 := by unfold gL; split; exact uL_len _; simp
  have R1 := Lib.hid r1; have R2 := Lib.hid r2; have R3 := Lib.hid r3; have R4 := Lib.hid r4; have R5 := Lib.hid r5
  obtain ⟨x, hx, HX⟩ : ∃ x, gE U = x ∧ Hid (x = 0 ∨ x = 900) := ⟨_, rfl, Lib.hid r6⟩
  have HXX := Lib.hid hx
  have HU := Lib.hid hU
  clear r1 r2 r3 r4 r5 r6 hx hU
  subst hd
  go_enter Try.func5, Try.ntmps5
  go_wp2_with (first | (go_at_call 8; refine (num_any _ _).mono ?_; rintro e w' ⟨rfl, rfl⟩))
  refine (awake_any _).mono ?_
  rintro e w1 ⟨rfl, hb1⟩
  have hz1 := hb1.size
  go_wp2_with (first | (go_at_call 8; refine (num_any _ _).mono ?_; rintro e w' ⟨rfl, rfl⟩))
  refine (bapget_any _ _).mono ?_
  rintro e w2 ⟨A2, cap2, rfl, hown2, hb2⟩
  rw [R1.out, R2.out, R3.out, R4.out, R5.out, HXX.out]
  rw [R5.out] at hown2
  have hz2 := hb2.size
  simp at hz2
  have bel2 : Below w.heap.size w w2 := (hb1.alloc hz1 _).trans (hb2.mono (by simp; omega))
  have HV2 := Lib.hid (OptsAt.own hown2); clear hown2
  have BP2 := Lib.hid (Box.new w2 w2.heap.size rfl #[.int .i64 (gC U), .int .i64 (gI U), .int .i64 (gA U), .slice A2 (gL U).length cap2] 24)
  go_wp2_with (first | (go_at_call 8; refine (num_any _ _).mono ?_; rintro e w' ⟨rfl, rfl⟩))
  clear hT
  have sl : IntKind.i64.wrap ((k : Int) - 4) = ((k - 4 : Nat) : Int) := by rw [IntKind.wrap_i64]; omega
  have sk : k - 4 ≤ d.size := by omega
  have hk9 : ¬ 9223372036854775807 < k := by omega
  have u1 : IntKind.u8.wrap (c : Int) = c := IntWalk.u8_in _ (by omega)
  have u2 : IntKind.u8.wrap (k : Int) = k := IntWalk.u8_in _ (by omega)
  go_region_with (first | (go_at_call 9; refine (bapget_any _ _).mono ?_; rintro e w3 ⟨A3, cap3, rfl, hown3, hb3⟩; rw [HU.out, HXX.out]; rw [HU.out] at hown3; have hz3 := hb3.size; simp at hz3; have z3 : w2.heap.size < w3.heap.size := (by omega); have z4 : w2.heap.size + 1 < w3.heap.size := (by omega); obtain ⟨hc3, hf3⟩ := bcell hb3))
  all_goals go_wp2_with (first | (go_at_call 8; refine (num_any _ _).mono ?_; rintro e w' ⟨rfl, rfl⟩))
  all_goals
    refine (sameb_any _ _ _ _ _ _ _ _ _ (gL U) _ ?v1 ?v2 (by omega)).mono ?_
    case v1 => exact HV2.out.keep (by repeat' (first | (with_reducible exact Below.refl _ _) | (with_reducible apply Below.drew) | (with_reducible apply below_drewN) | (with_reducible apply Below.setCell) | (with_reducible apply Below.alloc) | (with_reducible refine below_step ?_ (by assumption) ?_) | omega | (simp; done) | (simp; omega)))
    case v2 => first | exact (OptsAt.own hown3).keep ((Below.refl _ _).alloc (Nat.le_refl _) _) | exact OptsAt.own (by repeat' (first | (with_reducible exact hown3) | (with_reducible apply ownsRow_setCell_below) | omega | (simp; done) | (simp; omega)))
    rintro e w4 ⟨rfl, hb4⟩
    have bel4 : Below w.heap.size w w4 := by
      refine below_step ?_ hb4 ?_
      · refine below_step bel2 (w1 := w2) ?_ (by omega)
        exact (by repeat' (first | (with_reducible exact Below.refl _ _) | (with_reducible apply Below.drew) | (with_reducible apply below_drewN) | (with_reducible apply Below.setCell) | (with_reducible apply Below.alloc) | (with_reducible refine below_step ?_ (by assumption) ?_) | omega | (simp; done) | (simp; omega)))
      · have := bel2.size; simp; omega
    clear hb4 hb3 hc3 hf3
    rcases HX.out with rfl | rfl
    all_goals
      go_wp2_with (first | (go_at_call 8; refine (num_any _ _).mono ?_; rintro e w' ⟨rfl, rfl⟩))
      go_ret
      exact ⟨by simp, bel4⟩
end Go.Proofs.Ythhbgokjalmmpaa
