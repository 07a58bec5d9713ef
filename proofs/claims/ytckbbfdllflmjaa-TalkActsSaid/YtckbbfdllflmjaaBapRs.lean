/- The reference's Bap, every case. No condition but memory's own limits. -/
import Derived.Test.YtckbbfdllflmjaaBapRg
import Derived.Test.YtckbbfdllflmjaaBapRq
import Derived.Test.YtckbbfdllflmjaaBapRr
namespace Go.Proofs.Ytckbbfdllflmjaa
open Go.RowKit
set_option linter.unusedVariables false
set_option linter.unusedSimpArgs false
attribute [local go_sem] conv1 conv1d conv1n conv1a conv1ad conv1an conv2 conv2d conv2n conv2a conv2ad conv2an conv4 conv4d conv4n conv4a conv4ad conv4an conv5 conv5d conv5n conv5a conv5ad conv5an size_nums byt_fold
attribute [local go_sem high] run_string_add run_string_add_sum
set_option maxRecDepth 100000 in
set_option maxHeartbeats 8000000 in
theorem rbap_s (c i a : Int) (A : Option Addr) (n cap : Nat) (os : List (Int × ByteArray)) (w : World) (hv : OptsAt w A n os) (hn : n ≤ 9223372036854775807) (ho : ∀ o ∈ os, o.2.size ≤ 140737488351232) (h1 : 1 ≤ c) (h2 : c ≤ 8) (h3 : 0 ≤ i) (h4 : i ≤ 255) (h5 : 0 ≤ a) (h6 : a ≤ 255) (h7 : bResp c = true) (h8 : oE os = 0) (h9 : 2043 < (oJoin os).size) (h10 : (oJoin os).size ≤ 2048) (hbe : bE c i a os = 901) :
    Calls Try.prog 34 #[.agg #[.int .i64 c, .int .i64 i, .int .i64 a, .slice A n cap]] w (BapRf c i a os w) := by
  obtain ⟨p, hp, hp2⟩ := par_bit c h1
  have HV := Lib.hid (hv.keep ((Below.refl w.heap.size w).alloc (Nat.le_refl _) (.cells #[.int .i64 c, .int .i64 i, .int .i64 a, .slice A n cap] 34)))
  have HO := Lib.hid ho
  have HN := Lib.hid hn
  have HE := Lib.hid hbe
  have hS : oS os = oJoin os := by unfold oS; rw [if_pos h8]
  obtain ⟨J, hJ⟩ : ∃ J, oJoin os = J := ⟨_, rfl⟩
  rw [hJ] at h9 h10 hS
  have u3 : IntKind.u8.wrap a = a := IntWalk.u8_in a (by omega)
  have hJs : (J.size : Int) ≤ 8388608 := by omega
  clear hv ho hn hbe hJ
  rw [h7] at hp2
  clear h7
  go_enter Try.func34, Try.ntmps34
  go_wp2_with fail
  refine (ropts_any A n cap os _ HV.out HN.out HO.out).mono ?_
  rintro e w1 ⟨rfl, hb1⟩
  rw [hS, h8]
  obtain ⟨hcc, hff⟩ := bcell hb1
  have hz1 := hb1.size
  simp at hz1
  have z1 : w.heap.size < w1.heap.size := by omega
  have bel : Below w.heap.size w w1 := ((Below.refl _ _).alloc (Nat.le_refl _) _).trans (hb1.mono (by simp))
  clear hb1
  obtain ⟨B, hB⟩ : ∃ B, strOfNums [a] ++ J = B := ⟨_, rfl⟩
  have hBs : B.size = 1 + J.size := by rw [← hB, size_app, size_nums]; rfl
  obtain ⟨L, hL⟩ : ∃ L : Nat, IntKind.i64.wrap ((B.size : Int) + 4) = (L : Int) := ⟨4 + B.size, by rw [IntWalk.i64_in _ (by omega)]; omega⟩
  have hL1 : (L : Int) = 4 + B.size := by rw [← hL, IntWalk.i64_in _ (by omega)]; omega
  have hgt3 : decide ((2048 : Int) < (L : Int)) = true := by simp; omega
  have hgt4 : (2048 : Int) < (L : Int) := by omega
  have hBs2 : (B.size : Int) ≤ 8388608 := by omega
  clear h9 hBs hL1
  go_wp2_with fail
  go_ret2
  exact ⟨_, by rw [HE.out]; rfl, (by repeat' (first | (with_reducible exact bel) | (with_reducible refine Below.setCell ?_ (Nat.le_refl _) _) | (with_reducible apply Below.setCell) | (with_reducible apply Below.alloc) | (with_reducible apply Below.drew) | (with_reducible apply below_drewN) | (exact Nat.le_refl _) | omega | (simp; done) | (simp; omega)))⟩
theorem bE_big {c i a : Int} {os : List (Int × ByteArray)} (h : bGood c i a os = true) (h2 : 2044 < (bBody c a os).size) : bE c i a os = 901 := by unfold bE; rw [h, if_pos h2]; rfl
theorem bE_fine {c i a : Int} {os : List (Int × ByteArray)} (h : bGood c i a os = true) (h2 : ¬ 2044 < (bBody c a os).size) : bE c i a os = 0 := by unfold bE; rw [h, if_neg h2]; rfl
theorem rbap_any (c i a : Int) (A : Option Addr) (n cap : Nat) (os : List (Int × ByteArray)) (w : World) (hv : OptsAt w A n os) (hn : n ≤ 9223372036854775807) (ho : ∀ o ∈ os, o.2.size ≤ 140737488351232) :
    Calls Try.prog 34 #[.agg #[.int .i64 c, .int .i64 i, .int .i64 a, .slice A n cap]] w (BapRf c i a os w) := by
  by_cases c1 : 1 ≤ c
  case neg => exact rbap_a c i a A n cap os w (.inl (by omega))
  by_cases c2 : c ≤ 8
  case neg => exact rbap_a c i a A n cap os w (.inr (.inl ⟨c1, by omega⟩))
  by_cases i0 : 0 ≤ i
  case neg => exact rbap_a c i a A n cap os w (.inr (.inr (.inl ⟨c1, c2, by omega⟩)))
  by_cases i1 : i ≤ 255
  case neg => exact rbap_a c i a A n cap os w (.inr (.inr (.inr (.inl ⟨c1, c2, i0, by omega⟩))))
  by_cases a0 : 0 ≤ a
  case neg => exact rbap_a c i a A n cap os w (.inr (.inr (.inr (.inr (.inl ⟨c1, c2, i0, i1, by omega⟩)))))
  by_cases a1 : a ≤ 255
  case neg => exact rbap_a c i a A n cap os w (.inr (.inr (.inr (.inr (.inr ⟨c1, c2, i0, i1, a0, by omega⟩)))))
  cases h7 : bResp c
  · by_cases hz : a = 0
    case neg => exact rbap_b c i a A n cap os w hv hn ho c1 c2 i0 i1 a0 a1 h7 hz
    subst hz
    by_cases h8 : oE os = 0
    case neg => exact rbap_o c i 0 A n cap os w hv hn ho c1 c2 i0 i1 a0 a1 (.inr ⟨h7, rfl⟩) h8
    have hs := oS_size os
    rw [show oS os = oJoin os from by unfold oS; rw [if_pos h8]] at hs
    have hg := good_of c1 c2 i0 i1 a0 a1 (.inr rfl) h8
    have hbody : bBody c 0 os = oJoin os := by unfold bBody; rw [h7]; rfl
    by_cases h9 : 2044 < (oJoin os).size
    · exact rbap_l c i A n cap os w hv hn ho c1 c2 i0 i1 h7 h8 h9 (bE_big hg (by rw [hbody]; exact h9)) hs
    · exact rbap_q c i A n cap os w hv hn ho c1 c2 i0 i1 h7 h8 (by omega) (bE_fine hg (by rw [hbody]; exact h9))
  · by_cases h8 : oE os = 0
    case neg => exact rbap_o c i a A n cap os w hv hn ho c1 c2 i0 i1 a0 a1 (.inl h7) h8
    have hs := oS_size os
    rw [show oS os = oJoin os from by unfold oS; rw [if_pos h8]] at hs
    have hg := good_of c1 c2 i0 i1 a0 a1 (.inl h7) h8
    have hbody : (bBody c a os).size = 1 + (oJoin os).size := by unfold bBody; rw [h7, if_pos rfl, size_app, size_nums]; rfl
    by_cases h9 : 2043 < (oJoin os).size
    · exact rbap_s c i a A n cap os w hv hn ho c1 c2 i0 i1 a0 a1 h7 h8 h9 hs (bE_big hg (by omega))
    · exact rbap_r c i a A n cap os w hv hn ho c1 c2 i0 i1 a0 a1 h7 h8 (by omega) (bE_fine hg (by omega))
/-- The number does not matter, where it is one byte. -/
theorem bE_id (c i j a : Int) (os : List (Int × ByteArray)) (hi : 0 ≤ i ∧ i ≤ 255) (hj : 0 ≤ j ∧ j ≤ 255) : bE c i a os = bE c j a os := by
  have h : bMay c i = bMay c j := by unfold bMay; rw [decide_eq_decide]; omega
  unfold bE bGood
  rw [h]
end Go.Proofs.Ytckbbfdllflmjaa
