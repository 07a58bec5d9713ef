/- The reference's Bap where it writes a response. No condition but memory's own limits. -/
import Derived.Test.YtckbbfdllflmjaaBapRf
namespace Go.Proofs.Ytckbbfdllflmjaa
open Go.RowKit
set_option linter.unusedVariables false
set_option linter.unusedSimpArgs false
attribute [local go_sem] conv1 conv1d conv1n conv1a conv1ad conv1an conv2 conv2d conv2n conv2a conv2ad conv2an conv4 conv4d conv4n conv4a conv4ad conv4an conv5 conv5d conv5n conv5a conv5ad conv5an size_nums byt_fold
attribute [local go_sem high] run_string_add run_string_add_sum
set_option maxRecDepth 100000 in
set_option maxHeartbeats 8000000 in
theorem rbap_r (c i a : Int) (A : Option Addr) (n cap : Nat) (os : List (Int × ByteArray)) (w : World) (hv : OptsAt w A n os) (hn : n ≤ 9223372036854775807) (ho : ∀ o ∈ os, o.2.size ≤ 140737488351232) (h1 : 1 ≤ c) (h2 : c ≤ 8) (h3 : 0 ≤ i) (h4 : i ≤ 255) (h5 : 0 ≤ a) (h6 : a ≤ 255) (h7 : bResp c = true) (h8 : oE os = 0) (h9 : (oJoin os).size ≤ 2043) (hbe : bE c i a os = 0) :
    Calls Try.prog 34 #[.agg #[.int .i64 c, .int .i64 i, .int .i64 a, .slice A n cap]] w (BapRf c i a os w) := by
  obtain ⟨p, hp, hp2⟩ := par_bit c h1
  have HV := Lib.hid (hv.keep ((Below.refl w.heap.size w).alloc (Nat.le_refl _) (.cells #[.int .i64 c, .int .i64 i, .int .i64 a, .slice A n cap] 34)))
  have HO := Lib.hid ho
  have HN := Lib.hid hn
  have HE := Lib.hid hbe
  have hS : oS os = oJoin os := by unfold oS; rw [if_pos h8]
  obtain ⟨J, hJ⟩ : ∃ J, oJoin os = J := ⟨_, rfl⟩
  rw [hJ] at h9 hS
  have u1 : IntKind.u8.wrap c = c := IntWalk.u8_in c (by omega)
  have u2 : IntKind.u8.wrap i = i := IntWalk.u8_in i (by omega)
  have u3 : IntKind.u8.wrap a = a := IntWalk.u8_in a (by omega)
  have hJs : (J.size : Int) ≤ 8388608 := by omega
  clear hv ho hn hbe hJ
  rw [h7] at hp2
  clear h7
  go_enter Try.func34, Try.ntmps34
  go_wp2_with fail
  refine (ropts_any A n cap os _ HV.out HN.out HO.out).mono ?_
  rintro e w1 ⟨rfl, hb1⟩
  rw [hS, h8]
  obtain ⟨hcc, hff⟩ := bcell hb1
  have hz1 := hb1.size
  simp at hz1
  have z1 : w.heap.size < w1.heap.size := by omega
  have bel : Below w.heap.size w w1 := ((Below.refl _ _).alloc (Nat.le_refl _) _).trans (hb1.mono (by simp))
  clear hb1
  obtain ⟨B, hB⟩ : ∃ B, strOfNums [a] ++ J = B := ⟨_, rfl⟩
  have hBs : B.size = 1 + J.size := by rw [← hB, size_app, size_nums]; rfl
  obtain ⟨L, hL⟩ : ∃ L : Nat, IntKind.i64.wrap ((B.size : Int) + 4) = (L : Int) := ⟨4 + B.size, by rw [IntWalk.i64_in _ (by omega)]; omega⟩
  have hL1 : (L : Int) = 4 + B.size := by rw [← hL, IntWalk.i64_in _ (by omega)]; omega
  have hgt3 : decide ((2048 : Int) < (L : Int)) = false := by simp; omega
  have hL2 : (L : Int) < 65536 := by omega
  have hBs2 : (B.size : Int) ≤ 8388608 := by omega
  clear h9 hBs hL1
  go_wp2_with fail
  go_region_with (first | (go_at_call 43; refine (two_any _ (by omega) (by omega) _).mono ?_; rintro e w' ⟨rfl, rfl⟩))
  all_goals
    go_wp2
    go_ret2
    exact ⟨_, by rw [HE.out]; rfl, (by repeat' (first | (with_reducible exact bel) | (with_reducible refine Below.setCell ?_ (Nat.le_refl _) _) | (with_reducible apply Below.setCell) | (with_reducible apply Below.alloc) | (with_reducible apply Below.drew) | (with_reducible apply below_drewN) | (exact Nat.le_refl _) | omega | (simp; done) | (simp; omega)))⟩
end Go.Proofs.Ytckbbfdllflmjaa
