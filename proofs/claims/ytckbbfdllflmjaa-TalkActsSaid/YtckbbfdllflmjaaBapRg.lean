/- The reference's Bap where it is too long. No condition but memory's own limits. -/
import Derived.Test.YtckbbfdllflmjaaBapRf
namespace Go.Proofs.Ytckbbfdllflmjaa
open Go.RowKit
set_option linter.unusedVariables false
set_option linter.unusedSimpArgs false
attribute [local go_sem] conv1 conv1d conv1n conv1a conv1ad conv1an conv2 conv2d conv2n conv2a conv2ad conv2an conv4 conv4d conv4n conv4a conv4ad conv4an conv5 conv5d conv5n conv5a conv5ad conv5an size_nums byt_fold
attribute [local go_sem high] run_string_add_sum
set_option maxRecDepth 100000 in
set_option maxHeartbeats 1000000 in
theorem rbap_l (c i : Int) (A : Option Addr) (n cap : Nat) (os : List (Int × ByteArray)) (w : World) (hv : OptsAt w A n os) (hn : n ≤ 9223372036854775807) (ho : ∀ o ∈ os, o.2.size ≤ 140737488351232) (h1 : 1 ≤ c) (h2 : c ≤ 8) (h3 : 0 ≤ i) (h4 : i ≤ 255) (h7 : bResp c = false) (h8 : oE os = 0) (h9 : 2044 < (oJoin os).size) (hbe : bE c i 0 os = 901) (h10 : (oJoin os).size ≤ 2048) :
    Calls Try.prog 34 #[.agg #[.int .i64 c, .int .i64 i, .int .i64 0, .slice A n cap]] w (BapRf c i 0 os w) := by
  obtain ⟨p, hp, hp2⟩ := par_bit c h1
  have HV := Lib.hid (hv.keep ((Below.refl w.heap.size w).alloc (Nat.le_refl _) (.cells #[.int .i64 c, .int .i64 i, .int .i64 0, .slice A n cap] 34)))
  have HO := Lib.hid ho
  have HN := Lib.hid hn
  have HE := Lib.hid hbe
  have hS : oS os = oJoin os := by unfold oS; rw [if_pos h8]
  obtain ⟨B, hB⟩ : ∃ B, oJoin os = B := ⟨_, rfl⟩
  rw [hB] at h9 h10 hS
  have hw : IntKind.i64.wrap ((B.size : Int) + 4) = (B.size : Int) + 4 := IntWalk.i64_in _ (by omega)
  have hgt : (2048 : Int) < (B.size : Int) + 4 := by omega
  have hgt3 : decide ((2048 : Int) < (B.size : Int) + 4) = true := by simpa using hgt
  have HW := Lib.hid hw
  clear hv ho hn hbe h9 h10 hB hw
  rw [h7] at hp2
  clear h7
  go_enter Try.func34, Try.ntmps34
  go_wp2_with fail
  refine (ropts_any A n cap os _ HV.out HN.out HO.out).mono ?_
  rintro e w1 ⟨rfl, hb1⟩
  rw [hS, h8]
  have hw := HW.out
  go_wp2_with fail
  go_ret2
  exact ⟨_, by rw [HE.out]; rfl, (by repeat' (first | (with_reducible exact Below.refl _ _) | (with_reducible apply Below.drew) | (with_reducible apply below_drewN) | (with_reducible apply Below.setCell) | (with_reducible apply Below.alloc) | (with_reducible refine below_step ?_ (by assumption) ?_) | omega | (simp; done) | (simp; omega)))⟩
end Go.Proofs.Ytckbbfdllflmjaa
