/- The walk of the law OptsBack: it returns true. No condition but memory's own limits. -/
import Derived.Test.YtdfhodhdpkbcnaaOptLaws
import Derived.Test.YtdfhodhdpkbcnaaOptRound
namespace Go.Proofs.Ytdfhodhdpkbcnaa
open Go.RowKit
set_option linter.unusedVariables false
set_option linter.unusedSimpArgs false
attribute [local go_sem] conv1 conv1d conv1n conv1a conv1ad conv1an conv2 conv2d conv2n conv2a conv2ad conv2an conv4 conv4d conv4n conv4a conv4ad conv4an conv5 conv5d conv5n conv5a conv5ad conv5an size_nums byt_fold
set_option maxRecDepth 100000 in
set_option maxHeartbeats 1000000 in
theorem optsBack_yes (A : Option Addr) (n cap : Nat) (os : List (Int × ByteArray)) (s : ByteArray) (hn : n * 24 ≤ 140737488351232) (h : oE os = 0) (w : World) (hv : OptsAt w A n os) :
    Calls Try.prog 4 #[.slice A n cap, .string s] w fun e w' => e = .returned (.bool true) ∧ Below w.heap.size w w' := by
  have HV := Lib.hid hv; clear hv
  obtain ⟨r1, r2⟩ := back1 h
  have hs : oS os = oJoin os := by unfold oS; rw [if_pos h]
  have H := Lib.hid h; have HS := Lib.hid hs; have R1 := Lib.hid r1; have R2 := Lib.hid r2
  clear h hs r1 r2
  go_enter Try.func4, Try.ntmps4
  go_wp2_with (first | (go_at_call 12; refine (num_any _ _).mono ?_; rintro e w' ⟨rfl, rfl⟩))
  refine (awake_any _).mono ?_
  rintro e w1 ⟨rfl, hb1⟩
  have hz1 := hb1.size
  go_wp2_with (first | (go_at_call 12; refine (num_any _ _).mono ?_; rintro e w' ⟨rfl, rfl⟩))
  refine (optput_any _ _ _ os _ (HV.out.keep hb1) (by omega)).mono ?_
  rintro e w2 ⟨rfl, hb2⟩
  rw [H.out, HS.out]
  have hz2 := hb2.size
  go_wp2_with (first | (go_at_call 12; refine (num_any _ _).mono ?_; rintro e w' ⟨rfl, rfl⟩))
  refine (optget_any _ _).mono ?_
  rintro e w3 ⟨A3, cap3, rfl, hown3, hb3⟩
  rw [R1.out, R2.out, HV.out.1]
  rw [R2.out] at hown3
  have hz3 := hb3.size
  have hv3 : OptsAt w3 A3 n os := by have h := OptsAt.own hown3; rw [HV.out.1] at h; exact h
  have HV3 := Lib.hid hv3; clear hown3 hv3
  have hbel3 : Below w.heap.size w w3 := below_step (below_step hb1 hb2 hz1) hb3 (by omega)
  go_wp2_with (first | (go_at_call 12; refine (num_any _ _).mono ?_; rintro e w' ⟨rfl, rfl⟩))
  refine (same_any _ _ _ _ _ _ os os _ HV3.out (HV.out.keep hbel3) (by omega)).mono ?_
  rintro e w4 ⟨rfl, hb4⟩
  rw [same_refl]
  have hz4 := hb4.size
  by_cases hu : uE s = 0
  · obtain ⟨t1, t2⟩ := back2 hu
    have T1 := Lib.hid t1; have T2 := Lib.hid t2; have HU := Lib.hid hu
    clear t1 t2 hu
    have hul := uL_len s
    go_wp2_with (first | (go_at_call 12; refine (num_any _ _).mono ?_; rintro e w' ⟨rfl, rfl⟩))
    refine (optget_any _ _).mono ?_
    rintro e w5 ⟨A5, cap5, rfl, hown5, hb5⟩
    rw [HU.out]
    have hz5 := hb5.size
    have HV5 := Lib.hid (OptsAt.own hown5); clear hown5
    go_wp2_with (first | (go_at_call 12; refine (num_any _ _).mono ?_; rintro e w' ⟨rfl, rfl⟩))
    refine (optput_any _ _ _ (uL s) _ HV5.out (by omega)).mono ?_
    rintro e w6 ⟨rfl, hb6⟩
    rw [T1.out, T2.out]
    have hz6 := hb6.size
    go_wp2_with (first | (go_at_call 12; refine (num_any _ _).mono ?_; rintro e w' ⟨rfl, rfl⟩))
    go_ret
    exact ⟨by simp, (by repeat' (first | (with_reducible exact Below.refl _ _) | (with_reducible apply Below.drew) | (with_reducible apply below_drewN) | (with_reducible apply Below.setCell) | (with_reducible apply Below.alloc) | (with_reducible refine below_step ?_ (by assumption) ?_) | omega | (simp; done) | (simp; omega)))⟩
  · have t2 := uL_not hu
    have hub : (uE s == 0) = false := by simpa using hu
    have T2 := Lib.hid t2
    clear t2 hu
    go_wp2_with (first | (go_at_call 12; refine (num_any _ _).mono ?_; rintro e w' ⟨rfl, rfl⟩))
    refine (optget_any _ _).mono ?_
    rintro e w5 ⟨A5, cap5, rfl, hown5, hb5⟩
    rw [T2.out]
    have hz5 := hb5.size
    clear hown5
    go_wp2_with (first | (go_at_call 12; refine (num_any _ _).mono ?_; rintro e w' ⟨rfl, rfl⟩))
    go_ret
    exact ⟨by simp, (by repeat' (first | (with_reducible exact Below.refl _ _) | (with_reducible apply Below.drew) | (with_reducible apply below_drewN) | (with_reducible apply Below.setCell) | (with_reducible apply Below.alloc) | (with_reducible refine below_step ?_ (by assumption) ?_) | omega | (simp; done) | (simp; omega)))⟩
set_option maxRecDepth 100000 in
set_option maxHeartbeats 1000000 in
theorem optsBack_no (A : Option Addr) (n cap : Nat) (os : List (Int × ByteArray)) (s : ByteArray) (hn : n * 24 ≤ 140737488351232) (h : ¬ oE os = 0) (w : World) (hv : OptsAt w A n os) :
    Calls Try.prog 4 #[.slice A n cap, .string s] w fun e w' => e = .returned (.bool true) ∧ Below w.heap.size w w' := by
  have HV := Lib.hid hv; clear hv
  have hob : (oE os == 0) = false := by simpa using h
  clear h
  go_enter Try.func4, Try.ntmps4
  go_wp2_with (first | (go_at_call 12; refine (num_any _ _).mono ?_; rintro e w' ⟨rfl, rfl⟩))
  refine (awake_any _).mono ?_
  rintro e w1 ⟨rfl, hb1⟩
  have hz1 := hb1.size
  go_wp2_with (first | (go_at_call 12; refine (num_any _ _).mono ?_; rintro e w' ⟨rfl, rfl⟩))
  refine (optput_any _ _ _ os _ (HV.out.keep hb1) (by omega)).mono ?_
  rintro e w2 ⟨rfl, hb2⟩
  generalize oS os = S
  have hz2 := hb2.size
  by_cases hu : uE s = 0
  · obtain ⟨t1, t2⟩ := back2 hu
    have T1 := Lib.hid t1; have T2 := Lib.hid t2; have HU := Lib.hid hu
    clear t1 t2 hu
    have hul := uL_len s
    go_wp2_with (first | (go_at_call 12; refine (num_any _ _).mono ?_; rintro e w' ⟨rfl, rfl⟩))
    refine (optget_any _ _).mono ?_
    rintro e w3 ⟨A3, cap3, rfl, hown3, hb3⟩
    rw [HU.out]
    have hz3 := hb3.size
    have HV3 := Lib.hid (OptsAt.own hown3); clear hown3
    go_wp2_with (first | (go_at_call 12; refine (num_any _ _).mono ?_; rintro e w' ⟨rfl, rfl⟩))
    refine (optput_any _ _ _ (uL s) _ HV3.out (by omega)).mono ?_
    rintro e w4 ⟨rfl, hb4⟩
    rw [T1.out, T2.out]
    have hz4 := hb4.size
    go_wp2_with (first | (go_at_call 12; refine (num_any _ _).mono ?_; rintro e w' ⟨rfl, rfl⟩))
    go_ret
    exact ⟨by simp, (by repeat' (first | (with_reducible exact Below.refl _ _) | (with_reducible apply Below.drew) | (with_reducible apply below_drewN) | (with_reducible apply Below.setCell) | (with_reducible apply Below.alloc) | (with_reducible refine below_step ?_ (by assumption) ?_) | omega | (simp; done) | (simp; omega)))⟩
  · have t2 := uL_not hu
    have hub : (uE s == 0) = false := by simpa using hu
    have T2 := Lib.hid t2
    clear t2 hu
    go_wp2_with (first | (go_at_call 12; refine (num_any _ _).mono ?_; rintro e w' ⟨rfl, rfl⟩))
    refine (optget_any _ _).mono ?_
    rintro e w3 ⟨A3, cap3, rfl, hown3, hb3⟩
    rw [T2.out]
    have hz3 := hb3.size
    clear hown3
    go_wp2_with (first | (go_at_call 12; refine (num_any _ _).mono ?_; rintro e w' ⟨rfl, rfl⟩))
    go_ret
    exact ⟨by simp, (by repeat' (first | (with_reducible exact Below.refl _ _) | (with_reducible apply Below.drew) | (with_reducible apply below_drewN) | (with_reducible apply Below.setCell) | (with_reducible apply Below.alloc) | (with_reducible refine below_step ?_ (by assumption) ?_) | omega | (simp; done) | (simp; omega)))⟩
theorem optsBack_walk (A : Option Addr) (n cap : Nat) (os : List (Int × ByteArray)) (s : ByteArray) (hnil : A = none → n = 0 ∧ cap = 0) (hcap : n ≤ cap) (hz : n * 24 ≤ 140737488351232 ∧ ∀ o ∈ os, o.2.size ≤ 140737488351232) (k0 : s.size ≤ 140737488351232) (w : World) (hv : OptsAt w A n os) :
    Calls Try.prog 4 #[.slice A n cap, .string s] w fun e w' => e = .returned (.bool true) ∧ Below w.heap.size w w' := by
  by_cases h : oE os = 0
  · exact optsBack_yes A n cap os s hz.1 h w hv
  · exact optsBack_no A n cap os s hz.1 h w hv
end Go.Proofs.Ytdfhodhdpkbcnaa
