/- What all laws of chapter 4 ask first, and the walk of OptsLimits: each returns true. No condition. -/
import Derived.Test.YtdfhodhdpkbcnaaOptPut
import Derived.Test.YtdfhodhdpkbcnaaOptUn
import Derived.Test.YtdfhodhdpkbcnaaOptRef
import Derived.Test.YtdfhodhdpkbcnaaOptKept
import Derived.Test.YtdfhodhdpkbcnaaMake
namespace Go.Proofs.Ytdfhodhdpkbcnaa
open Go.RowKit
set_option linter.unusedVariables false
set_option linter.unusedSimpArgs false
attribute [local go_sem] conv1 conv1d conv1n conv1a conv1ad conv1an conv2 conv2d conv2n conv2a conv2ad conv2an conv4 conv4d conv4n conv4a conv4ad conv4an conv5 conv5d conv5n conv5a conv5ad conv5an size_nums byt_fold
theorem OptsAt.made (w : World) (os : List (Int × ByteArray)) (cs : Array Value) (t : TypeId) (n : Nat) (hn : os.length = n) (h : cs.toList = optCells os) : OptsAt (w.alloc (.cells cs t)) (some ⟨w.heap.size, 0, none⟩) n os := by
  refine ⟨hn, fun _ => ⟨w.heap.size, 0, rfl, by simp, fun j hj => ?_⟩⟩
  obtain ⟨a1, a2⟩ := optCells_at os j hj
  rw [cell_of_row _ _ _ _ _ _ (heap_alloc_new w (.cells cs t)), cell_of_row _ _ _ _ _ _ (heap_alloc_new w (.cells cs t))]
  rw [← h] at a1 a2
  simp only [Nat.zero_add]
  exact ⟨by simpa using a1, by simpa using a2⟩
set_option maxRecDepth 100000 in
set_option maxHeartbeats 1000000 in
theorem awake_any (w : World) : Calls Try.prog 17 #[] w fun e w' => e = .returned (.bool true) ∧ Below w.heap.size w w' := by
  have a1 : oS [(1, ⟨#[97, 98]⟩), (18, ⟨#[]⟩)] = ⟨#[1, 4, 97, 98, 18, 2]⟩ := by decide +kernel
  have a2 : oE [(1, ⟨#[97, 98]⟩), (18, ⟨#[]⟩)] = 0 := by decide +kernel
  have a3 : uL ⟨#[1, 4, 97, 98, 18, 2]⟩ = [(1, ⟨#[97, 98]⟩), (18, ⟨#[]⟩)] := by decide +kernel
  have a4 : uE ⟨#[1, 4, 97, 98, 18, 2]⟩ = 0 := by decide +kernel
  have a5 : uE ⟨#[1, 1]⟩ = 400 := by decide +kernel
  have a6 : oE [(256, ⟨#[]⟩)] = 400 := by decide +kernel
  have a7 : idxOf (fun x _ => x == 18) [(1, (⟨#[97, 98]⟩ : ByteArray)), (18, ⟨#[]⟩)] = 1 := by decide +kernel
  have a8 : idxOf (fun x _ => x == 9) [(1, (⟨#[97, 98]⟩ : ByteArray)), (18, ⟨#[]⟩)] = -1 := by decide +kernel
  have A3 := Lib.hid a3
  go_enter Try.func17, Try.ntmps17
  go_wp2_with (first | (go_at_call 12; refine (num_any _ _).mono ?_; rintro e w' ⟨rfl, rfl⟩))
  refine (optput_any _ _ _ [(1, ⟨#[97, 98]⟩), (18, ⟨#[]⟩)] _ (OptsAt.made _ _ _ _ _ rfl rfl) (by simp)).mono ?_
  rintro e w1 ⟨rfl, hb1⟩
  rw [a1, a2]
  go_wp2_with (first | (go_at_call 12; refine (num_any _ _).mono ?_; rintro e w' ⟨rfl, rfl⟩))
  refine (optget_any _ _).mono ?_
  rintro e w2 ⟨A, cap, rfl, hown, hb2⟩
  rw [a3, a4]
  rw [a3] at hown
  have HV := Lib.hid (OptsAt.own hown); clear hown
  go_wp2_with (first | (go_at_call 12; refine (num_any _ _).mono ?_; rintro e w' ⟨rfl, rfl⟩))
  refine (optget_any _ _).mono ?_
  rintro e w3 ⟨A', cap', rfl, hown, hb3⟩
  rw [a5]
  clear hown
  go_wp2_with (first | (go_at_call 12; refine (num_any _ _).mono ?_; rintro e w' ⟨rfl, rfl⟩))
  refine (optput_any _ _ _ [(256, ⟨#[]⟩)] _ (OptsAt.made _ _ _ _ _ rfl rfl) (by simp)).mono ?_
  rintro e w4 ⟨rfl, hb4⟩
  rw [a6]
  have hz1 := hb1.size; have hz2 := hb2.size; have hz3 := hb3.size; have hz4 := hb4.size
  simp at hz1 hz4
  have hv4 := ((HV.out.keep hb3).keep ((Below.refl _ _).alloc (Nat.le_refl _) _)).keep hb4
  have HV4 := Lib.hid hv4; clear hv4
  go_wp2_with (first | (go_at_call 12; refine (num_any _ _).mono ?_; rintro e w' ⟨rfl, rfl⟩))
  refine (find_any 18 _ _ _ _ _ HV4.out (by simp)).mono ?_
  rintro e w5 ⟨rfl, hb5⟩
  rw [a7]
  go_wp2_with (first | (go_at_call 12; refine (num_any _ _).mono ?_; rintro e w' ⟨rfl, rfl⟩))
  refine (find_any 9 _ _ _ _ _ (HV4.out.keep hb5) (by simp)).mono ?_
  rintro e w6 ⟨rfl, hb6⟩
  rw [a8]
  have hz5 := hb5.size; have hz6 := hb6.size
  go_wp2_with (first | (go_at_call 12; refine (num_any _ _).mono ?_; rintro e w' ⟨rfl, rfl⟩))
  go_ret
  exact ⟨rfl, (by repeat' (first | (with_reducible exact Below.refl _ _) | (with_reducible apply Below.drew) | (with_reducible apply below_drewN) | (with_reducible apply Below.setCell) | (with_reducible apply Below.alloc) | (with_reducible refine below_step ?_ (by assumption) ?_) | omega | (simp; done) | (simp; omega)))⟩
end Go.Proofs.Ytdfhodhdpkbcnaa
