/- The walk of the law DigestKnown: it returns true. No condition. -/
import Derived.Test.YtjjpknlejjbblaaDigHex
namespace Go.Proofs.Ytjjpknlejjbblaa
open Go.RowKit
set_option linter.unusedVariables false
set_option linter.unusedSimpArgs false
attribute [local go_sem] conv1 conv1d conv1n conv1a conv1ad conv1an conv2 conv2d conv2n conv2a conv2ad conv2an conv4 conv4d conv4n conv4a conv4ad conv4an conv5 conv5d conv5n conv5a conv5ad conv5an size_nums byt_fold
theorem known0 : strOfNums (hexL (md5 ⟨#[]⟩) (md5 ⟨#[]⟩).size) = ⟨#[100, 52, 49, 100, 56, 99, 100, 57, 56, 102, 48, 48, 98, 50, 48, 52, 101, 57, 56, 48, 48, 57, 57, 56, 101, 99, 102, 56, 52, 50, 55, 101]⟩ := by decide +kernel
theorem known1 : strOfNums (hexL (md5 ⟨#[97]⟩) (md5 ⟨#[97]⟩).size) = ⟨#[48, 99, 99, 49, 55, 53, 98, 57, 99, 48, 102, 49, 98, 54, 97, 56, 51, 49, 99, 51, 57, 57, 101, 50, 54, 57, 55, 55, 50, 54, 54, 49]⟩ := by decide +kernel
theorem known2 : strOfNums (hexL (md5 ⟨#[109, 101, 115, 115, 97, 103, 101, 32, 100, 105, 103, 101, 115, 116]⟩) (md5 ⟨#[109, 101, 115, 115, 97, 103, 101, 32, 100, 105, 103, 101, 115, 116]⟩).size) = ⟨#[102, 57, 54, 98, 54, 57, 55, 100, 55, 99, 98, 55, 57, 51, 56, 100, 53, 50, 53, 97, 50, 102, 51, 49, 97, 97, 102, 49, 54, 49, 100, 48]⟩ := by decide +kernel
theorem known3 : strOfNums (hexL (md5 ⟨#[97, 98, 99, 100, 101, 102, 103, 104, 105, 106, 107, 108, 109, 110, 111, 112, 113, 114, 115, 116, 117, 118, 119, 120, 121, 122]⟩) (md5 ⟨#[97, 98, 99, 100, 101, 102, 103, 104, 105, 106, 107, 108, 109, 110, 111, 112, 113, 114, 115, 116, 117, 118, 119, 120, 121, 122]⟩).size) = ⟨#[99, 51, 102, 99, 100, 51, 100, 55, 54, 49, 57, 50, 101, 52, 48, 48, 55, 100, 102, 98, 52, 57, 54, 99, 99, 97, 54, 55, 101, 49, 51, 98]⟩ := by decide +kernel
theorem known4 : strOfNums (hexL (md5 ⟨#[49, 50, 51, 52, 53, 54, 55, 56, 57, 48, 49, 50, 51, 52, 53, 54, 55, 56, 57, 48, 49, 50, 51, 52, 53, 54, 55, 56, 57, 48, 49, 50, 51, 52, 53, 54, 55, 56, 57, 48, 49, 50, 51, 52, 53, 54, 55, 56, 57, 48, 49, 50, 51, 52, 53, 54, 55, 56, 57, 48, 49, 50, 51, 52, 53, 54, 55, 56, 57, 48, 49, 50, 51, 52, 53, 54, 55, 56, 57, 48]⟩) (md5 ⟨#[49, 50, 51, 52, 53, 54, 55, 56, 57, 48, 49, 50, 51, 52, 53, 54, 55, 56, 57, 48, 49, 50, 51, 52, 53, 54, 55, 56, 57, 48, 49, 50, 51, 52, 53, 54, 55, 56, 57, 48, 49, 50, 51, 52, 53, 54, 55, 56, 57, 48, 49, 50, 51, 52, 53, 54, 55, 56, 57, 48, 49, 50, 51, 52, 53, 54, 55, 56, 57, 48, 49, 50, 51, 52, 53, 54, 55, 56, 57, 48]⟩).size) = ⟨#[53, 55, 101, 100, 102, 52, 97, 50, 50, 98, 101, 51, 99, 57, 53, 53, 97, 99, 52, 57, 100, 97, 50, 101, 50, 49, 48, 55, 98, 54, 55, 97]⟩ := by decide +kernel
set_option maxRecDepth 100000 in
set_option maxHeartbeats 1000000 in
theorem known_walk (w : World) : Calls Try.prog 3 #[] w fun e w' => e = .returned (.bool true) ∧ Below w.heap.size w w' := by
  have K0 := Lib.hid known0
  have K1 := Lib.hid known1
  have K2 := Lib.hid known2
  have K3 := Lib.hid known3
  have K4 := Lib.hid known4
  go_enter Try.func3, Try.ntmps3
  go_wp2_with fail
  refine (of_any ⟨#[]⟩ _ (by decide)).mono ?_
  rintro e u0 ⟨rfl, ha0⟩
  have bu0 : Below w.heap.size w u0 := below_step (Below.refl _ _) ha0 (by omega)
  go_wp2_with fail
  refine (hex_any _ _ (by rw [md5_size]; omega) (by rw [md5_size]; omega)).mono ?_
  rintro e v0 ⟨rfl, hb0⟩
  rw [K0.out]
  have bv0 : Below w.heap.size w v0 := below_step bu0 hb0 bu0.size
  go_wp2_with fail
  refine (of_any ⟨#[97]⟩ _ (by decide)).mono ?_
  rintro e u1 ⟨rfl, ha1⟩
  have bu1 : Below w.heap.size w u1 := below_step bv0 ha1 (by have := bv0.size; omega)
  go_wp2_with fail
  refine (hex_any _ _ (by rw [md5_size]; omega) (by rw [md5_size]; omega)).mono ?_
  rintro e v1 ⟨rfl, hb1⟩
  rw [K1.out]
  have bv1 : Below w.heap.size w v1 := below_step bu1 hb1 bu1.size
  go_wp2_with fail
  refine (of_any ⟨#[109, 101, 115, 115, 97, 103, 101, 32, 100, 105, 103, 101, 115, 116]⟩ _ (by decide)).mono ?_
  rintro e u2 ⟨rfl, ha2⟩
  have bu2 : Below w.heap.size w u2 := below_step bv1 ha2 (by have := bv1.size; omega)
  go_wp2_with fail
  refine (hex_any _ _ (by rw [md5_size]; omega) (by rw [md5_size]; omega)).mono ?_
  rintro e v2 ⟨rfl, hb2⟩
  rw [K2.out]
  have bv2 : Below w.heap.size w v2 := below_step bu2 hb2 bu2.size
  go_wp2_with fail
  refine (of_any ⟨#[97, 98, 99, 100, 101, 102, 103, 104, 105, 106, 107, 108, 109, 110, 111, 112, 113, 114, 115, 116, 117, 118, 119, 120, 121, 122]⟩ _ (by decide)).mono ?_
  rintro e u3 ⟨rfl, ha3⟩
  have bu3 : Below w.heap.size w u3 := below_step bv2 ha3 (by have := bv2.size; omega)
  go_wp2_with fail
  refine (hex_any _ _ (by rw [md5_size]; omega) (by rw [md5_size]; omega)).mono ?_
  rintro e v3 ⟨rfl, hb3⟩
  rw [K3.out]
  have bv3 : Below w.heap.size w v3 := below_step bu3 hb3 bu3.size
  go_wp2_with fail
  refine (of_any ⟨#[49, 50, 51, 52, 53, 54, 55, 56, 57, 48, 49, 50, 51, 52, 53, 54, 55, 56, 57, 48, 49, 50, 51, 52, 53, 54, 55, 56, 57, 48, 49, 50, 51, 52, 53, 54, 55, 56, 57, 48, 49, 50, 51, 52, 53, 54, 55, 56, 57, 48, 49, 50, 51, 52, 53, 54, 55, 56, 57, 48, 49, 50, 51, 52, 53, 54, 55, 56, 57, 48, 49, 50, 51, 52, 53, 54, 55, 56, 57, 48]⟩ _ (by decide)).mono ?_
  rintro e u4 ⟨rfl, ha4⟩
  have bu4 : Below w.heap.size w u4 := below_step bv3 ha4 (by have := bv3.size; omega)
  go_wp2_with fail
  refine (hex_any _ _ (by rw [md5_size]; omega) (by rw [md5_size]; omega)).mono ?_
  rintro e v4 ⟨rfl, hb4⟩
  rw [K4.out]
  have bv4 : Below w.heap.size w v4 := below_step bu4 hb4 bu4.size
  go_wp2_with fail
  go_ret
  exact ⟨rfl, bv4⟩
end Go.Proofs.Ytjjpknlejjbblaa
