/- The contracts of the reference's Chap and of chapter 13's awake. No condition but memory's own limits. -/
import Derived.Test.YtjjpknlejjbblaaDigHex
import Derived.Test.YtjjpknlejjbblaaDigMd5
namespace Go.Proofs.Ytjjpknlejjbblaa
open Go.RowKit
set_option linter.unusedVariables false
set_option linter.unusedSimpArgs false
attribute [local go_sem] conv1 conv1d conv1n conv1a conv1ad conv1an conv2 conv2d conv2n conv2a conv2ad conv2an conv4 conv4d conv4n conv4a conv4ad conv4an conv5 conv5d conv5n conv5a conv5ad conv5an size_nums byt_fold
attribute [local go_sem high] run_string_add_sum
theorem and255 (x : Int) : bits .and .i64 x 255 = x % 256 := i64_mask 8 (by decide) x
set_option maxHeartbeats 1000000 in
theorem rchap_any (id : Int) (a b : ByteArray) (w : World) (ha : a.size ≤ 40000000000000) (hb : b.size ≤ 40000000000000) : Calls Try.prog 12 #[.int .i64 id, .string a, .string b] w fun e w' => e = .returned (.string (md5 (chapT id a b))) ∧ Below w.heap.size w w' := by
  have hT : strOfNums [id % 256] ++ a ++ b = chapT id a b := rfl
  have hz := chapT_size id a b
  have HZ := Lib.hid hz; clear hz
  have h255 := and255 id
  have h8 : IntKind.u8.wrap (id % 256) = id % 256 := IntWalk.u8_in _ (by omega)
  go_enter Try.func12, Try.ntmps12
  go_wp2_with fail
  refine (rmd5_any _ _ (by have := HZ.out; omega)).mono ?_
  rintro e w1 ⟨rfl, hb1⟩
  go_wp2_with fail
  go_ret
  exact ⟨rfl, ((Below.refl _ _).alloc (Nat.le_refl _) _).trans (hb1.mono (by simp))⟩
theorem known_abc : strOfNums (hexL (md5 ⟨#[97, 98, 99]⟩) (md5 ⟨#[97, 98, 99]⟩).size) = ⟨#[57, 48, 48, 49, 53, 48, 57, 56, 51, 99, 100, 50, 52, 102, 98, 48, 100, 54, 57, 54, 51, 102, 55, 100, 50, 56, 101, 49, 55, 102, 55, 50]⟩ := by decide +kernel
set_option maxHeartbeats 1000000 in
theorem awake_any (w : World) : Calls Try.prog 13 #[] w fun e w' => e = .returned (.bool true) ∧ Below w.heap.size w w' := by
  have K := Lib.hid known_abc
  go_enter Try.func13, Try.ntmps13
  go_wp2_with fail
  refine (of_any ⟨#[97, 98, 99]⟩ _ (by decide)).mono ?_
  rintro e u0 ⟨rfl, ha0⟩
  have bu0 : Below w.heap.size w u0 := below_step (Below.refl _ _) ha0 (by omega)
  go_wp2_with fail
  refine (hex_any _ _ (by rw [md5_size]; omega) (by rw [md5_size]; omega)).mono ?_
  rintro e v0 ⟨rfl, hb0⟩
  rw [K.out]
  have bv0 : Below w.heap.size w v0 := below_step bu0 hb0 bu0.size
  go_wp2_with fail
  refine (dchap_any 7 ⟨#[115]⟩ ⟨#[99]⟩ _ (by decide) (by decide)).mono ?_
  rintro e u1 ⟨rfl, ha1⟩
  have bu1 : Below w.heap.size w u1 := below_step bv0 ha1 (by have := bv0.size; omega)
  go_wp2_with fail
  refine (rchap_any 7 ⟨#[115]⟩ ⟨#[99]⟩ _ (by decide) (by decide)).mono ?_
  rintro e u2 ⟨rfl, ha2⟩
  have bu2 : Below w.heap.size w u2 := below_step bu1 ha2 (by have := bu1.size; omega)
  go_wp2_with fail
  (go_at_call 14; refine (num_any _ _).mono ?_; rintro e w' ⟨rfl, rfl⟩)
  go_wp2_with fail
  go_ret
  exact ⟨rfl, bu2⟩
end Go.Proofs.Ytjjpknlejjbblaa
