/- The walk of the law DigestEnds. No condition. -/
import Derived.Test.YtjjpknlejjbblaaDigLaws
import Derived.Test.YtjjpknlejjbblaaMake
namespace Go.Proofs.Ytjjpknlejjbblaa
open Go.RowKit
set_option linter.unusedVariables false
set_option linter.unusedSimpArgs false
attribute [local go_sem] conv1 conv1d conv1n conv1a conv1ad conv1an conv2 conv2d conv2n conv2a conv2ad conv2an conv4 conv4d conv4n conv4a conv4ad conv4an conv5 conv5d conv5n conv5a conv5ad conv5an size_nums byt_fold
attribute [local go_sem high] run_string_add_sum
def fL (k j : Nat) (b : Int) : List Int := (List.range k).map fun q => if q < j then b else 0
def fC (k j : Nat) (b : Int) : Array Value := ((fL k j b).map (Value.int .u8)).toArray
theorem fC_size (k j : Nat) (b : Int) : (fC k j b).size = k := by simp [fC, fL]
theorem fC_get (k j : Nat) (b : Int) (q : Nat) (hq : q < k) : (fC k j b)[q]? = some (.int .u8 (if q < j then b else 0)) := by unfold fC fL; simp [hq]
theorem fC_step (k j : Nat) (b : Int) (hj : j < k) : (fC k j b).setIfInBounds j (.int .u8 b) = fC k (j + 1) b := by
  apply Array.ext_getElem?
  intro q
  rw [Array.getElem?_setIfInBounds]
  by_cases hq : q < k
  · rw [fC_get k (j + 1) b q hq, fC_get k j b q hq]
    by_cases e : j = q
    · subst e
      rw [if_pos rfl, if_pos (by rw [fC_size]; omega), if_pos (by omega)]
    · rw [if_neg e]
      by_cases h : q < j
      · rw [if_pos h, if_pos (by omega)]
      · rw [if_neg h, if_neg (by omega)]
  · have := fC_size k j b; have := fC_size k (j + 1) b
    rw [if_neg (by omega), Array.getElem?_eq_none (by omega), Array.getElem?_eq_none (by omega)]
theorem fC_start (k : Nat) (b : Int) : fC k 0 b = zcells k := by
  rw [zcells_eq]
  have : fL k 0 b = List.replicate k 0 := by
    unfold fL
    apply List.ext_getElem (by simp)
    intro j a c
    rw [List.getElem_replicate, List.getElem_map, if_neg (by omega)]
  unfold fC; rw [this]
set_option maxHeartbeats 1000000 in
theorem ends_walk (many c : Int) (hm : (Lit.int .i64 many).wf = true) (hc : (Lit.int .i64 c).wf = true) (w : World) : Calls Try.prog 6 #[.int .i64 many, .int .i64 c] w fun e w' => e = .returned (.bool true) ∧ Below w.heap.size w w' := by
  have h255 := and255 many
  obtain ⟨k, hk⟩ : ∃ k : Nat, many % 256 = (k : Int) := ⟨(many % 256).toNat, by omega⟩
  have hk2 : k < 256 := by omega
  rw [hk] at h255
  obtain ⟨b, hb⟩ : ∃ b, IntKind.u8.wrap c = b := ⟨_, rfl⟩
  have hmk := fun W => run_mk k (by omega) W
  go_enter Try.func6, Try.ntmps6
  go_wp2_with fail
  refine (awake_any _).mono ?_
  rintro e u0 ⟨rfl, ha0⟩
  have bu0 : Below w.heap.size w u0 := below_step (Below.refl _ _) ha0 (by omega)
  go_wp2_with fail
  clear hmk
  go_loopw [7] (fun i wr => ∃ j : Nat, i = .int .i64 j ∧ j ≤ k ∧ Blk wr u0.heap.size 5 (fC k j b) ∧ Below w.heap.size w wr) (fun i _ => k - (intOf i).toNat)
  case atStart => exact ⟨0, rfl, by omega, by rw [fC_start]; exact heap_alloc_new u0 _, bu0.alloc bu0.size _⟩
  case round =>
    obtain ⟨j, rfl, hj, hblk, hbel⟩ := hrel
    by_cases hlt : j < k
    · have y1 : (j : Int) < (k : Int) := by omega
      have cm : wr.cell? ⟨u0.heap.size, j, none⟩ = some (.int .u8 0) := by rw [hblk.cell, fC_get k j b j hlt, if_neg (by omega)]
      have hfr := hblk.frozen
      have HST := Lib.hid (fC_step k j b hlt); have HBLK := Lib.hid hblk
      clear hblk
      go_wp2_with fail
      go_roundw
      case rel => exact ⟨j + 1, by go_num, by omega, by rw [← HST.out]; exact HBLK.out.set_ j _, hbel.setCell (by simp; exact bu0.size) _⟩
      case measure => simp [intOf]; omega
    · obtain rfl : j = k := by omega
      have hconv := conv_in (fL j j b) wr u0.heap.size j hblk
      have hl : (fL j j b).length = j := by simp [fL]
      rw [hl] at hconv
      obtain ⟨S, hS⟩ : ∃ S, strOfNums (fL j j b) = S := ⟨_, rfl⟩
      have hsz : S.size = j := by rw [← hS, size_nums, hl]
      rw [hS] at hconv
      have hms := md5_size S
      have hxz : (S ++ ⟨#[120]⟩).size = j + 1 := by rw [size_app, hsz]; rfl
      have HX := Lib.hid hxz
      clear hblk hS hl hxz
      go_wp2_with fail
      refine (of_any S _ (by omega)).mono ?_
      rintro e v0 ⟨rfl, hb0⟩
      have bv0 : Below w.heap.size w v0 := below_step hbel hb0 hbel.size
      go_wp2_with fail
      refine (rmd5_any S _ (by omega)).mono ?_
      rintro e v1 ⟨rfl, hb1⟩
      have bv1 : Below w.heap.size w v1 := below_step bv0 hb1 bv0.size
      go_wp2_with fail
      refine (of_any S _ (by omega)).mono ?_
      rintro e v2 ⟨rfl, hb2⟩
      have bv2 : Below w.heap.size w v2 := below_step bv1 hb2 bv1.size
      go_wp2_with fail
      refine (of_any _ _ (by have := HX.out; omega)).mono ?_
      rintro e v3 ⟨rfl, hb3⟩
      have bv3 : Below w.heap.size w v3 := below_step bv2 hb3 bv2.size
      go_wp2_with fail
      refine (rmd5_any _ _ (by have := HX.out; omega)).mono ?_
      rintro e v4 ⟨rfl, hb4⟩
      have bv4 : Below w.heap.size w v4 := below_step bv3 hb4 bv3.size
      go_wp2_with fail
      (go_at_call 14; refine (num_any _ _).mono ?_; rintro e w' ⟨rfl, rfl⟩)
      go_wp2_with fail
      go_ret
      exact ⟨rfl, bv4⟩
end Go.Proofs.Ytjjpknlejjbblaa
