/- A packet's head in plain words: its length's two bytes, one byte's numbers. No condition. -/
import Derived.Test.YtckbbfdllflmjaaStr
import Derived.Test.YtckbbfdllflmjaaPlain
import Derived.Test.YtckbbfdllflmjaaNum
namespace Go.Proofs.Ytckbbfdllflmjaa
open Go.RowKit
set_option linter.unusedVariables false
set_option linter.unusedSimpArgs false
attribute [local go_sem] conv1 conv1d conv1n conv1a conv1ad conv1an conv2 conv2d conv2n conv2a conv2ad conv2an conv4 conv4d conv4n conv4a conv4ad conv4an conv5 conv5d conv5n conv5a conv5ad conv5an size_nums byt_fold
def octB (x : Int) : Bool := decide (0 ≤ x ∧ x ≤ 255)
def gN (s : ByteArray) : Nat := (byt s 2 * 256 + byt s 3).toNat
theorem gN_eq (s : ByteArray) : byt s 2 * 256 + byt s 3 = (gN s : Int) := by
  obtain ⟨a0, a1⟩ := byt_range s 2
  obtain ⟨b0, b1⟩ := byt_range s 3
  unfold gN; omega
theorem oct_yes {x : Int} (h : octB x = true) : 0 ≤ x ∧ x ≤ 255 := by unfold octB at h; exact of_decide_eq_true h
theorem oct_no {x : Int} (h : octB x = false) : x < 0 ∨ 255 < x := by unfold octB at h; have := of_decide_eq_false h; omega
theorem nums_app (xs ys : List Int) : strOfNums xs ++ strOfNums ys = strOfNums (xs ++ ys) := by
  apply ByteArray.ext; simp [strOfNums, ByteArray.data_append]
/-- A packet's text: two numbers, the length, the body. -/
def headed (c i : Int) (B : ByteArray) : ByteArray := strOfNums [c, i, (4 + (B.size : Int)) / 256, (4 + (B.size : Int)) % 256] ++ B
theorem headed_size (c i : Int) (B : ByteArray) : (headed c i B).size = 4 + B.size := by unfold headed; rw [size_app, size_nums]; rfl
theorem headed_bytes {c i : Int} {B : ByteArray} (hc : 0 ≤ c ∧ c ≤ 255) (hi : 0 ≤ i ∧ i ≤ 255) (hB : B.size ≤ 60000) (more : ByteArray) :
    byt (headed c i B ++ more) 0 = c ∧ byt (headed c i B ++ more) 1 = i ∧ gN (headed c i B ++ more) = 4 + B.size ∧ (headed c i B ++ more).extract 4 (4 + B.size) = B := by
  have hs := headed_size c i B
  have b0 : byt (headed c i B) 0 = c := by unfold headed; rw [byt_app_l _ _ _ (by rw [size_nums]; simp), byt_nums _ _ (by simp) (by simp; omega) (by simp; omega)]; rfl
  have b1 : byt (headed c i B) 1 = i := by unfold headed; rw [byt_app_l _ _ _ (by rw [size_nums]; simp), byt_nums _ _ (by simp) (by simp; omega) (by simp; omega)]; rfl
  have b2 : byt (headed c i B) 2 = (4 + (B.size : Int)) / 256 := by unfold headed; rw [byt_app_l _ _ _ (by rw [size_nums]; simp), byt_nums _ _ (by simp) (by simp; omega) (by simp; omega)]; rfl
  have b3 : byt (headed c i B) 3 = (4 + (B.size : Int)) % 256 := by unfold headed; rw [byt_app_l _ _ _ (by rw [size_nums]; simp), byt_nums _ _ (by simp) (by simp; omega) (by simp; omega)]; rfl
  refine ⟨?_, ?_, ?_, ?_⟩
  · rw [byt_app_l _ _ _ (by omega)]; exact b0
  · rw [byt_app_l _ _ _ (by omega)]; exact b1
  · unfold gN; rw [byt_app_l _ _ _ (by omega), byt_app_l _ _ _ (by omega), b2, b3]; omega
  · rw [ext_app_l _ _ _ _ (by omega)]
    unfold headed
    rw [ext_app_r _ _ _ _ (by rw [size_nums]; simp), size_nums]
    exact ext_all _ _ (by simp)
theorem headed_cut {c i : Int} {B : ByteArray} (hB : B.size ≤ 60000) : ((headed c i B).extract 0 ((headed c i B).size - 1)).size = 3 + B.size ∧ (0 < B.size → gN ((headed c i B).extract 0 ((headed c i B).size - 1)) = 4 + B.size) := by
  have hs := headed_size c i B
  refine ⟨by rw [size_ext]; omega, fun h0 => ?_⟩
  have b2 : byt (headed c i B) 2 = (4 + (B.size : Int)) / 256 := by unfold headed; rw [byt_app_l _ _ _ (by rw [size_nums]; simp), byt_nums _ _ (by simp) (by simp; omega) (by simp; omega)]; rfl
  have b3 : byt (headed c i B) 3 = (4 + (B.size : Int)) % 256 := by unfold headed; rw [byt_app_l _ _ _ (by rw [size_nums]; simp), byt_nums _ _ (by simp) (by simp; omega) (by simp; omega)]; rfl
  unfold gN
  rw [byt_ext _ _ _ _ (by omega), byt_ext _ _ _ _ (by omega)]
  simp only [Nat.zero_add]
  rw [b2, b3]; omega
end Go.Proofs.Ytckbbfdllflmjaa
