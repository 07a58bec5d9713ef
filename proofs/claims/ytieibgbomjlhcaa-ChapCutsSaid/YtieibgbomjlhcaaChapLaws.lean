/- The walks of the law Chaps and of what all laws of chapter 6 ask first: each returns true. No condition. -/
import Derived.Test.YtieibgbomjlhcaaChapRefA
import Derived.Test.YtieibgbomjlhcaaChapRefB
import Derived.Test.YtieibgbomjlhcaaChapRefC
import Derived.Test.YtieibgbomjlhcaaChapUn
import Derived.Test.YtieibgbomjlhcaaNum
namespace Go.Proofs.Ytieibgbomjlhcaa
open Go.RowKit
set_option linter.unusedVariables false
set_option linter.unusedSimpArgs false
attribute [local go_sem] conv1 conv1d conv1n conv1a conv1ad conv1an conv2 conv2d conv2n conv2a conv2ad conv2an conv4 conv4d conv4n conv4a conv4ad conv4an conv5 conv5d conv5n conv5a conv5ad conv5an size_nums byt_fold
theorem rput_any (c i : Int) (v nm : ByteArray) (w : World) :
    Calls Try.prog 9 #[.agg #[.int .i64 c, .int .i64 i, .string v, .string nm]] w (ChPut c i v nm w) := by
  by_cases hf : rcFine c i v nm
  · obtain ⟨h1, h2, h3, h4, h5, h6, h7⟩ := hf
    cases hc1 : (c == 1)
    · cases hc2 : (c == 2)
      · have hv : valB c = false := by unfold valB; rw [hc1, hc2]; rfl
        have h0 : v.size = 0 := by rw [hv] at h5; have := of_decide_eq_false h5.symm; omega
        rw [eq_empty v h0]
        exact rput_o3 c i nm w hc1 hc2 h1 h2 h3 h4 h7
      · obtain rfl : c = 2 := by simpa using hc2
        exact rput_o2 i v nm w h3 h4 (of_decide_eq_true h5.symm) h6 h7
    · obtain rfl : c = 1 := by simpa using hc1
      exact rput_o1 i v nm w h3 h4 (of_decide_eq_true h5.symm) h6 h7
  · cases hc1 : (c == 1)
    · cases hc2 : (c == 2)
      · by_cases h0 : 0 < v.size
        · exact rput_e4 c i v nm w hc1 hc2 h0
        · have e := eq_empty v (by omega)
          subst e
          exact rput_e3 c i nm w hc1 hc2 hf
      · obtain rfl : c = 2 := by simpa using hc2
        exact rput_e2 i v nm w hf
    · obtain rfl : c = 1 := by simpa using hc1
      exact rput_e1 i v nm w hf
set_option maxHeartbeats 1000000 in
theorem awake_any (w : World) : Calls Try.prog 13 #[] w fun e w' => e = .returned (.bool true) ∧ Below w.heap.size w w' := by
  have a1 : chS 1 3 ⟨#[118, 118]⟩ ⟨#[109, 101]⟩ = ⟨#[1, 3, 0, 9, 2, 118, 118, 109, 101]⟩ := by decide +kernel
  have a2 : chE 1 3 ⟨#[118, 118]⟩ ⟨#[109, 101]⟩ = 0 := by decide +kernel
  have a3 : gCode ⟨#[1, 3, 0, 9, 2, 118, 118, 109, 101]⟩ = 1 := by decide +kernel
  have a4 : gId ⟨#[1, 3, 0, 9, 2, 118, 118, 109, 101]⟩ = 3 := by decide +kernel
  have a5 : gVal ⟨#[1, 3, 0, 9, 2, 118, 118, 109, 101]⟩ = ⟨#[118, 118]⟩ := by decide +kernel
  have a6 : gNm ⟨#[1, 3, 0, 9, 2, 118, 118, 109, 101]⟩ = ⟨#[109, 101]⟩ := by decide +kernel
  have a7 : gE ⟨#[1, 3, 0, 9, 2, 118, 118, 109, 101]⟩ = 0 := by decide +kernel
  have a8 : gE ⟨#[5, 0, 0, 4]⟩ = 600 := by decide +kernel
  have a9 : chE 3 0 ⟨#[120]⟩ ⟨#[]⟩ = 600 := by decide +kernel
  go_enter Try.func13, Try.ntmps13
  go_wp2_with (first | (go_at_call 12; refine (num_any _ _).mono ?_; rintro e w' ⟨rfl, rfl⟩))
  refine (put_any _ _ _ _ _).mono ?_
  rintro e w1 ⟨rfl, hb1⟩
  obtain ⟨hc1, hf1⟩ := bcell hb1
  have hz1 := hb1.size
  try simp at hz1
  go_wp2_with (first | (go_at_call 12; refine (num_any _ _).mono ?_; rintro e w' ⟨rfl, rfl⟩))
  refine (get_any _ _).mono ?_
  rintro e w2 ⟨rfl, hb2⟩
  obtain ⟨hc2, hf2⟩ := bcell hb2
  have hz2 := hb2.size
  try simp at hz2
  have z1 : w.heap.size < w1.heap.size := by omega
  have z2 : w.heap.size < w2.heap.size := by omega
  go_wp2_with (first | (go_at_call 12; refine (num_any _ _).mono ?_; rintro e w' ⟨rfl, rfl⟩))
  refine (get_any _ _).mono ?_
  rintro e w3 ⟨rfl, hb3⟩
  obtain ⟨hc3, hf3⟩ := bcell hb3
  have hz3 := hb3.size
  try simp at hz3
  have z3 : w2.heap.size < w3.heap.size := by omega
  have z4 : w.heap.size < w3.heap.size := by omega
  go_wp2_with (first | (go_at_call 12; refine (num_any _ _).mono ?_; rintro e w' ⟨rfl, rfl⟩))
  refine (put_any _ _ _ _ _).mono ?_
  rintro e w4 ⟨rfl, hb4⟩
  obtain ⟨hc4, hf4⟩ := bcell hb4
  have hz4 := hb4.size
  try simp at hz4
  have z5 : w2.heap.size < w4.heap.size := by omega
  have z6 : w.heap.size < w4.heap.size := by omega
  go_wp2_with (first | (go_at_call 12; refine (num_any _ _).mono ?_; rintro e w' ⟨rfl, rfl⟩))
  go_ret
  exact ⟨rfl, (by repeat' (first | (with_reducible exact Below.refl _ _) | (with_reducible apply Below.drew) | (with_reducible apply below_drewN) | (with_reducible apply Below.setCell) | (with_reducible apply Below.alloc) | (with_reducible refine below_step ?_ (by assumption) ?_) | omega | (simp; done) | (simp; omega)))⟩
set_option maxHeartbeats 1000000 in
theorem chaps_walk (c i : Int) (v nm s : ByteArray) (k0 : (Lit.int .i64 c).wf = true) (k1 : (Lit.int .i64 i).wf = true) (k2 : v.size ≤ maxLen) (k3 : nm.size ≤ maxLen) (k4 : s.size ≤ maxLen) (w : World) :
    Calls Try.prog 3 #[.agg #[.int .i64 c, .int .i64 i, .string v, .string nm], .string s] w fun e w' => e = .returned (.bool true) ∧ Below w.heap.size w w' := by
  clear k0 k1 k2 k3 k4
  go_enter Try.func3, Try.ntmps3
  go_wp2_with (first | (go_at_call 12; refine (num_any _ _).mono ?_; rintro e w' ⟨rfl, rfl⟩))
  refine (put_any _ _ _ _ _).mono ?_
  rintro e w1 ⟨rfl, hb1⟩
  obtain ⟨hc1, hf1⟩ := bcell hb1
  have hz1 := hb1.size
  try simp at hz1
  have z1 : w.heap.size < w1.heap.size := by omega
  go_wp2_with (first | (go_at_call 12; refine (num_any _ _).mono ?_; rintro e w' ⟨rfl, rfl⟩))
  refine (rput_any _ _ _ _ _).mono ?_
  rintro e w2 ⟨rfl, hb2⟩
  obtain ⟨hc2, hf2⟩ := bcell hb2
  have hz2 := hb2.size
  try simp at hz2
  go_wp2_with (first | (go_at_call 12; refine (num_any _ _).mono ?_; rintro e w' ⟨rfl, rfl⟩))
  refine (get_any _ _).mono ?_
  rintro e w3 ⟨rfl, hb3⟩
  obtain ⟨hc3, hf3⟩ := bcell hb3
  have hz3 := hb3.size
  try simp at hz3
  go_wp2_with (first | (go_at_call 12; refine (num_any _ _).mono ?_; rintro e w' ⟨rfl, rfl⟩))
  refine (rget_any _ _).mono ?_
  rintro e w4 ⟨rfl, hb4⟩
  obtain ⟨hc4, hf4⟩ := bcell hb4
  have hz4 := hb4.size
  try simp at hz4
  have z4 : w3.heap.size < w4.heap.size := by omega
  go_wp2_with (first | (go_at_call 12; refine (num_any _ _).mono ?_; rintro e w' ⟨rfl, rfl⟩) | (go_at_call 13; refine (awake_any _).mono ?_; rintro e w1 ⟨rfl, hb⟩; obtain ⟨hc, hf⟩ := bcell hb; have hz := hb.size; try simp at hz))
  go_ret
  exact ⟨rfl, (by repeat' (first | (with_reducible exact Below.refl _ _) | (with_reducible apply Below.drew) | (with_reducible apply below_drewN) | (with_reducible apply Below.setCell) | (with_reducible apply Below.alloc) | (with_reducible refine below_step ?_ (by assumption) ?_) | omega | (simp; done) | (simp; omega)))⟩
end Go.Proofs.Ytieibgbomjlhcaa
