/- The walk of the law ChapBack: it returns true. No condition. -/
import Derived.Test.YtieibgbomjlhcaaChapLaws
import Derived.Test.YtieibgbomjlhcaaChapPlain
namespace Go.Proofs.Ytieibgbomjlhcaa
open Go.RowKit
set_option linter.unusedVariables false
set_option linter.unusedSimpArgs false
attribute [local go_sem] conv1 conv1d conv1n conv1a conv1ad conv1an conv2 conv2d conv2n conv2a conv2ad conv2an conv4 conv4d conv4n conv4a conv4ad conv4an conv5 conv5d conv5n conv5a conv5ad conv5an size_nums byt_fold
set_option maxHeartbeats 1000000 in
theorem chapBack_no (c i : Int) (v nm more : ByteArray) (h : ¬ chE c i v nm = 0) (w : World) :
    Calls Try.prog 4 #[.agg #[.int .i64 c, .int .i64 i, .string v, .string nm], .string more] w fun e w' => e = .returned (.bool true) ∧ Below w.heap.size w w' := by
  have hs := chS_not h
  have hb : (chE c i v nm == 0) = false := by simpa using h
  go_enter Try.func4, Try.ntmps4
  go_wp2_with (first | (go_at_call 12; refine (num_any _ _).mono ?_; rintro e w' ⟨rfl, rfl⟩))
  refine (awake_any _).mono ?_
  rintro e w1 ⟨rfl, hb1⟩
  obtain ⟨hc1, hf1⟩ := bcell hb1
  have hz1 := hb1.size
  try simp at hz1
  have z1 : w.heap.size < w1.heap.size := by omega
  go_wp2_with (first | (go_at_call 12; refine (num_any _ _).mono ?_; rintro e w' ⟨rfl, rfl⟩))
  refine (put_any _ _ _ _ _).mono ?_
  rintro e w2 ⟨rfl, hb2⟩
  obtain ⟨hc2, hf2⟩ := bcell hb2
  have hz2 := hb2.size
  try simp at hz2
  go_wp2_with (first | (go_at_call 12; refine (num_any _ _).mono ?_; rintro e w' ⟨rfl, rfl⟩))
  go_ret
  exact ⟨rfl, (by repeat' (first | (with_reducible exact Below.refl _ _) | (with_reducible apply Below.drew) | (with_reducible apply below_drewN) | (with_reducible apply Below.setCell) | (with_reducible apply Below.alloc) | (with_reducible refine below_step ?_ (by assumption) ?_) | omega | (simp; done) | (simp; omega)))⟩
set_option maxHeartbeats 1000000 in
theorem chapBack_yes (c i : Int) (v nm more : ByteArray) (h : chE c i v nm = 0) (hm : more.size ≤ 140737488351232) (w : World) :
    Calls Try.prog 4 #[.agg #[.int .i64 c, .int .i64 i, .string v, .string nm], .string more] w fun e w' => e = .returned (.bool true) ∧ Below w.heap.size w w' := by
  obtain ⟨r1, r2, r3, r4, r5⟩ := chap_back more h
  have r6 := chap_cut h
  obtain ⟨f1, f2, f3, f4, f5, f6, f7, f8⟩ := fit_of h
  have l1 : 1 ≤ (chText c i v nm).size := by rw [text_size]; omega
  have l2 : (chText c i v nm).size ≤ 600 := by rw [text_size]; have := body_le (c := c) f5 f6; omega
  clear f1 f2 f3 f4 f5 f6 f7 f8
  have hs := chS_of h
  go_enter Try.func4, Try.ntmps4
  go_wp2_with (first | (go_at_call 12; refine (num_any _ _).mono ?_; rintro e w' ⟨rfl, rfl⟩))
  refine (awake_any _).mono ?_
  rintro e w1 ⟨rfl, hb1⟩
  obtain ⟨hc1, hf1⟩ := bcell hb1
  have hz1 := hb1.size
  try simp at hz1
  have z1 : w.heap.size < w1.heap.size := by omega
  go_wp2_with (first | (go_at_call 12; refine (num_any _ _).mono ?_; rintro e w' ⟨rfl, rfl⟩))
  refine (put_any _ _ _ _ _).mono ?_
  rintro e w2 ⟨rfl, hb2⟩
  obtain ⟨hc2, hf2⟩ := bcell hb2
  have hz2 := hb2.size
  try simp at hz2
  have z2 : w.heap.size < w2.heap.size := by omega
  go_wp2_with (first | (go_at_call 12; refine (num_any _ _).mono ?_; rintro e w' ⟨rfl, rfl⟩))
  refine (get_any _ _).mono ?_
  rintro e w3 ⟨rfl, hb3⟩
  obtain ⟨hc3, hf3⟩ := bcell hb3
  have hz3 := hb3.size
  try simp at hz3
  have z3 : w.heap.size < w3.heap.size := by omega
  go_wp2_with (first | (go_at_call 12; refine (num_any _ _).mono ?_; rintro e w' ⟨rfl, rfl⟩))
  refine (get_any _ _).mono ?_
  rintro e w4 ⟨rfl, hb4⟩
  obtain ⟨hc4, hf4⟩ := bcell hb4
  have hz4 := hb4.size
  try simp at hz4
  have z4 : w.heap.size < w4.heap.size := by omega
  have z5 : w3.heap.size < w4.heap.size := by omega
  go_wp2_with (first | (go_at_call 12; refine (num_any _ _).mono ?_; rintro e w' ⟨rfl, rfl⟩))
  go_ret
  exact ⟨rfl, (by repeat' (first | (with_reducible exact Below.refl _ _) | (with_reducible apply Below.drew) | (with_reducible apply below_drewN) | (with_reducible apply Below.setCell) | (with_reducible apply Below.alloc) | (with_reducible refine below_step ?_ (by assumption) ?_) | omega | (simp; done) | (simp; omega)))⟩
theorem chapBack_walk (c i : Int) (v nm more : ByteArray) (k0 : (Lit.int .i64 c).wf = true) (k1 : (Lit.int .i64 i).wf = true) (k2 : v.size ≤ maxLen) (k3 : nm.size ≤ maxLen) (k4 : more.size ≤ 140737488351232) (w : World) :
    Calls Try.prog 4 #[.agg #[.int .i64 c, .int .i64 i, .string v, .string nm], .string more] w fun e w' => e = .returned (.bool true) ∧ Below w.heap.size w w' := by
  by_cases h : chE c i v nm = 0
  · exact chapBack_yes c i v nm more h k4 w
  · exact chapBack_no c i v nm more h w
end Go.Proofs.Ytieibgbomjlhcaa
