/- The walk of the law ProofWrong. No condition but strings' lengths. -/
import Derived.Test.YtdfefpbpfneahaaPrfE
namespace Go.Proofs.Ytdfefpbpfneahaa
open Go.RowKit
set_option linter.unusedVariables false
set_option linter.unusedSimpArgs false
attribute [local go_sem] conv1 conv1d conv1n conv1a conv1ad conv1an conv2 conv2d conv2n conv2a conv2ad conv2an conv4 conv4d conv4n conv4a conv4ad conv4an conv5 conv5d conv5n conv5a conv5ad conv5an size_nums byt_fold
attribute [local go_sem high] run_string_add_sum
def wrong0 : PS := ⟨tB, ⟨#[]⟩, 3, false, false, tMe, tA, false, false⟩
def wrong1 (C : ByteArray) (f : Bool) : PS := ⟨tB, C, 3, true, false, tMe, tA, false, f⟩
theorem ju_no {C v D : ByteArray} (hD : md5 (chapT 1 tB C) = D) (h : ¬ v = D) : jL (wrong1 C false) 1 v = [(4, 1, ⟨#[]⟩, tNo)] ∧ jS (wrong1 C false) 1 v = wrong1 C true := by
  constructor
  · unfold jL; simp [wrong1, hD, h]
  · unfold jS; simp [wrong1, hD, h]
theorem tk_fl {s : PS} {c i : Int} {v n : ByteArray} (h : chE c i v n = 0) (hf : s.fl = true) : tL s c i v n = [] ∧ tE c i v n = 0 ∧ tS s c i v n = s := by
  refine ⟨?_, ?_, ?_⟩
  · unfold tL; rw [if_neg (by simp [hf])]
  · unfold tE; rw [if_pos h]
  · unfold tS; rw [if_neg (by simp [hf])]
set_option maxRecDepth 100000 in
set_option maxHeartbeats 1000000 in
theorem wrong_walk (value ch : ByteArray) (hv : value.size ≤ 140737488351232) (hch : ch.size ≤ 140737488351232) (w : World) : Calls Try.prog 4 #[.string value, .string ch] w fun e w' => e = .returned (.bool true) ∧ Below w.heap.size w w' := by
  have hsh := shB_size ch
  have hsv := shB_size value
  obtain ⟨C, hC⟩ : ∃ C, (⟨#[99]⟩ : ByteArray) ++ shB ch = C := ⟨_, rfl⟩
  have hC1 : 1 ≤ C.size ∧ C.size ≤ 255 := by rw [← hC, size_app]; have : (⟨#[99]⟩ : ByteArray).size = 1 := rfl; omega
  obtain ⟨V, hV⟩ : ∃ V, (⟨#[118]⟩ : ByteArray) ++ shB value = V := ⟨_, rfl⟩
  have hV1 : 1 ≤ V.size ∧ V.size ≤ 255 := by rw [← hV, size_app]; have : (⟨#[118]⟩ : ByteArray).size = 1 := rfl; omega
  have HV := Lib.hid hV; clear hV
  go_enter Try.func4, Try.ntmps4
  go_wp2_with (first | (go_at_call 12; refine (num_any _ _).mono ?_; rintro e w' ⟨rfl, rfl⟩))
  refine (awake_any _).mono ?_
  rintro e w0 ⟨rfl, hb0⟩
  have hz0 := hb0.size
  go_wp2_with (first | (go_at_call 12; refine (num_any _ _).mono ?_; rintro e w' ⟨rfl, rfl⟩) | (go_at_call 9; refine (short_any _ _).mono ?_; rintro e w' ⟨rfl, rfl⟩))
  refine (pnew_ok tMe tA tB 3 _ (by decide +kernel)).mono ?_
  rintro e w1 ⟨rfl, hp1, hb1⟩
  have hz1 : w0.heap.size < w1.heap.size := Blk.lt hp1
  have bel1 : Below w.heap.size w w1 := below_step hb0 hb1 hz0
  have HP1 := Lib.hid hp1; clear hp1
  go_wp2_with (first | (go_at_call 12; refine (num_any _ _).mono ?_; rintro e w' ⟨rfl, rfl⟩))
  refine (start_any w0.heap.size wrong0 _ _ HP1.out).mono ?_
  rintro e w3 ⟨rfl, hp3, hg3⟩
  have hz3 := hg3.size
  have bel3 := below_gr bel1 hg3 (by omega) hz0
  obtain ⟨e1, e2, e3⟩ := stOK (s := wrong0) hC1.1 hC1.2 rfl rfl
  rw [e1, e2]
  rw [e3] at hp3
  unfold chV
  have hp4 : PAt (w3.alloc (.cells (chC 1 1 C tMe) 33)) w0.heap.size (wrong1 C false) := Blk.alloc hp3 _
  have HP4 := Lib.hid hp4; clear hp3 hp4 e1 e2 e3 hC
  go_wp2_with (first | (go_at_call 12; refine (num_any _ _).mono ?_; rintro e w' ⟨rfl, rfl⟩))
  refine (rchap_any 1 tB C _ (by decide) (by omega)).mono ?_
  rintro e w4 ⟨rfl, hb4⟩
  have hz4 := hb4.size
  simp at hz4
  have bel4 : Below w.heap.size w w4 := below_step (bel3.alloc bel3.size _) hb4 (by have := bel3.size; simp; omega)
  have hp4 : PAt w4 w0.heap.size (wrong1 C false) := Blk.keep HP4.out hb4
  have HP5 := Lib.hid hp4; clear hp4
  obtain ⟨D, hD⟩ : ∃ D, md5 (chapT 1 tB C) = D := ⟨_, rfl⟩
  have hDs : D.size = 16 := by rw [← hD]; exact md5_size _
  rw [hD]
  have hVV := HV.out
  by_cases hne : V = D
  · have hq : (V.toList == D.toList) = true := by rw [hne]; simp
    go_wp2_with (first | (go_at_call 12; refine (num_any _ _).mono ?_; rintro e w' ⟨rfl, rfl⟩) | (go_at_call 9; refine (short_any _ _).mono ?_; rintro e w' ⟨rfl, rfl⟩))
    go_ret
    exact ⟨rfl, bel4⟩
  have hq := bytes_ne hne
  have hch1 := chE_fine (c := 2) (i := 1) (v := V) (n := ⟨#[]⟩) (.inr rfl) (by omega) hV1 (by decide)
  have hch2 := chE_fine (c := 2) (i := 1) (v := D) (n := ⟨#[]⟩) (.inr rfl) (by omega) (by omega) (by decide)
  go_wp2_with (first | (go_at_call 12; refine (num_any _ _).mono ?_; rintro e w' ⟨rfl, rfl⟩) | (go_at_call 9; refine (short_any _ _).mono ?_; rintro e w' ⟨rfl, rfl⟩))
  refine (take_any w0.heap.size (wrong1 C false) 2 1 V ⟨#[]⟩ _ HP5.out (by show tB.size ≤ 64; decide) (by show C.size ≤ 255; omega) (by show tA.size ≤ 64; decide)).mono ?_
  rintro e w5 ⟨⟨A5, cap5, rfl, hl5, hA5⟩, hp5, hg5⟩
  obtain ⟨t1, t2, t3⟩ := tk2 (s := wrong1 C false) hch1 rfl
  obtain ⟨j1, j2⟩ := ju_no hD hne
  rw [t1, j1] at hl5 ⊢
  rw [t2]
  rw [t3, j2] at hp5
  have hz5 := hg5.size
  have bel5 := below_gr bel4 hg5 (by omega) hz0
  have HP6 := Lib.hid hp5; have HL5 := Lib.hid hl5; clear hp5 hl5 t1 t2 t3 j1 j2
  go_wp2_with (first | (go_at_call 12; refine (num_any _ _).mono ?_; rintro e w' ⟨rfl, rfl⟩))
  refine (take_any w0.heap.size (wrong1 C true) 2 1 D ⟨#[]⟩ _ HP6.out (by show tB.size ≤ 64; decide) (by show C.size ≤ 255; omega) (by show tA.size ≤ 64; decide)).mono ?_
  rintro e w6 ⟨⟨A6, cap6, rfl, hl6, hA6⟩, hp6, hg6⟩
  obtain ⟨t1, t2, t3⟩ := tk_fl (s := wrong1 C true) hch2 rfl
  rw [t1] at hl6 ⊢
  rw [t2]
  rw [t3] at hp6
  have hz6 := hg6.size
  have bel6 := below_gr bel5 hg6 (by omega) hz0
  obtain ⟨b, off, c, i, v, m, rfl, hb, ho, c1, c2, c3, c4⟩ := (HL5.out.grown hg6 (hA5.ne (by omega))).at_ 0 (by decide)
  obtain ⟨rfl, rfl, rfl, rfl⟩ : c = 4 ∧ i = 1 ∧ v = ⟨#[]⟩ ∧ m = tNo := by simp at ho; exact ⟨ho.1.symm, ho.2.1.symm, ho.2.2.1.symm, ho.2.2.2.symm⟩
  simp only [Nat.zero_mul, Nat.add_zero] at c1
  have HP7 := Lib.hid hp6; clear hp6 hl6 t1 t2 t3
  go_wp2_with (first | (go_at_call 12; refine (num_any _ _).mono ?_; rintro e w' ⟨rfl, rfl⟩) | (go_at_call 15; refine (proved_any _ _ _ HP7.out).mono ?_; rintro e w' ⟨rfl, rfl⟩) | (go_at_call 17; refine (failed_any _ _ _ HP7.out).mono ?_; rintro e w' ⟨rfl, rfl⟩))
  go_ret
  exact ⟨rfl, bel6⟩
end Go.Proofs.Ytdfefpbpfneahaa
