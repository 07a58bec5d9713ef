/- The walk of the law ProofTries, and withylaw16's short. No condition but a string's length. -/
import Derived.Test.YtdfefpbpfneahaaPrfD
namespace Go.Proofs.Ytdfefpbpfneahaa
open Go.RowKit
set_option linter.unusedVariables false
set_option linter.unusedSimpArgs false
attribute [local go_sem] conv1 conv1d conv1n conv1a conv1ad conv1an conv2 conv2d conv2n conv2a conv2ad conv2an conv4 conv4d conv4n conv4a conv4ad conv4an conv5 conv5d conv5n conv5a conv5ad conv5an size_nums byt_fold
attribute [local go_sem high] run_string_add_sum
def shB (s : ByteArray) : ByteArray := if 40 < s.size then s.extract 0 40 else s
theorem shB_size (s : ByteArray) : (shB s).size ≤ 40 := by
  unfold shB; split
  · rw [size_ext]; omega
  · omega
theorem short_any (s : ByteArray) (w : World) : Calls Try.prog 9 #[.string s] w fun e w' => e = .returned (.string (shB s)) ∧ w = w' := by
  by_cases h : 40 < s.size
  · have e : shB s = s.extract 0 40 := by unfold shB; rw [if_pos h]
    rw [e]
    have h2 : 40 ≤ s.size := by omega
    go_enter Try.func9, Try.ntmps9
    go_wp2
    go_ret
    exact ⟨rfl, rfl⟩
  · have e : shB s = s := by unfold shB; rw [if_neg h]
    rw [e]
    go_enter Try.func9, Try.ntmps9
    go_wp2
    go_ret
    exact ⟨rfl, rfl⟩
theorem ag0 {s : PS} (h : s.st = false) : pAgV s = chV 0 0 ⟨#[]⟩ ⟨#[]⟩ ∧ pAgE s = 1601 ∧ pAg s = s := by
  have e : pAgE s = 1601 := by unfold pAgE; rw [if_pos (by simp [h])]
  refine ⟨by unfold pAgV; rw [if_neg (by rw [e]; decide)], e, by unfold pAg; rw [if_pos (by simp [h])]⟩
theorem ag1 {s : PS} (h : s.st = true) (h2 : s.pr = false) (h3 : s.fl = false) (h4 : s.left = 1) : pAgV s = chV 0 0 ⟨#[]⟩ ⟨#[]⟩ ∧ pAgE s = 1601 ∧ pAg s = { s with left := s.left - 1, fl := true } := by
  have e0 : ¬ ((!s.st || s.pr || s.fl) = true) := by simp [h, h2, h3]
  have e : pAgE s = 1601 := by unfold pAgE; rw [if_neg e0, if_pos (by omega)]
  refine ⟨by unfold pAgV; rw [if_neg (by rw [e]; decide)], e, by unfold pAg; rw [if_neg e0, if_pos (by omega)]⟩
theorem ag2 {s : PS} (h : s.st = true) (h2 : s.pr = false) (h3 : s.fl = false) (h4 : s.left ≠ 1) : pAgV s = chV 1 1 s.ch s.nm ∧ pAgE s = 0 ∧ pAg s = { s with left := s.left - 1 } := by
  have e0 : ¬ ((!s.st || s.pr || s.fl) = true) := by simp [h, h2, h3]
  have e : pAgE s = 0 := by unfold pAgE; rw [if_neg e0, if_neg (by omega)]
  refine ⟨by unfold pAgV; rw [if_pos e], e, by unfold pAg; rw [if_neg e0, if_neg (by omega)]⟩
theorem stOK {s : PS} {c : ByteArray} (h1 : 1 ≤ c.size) (h2 : c.size ≤ 255) (h : s.st = false) (h3 : s.fl = false) : pStV s c = chV 1 1 c s.nm ∧ pStE s c = 0 ∧ pSt s c = { s with ch := c, st := true } := by
  have e : pStE s c = 0 := by unfold pStE; rw [if_pos ⟨h1, h2⟩, if_neg (by simp [h, h3])]
  refine ⟨by unfold pStV; rw [if_pos e], e, by unfold pSt; rw [if_pos e]⟩
def tA : ByteArray := ⟨#[97]⟩
def tB : ByteArray := ⟨#[98]⟩
def tries0 (k : Nat) : PS := ⟨tB, ⟨#[]⟩, (k : Int), false, false, tMe, tA, false, false⟩
def triesS (C : ByteArray) (l : Int) (f : Bool) : PS := ⟨tB, C, l, true, false, tMe, tA, false, f⟩
set_option maxRecDepth 100000 in
set_option maxHeartbeats 1000000 in
theorem tries_walk (tries : Int) (ch : ByteArray) (ht : (Lit.int .i64 tries).wf = true) (hch : ch.size ≤ 140737488351232) (w : World) : Calls Try.prog 7 #[.int .i64 tries, .string ch] w fun e w' => e = .returned (.bool true) ∧ Below w.heap.size w w' := by
  have hu : 0 ≤ IntKind.u64.wrap tries := by rw [IntKind.wrap_u64]; omega
  obtain ⟨m, hm, hm8⟩ : ∃ m : Nat, (IntKind.u64.wrap tries).tmod 10 = (m : Int) ∧ m < 10 := ⟨((IntKind.u64.wrap tries) % 10).toNat, by rw [Int.tmod_eq_emod_of_nonneg hu]; omega, by omega⟩
  obtain ⟨k, hk⟩ : ∃ k : Nat, 1 + (m : Int) = (k : Int) := ⟨1 + m, by omega⟩
  have hk1 : 1 ≤ k := by omega
  have hk2 : k ≤ 10 := by omega
  have hwm : IntKind.i64.wrap (m : Int) = m := IntWalk.i64_in _ (by omega)
  have hsh := shB_size ch
  obtain ⟨C, hC⟩ : ∃ C, (⟨#[99]⟩ : ByteArray) ++ shB ch = C := ⟨_, rfl⟩
  have hC1 : 1 ≤ C.size ∧ C.size ≤ 255 := by rw [← hC, size_app]; have : (⟨#[99]⟩ : ByteArray).size = 1 := rfl; omega
  go_enter Try.func7, Try.ntmps7
  go_wp2_with (first | (go_at_call 12; refine (num_any _ _).mono ?_; rintro e w' ⟨rfl, rfl⟩))
  refine (awake_any _).mono ?_
  rintro e w0 ⟨rfl, hb0⟩
  have hz0 := hb0.size
  go_wp2_with (first | (go_at_call 12; refine (num_any _ _).mono ?_; rintro e w' ⟨rfl, rfl⟩))
  refine (pnew_ok tMe tA tB k _ (by unfold newB; simp [show mayB tA = true by decide +kernel, show mayB tB = true by decide +kernel, show tMe.size = 2 from rfl]; omega)).mono ?_
  rintro e w1 ⟨rfl, hp1, hb1⟩
  have hz1 : w0.heap.size < w1.heap.size := Blk.lt hp1
  have bel1 : Below w.heap.size w w1 := below_step hb0 hb1 hz0
  have HP1 := Lib.hid hp1; clear hp1
  go_wp2_with (first | (go_at_call 12; refine (num_any _ _).mono ?_; rintro e w' ⟨rfl, rfl⟩))
  refine (again_any w0.heap.size (tries0 k) _ HP1.out (fun _ => by show 1 ≤ (k : Int) ∧ (k : Int) ≤ 10; omega)).mono ?_
  rintro e w2 ⟨rfl, hp2, hg2⟩
  have hz2 := hg2.size
  have bel2 := below_gr bel1 hg2 (by omega) hz0
  obtain ⟨e1, e2, e3⟩ := ag0 (s := tries0 k) rfl
  rw [e1, e2]
  rw [e3] at hp2
  unfold chV
  have HP2 := Lib.hid hp2; clear hp2 e1 e2 e3
  go_wp2_with (first | (go_at_call 12; refine (num_any _ _).mono ?_; rintro e w' ⟨rfl, rfl⟩) | (go_at_call 9; refine (short_any _ _).mono ?_; rintro e w' ⟨rfl, rfl⟩))
  refine (start_any w0.heap.size (tries0 k) _ _ (Blk.alloc HP2.out _)).mono ?_
  rintro e w3 ⟨rfl, hp3, hg3⟩
  have hz3 := hg3.size
  simp at hz3
  have bel3 := below_gr (bel2.alloc bel2.size _) hg3 (by have := bel2.size; simp; omega) hz0
  obtain ⟨e1, e2, e3⟩ := stOK (s := tries0 k) hC1.1 hC1.2 rfl rfl
  rw [e1, e2]
  rw [e3] at hp3
  unfold chV
  have hp3' : PAt w3 w0.heap.size (triesS C (k : Int) false) := hp3
  have hp4 : PAt (w3.alloc (.cells (chC 1 1 C tMe) 33)) w0.heap.size (triesS C ((k : Int) - (0 : Nat)) false) := by
    have : (k : Int) - (0 : Nat) = k := by omega
    rw [this]; exact Blk.alloc hp3' _
  have hc4 := Blk.new w3 33 (chC 1 1 C tMe)
  have HP4 := Lib.hid hp4; have HC4 := Lib.hid hc4; clear hp3 hp3' hp4 hc4 e1 e2 e3 hC
  have hk20 : (k : Int) < 20 := by omega
  go_wp2_with (first | (go_at_call 12; refine (num_any _ _).mono ?_; rintro e w' ⟨rfl, rfl⟩))
  go_loopw [12, 13] (fun many i wr => ((∃ j : Nat, j < k ∧ i = .int .i64 j ∧ many = .int .i64 (1 + (j : Int)) ∧ PAt wr w0.heap.size (triesS C ((k : Int) - j) false) ∧ Blk wr w3.heap.size 33 (chC 1 1 C tMe)) ∨ (i = .int .i64 k ∧ many = .int .i64 k ∧ PAt wr w0.heap.size (triesS C 0 true))) ∧ Below w.heap.size w wr ∧ w3.heap.size < wr.heap.size) (fun _ i _ => 20 - (intOf i).toNat)
  case atStart => exact ⟨.inl ⟨0, by omega, rfl, rfl, HP4.out, HC4.out⟩, bel3.alloc bel3.size _, by simp⟩
  case round =>
    obtain ⟨hrel2, hbel, hsz⟩ := hrel
    rcases hrel2 with ⟨j, hj, rfl, rfl, hp, hc⟩ | ⟨rfl, rfl, hp⟩
    · have y1 : (j : Int) < 20 := by omega
      have HP := Lib.hid hp; have HC := Lib.hid hc; clear hp hc
      go_wp2_with (first | (go_at_call 12; refine (num_any _ _).mono ?_; rintro e w' ⟨rfl, rfl⟩) | (go_at_call 17; refine (failed_any _ _ _ HP.out).mono ?_; rintro e w' ⟨rfl, rfl⟩))
      refine (again_any w0.heap.size (triesS C ((k : Int) - j) false) _ HP.out (fun _ => by show 1 ≤ (k : Int) - j ∧ (k : Int) - j ≤ 10; omega)).mono ?_
      rintro e wa ⟨rfl, hpa, hga⟩
      have hza := hga.size
      have bela := below_gr hbel hga (by omega) hz0
      have hca : Blk wa w3.heap.size 33 (chC 1 1 C tMe) := Blk.grown HC.out hga (by simp; omega)
      by_cases hjk : j + 1 = k
      · obtain ⟨e1, e2, e3⟩ := ag1 (s := triesS C ((k : Int) - j) false) rfl rfl rfl (by show (k : Int) - j = 1; omega)
        rw [e1, e2]
        rw [e3] at hpa
        have hpa' : PAt wa w0.heap.size (triesS C 0 true) := by
          have : (k : Int) - j - 1 = 0 := by omega
          have h : PAt wa w0.heap.size (triesS C ((k : Int) - j - 1) true) := hpa
          rw [this] at h; exact h
        unfold chV
        have HPA := Lib.hid hpa'; clear hpa hpa' e1 e2 e3 hca
        go_wp2_with (first | (go_at_call 12; refine (num_any _ _).mono ?_; rintro e w' ⟨rfl, rfl⟩))
        go_roundw
        case rel => exact ⟨.inr ⟨by go_num, by go_num, Blk.alloc HPA.out _⟩, bela.alloc bela.size _, by simp; omega⟩
        case measure => simp [intOf]; omega
      · obtain ⟨e1, e2, e3⟩ := ag2 (s := triesS C ((k : Int) - j) false) rfl rfl rfl (by show (k : Int) - j ≠ 1; omega)
        rw [e1, e2]
        rw [e3] at hpa
        have hpa' : PAt wa w0.heap.size (triesS C ((k : Int) - (j + 1 : Nat)) false) := by
          have : (k : Int) - j - 1 = (k : Int) - (j + 1 : Nat) := by omega
          have h : PAt wa w0.heap.size (triesS C ((k : Int) - j - 1) false) := hpa
          rw [this] at h; exact h
        unfold chV
        obtain ⟨k0, k1, k2, k3⟩ := chC_cells hca
        have HPA := Lib.hid hpa'; have HCA := Lib.hid hca; clear hpa hpa' hca e1 e2 e3
        have hne : w3.heap.size < wa.heap.size := by omega
        go_wp2_with (first | (go_at_call 12; refine (num_any _ _).mono ?_; rintro e w' ⟨rfl, rfl⟩))
        go_roundw
        case rel => exact ⟨.inl ⟨j + 1, by omega, by go_num, by go_num, Blk.alloc HPA.out _, Blk.alloc HCA.out _⟩, bela.alloc bela.size _, by simp; omega⟩
        case measure => simp [intOf]; omega
    · have HP := Lib.hid hp; clear hp
      go_wp2_with (first | (go_at_call 12; refine (num_any _ _).mono ?_; rintro e w' ⟨rfl, rfl⟩) | (go_at_call 17; refine (failed_any _ _ _ HP.out).mono ?_; rintro e w' ⟨rfl, rfl⟩) | (go_at_call 15; refine (proved_any _ _ _ HP.out).mono ?_; rintro e w' ⟨rfl, rfl⟩))
      go_ret
      exact ⟨rfl, hbel⟩
end Go.Proofs.Ytdfefpbpfneahaa
