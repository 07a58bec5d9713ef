/- The walk of the law ProofAnswers. No condition but sizes. -/
import Derived.Test.YtdfefpbpfneahaaPrfE
import Derived.Test.YtdfefpbpfneahaaStrsOpen
namespace Go.Proofs.Ytdfefpbpfneahaa
open Go.RowKit
set_option linter.unusedVariables false
set_option linter.unusedSimpArgs false
attribute [local go_sem] conv1 conv1d conv1n conv1a conv1ad conv1an conv2 conv2d conv2n conv2a conv2ad conv2an conv4 conv4d conv4n conv4a conv4ad conv4an conv5 conv5d conv5n conv5a conv5ad conv5an size_nums byt_fold
attribute [local go_sem high] run_string_add_sum
def ansS (S : ByteArray) : PS := ⟨tB, ⟨#[]⟩, 3, false, false, tMe, S, false, false⟩
set_option maxRecDepth 100000 in
set_option maxHeartbeats 1000000 in
theorem answers_walk (id : Int) (se : ByteArray) (A : Option Addr) (n cap : Nat) (rows : List (List Value)) (hid : (Lit.int .i64 id).wf = true) (hse : se.size ≤ 140737488351232) (hA : A = none → n = 0 ∧ cap = 0) (hnc : n ≤ cap) (hz : n * 16 ≤ 140737488351232 ∧ ∀ r ∈ rows, StrRow 140737488351232 r) (w : World) (hv : RowsAt w A n 1 rows) :
    Calls Try.prog 3 #[.int .i64 id, .string se, .slice A n cap] w fun e w' => e = .returned (.bool true) ∧ Below w.heap.size w w' := by
  have hsh := shB_size se
  have HV := Lib.hid hv; clear hv
  obtain ⟨S, hS⟩ : ∃ S, shB se ++ (⟨#[107]⟩ : ByteArray) = S := ⟨_, rfl⟩
  have hS1 : 1 ≤ S.size ∧ S.size ≤ 64 := by rw [← hS, size_app]; have : (⟨#[107]⟩ : ByteArray).size = 1 := rfl; omega
  have hmS : mayB S = true := by unfold mayB; exact decide_eq_true hS1
  go_enter Try.func3, Try.ntmps3
  go_wp2_with (first | (go_at_call 12; refine (num_any _ _).mono ?_; rintro e w' ⟨rfl, rfl⟩))
  refine (awake_any _).mono ?_
  rintro e w0 ⟨rfl, hb0⟩
  have hz0 := hb0.size
  go_wp2_with (first | (go_at_call 12; refine (num_any _ _).mono ?_; rintro e w' ⟨rfl, rfl⟩) | (go_at_call 9; refine (short_any _ _).mono ?_; rintro e w' ⟨rfl, rfl⟩))
  refine (pnew_ok tMe S tB 3 _ (by unfold newB; simp [hmS, show mayB tB = true by decide +kernel, show tMe.size = 2 from rfl])).mono ?_
  rintro e w1 ⟨rfl, hp1, hb1⟩
  have hz1 : w0.heap.size < w1.heap.size := Blk.lt hp1
  have bel1 : Below w.heap.size w w1 := below_step hb0 hb1 hz0
  have hp1' : PAt w1 w0.heap.size (ansS S) := hp1
  have HP1 := Lib.hid hp1'; clear hp1 hp1' hS hmS
  go_wp2_with (first | (go_at_call 12; refine (num_any _ _).mono ?_; rintro e w' ⟨rfl, rfl⟩))
  go_loopw [10] (fun i wr => ∃ k : Nat, i = .int .i64 k ∧ k ≤ 10 ∧ PAt wr w0.heap.size (ansS S) ∧ Below w.heap.size w wr) (fun i _ => 20 - (intOf i).toNat)
  case atStart => exact ⟨0, rfl, by omega, HP1.out, bel1⟩
  case round =>
    obtain ⟨k, rfl, hk, hp, hbel⟩ := hrel
    have HP := Lib.hid hp; clear hp
    have hsz := hbel.size
    by_cases hlt : k < n ∧ k < 10
    · obtain ⟨hkn, hk10⟩ := hlt
      obtain ⟨b, off, r, rfl, hb, hr, hrm, hc⟩ := (HV.out.below hbel (Nat.le_refl _)).at_ k hkn
      obtain ⟨s, rfl, hs⟩ := hz.2 r hrm
      have c1 := hc 0 (.string s) rfl
      simp only [Nat.mul_one, Nat.add_zero] at c1
      have hss := shB_size s
      obtain ⟨V, hV⟩ : ∃ V, shB s ++ (⟨#[118]⟩ : ByteArray) = V := ⟨_, rfl⟩
      have hV1 : 1 ≤ V.size ∧ V.size ≤ 255 := by rw [← hV, size_app]; have : (⟨#[118]⟩ : ByteArray).size = 1 := rfl; omega
      obtain ⟨q, hq, hq1, hq3⟩ := mask_nat 8 (by decide) 255 (by decide) (wrap64 (id + (k : Int)))
      have hq2 : wrap64 (id + (k : Int)) % 256 = (q : Int) := by rw [hq3]; rfl
      clear hq3
      have y1 : (k : Int) < (n : Int) := by omega
      have y2 : (k : Int) < 10 := by omega
      have hch := chE_fine (c := 1) (i := (q : Int)) (v := V) (n := ⟨#[120]⟩) (.inl rfl) (by omega) hV1 (by decide)
      clear hc hr hrm
      go_wp2_with (first | (go_at_call 12; refine (num_any _ _).mono ?_; rintro e w' ⟨rfl, rfl⟩) | (go_at_call 9; refine (short_any _ _).mono ?_; rintro e w' ⟨rfl, rfl⟩))
      refine (take_any w0.heap.size (ansS S) 1 q V ⟨#[120]⟩ _ HP.out (by show tB.size ≤ 64; decide) (by show (⟨#[]⟩ : ByteArray).size ≤ 255; decide) (by show S.size ≤ 64; omega)).mono ?_
      rintro e w5 ⟨⟨A5, cap5, rfl, hl5, hA5⟩, hp5, hg5⟩
      obtain ⟨t1, t2, t3⟩ := tk1 (s := ansS S) hch rfl
      obtain ⟨D, hD⟩ : ∃ D, md5 (chapT q S V) = D := ⟨_, rfl⟩
      rw [t1] at hl5 ⊢
      rw [t2]
      rw [t3] at hp5
      have hl6 : ChapsAt w5 A5 1 [(2, (q : Int), D, tMe)] := by rw [← hD]; exact hl5
      have hz5 := hg5.size
      have bel5 := below_gr hbel hg5 (by omega) hz0
      have HP5 := Lib.hid hp5; have HL5 := Lib.hid hl6; clear hp5 hl5 hl6 t1 t2 t3
      go_wp2_with (first | (go_at_call 12; refine (num_any _ _).mono ?_; rintro e w' ⟨rfl, rfl⟩))
      refine (rchap_any q S V _ (by omega) (by omega)).mono ?_
      rintro e w6 ⟨rfl, hb6⟩
      rw [hD]
      have hz6 := hb6.size
      have bel6 := below_step bel5 hb6 (by omega)
      go_wp2_with (first | (go_at_call 12; refine (num_any _ _).mono ?_; rintro e w' ⟨rfl, rfl⟩))
      refine (samec_any _ _ 1 _ _ [(2, (q : Int), D, tMe)] _ ((HL5.out.keep hb6).keep ((Below.refl _ _).alloc (Nat.le_refl _) _)) (ChapsAt.new_at _ _ (by simp) _ _ _ _) (by omega)).mono ?_
      rintro e w7 ⟨rfl, hb7⟩
      have bel7 : Below w.heap.size w w7 := below_step (bel6.alloc bel6.size _) hb7 (by have := bel6.size; simp; omega)
      have hp7 : PAt w7 w0.heap.size (ansS S) := Blk.keep (Blk.alloc (Blk.keep HP5.out hb6) _) hb7
      have HP7 := Lib.hid hp7; clear hp7
      go_wp2_with (first | (go_at_call 12; refine (num_any _ _).mono ?_; rintro e w' ⟨rfl, rfl⟩))
      go_roundw
      case rel => exact ⟨k + 1, by go_num, by omega, HP7.out, bel7⟩
      case measure => simp [intOf]; omega
    · have y : ((k : Int) < (n : Int) ∧ (k : Int) < 10) = False := by simp; omega
      by_cases y1 : (k : Int) < (n : Int)
      · have y2 : ¬ (k : Int) < 10 := by omega
        go_wp2_with (first | (go_at_call 12; refine (num_any _ _).mono ?_; rintro e w' ⟨rfl, rfl⟩) | (go_at_call 15; refine (proved_any _ (ansS S) _ HP.out).mono ?_; rintro e w' ⟨rfl, rfl⟩) | (go_at_call 16; refine (taken_any _ (ansS S) _ HP.out).mono ?_; rintro e w' ⟨rfl, rfl⟩) | (go_at_call 17; refine (failed_any _ (ansS S) _ HP.out).mono ?_; rintro e w' ⟨rfl, rfl⟩))
        go_ret
        exact ⟨rfl, hbel⟩
      · go_wp2_with (first | (go_at_call 12; refine (num_any _ _).mono ?_; rintro e w' ⟨rfl, rfl⟩) | (go_at_call 15; refine (proved_any _ (ansS S) _ HP.out).mono ?_; rintro e w' ⟨rfl, rfl⟩) | (go_at_call 16; refine (taken_any _ (ansS S) _ HP.out).mono ?_; rintro e w' ⟨rfl, rfl⟩) | (go_at_call 17; refine (failed_any _ (ansS S) _ HP.out).mono ?_; rintro e w' ⟨rfl, rfl⟩))
        go_ret
        exact ⟨rfl, hbel⟩
end Go.Proofs.Ytdfefpbpfneahaa
