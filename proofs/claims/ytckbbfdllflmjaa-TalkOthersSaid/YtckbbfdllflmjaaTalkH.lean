/- The walk of the law TalkIds. No condition. -/
import Derived.Test.YtckbbfdllflmjaaTalkG
namespace Go.Proofs.Ytckbbfdllflmjaa
open Go.RowKit
set_option linter.unusedVariables false
set_option linter.unusedSimpArgs false
attribute [local go_sem] conv1 conv1d conv1n conv1a conv1ad conv1an conv2 conv2d conv2n conv2a conv2ad conv2an conv4 conv4d conv4n conv4a conv4ad conv4an conv5 conv5d conv5n conv5a conv5ad conv5an size_nums byt_fold
theorem bE_nil {c i a : Int} (hc : 1 ≤ c ∧ c ≤ 8) (hi : 0 ≤ i ∧ i ≤ 255) (ha : 0 ≤ a ∧ a ≤ 255) (hr : bResp c = true ∨ a = 0) : bE c i a [] = 0 := by
  have h1 : bMay c i = true := by unfold bMay; exact decide_eq_true (by omega)
  have h2 : bGood c i a [] = true := by
    unfold bGood
    have e : oE [] = 0 := by decide +kernel
    rw [h1, decide_eq_true ha, e]
    rcases hr with h | h
    · rw [h]; rfl
    · rw [h]; simp
  have h3 : (bBody c a []).size ≤ 2044 := by
    unfold bBody
    have e : (oJoin []).size = 0 := by decide +kernel
    split
    · rw [size_app, size_nums, e]; simp
    · omega
  unfold bE; rw [h2, if_pos rfl, if_neg (by omega)]
/-- A request of an idle side. -/
theorem ask_ok {s : TS} {c : Int} {os : List (Int × ByteArray)} (hc : askB c = true) (hb : bE c (nextI s) 0 os = 0) (hl : ¬ 0 < s.left) : tAskR s c os = (c, nextI s, 0, os) ∧ tAskE s c os = 0 ∧ tAsk s c os = { s with ac := c, ai := nextI s, aa := 0, al := os, left := s.tries, id := nextI s } := by
  have h : tAskE s c os = 0 := by unfold tAskE; rw [if_pos ⟨hc, hb⟩, if_neg hl]
  exact ⟨by unfold tAskR; rw [if_pos h], h, by unfold tAsk; rw [if_pos h]⟩
theorem ag_last {s : TS} (h : s.left = 1) : tAgR s = (0, 0, 0, []) ∧ tAgE s = 2202 ∧ tAg s = { s with left := 0 } :=
  ⟨by unfold tAgR; rw [if_pos (.inr h)], by unfold tAgE; rw [if_pos (.inr h)], by unfold tAg; rw [if_neg (by omega), h]; rfl⟩
set_option maxRecDepth 100000 in
set_option maxHeartbeats 4000000 in
theorem ids_walk (many : Int) (hm : (Lit.int .i64 many).wf = true) (w : World) : Calls Try.prog 8 #[.int .i64 many] w fun e w' => e = .returned (.bool true) ∧ Below w.heap.size w w' := by
  obtain ⟨k, hk, hk1, hk3⟩ := mask_nat 9 (by decide) 511 (by decide) many
  have hk4 : many % 512 = (k : Int) := by rw [hk3]; rfl
  have hk2 : k < 512 := hk1
  clear hk3 hk1
  go_enter Try.func8, Try.ntmps8
  go_wp2_with (first | (go_at_call 12; refine (num_any _ _).mono ?_; rintro e w' ⟨rfl, rfl⟩))
  refine (awake_any _).mono ?_
  rintro e w0 ⟨rfl, hb0⟩
  have hz0 := hb0.size
  obtain ⟨X, hXd⟩ : ∃ X : Nat → Prop, X = fun b => b = w0.heap.size := ⟨_, rfl⟩
  have hX : X w0.heap.size := by rw [hXd]
  have hXl : ∀ W : World, w0.heap.size < W.heap.size → ∀ b, X b → b < W.heap.size := fun W hW b hb => by rw [hXd] at hb; omega
  clear hXd
  go_wp2_with (first | (go_at_call 12; refine (num_any _ _).mono ?_; rintro e w' ⟨rfl, rfl⟩))
  refine (tnew_ok true 1 _ (by decide) X).mono ?_
  rintro e w1 ⟨rfl, ht1, hb1⟩
  have hz1 : w0.heap.size < w1.heap.size := ht1.lt
  have bel1 : Below w.heap.size w w1 := below_step hb0 hb1 hz0
  have HT1 := Lib.hid ht1; clear ht1
  go_wp2_with (first | (go_at_call 12; refine (num_any _ _).mono ?_; rintro e w' ⟨rfl, rfl⟩))
  go_loopw [6] (fun i wr => ∃ (j : Nat) (s : TS), i = .int .i64 (j + 1 : Nat) ∧ j ≤ k ∧ TAt wr X w0.heap.size s ∧ s.left = 0 ∧ s.tries = 1 ∧ s.id = (j : Int) % 256 ∧ Below w.heap.size w wr) (fun i _ => 1000 - (intOf i).toNat)
  case atStart => exact ⟨0, ts0 true 1, rfl, by omega, HT1.out, rfl, rfl, rfl, bel1⟩
  case round =>
    obtain ⟨j, s, rfl, hj, ht, hl0, htr, hid, hbel⟩ := hrel
    have hgl := ht.lt
    have HT := Lib.hid ht; clear ht
    by_cases hlt : j + 1 ≤ k
    · have y1 : ((j + 1 : Nat) : Int) ≤ (k : Int) := by omega
      obtain ⟨I, hI⟩ : ∃ I, nextI s = I := ⟨_, rfl⟩
      have hI2 : I = ((j + 1 : Nat) : Int) % 256 := by rw [← hI]; unfold nextI; rw [hid]; omega
      have hbt : bits .and .i64 ((j : Int) + 1) 255 = I := by
        have := i64_mask 8 (by decide) ((j : Int) + 1)
        rw [hI2]; simpa using this
      have hb3 : bE 1 (nextI s) 0 [] = 0 := bE_nil (by omega) (by rw [hI, hI2]; omega) (by omega) (.inr rfl)
      have HI2 := Lib.hid hI2; clear hI2
      obtain ⟨e1, e2, e3⟩ := ask_ok (s := s) (c := 1) (os := []) (by decide) hb3 (by omega)
      have E1 := Lib.hid e1; have E2 := Lib.hid e2; have E3 := Lib.hid e3; clear e1 e2 e3
      go_wp2_with (first | (go_at_call 12; refine (num_any _ _).mono ?_; rintro e w' ⟨rfl, rfl⟩))
      refine (task_any X w0.heap.size s 1 none 0 0 [] _ HT.out hX (hXl _ hgl) (by rw [hid]; omega) (OptsAt.nil _ _) (by decide) (fun _ => ⟨rfl, rfl⟩)).mono ?_
      rintro e w2 ⟨R2, rn2, rc2, rfl, hm2, ht2, hg2⟩
      rw [E1.out, E2.out]
      rw [E3.out] at ht2
      simp only [hI]
      have hz2 := hg2.size
      have bel2 : Below w.heap.size w w2 := below_gr hbel hg2 hbel.size hz0
      have HT2 := Lib.hid (ht2.mono (fun b _ hb => (.inl hb : OwnX X R2 b))); clear ht2 hm2
      obtain ⟨g1, g2, g3⟩ := ag_last (s := { s with ac := 1, ai := nextI s, aa := 0, al := [], left := s.tries, id := nextI s }) htr
      have G1 := Lib.hid g1; have G2 := Lib.hid g2; have G3 := Lib.hid g3; clear g1 g2 g3
      go_wp2_with (first | (go_at_call 12; refine (num_any _ _).mono ?_; rintro e w' ⟨rfl, rfl⟩))
      refine (tagain_any X w0.heap.size _ _ (TAt.alloc HT2.out _) hX (by show 0 ≤ s.tries ∧ s.tries ≤ 10; omega)).mono ?_
      rintro e w3 ⟨R3, rn3, rc3, rfl, hm3, ht3, hg3⟩
      rw [G1.out, G2.out]
      rw [G3.out] at ht3
      have hz3 := hg3.size
      have bel3 : Below w.heap.size w w3 := below_gr (bel2.alloc bel2.size _) hg3 (by have := bel2.size; simp; omega) hz0
      have HT3 := Lib.hid (ht3.mono (fun b _ hb => (.inl hb : OwnX X R3 b))); clear ht3 hm3
      have p1 : decide ((0 : Int) < 0) = false := by decide
      go_wp2_with (first | (go_at_call 12; refine (num_any _ _).mono ?_; rintro e w' ⟨rfl, rfl⟩) | (go_at_call 26; refine (pending_any X _ _ _ (TAt.alloc HT3.out _)).mono ?_; rintro e w' ⟨rfl, rfl⟩))
      go_roundw
      case rel => exact ⟨j + 1, _, by go_num, by omega, TAt.alloc HT3.out _, rfl, htr, hI.trans HI2.out, bel3.alloc bel3.size _⟩
      case measure => simp [intOf]; omega
    · have y1 : ¬ ((j + 1 : Nat) : Int) ≤ (k : Int) := by omega
      go_wp2_with (first | (go_at_call 12; refine (num_any _ _).mono ?_; rintro e w' ⟨rfl, rfl⟩))
      go_ret
      exact ⟨rfl, hbel⟩
end Go.Proofs.Ytckbbfdllflmjaa
