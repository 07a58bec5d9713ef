/- The walk of the law TalkTries. No condition. -/
import Derived.Test.YtckbbfdllflmjaaTalkH
namespace Go.Proofs.Ytckbbfdllflmjaa
open Go.RowKit
set_option linter.unusedVariables false
set_option linter.unusedSimpArgs false
attribute [local go_sem] conv1 conv1d conv1n conv1a conv1ad conv1an conv2 conv2d conv2n conv2a conv2ad conv2an conv4 conv4d conv4n conv4a conv4ad conv4an conv5 conv5d conv5n conv5a conv5ad conv5an size_nums byt_fold
theorem ag_more {s : TS} (h : s.left ≠ 0) (h1 : s.left ≠ 1) : tAgR s = (s.ac, s.ai, s.aa, s.al) ∧ tAgE s = 0 ∧ tAg s = { s with left := s.left - 1 } :=
  ⟨by unfold tAgR; rw [if_neg (by omega)], by unfold tAgE; rw [if_neg (by omega)], by unfold tAg; rw [if_neg h]⟩
def trS (c l t : Int) (f : Bool) : TS := ⟨c, 1, 0, [], l, f, t, 1, 0, 0, 0, []⟩
theorem tr_ask {c t : Int} {f : Bool} (hc : askB c = true) (h1 : 1 ≤ c ∧ c ≤ 8) : tAskR (ts0 f t) c [] = (c, 1, 0, []) ∧ tAskE (ts0 f t) c [] = 0 ∧ tAsk (ts0 f t) c [] = trS c t t f :=
  ask_ok (s := ts0 f t) (os := []) hc (bE_nil (by omega) (by show 0 ≤ ((0 : Int) + 1) % 256 ∧ ((0 : Int) + 1) % 256 ≤ 255; omega) (by omega) (.inr rfl)) (by show ¬ (0 : Int) < 0; omega)
set_option maxRecDepth 100000 in
set_option maxHeartbeats 8000000 in
theorem tries_walk (tries code : Int) (h0 : (Lit.int .i64 tries).wf = true) (h1 : (Lit.int .i64 code).wf = true) (w : World) : Calls Try.prog 5 #[.int .i64 tries, .int .i64 code] w fun e w' => e = .returned (.bool true) ∧ Below w.heap.size w w' := by
  have hu : 0 ≤ IntKind.u64.wrap tries := by rw [IntKind.wrap_u64]; omega
  obtain ⟨m, hm, hm8⟩ : ∃ m : Nat, (IntKind.u64.wrap tries).tmod 10 = (m : Int) ∧ m < 10 := ⟨((IntKind.u64.wrap tries) % 10).toNat, by rw [Int.tmod_eq_emod_of_nonneg hu]; omega, by omega⟩
  obtain ⟨k, hk⟩ : ∃ k : Nat, 1 + (m : Int) = (k : Int) := ⟨1 + m, by omega⟩
  have hk1 : 1 ≤ k := by omega
  have hk2 : k ≤ 10 := by omega
  have hwm : IntKind.i64.wrap (m : Int) = m := IntWalk.i64_in _ (by omega)
  have hu2 : 0 ≤ IntKind.u64.wrap code := by rw [IntKind.wrap_u64]; omega
  have hq : (IntKind.u64.wrap code).tmod 4 = 0 ∨ (IntKind.u64.wrap code).tmod 4 = 1 ∨ (IntKind.u64.wrap code).tmod 4 = 2 ∨ (IntKind.u64.wrap code).tmod 4 = 3 := by rw [Int.tmod_eq_emod_of_nonneg hu2]; omega
  have hnew : tnewB (k : Int) = true := by unfold tnewB; exact decide_eq_true (by omega)
  have HN := Lib.hid hnew; clear hnew
  rcases hq with hq | hq | hq | hq
  · go_enter Try.func5, Try.ntmps5
    go_wp2_with (first | (go_at_call 12; refine (num_any _ _).mono ?_; rintro e w' ⟨rfl, rfl⟩))
    refine (awake_any _).mono ?_
    rintro e w0 ⟨rfl, hb0⟩
    have hz0 := hb0.size
    obtain ⟨X, hXd⟩ : ∃ X : Nat → Prop, X = fun b => b = w0.heap.size := ⟨_, rfl⟩
    have hX : X w0.heap.size := by rw [hXd]
    have hXl : ∀ W : World, w0.heap.size < W.heap.size → ∀ b, X b → b < W.heap.size := fun W hW b hb => by rw [hXd] at hb; omega
    clear hXd
    go_wp2_with (first | (go_at_call 12; refine (num_any _ _).mono ?_; rintro e w' ⟨rfl, rfl⟩))
    refine (tnew_ok false k _ HN.out X).mono ?_
    rintro e w1 ⟨rfl, ht1, hb1⟩
    have hz1 : w0.heap.size < w1.heap.size := ht1.lt
    have bel1 : Below w.heap.size w w1 := below_step hb0 hb1 hz0
    have HT1 := Lib.hid ht1; clear ht1
    have K1 := Lib.hid (tr_ask (c := 1) (t := (k : Int)) (f := false) (by decide) (by omega))
    go_wp2_with (first | (go_at_call 12; refine (num_any _ _).mono ?_; rintro e w' ⟨rfl, rfl⟩))
    refine (task_any X w0.heap.size (ts0 false k) 1 none 0 0 [] _ (TAt.alloc HT1.out _) hX (hXl _ (by simp; omega)) (by show (0 : Int) ≤ 0 ∧ (0 : Int) ≤ 255; omega) (OptsAt.nil _ _) (by decide) (fun _ => ⟨rfl, rfl⟩)).mono ?_
    rintro e w2 ⟨R2, rn2, rc2, rfl, hm2, ht2, hg2⟩
    rw [K1.out.1, K1.out.2.1]
    rw [K1.out.2.2] at ht2
    rw [K1.out.1] at hm2
    obtain rfl : rn2 = 0 := hm2.2.1.symm
    have hz2 := hg2.size
    simp at hz2
    have bel2 : Below w.heap.size w w2 := below_gr (bel1.alloc bel1.size _) hg2 (by have := bel1.size; simp; omega) hz0
    have hc2 := Blk.new w2 34 #[.int .i64 1, .int .i64 1, .int .i64 0, .slice R2 0 rc2]
    have ht3 : TAt (w2.alloc (.cells #[.int .i64 1, .int .i64 1, .int .i64 0, .slice R2 0 rc2] 34)) X w0.heap.size (trS 1 ((k : Int) - (0 : Nat)) k false) := by
      have e0 : (k : Int) - (0 : Nat) = k := by omega
      rw [e0]
      exact TAt.alloc (ht2.mono (fun b _ hb => (.inl hb : OwnX X R2 b))) _
    have HT3 := Lib.hid ht3; have HC2 := Lib.hid hc2; clear ht2 hm2 ht3 hc2
    go_wp2_with (first | (go_at_call 12; refine (num_any _ _).mono ?_; rintro e w' ⟨rfl, rfl⟩))
    go_loopw [11, 12] (fun many i wr => ((∃ j : Nat, j < k ∧ i = .int .i64 j ∧ many = .int .i64 (1 + (j : Int)) ∧ TAt wr X w0.heap.size (trS 1 ((k : Int) - j) k false) ∧ Blk wr w2.heap.size 34 #[.int .i64 1, .int .i64 1, .int .i64 0, .slice R2 0 rc2]) ∨ (i = .int .i64 k ∧ many = .int .i64 k ∧ TAt wr X w0.heap.size (trS 1 0 k false))) ∧ Below w.heap.size w wr ∧ w2.heap.size < wr.heap.size) (fun _ i _ => 20 - (intOf i).toNat)
    case atStart => exact ⟨.inl ⟨0, by omega, rfl, rfl, HT3.out, HC2.out⟩, bel2.alloc bel2.size _, by simp⟩
    case round =>
      obtain ⟨hrel2, hbel, hsz⟩ := hrel
      rcases hrel2 with ⟨j, hj, rfl, rfl, ht, hc⟩ | ⟨rfl, rfl, ht⟩
      · have y1 : (j : Int) < 20 := by omega
        have hgl := ht.lt
        have HT := Lib.hid ht; have HC := Lib.hid hc; clear ht hc
        have hpd : decide (0 < (trS 1 ((k : Int) - j) k false).left) = true := decide_eq_true (by show (0 : Int) < (k : Int) - j; omega)
        go_wp2_with (first | (go_at_call 12; refine (num_any _ _).mono ?_; rintro e w' ⟨rfl, rfl⟩) | (go_at_call 26; refine (pending_any X _ _ _ HT.out).mono ?_; rintro e w' ⟨rfl, rfl⟩))
        refine (tagain_any X w0.heap.size (trS 1 ((k : Int) - j) k false) _ HT.out hX (by show 0 ≤ (k : Int) - j ∧ (k : Int) - j ≤ 10; omega)).mono ?_
        rintro e wa ⟨Ra, rna, rca, rfl, hma, hta, hga⟩
        have hza := hga.size
        have bela := below_gr hbel hga (by omega) hz0
        have hca : Blk wa w2.heap.size 34 _ := Blk.grown HC.out hga (by simp; omega)
        by_cases hjk : j + 1 = k
        · obtain ⟨e1, e2, e3⟩ := ag_last (s := trS 1 ((k : Int) - j) k false) (by show (k : Int) - j = 1; omega)
          rw [e1, e2]
          rw [e3] at hta
          have HTA := Lib.hid (hta.mono (fun b _ hb => (.inl hb : OwnX X Ra b))); clear hta hma e1 e2 e3 hca
          go_wp2_with (first | (go_at_call 12; refine (num_any _ _).mono ?_; rintro e w' ⟨rfl, rfl⟩))
          go_roundw
          case rel => exact ⟨.inr ⟨by go_num, by go_num, TAt.alloc HTA.out _⟩, bela.alloc bela.size _, by simp; omega⟩
          case measure => simp [intOf]; omega
        · obtain ⟨e1, e2, e3⟩ := ag_more (s := trS 1 ((k : Int) - j) k false) (by show (k : Int) - j ≠ 0; omega) (by show (k : Int) - j ≠ 1; omega)
          rw [e1, e2]
          rw [e3] at hta
          rw [e1] at hma
          obtain rfl : rna = 0 := hma.2.1.symm
          have hta' : TAt wa X w0.heap.size (trS 1 ((k : Int) - (j + 1 : Nat)) k false) := by
            have e0 : (k : Int) - (j + 1 : Nat) = (k : Int) - j - 1 := by omega
            rw [e0]
            exact hta.mono (fun b _ hb => (.inl hb : OwnX X Ra b))
          have k0 : wa.cell? ⟨w2.heap.size, 0, none⟩ = some (.int .i64 1) := hca.cell 0
          have k1 : wa.cell? ⟨w2.heap.size, 1, none⟩ = some (.int .i64 1) := hca.cell 1
          have k2 : wa.cell? ⟨w2.heap.size, 2, none⟩ = some (.int .i64 0) := hca.cell 2
          have k3 : wa.cell? ⟨w2.heap.size, 3, none⟩ = some (.slice R2 0 rc2) := hca.cell 3
          have HTA := Lib.hid hta'; have HCA := Lib.hid hca; clear hta hta' hma hca e1 e2 e3
          have hne : w2.heap.size < wa.heap.size := by omega
          show _
          simp only [trS]
          go_wp2_with (first | (go_at_call 12; refine (num_any _ _).mono ?_; rintro e w' ⟨rfl, rfl⟩))
          refine (sameb_any 1 1 0 Ra R2 0 0 rca rc2 [] _ (OptsAt.nil _ _) (OptsAt.nil _ _) (by omega)).mono ?_
          rintro e wb ⟨rfl, hbb⟩
          have hzb := hbb.size
          simp at hzb
          have belb : Below w.heap.size w wb := below_step (bela.alloc bela.size _) hbb (by have := bela.size; simp; omega)
          have htb := (HTA.out.alloc (.cells #[.int .i64 1, .int .i64 1, .int .i64 0, .slice Ra 0 rca] 34)).keep hbb
          have hcb := (HCA.out.alloc (.cells #[.int .i64 1, .int .i64 1, .int .i64 0, .slice Ra 0 rca] 34)).keep hbb
          have HTB := Lib.hid htb; have HCB := Lib.hid hcb; clear htb hcb
          go_wp2_with (first | (go_at_call 12; refine (num_any _ _).mono ?_; rintro e w' ⟨rfl, rfl⟩))
          go_roundw
          case rel => exact ⟨.inl ⟨j + 1, by omega, by go_num, by go_num, HTB.out, HCB.out⟩, belb, by omega⟩
          case measure => simp [intOf]; omega
      · have HT := Lib.hid ht; clear ht
        have hpd : decide (0 < (trS 1 0 k false).left) = false := decide_eq_false (by show ¬ (0 : Int) < 0; omega)
        have y1 : (k : Int) < 20 := by omega
        go_wp2_with (first | (go_at_call 12; refine (num_any _ _).mono ?_; rintro e w' ⟨rfl, rfl⟩) | (go_at_call 26; refine (pending_any X _ _ _ HT.out).mono ?_; rintro e w' ⟨rfl, rfl⟩))
        go_ret
        exact ⟨rfl, hbel⟩
  · go_enter Try.func5, Try.ntmps5
    go_wp2_with (first | (go_at_call 12; refine (num_any _ _).mono ?_; rintro e w' ⟨rfl, rfl⟩))
    refine (awake_any _).mono ?_
    rintro e w0 ⟨rfl, hb0⟩
    have hz0 := hb0.size
    obtain ⟨X, hXd⟩ : ∃ X : Nat → Prop, X = fun b => b = w0.heap.size := ⟨_, rfl⟩
    have hX : X w0.heap.size := by rw [hXd]
    have hXl : ∀ W : World, w0.heap.size < W.heap.size → ∀ b, X b → b < W.heap.size := fun W hW b hb => by rw [hXd] at hb; omega
    clear hXd
    go_wp2_with (first | (go_at_call 12; refine (num_any _ _).mono ?_; rintro e w' ⟨rfl, rfl⟩))
    refine (tnew_ok false k _ HN.out X).mono ?_
    rintro e w1 ⟨rfl, ht1, hb1⟩
    have hz1 : w0.heap.size < w1.heap.size := ht1.lt
    have bel1 : Below w.heap.size w w1 := below_step hb0 hb1 hz0
    have HT1 := Lib.hid ht1; clear ht1
    have K1 := Lib.hid (tr_ask (c := 3) (t := (k : Int)) (f := false) (by decide) (by omega))
    go_wp2_with (first | (go_at_call 12; refine (num_any _ _).mono ?_; rintro e w' ⟨rfl, rfl⟩))
    refine (task_any X w0.heap.size (ts0 false k) 3 none 0 0 [] _ (TAt.alloc HT1.out _) hX (hXl _ (by simp; omega)) (by show (0 : Int) ≤ 0 ∧ (0 : Int) ≤ 255; omega) (OptsAt.nil _ _) (by decide) (fun _ => ⟨rfl, rfl⟩)).mono ?_
    rintro e w2 ⟨R2, rn2, rc2, rfl, hm2, ht2, hg2⟩
    rw [K1.out.1, K1.out.2.1]
    rw [K1.out.2.2] at ht2
    rw [K1.out.1] at hm2
    obtain rfl : rn2 = 0 := hm2.2.1.symm
    have hz2 := hg2.size
    simp at hz2
    have bel2 : Below w.heap.size w w2 := below_gr (bel1.alloc bel1.size _) hg2 (by have := bel1.size; simp; omega) hz0
    have hc2 := Blk.new w2 34 #[.int .i64 3, .int .i64 1, .int .i64 0, .slice R2 0 rc2]
    have ht3 : TAt (w2.alloc (.cells #[.int .i64 3, .int .i64 1, .int .i64 0, .slice R2 0 rc2] 34)) X w0.heap.size (trS 3 ((k : Int) - (0 : Nat)) k false) := by
      have e0 : (k : Int) - (0 : Nat) = k := by omega
      rw [e0]
      exact TAt.alloc (ht2.mono (fun b _ hb => (.inl hb : OwnX X R2 b))) _
    have HT3 := Lib.hid ht3; have HC2 := Lib.hid hc2; clear ht2 hm2 ht3 hc2
    go_wp2_with (first | (go_at_call 12; refine (num_any _ _).mono ?_; rintro e w' ⟨rfl, rfl⟩))
    go_loopw [11, 12] (fun many i wr => ((∃ j : Nat, j < k ∧ i = .int .i64 j ∧ many = .int .i64 (1 + (j : Int)) ∧ TAt wr X w0.heap.size (trS 3 ((k : Int) - j) k false) ∧ Blk wr w2.heap.size 34 #[.int .i64 3, .int .i64 1, .int .i64 0, .slice R2 0 rc2]) ∨ (i = .int .i64 k ∧ many = .int .i64 k ∧ TAt wr X w0.heap.size (trS 3 0 k false))) ∧ Below w.heap.size w wr ∧ w2.heap.size < wr.heap.size) (fun _ i _ => 20 - (intOf i).toNat)
    case atStart => exact ⟨.inl ⟨0, by omega, rfl, rfl, HT3.out, HC2.out⟩, bel2.alloc bel2.size _, by simp⟩
    case round =>
      obtain ⟨hrel2, hbel, hsz⟩ := hrel
      rcases hrel2 with ⟨j, hj, rfl, rfl, ht, hc⟩ | ⟨rfl, rfl, ht⟩
      · have y1 : (j : Int) < 20 := by omega
        have hgl := ht.lt
        have HT := Lib.hid ht; have HC := Lib.hid hc; clear ht hc
        have hpd : decide (0 < (trS 3 ((k : Int) - j) k false).left) = true := decide_eq_true (by show (0 : Int) < (k : Int) - j; omega)
        go_wp2_with (first | (go_at_call 12; refine (num_any _ _).mono ?_; rintro e w' ⟨rfl, rfl⟩) | (go_at_call 26; refine (pending_any X _ _ _ HT.out).mono ?_; rintro e w' ⟨rfl, rfl⟩))
        refine (tagain_any X w0.heap.size (trS 3 ((k : Int) - j) k false) _ HT.out hX (by show 0 ≤ (k : Int) - j ∧ (k : Int) - j ≤ 10; omega)).mono ?_
        rintro e wa ⟨Ra, rna, rca, rfl, hma, hta, hga⟩
        have hza := hga.size
        have bela := below_gr hbel hga (by omega) hz0
        have hca : Blk wa w2.heap.size 34 _ := Blk.grown HC.out hga (by simp; omega)
        by_cases hjk : j + 1 = k
        · obtain ⟨e1, e2, e3⟩ := ag_last (s := trS 3 ((k : Int) - j) k false) (by show (k : Int) - j = 1; omega)
          rw [e1, e2]
          rw [e3] at hta
          have HTA := Lib.hid (hta.mono (fun b _ hb => (.inl hb : OwnX X Ra b))); clear hta hma e1 e2 e3 hca
          go_wp2_with (first | (go_at_call 12; refine (num_any _ _).mono ?_; rintro e w' ⟨rfl, rfl⟩))
          go_roundw
          case rel => exact ⟨.inr ⟨by go_num, by go_num, TAt.alloc HTA.out _⟩, bela.alloc bela.size _, by simp; omega⟩
          case measure => simp [intOf]; omega
        · obtain ⟨e1, e2, e3⟩ := ag_more (s := trS 3 ((k : Int) - j) k false) (by show (k : Int) - j ≠ 0; omega) (by show (k : Int) - j ≠ 1; omega)
          rw [e1, e2]
          rw [e3] at hta
          rw [e1] at hma
          obtain rfl : rna = 0 := hma.2.1.symm
          have hta' : TAt wa X w0.heap.size (trS 3 ((k : Int) - (j + 1 : Nat)) k false) := by
            have e0 : (k : Int) - (j + 1 : Nat) = (k : Int) - j - 1 := by omega
            rw [e0]
            exact hta.mono (fun b _ hb => (.inl hb : OwnX X Ra b))
          have k0 : wa.cell? ⟨w2.heap.size, 0, none⟩ = some (.int .i64 3) := hca.cell 0
          have k1 : wa.cell? ⟨w2.heap.size, 1, none⟩ = some (.int .i64 1) := hca.cell 1
          have k2 : wa.cell? ⟨w2.heap.size, 2, none⟩ = some (.int .i64 0) := hca.cell 2
          have k3 : wa.cell? ⟨w2.heap.size, 3, none⟩ = some (.slice R2 0 rc2) := hca.cell 3
          have HTA := Lib.hid hta'; have HCA := Lib.hid hca; clear hta hta' hma hca e1 e2 e3
          have hne : w2.heap.size < wa.heap.size := by omega
          show _
          simp only [trS]
          go_wp2_with (first | (go_at_call 12; refine (num_any _ _).mono ?_; rintro e w' ⟨rfl, rfl⟩))
          refine (sameb_any 3 1 0 Ra R2 0 0 rca rc2 [] _ (OptsAt.nil _ _) (OptsAt.nil _ _) (by omega)).mono ?_
          rintro e wb ⟨rfl, hbb⟩
          have hzb := hbb.size
          simp at hzb
          have belb : Below w.heap.size w wb := below_step (bela.alloc bela.size _) hbb (by have := bela.size; simp; omega)
          have htb := (HTA.out.alloc (.cells #[.int .i64 3, .int .i64 1, .int .i64 0, .slice Ra 0 rca] 34)).keep hbb
          have hcb := (HCA.out.alloc (.cells #[.int .i64 3, .int .i64 1, .int .i64 0, .slice Ra 0 rca] 34)).keep hbb
          have HTB := Lib.hid htb; have HCB := Lib.hid hcb; clear htb hcb
          go_wp2_with (first | (go_at_call 12; refine (num_any _ _).mono ?_; rintro e w' ⟨rfl, rfl⟩))
          go_roundw
          case rel => exact ⟨.inl ⟨j + 1, by omega, by go_num, by go_num, HTB.out, HCB.out⟩, belb, by omega⟩
          case measure => simp [intOf]; omega
      · have HT := Lib.hid ht; clear ht
        have hpd : decide (0 < (trS 3 0 k false).left) = false := decide_eq_false (by show ¬ (0 : Int) < 0; omega)
        have y1 : (k : Int) < 20 := by omega
        go_wp2_with (first | (go_at_call 12; refine (num_any _ _).mono ?_; rintro e w' ⟨rfl, rfl⟩) | (go_at_call 26; refine (pending_any X _ _ _ HT.out).mono ?_; rintro e w' ⟨rfl, rfl⟩))
        go_ret
        exact ⟨rfl, hbel⟩
  · go_enter Try.func5, Try.ntmps5
    go_wp2_with (first | (go_at_call 12; refine (num_any _ _).mono ?_; rintro e w' ⟨rfl, rfl⟩))
    refine (awake_any _).mono ?_
    rintro e w0 ⟨rfl, hb0⟩
    have hz0 := hb0.size
    obtain ⟨X, hXd⟩ : ∃ X : Nat → Prop, X = fun b => b = w0.heap.size := ⟨_, rfl⟩
    have hX : X w0.heap.size := by rw [hXd]
    have hXl : ∀ W : World, w0.heap.size < W.heap.size → ∀ b, X b → b < W.heap.size := fun W hW b hb => by rw [hXd] at hb; omega
    clear hXd
    go_wp2_with (first | (go_at_call 12; refine (num_any _ _).mono ?_; rintro e w' ⟨rfl, rfl⟩))
    refine (tnew_ok false k _ HN.out X).mono ?_
    rintro e w1 ⟨rfl, ht1, hb1⟩
    have hz1 : w0.heap.size < w1.heap.size := ht1.lt
    have bel1 : Below w.heap.size w w1 := below_step hb0 hb1 hz0
    have HT1 := Lib.hid ht1; clear ht1
    have K1 := Lib.hid (tr_ask (c := 5) (t := (k : Int)) (f := false) (by decide) (by omega))
    go_wp2_with (first | (go_at_call 12; refine (num_any _ _).mono ?_; rintro e w' ⟨rfl, rfl⟩))
    refine (task_any X w0.heap.size (ts0 false k) 5 none 0 0 [] _ (TAt.alloc HT1.out _) hX (hXl _ (by simp; omega)) (by show (0 : Int) ≤ 0 ∧ (0 : Int) ≤ 255; omega) (OptsAt.nil _ _) (by decide) (fun _ => ⟨rfl, rfl⟩)).mono ?_
    rintro e w2 ⟨R2, rn2, rc2, rfl, hm2, ht2, hg2⟩
    rw [K1.out.1, K1.out.2.1]
    rw [K1.out.2.2] at ht2
    rw [K1.out.1] at hm2
    obtain rfl : rn2 = 0 := hm2.2.1.symm
    have hz2 := hg2.size
    simp at hz2
    have bel2 : Below w.heap.size w w2 := below_gr (bel1.alloc bel1.size _) hg2 (by have := bel1.size; simp; omega) hz0
    have hc2 := Blk.new w2 34 #[.int .i64 5, .int .i64 1, .int .i64 0, .slice R2 0 rc2]
    have ht3 : TAt (w2.alloc (.cells #[.int .i64 5, .int .i64 1, .int .i64 0, .slice R2 0 rc2] 34)) X w0.heap.size (trS 5 ((k : Int) - (0 : Nat)) k false) := by
      have e0 : (k : Int) - (0 : Nat) = k := by omega
      rw [e0]
      exact TAt.alloc (ht2.mono (fun b _ hb => (.inl hb : OwnX X R2 b))) _
    have HT3 := Lib.hid ht3; have HC2 := Lib.hid hc2; clear ht2 hm2 ht3 hc2
    go_wp2_with (first | (go_at_call 12; refine (num_any _ _).mono ?_; rintro e w' ⟨rfl, rfl⟩))
    go_loopw [11, 12] (fun many i wr => ((∃ j : Nat, j < k ∧ i = .int .i64 j ∧ many = .int .i64 (1 + (j : Int)) ∧ TAt wr X w0.heap.size (trS 5 ((k : Int) - j) k false) ∧ Blk wr w2.heap.size 34 #[.int .i64 5, .int .i64 1, .int .i64 0, .slice R2 0 rc2]) ∨ (i = .int .i64 k ∧ many = .int .i64 k ∧ TAt wr X w0.heap.size (trS 5 0 k false))) ∧ Below w.heap.size w wr ∧ w2.heap.size < wr.heap.size) (fun _ i _ => 20 - (intOf i).toNat)
    case atStart => exact ⟨.inl ⟨0, by omega, rfl, rfl, HT3.out, HC2.out⟩, bel2.alloc bel2.size _, by simp⟩
    case round =>
      obtain ⟨hrel2, hbel, hsz⟩ := hrel
      rcases hrel2 with ⟨j, hj, rfl, rfl, ht, hc⟩ | ⟨rfl, rfl, ht⟩
      · have y1 : (j : Int) < 20 := by omega
        have hgl := ht.lt
        have HT := Lib.hid ht; have HC := Lib.hid hc; clear ht hc
        have hpd : decide (0 < (trS 5 ((k : Int) - j) k false).left) = true := decide_eq_true (by show (0 : Int) < (k : Int) - j; omega)
        go_wp2_with (first | (go_at_call 12; refine (num_any _ _).mono ?_; rintro e w' ⟨rfl, rfl⟩) | (go_at_call 26; refine (pending_any X _ _ _ HT.out).mono ?_; rintro e w' ⟨rfl, rfl⟩))
        refine (tagain_any X w0.heap.size (trS 5 ((k : Int) - j) k false) _ HT.out hX (by show 0 ≤ (k : Int) - j ∧ (k : Int) - j ≤ 10; omega)).mono ?_
        rintro e wa ⟨Ra, rna, rca, rfl, hma, hta, hga⟩
        have hza := hga.size
        have bela := below_gr hbel hga (by omega) hz0
        have hca : Blk wa w2.heap.size 34 _ := Blk.grown HC.out hga (by simp; omega)
        by_cases hjk : j + 1 = k
        · obtain ⟨e1, e2, e3⟩ := ag_last (s := trS 5 ((k : Int) - j) k false) (by show (k : Int) - j = 1; omega)
          rw [e1, e2]
          rw [e3] at hta
          have HTA := Lib.hid (hta.mono (fun b _ hb => (.inl hb : OwnX X Ra b))); clear hta hma e1 e2 e3 hca
          go_wp2_with (first | (go_at_call 12; refine (num_any _ _).mono ?_; rintro e w' ⟨rfl, rfl⟩))
          go_roundw
          case rel => exact ⟨.inr ⟨by go_num, by go_num, TAt.alloc HTA.out _⟩, bela.alloc bela.size _, by simp; omega⟩
          case measure => simp [intOf]; omega
        · obtain ⟨e1, e2, e3⟩ := ag_more (s := trS 5 ((k : Int) - j) k false) (by show (k : Int) - j ≠ 0; omega) (by show (k : Int) - j ≠ 1; omega)
          rw [e1, e2]
          rw [e3] at hta
          rw [e1] at hma
          obtain rfl : rna = 0 := hma.2.1.symm
          have hta' : TAt wa X w0.heap.size (trS 5 ((k : Int) - (j + 1 : Nat)) k false) := by
            have e0 : (k : Int) - (j + 1 : Nat) = (k : Int) - j - 1 := by omega
            rw [e0]
            exact hta.mono (fun b _ hb => (.inl hb : OwnX X Ra b))
          have k0 : wa.cell? ⟨w2.heap.size, 0, none⟩ = some (.int .i64 5) := hca.cell 0
          have k1 : wa.cell? ⟨w2.heap.size, 1, none⟩ = some (.int .i64 1) := hca.cell 1
          have k2 : wa.cell? ⟨w2.heap.size, 2, none⟩ = some (.int .i64 0) := hca.cell 2
          have k3 : wa.cell? ⟨w2.heap.size, 3, none⟩ = some (.slice R2 0 rc2) := hca.cell 3
          have HTA := Lib.hid hta'; have HCA := Lib.hid hca; clear hta hta' hma hca e1 e2 e3
          have hne : w2.heap.size < wa.heap.size := by omega
          show _
          simp only [trS]
          go_wp2_with (first | (go_at_call 12; refine (num_any _ _).mono ?_; rintro e w' ⟨rfl, rfl⟩))
          refine (sameb_any 5 1 0 Ra R2 0 0 rca rc2 [] _ (OptsAt.nil _ _) (OptsAt.nil _ _) (by omega)).mono ?_
          rintro e wb ⟨rfl, hbb⟩
          have hzb := hbb.size
          simp at hzb
          have belb : Below w.heap.size w wb := below_step (bela.alloc bela.size _) hbb (by have := bela.size; simp; omega)
          have htb := (HTA.out.alloc (.cells #[.int .i64 5, .int .i64 1, .int .i64 0, .slice Ra 0 rca] 34)).keep hbb
          have hcb := (HCA.out.alloc (.cells #[.int .i64 5, .int .i64 1, .int .i64 0, .slice Ra 0 rca] 34)).keep hbb
          have HTB := Lib.hid htb; have HCB := Lib.hid hcb; clear htb hcb
          go_wp2_with (first | (go_at_call 12; refine (num_any _ _).mono ?_; rintro e w' ⟨rfl, rfl⟩))
          go_roundw
          case rel => exact ⟨.inl ⟨j + 1, by omega, by go_num, by go_num, HTB.out, HCB.out⟩, belb, by omega⟩
          case measure => simp [intOf]; omega
      · have HT := Lib.hid ht; clear ht
        have hpd : decide (0 < (trS 5 0 k false).left) = false := decide_eq_false (by show ¬ (0 : Int) < 0; omega)
        have y1 : (k : Int) < 20 := by omega
        go_wp2_with (first | (go_at_call 12; refine (num_any _ _).mono ?_; rintro e w' ⟨rfl, rfl⟩) | (go_at_call 26; refine (pending_any X _ _ _ HT.out).mono ?_; rintro e w' ⟨rfl, rfl⟩))
        go_ret
        exact ⟨rfl, hbel⟩
  · go_enter Try.func5, Try.ntmps5
    go_wp2_with (first | (go_at_call 12; refine (num_any _ _).mono ?_; rintro e w' ⟨rfl, rfl⟩))
    refine (awake_any _).mono ?_
    rintro e w0 ⟨rfl, hb0⟩
    have hz0 := hb0.size
    obtain ⟨X, hXd⟩ : ∃ X : Nat → Prop, X = fun b => b = w0.heap.size := ⟨_, rfl⟩
    have hX : X w0.heap.size := by rw [hXd]
    have hXl : ∀ W : World, w0.heap.size < W.heap.size → ∀ b, X b → b < W.heap.size := fun W hW b hb => by rw [hXd] at hb; omega
    clear hXd
    go_wp2_with (first | (go_at_call 12; refine (num_any _ _).mono ?_; rintro e w' ⟨rfl, rfl⟩))
    refine (tnew_ok false k _ HN.out X).mono ?_
    rintro e w1 ⟨rfl, ht1, hb1⟩
    have hz1 : w0.heap.size < w1.heap.size := ht1.lt
    have bel1 : Below w.heap.size w w1 := below_step hb0 hb1 hz0
    have HT1 := Lib.hid ht1; clear ht1
    have K1 := Lib.hid (tr_ask (c := 7) (t := (k : Int)) (f := false) (by decide) (by omega))
    go_wp2_with (first | (go_at_call 12; refine (num_any _ _).mono ?_; rintro e w' ⟨rfl, rfl⟩))
    refine (task_any X w0.heap.size (ts0 false k) 7 none 0 0 [] _ (TAt.alloc HT1.out _) hX (hXl _ (by simp; omega)) (by show (0 : Int) ≤ 0 ∧ (0 : Int) ≤ 255; omega) (OptsAt.nil _ _) (by decide) (fun _ => ⟨rfl, rfl⟩)).mono ?_
    rintro e w2 ⟨R2, rn2, rc2, rfl, hm2, ht2, hg2⟩
    rw [K1.out.1, K1.out.2.1]
    rw [K1.out.2.2] at ht2
    rw [K1.out.1] at hm2
    obtain rfl : rn2 = 0 := hm2.2.1.symm
    have hz2 := hg2.size
    simp at hz2
    have bel2 : Below w.heap.size w w2 := below_gr (bel1.alloc bel1.size _) hg2 (by have := bel1.size; simp; omega) hz0
    have hc2 := Blk.new w2 34 #[.int .i64 7, .int .i64 1, .int .i64 0, .slice R2 0 rc2]
    have ht3 : TAt (w2.alloc (.cells #[.int .i64 7, .int .i64 1, .int .i64 0, .slice R2 0 rc2] 34)) X w0.heap.size (trS 7 ((k : Int) - (0 : Nat)) k false) := by
      have e0 : (k : Int) - (0 : Nat) = k := by omega
      rw [e0]
      exact TAt.alloc (ht2.mono (fun b _ hb => (.inl hb : OwnX X R2 b))) _
    have HT3 := Lib.hid ht3; have HC2 := Lib.hid hc2; clear ht2 hm2 ht3 hc2
    go_wp2_with (first | (go_at_call 12; refine (num_any _ _).mono ?_; rintro e w' ⟨rfl, rfl⟩))
    go_loopw [11, 12] (fun many i wr => ((∃ j : Nat, j < k ∧ i = .int .i64 j ∧ many = .int .i64 (1 + (j : Int)) ∧ TAt wr X w0.heap.size (trS 7 ((k : Int) - j) k false) ∧ Blk wr w2.heap.size 34 #[.int .i64 7, .int .i64 1, .int .i64 0, .slice R2 0 rc2]) ∨ (i = .int .i64 k ∧ many = .int .i64 k ∧ TAt wr X w0.heap.size (trS 7 0 k false))) ∧ Below w.heap.size w wr ∧ w2.heap.size < wr.heap.size) (fun _ i _ => 20 - (intOf i).toNat)
    case atStart => exact ⟨.inl ⟨0, by omega, rfl, rfl, HT3.out, HC2.out⟩, bel2.alloc bel2.size _, by simp⟩
    case round =>
      obtain ⟨hrel2, hbel, hsz⟩ := hrel
      rcases hrel2 with ⟨j, hj, rfl, rfl, ht, hc⟩ | ⟨rfl, rfl, ht⟩
      · have y1 : (j : Int) < 20 := by omega
        have hgl := ht.lt
        have HT := Lib.hid ht; have HC := Lib.hid hc; clear ht hc
        have hpd : decide (0 < (trS 7 ((k : Int) - j) k false).left) = true := decide_eq_true (by show (0 : Int) < (k : Int) - j; omega)
        go_wp2_with (first | (go_at_call 12; refine (num_any _ _).mono ?_; rintro e w' ⟨rfl, rfl⟩) | (go_at_call 26; refine (pending_any X _ _ _ HT.out).mono ?_; rintro e w' ⟨rfl, rfl⟩))
        refine (tagain_any X w0.heap.size (trS 7 ((k : Int) - j) k false) _ HT.out hX (by show 0 ≤ (k : Int) - j ∧ (k : Int) - j ≤ 10; omega)).mono ?_
        rintro e wa ⟨Ra, rna, rca, rfl, hma, hta, hga⟩
        have hza := hga.size
        have bela := below_gr hbel hga (by omega) hz0
        have hca : Blk wa w2.heap.size 34 _ := Blk.grown HC.out hga (by simp; omega)
        by_cases hjk : j + 1 = k
        · obtain ⟨e1, e2, e3⟩ := ag_last (s := trS 7 ((k : Int) - j) k false) (by show (k : Int) - j = 1; omega)
          rw [e1, e2]
          rw [e3] at hta
          have HTA := Lib.hid (hta.mono (fun b _ hb => (.inl hb : OwnX X Ra b))); clear hta hma e1 e2 e3 hca
          go_wp2_with (first | (go_at_call 12; refine (num_any _ _).mono ?_; rintro e w' ⟨rfl, rfl⟩))
          go_roundw
          case rel => exact ⟨.inr ⟨by go_num, by go_num, TAt.alloc HTA.out _⟩, bela.alloc bela.size _, by simp; omega⟩
          case measure => simp [intOf]; omega
        · obtain ⟨e1, e2, e3⟩ := ag_more (s := trS 7 ((k : Int) - j) k false) (by show (k : Int) - j ≠ 0; omega) (by show (k : Int) - j ≠ 1; omega)
          rw [e1, e2]
          rw [e3] at hta
          rw [e1] at hma
          obtain rfl : rna = 0 := hma.2.1.symm
          have hta' : TAt wa X w0.heap.size (trS 7 ((k : Int) - (j + 1 : Nat)) k false) := by
            have e0 : (k : Int) - (j + 1 : Nat) = (k : Int) - j - 1 := by omega
            rw [e0]
            exact hta.mono (fun b _ hb => (.inl hb : OwnX X Ra b))
          have k0 : wa.cell? ⟨w2.heap.size, 0, none⟩ = some (.int .i64 7) := hca.cell 0
          have k1 : wa.cell? ⟨w2.heap.size, 1, none⟩ = some (.int .i64 1) := hca.cell 1
          have k2 : wa.cell? ⟨w2.heap.size, 2, none⟩ = some (.int .i64 0) := hca.cell 2
          have k3 : wa.cell? ⟨w2.heap.size, 3, none⟩ = some (.slice R2 0 rc2) := hca.cell 3
          have HTA := Lib.hid hta'; have HCA := Lib.hid hca; clear hta hta' hma hca e1 e2 e3
          have hne : w2.heap.size < wa.heap.size := by omega
          show _
          simp only [trS]
          go_wp2_with (first | (go_at_call 12; refine (num_any _ _).mono ?_; rintro e w' ⟨rfl, rfl⟩))
          refine (sameb_any 7 1 0 Ra R2 0 0 rca rc2 [] _ (OptsAt.nil _ _) (OptsAt.nil _ _) (by omega)).mono ?_
          rintro e wb ⟨rfl, hbb⟩
          have hzb := hbb.size
          simp at hzb
          have belb : Below w.heap.size w wb := below_step (bela.alloc bela.size _) hbb (by have := bela.size; simp; omega)
          have htb := (HTA.out.alloc (.cells #[.int .i64 7, .int .i64 1, .int .i64 0, .slice Ra 0 rca] 34)).keep hbb
          have hcb := (HCA.out.alloc (.cells #[.int .i64 7, .int .i64 1, .int .i64 0, .slice Ra 0 rca] 34)).keep hbb
          have HTB := Lib.hid htb; have HCB := Lib.hid hcb; clear htb hcb
          go_wp2_with (first | (go_at_call 12; refine (num_any _ _).mono ?_; rintro e w' ⟨rfl, rfl⟩))
          go_roundw
          case rel => exact ⟨.inl ⟨j + 1, by omega, by go_num, by go_num, HTB.out, HCB.out⟩, belb, by omega⟩
          case measure => simp [intOf]; omega
      · have HT := Lib.hid ht; clear ht
        have hpd : decide (0 < (trS 7 0 k false).left) = false := decide_eq_false (by show ¬ (0 : Int) < 0; omega)
        have y1 : (k : Int) < 20 := by omega
        go_wp2_with (first | (go_at_call 12; refine (num_any _ _).mono ?_; rintro e w' ⟨rfl, rfl⟩) | (go_at_call 26; refine (pending_any X _ _ _ HT.out).mono ?_; rintro e w' ⟨rfl, rfl⟩))
        go_ret
        exact ⟨rfl, hbel⟩
end Go.Proofs.Ytckbbfdllflmjaa
