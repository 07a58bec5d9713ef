/- TimerTurns walked: it returns true. No condition. -/
import Derived.Test.YtjhcengdaclihaaTimW
namespace Go.Proofs.Ytjhcengdaclihaa
open Go.RowKit
set_option linter.unusedVariables false
set_option linter.unusedSimpArgs false
open Go.Maps
theorem mask_n (n : Nat) (hn : n < 63) (x : Int) : ∃ j : Nat, bits .and .i64 x (2 ^ n - 1) = (j : Int) ∧ j < 2 ^ n := by
  have e : bits .and .i64 x (2 ^ n - 1) = x % 2 ^ n := i64_mask n (by omega) x
  have h0 : (0 : Int) < 2 ^ n := Int.pow_pos (by omega)
  have h1 := Int.emod_nonneg x (Int.ne_of_gt h0)
  have h2 := Int.emod_lt_of_pos x h0
  refine ⟨(x % 2 ^ n).toNat, by rw [e]; omega, ?_⟩
  have h3 : ((x % 2 ^ n).toNat : Int) < ((2 ^ n : Nat) : Int) := by
    rw [Int.toNat_of_nonneg h1]
    push_cast
    exact h2
  omega
theorem and1023 (x : Int) : ∃ j : Nat, bits .and .i64 x 1023 = (j : Int) ∧ j < 1024 := mask_n 10 (by decide) x
theorem and511 (x : Int) : ∃ j : Nat, bits .and .i64 x 511 = (j : Int) ∧ j < 512 := mask_n 9 (by decide) x
theorem and255 (x : Int) : ∃ j : Nat, bits .and .i64 x 255 = (j : Int) ∧ j < 256 := mask_n 8 (by decide) x
theorem and63 (x : Int) : ∃ j : Nat, bits .and .i64 x 63 = (j : Int) ∧ j < 64 := mask_n 6 (by decide) x
theorem set1 (k a : Nat) : setC k a [] = 0 ∧ setA k a [] = [((k : Int), (a : Int))] := by
  have e : setC k a [] = 0 := by
    unfold setC
    rw [if_neg (by omega), if_neg (by simp)]
  refine ⟨e, ?_⟩
  unfold setA
  rw [if_pos e]
  rfl
theorem set2 (k a b : Nat) : setC k b [((k : Int), (a : Int))] = 0 ∧ setA k b [((k : Int), (a : Int))] = [((k : Int), (b : Int))] := by
  have e : setC k b [((k : Int), (a : Int))] = 0 := by
    unfold setC
    rw [if_neg (by omega), if_neg (by simp [hasT])]
  refine ⟨e, ?_⟩
  unfold setA
  rw [if_pos e]
  simp [setT, stopT, insT]
set_option maxHeartbeats 2000000 in
set_option maxRecDepth 100000 in
theorem turns_walk (id first second : Int) (stop : Bool) (_ : (Lit.int .i64 id).wf = true) (_ : (Lit.int .i64 first).wf = true) (_ : (Lit.int .i64 second).wf = true) (w0 : World) : Calls Try.prog 7 #[.int .i64 id, .int .i64 first, .int .i64 second, .bool stop] w0 fun e w' => e = .returned (.bool true) ∧ Below w0.heap.size w0 w' := by
  obtain ⟨k, hk, hk1⟩ := and1023 id
  obtain ⟨a, ha, ha1⟩ := and1023 first
  obtain ⟨b, hb, hb1⟩ := and1023 second
  have HW := Lib.hid (show (Lit.int .i64 (k : Int)).wf = true from WalkArith.wf_i64 (by omega))
  have hbw : wrap64 ((b : Int) - 1) = (b : Int) - 1 := wrap_in (by omega) (by omega)
  clear hk1 ha1 hb1
  go_enter Try.func7, Try.ntmps7
  go_wp2_with fail
  refine (awake_any _).mono ?_
  rintro e wa ⟨rfl, hba⟩
  have HBA := Lib.hid hba; clear hba
  go_wp2_with fail
  refine (new_to HBA.out).mono ?_
  rintro e w1 ⟨rfl, h1, -⟩
  generalize wa.heap.size + 1 = g at *
  generalize hmb : wa.heap.size = mb at h1
  have H1 := Lib.hid h1; clear h1 hmb
  go_wp2_with fail
  refine (set_to (k : Int) (a : Int) H1.out HW.out).mono ?_
  rintro e w2 ⟨rfl, v2, h2, -⟩
  rw [(set1 k a).1]
  rw [(set1 k a).2] at h2
  have H2 := Lib.hid h2; clear h2
  go_wp2_with fail
  refine (set_to (k : Int) (b : Int) H2.out HW.out).mono ?_
  rintro e w3 ⟨rfl, v3, h3, -⟩
  rw [(set2 k a b).1]
  rw [(set2 k a b).2] at h3
  have H3 := Lib.hid h3; clear h3
  clear hk ha hb
  cases stop with
  | true =>
    have e1 : stopC (k : Int) [((k : Int), (b : Int))] = 0 := by simp [stopC, hasT]
    have e2 : stopT (k : Int) [((k : Int), (b : Int))] = [] := by simp [stopT]
    go_wp2_with fail
    refine (stop_to (k : Int) H3.out HW.out).mono ?_
    rintro e w4 ⟨rfl, v4, h4, -⟩
    rw [e1]
    rw [e2] at h4
    have H4 := Lib.hid h4; clear h4 e1 e2
    go_wp2_with (first | (go_at_call 10; refine (num_any _ _).mono ?_; rintro e w' ⟨rfl, rfl⟩))
    refine (due_to 2000 H4.out).mono ?_
    rintro e w5 ⟨A5, cap5, rfl, -, v5, h5, -⟩
    rw [show dueL 2000 [] = [] from rfl]
    rw [show restL 2000 [] = [] from rfl] at h5
    have H5 := Lib.hid h5; clear h5
    go_wp2_with fail
    refine (tlen_to H5.out).mono ?_
    rintro e w6 ⟨rfl, rfl⟩
    go_wp2_with fail
    go_ret
    exact ⟨rfl, H5.out.bel⟩
  | false =>
    have e1 : dueL ((b : Int) - 1) [((k : Int), (b : Int))] = [] := (due_stop (by show ¬ (b : Int) ≤ (b : Int) - 1; omega)).1
    have e2 : restL ((b : Int) - 1) [((k : Int), (b : Int))] = [((k : Int), (b : Int))] := (due_stop (by show ¬ (b : Int) ≤ (b : Int) - 1; omega)).2
    have e3 : dueL (b : Int) [((k : Int), (b : Int))] = [(k : Int)] := (due_cons (Int.le_refl _)).1
    have e4 : restL (b : Int) [((k : Int), (b : Int))] = [] := (due_cons (Int.le_refl _)).2
    go_wp2_with fail
    rw [hbw]
    refine (due_to ((b : Int) - 1) H3.out).mono ?_
    rintro e w4 ⟨A4, cap4, rfl, -, v4, h4, -⟩
    rw [e1]
    rw [e2] at h4
    have H4 := Lib.hid h4; clear h4 e1 e2 hbw
    go_wp2_with fail
    refine (due_to (b : Int) H4.out).mono ?_
    rintro e w5 ⟨A5, cap5, rfl, ho, v5, h5, -⟩
    rw [e3] at ho ⊢
    rw [e4] at h5
    have H5 := Lib.hid h5; clear h5 e3 e4
    have HO := Lib.hid (IntsAt.own ho); clear ho
    have HV := Lib.hid (IntsAt.made_at w5 _ rfl [(k : Int)] #[.int .i64 (k : Int)] 3 1 rfl rfl)
    have HU := Lib.hid (HO.out.keep ((Below.refl w5.heap.size w5).alloc (Nat.le_refl _) (.cells #[.int .i64 (k : Int)] 3)))
    go_wp2_with (first | (go_at_call 10; refine (num_any _ _).mono ?_; rintro e w' ⟨rfl, rfl⟩))
    refine (same_any _ _ _ _ _ _ [(k : Int)] [(k : Int)] _ HU.out HV.out (by simp)).mono ?_
    rintro e w8 ⟨rfl, hb8⟩
    have HB := Lib.hid (H5.out.bel.trans ((((Below.refl w5.heap.size w5).alloc (Nat.le_refl _) _).trans (hb8.mono (by simp))).mono H5.out.bel.size))
    clear hb8
    rw [same_refl]
    go_wp2_with (first | (go_at_call 10; refine (num_any _ _).mono ?_; rintro e w' ⟨rfl, rfl⟩))
    go_ret
    exact ⟨rfl, HB.out⟩
end Go.Proofs.Ytjhcengdaclihaa
