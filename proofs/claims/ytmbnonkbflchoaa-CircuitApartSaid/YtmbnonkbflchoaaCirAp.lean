/- The law CircuitApart, walked. No condition. -/
import Derived.Test.YtmbnonkbflchoaaCirZ
import Derived.Test.YtmbnonkbflchoaaCirR
namespace Go.Proofs.Ytmbnonkbflchoaa
open Go.RowKit
set_option linter.unusedVariables false
set_option linter.unusedSimpArgs false
open Go.Maps
theorem and3 (x : Int) : ∃ j : Nat, bits .and .i64 x 3 = (j : Int) ∧ j < 4 := by
  have e : bits .and .i64 x 3 = x % 4 := i64_mask 2 (by decide) x
  exact ⟨(x % 4).toNat, by rw [e]; omega, by omega⟩
theorem and63 (x : Int) : ∃ j : Nat, bits .and .i64 x 63 = (j : Int) ∧ j < 64 := by
  have e : bits .and .i64 x 63 = x % 64 := i64_mask 6 (by decide) x
  exact ⟨(x % 64).toNat, by rw [e]; omega, by omega⟩
set_option maxRecDepth 100000 in
set_option maxHeartbeats 8000000 in
theorem apart_walk (a b : ByteArray) (side what : Int) (_ : a.size ≤ 140737488351232) (_ : b.size ≤ 140737488351232) (_ : (Lit.int .i64 side).wf = true) (_ : (Lit.int .i64 what).wf = true) (w0 : World) : Calls Try.prog 7 #[.string a, .string b, .int .i64 side, .int .i64 what] w0 fun e w' => e = .returned (.bool true) ∧ Below w0.heap.size w0 w' := by
  obtain ⟨k, hk, hk2⟩ := and1 side
  obtain ⟨t, ht, ht4⟩ := and3 what
  obtain ⟨bt, hbt, hbt2⟩ := and63 what
  obtain ⟨k', hk'⟩ : ∃ k', k' = 1 - k := ⟨_, rfl⟩
  have hw1 : wrap64 (1 - k) = k' := by rw [wrap_in (by omega) (by omega), hk']
  have HK2 := Lib.hid hk2; have HK' := Lib.hid hk'; have HBT := Lib.hid hbt2
  clear hk2 hk' hbt2
  by_cases ha : a.size ≤ 1000
  · by_cases hb : b.size ≤ 1000
    · obtain ⟨B1, B2, B3, B4, y, r1, r2, r3, r4, r5, r6⟩ := ap_start a b k HK2.out ha hb
      have R1 := Lib.hid r1; have R2 := Lib.hid r2; have R3 := Lib.hid r3; have R4 := Lib.hid r4; have R5 := Lib.hid r5; have R6 := Lib.hid r6
      clear r1 r2 r3 r4 r5 r6
      have x1 : ¬ (1000 : Int) < (a.size : Int) := by omega
      have x2 : ¬ (1000 : Int) < (b.size : Int) := by omega
      have HT4 := Lib.hid ht4; clear ht4 ha hb
      have HW1 := Lib.hid hw1; clear hw1
      go_enter Try.func7, Try.ntmps7
      go_wp2_with fail
      refine (awake_any _).mono ?_
      rintro e w1 ⟨rfl, hb1⟩
      go_wp2_with fail
      refine (new_under 3 4096 _ hb1 (by decide) (by decide) (by decide) (by decide)).mono ?_
      rintro e w2 ⟨rfl, -, L2, h2⟩
      generalize w1.heap.size + 1 = g at *
      go_wp2_with fail
      refine (dial_to 0 1 1 0 h2 R1.out (by omega) rfl rfl).mono ?_
      rintro e w3 ⟨rfl, L3, h3, -⟩
      go_wp2_with fail
      refine (dial_to 1 0 2 0 h3 R2.out (by omega) rfl rfl).mono ?_
      rintro e w4 ⟨rfl, L4, h4, -⟩
      go_wp2_with fail
      refine (send_to 1 k 0 _ h4 R3.out (by omega) (wfi (by decide) (by decide))).mono ?_
      rintro e w5 ⟨rfl, L5, h5, -⟩
      go_wp2_with fail
      refine (send_to 2 k 0 _ h5 R4.out (by omega) (wfi (by decide) (by decide))).mono ?_
      rintro e w6 ⟨rfl, L6, h6, -⟩
      have H6 := Lib.hid (St.more (M := 10) h6 (by omega)); clear hb1 h2 h3 h4 h5 h6
      have t4 : t = 0 ∨ t = 1 ∨ t = 2 ∨ t = 3 := by have := HT4.out; omega
      rcases t4 with rfl | rfl | rfl | rfl
      · obtain ⟨B5, r7, r8⟩ := ap_cut R6.out R5.out
        have R7 := Lib.hid r7; clear r7
        go_wp2_with fail
        refine (cut_to 1 0 H6.out R7.out (wfi (by decide) (by decide))).mono ?_
        rintro e w7 ⟨rfl, L7, h7, -⟩
        have H7 := Lib.hid (h7.more (M := 20) (by omega)); clear h7
        obtain ⟨B6, B7, s1, s2, s3, s4⟩ := ap_end r8 HK2.out HK'.out
        have S1 := Lib.hid s1; have S2 := Lib.hid s2; have S3 := Lib.hid s3; have S4 := Lib.hid s4; clear s1 s2 s3 s4 r8
        have hw1 := HW1.out
        go_wp2_with fail
        clear hw1
        refine (read_to 2 k' 0 _ H7.out S1.out (by omega) (wfi (by decide) (by decide))).mono ?_
        rintro e w8 ⟨rfl, L8, h8, -⟩
        have H8 := Lib.hid h8; clear h8
        go_wp2_with fail
        refine (read_to 2 k 0 _ H8.out S2.out (by omega) (wfi (by decide) (by decide))).mono ?_
        rintro e w9 ⟨rfl, L9, h9, -⟩
        have H9 := Lib.hid h9; clear h9
        go_wp2_with (first | (go_at_call 11; refine (num_any _ _).mono ?_; rintro e w' ⟨rfl, rfl⟩))
        refine (up_to 2 true H9.out S3.out (wfi (by decide) (by decide))).mono ?_
        rintro e w' ⟨rfl, rfl⟩
        go_wp2_with (first | (go_at_call 11; refine (num_any _ _).mono ?_; rintro e w' ⟨rfl, rfl⟩))
        refine (up_to 1 false H9.out S4.out (wfi (by decide) (by decide))).mono ?_
        rintro e w' ⟨rfl, rfl⟩
        go_wp2_with (first | (go_at_call 11; refine (num_any _ _).mono ?_; rintro e w' ⟨rfl, rfl⟩))
        go_ret
        exact ⟨rfl, H9.out.2.1⟩
      · go_wp2_with fail
        refine (lose_to 1 k y H6.out R5.out (side_b HK2.out) (by omega) (wfi (by decide) (by decide))).mono ?_
        rintro e w7 ⟨rfl, p7, L7, h7⟩
        have H7 := Lib.hid (h7.more (M := 20) (by omega)); clear h7
        have r8 := ap_set (y := y) R6.out k p7
        obtain ⟨B6, B7, s1, s2, s3, s4⟩ := ap_end r8 HK2.out HK'.out
        have S1 := Lib.hid s1; have S2 := Lib.hid s2; have S3 := Lib.hid s3; have S4 := Lib.hid s4; clear s1 s2 s3 s4 r8
        have hw1 := HW1.out
        go_wp2_with fail
        clear hw1
        refine (read_to 2 k' 0 _ H7.out S1.out (by omega) (wfi (by decide) (by decide))).mono ?_
        rintro e w8 ⟨rfl, L8, h8, -⟩
        have H8 := Lib.hid h8; clear h8
        go_wp2_with fail
        refine (read_to 2 k 0 _ H8.out S2.out (by omega) (wfi (by decide) (by decide))).mono ?_
        rintro e w9 ⟨rfl, L9, h9, -⟩
        have H9 := Lib.hid h9; clear h9
        go_wp2_with (first | (go_at_call 11; refine (num_any _ _).mono ?_; rintro e w' ⟨rfl, rfl⟩))
        refine (up_to 2 true H9.out S3.out (wfi (by decide) (by decide))).mono ?_
        rintro e w' ⟨rfl, rfl⟩
        go_wp2_with (first | (go_at_call 11; refine (num_any _ _).mono ?_; rintro e w' ⟨rfl, rfl⟩))
        refine (up_to 1 true H9.out S4.out (wfi (by decide) (by decide))).mono ?_
        rintro e w' ⟨rfl, rfl⟩
        go_wp2_with (first | (go_at_call 11; refine (num_any _ _).mono ?_; rintro e w' ⟨rfl, rfl⟩))
        go_ret
        exact ⟨rfl, H9.out.2.1⟩
      · go_wp2_with fail
        refine (turn_to 1 k bt y H6.out R5.out (side_b HK2.out) (by omega) (wfi (by decide) (by decide)) HBT.out).mono ?_
        rintro e w7 ⟨rfl, p7, L7, h7⟩
        have H7 := Lib.hid (h7.more (M := 20) (by omega)); clear h7
        have r8 := ap_set (y := y) R6.out k p7
        obtain ⟨B6, B7, s1, s2, s3, s4⟩ := ap_end r8 HK2.out HK'.out
        have S1 := Lib.hid s1; have S2 := Lib.hid s2; have S3 := Lib.hid s3; have S4 := Lib.hid s4; clear s1 s2 s3 s4 r8
        have hw1 := HW1.out
        go_wp2_with fail
        clear hw1
        refine (read_to 2 k' 0 _ H7.out S1.out (by omega) (wfi (by decide) (by decide))).mono ?_
        rintro e w8 ⟨rfl, L8, h8, -⟩
        have H8 := Lib.hid h8; clear h8
        go_wp2_with fail
        refine (read_to 2 k 0 _ H8.out S2.out (by omega) (wfi (by decide) (by decide))).mono ?_
        rintro e w9 ⟨rfl, L9, h9, -⟩
        have H9 := Lib.hid h9; clear h9
        go_wp2_with (first | (go_at_call 11; refine (num_any _ _).mono ?_; rintro e w' ⟨rfl, rfl⟩))
        refine (up_to 2 true H9.out S3.out (wfi (by decide) (by decide))).mono ?_
        rintro e w' ⟨rfl, rfl⟩
        go_wp2_with (first | (go_at_call 11; refine (num_any _ _).mono ?_; rintro e w' ⟨rfl, rfl⟩))
        refine (up_to 1 true H9.out S4.out (wfi (by decide) (by decide))).mono ?_
        rintro e w' ⟨rfl, rfl⟩
        go_wp2_with (first | (go_at_call 11; refine (num_any _ _).mono ?_; rintro e w' ⟨rfl, rfl⟩))
        go_ret
        exact ⟨rfl, H9.out.2.1⟩
      · obtain ⟨d5, B5, r7, r8⟩ := ap_read R6.out R5.out HK2.out HK'.out
        have R7 := Lib.hid r7; clear r7
        have hw1 := HW1.out
        go_wp2_with fail
        clear hw1
        refine (read_to 1 k' 0 _ H6.out R7.out (by omega) (wfi (by decide) (by decide))).mono ?_
        rintro e w7 ⟨rfl, L7, h7, -⟩
        have H7 := Lib.hid (h7.more (M := 20) (by omega)); clear h7
        obtain ⟨B6, B7, s1, s2, s3, s4⟩ := ap_end r8 HK2.out HK'.out
        have S1 := Lib.hid s1; have S2 := Lib.hid s2; have S3 := Lib.hid s3; have S4 := Lib.hid s4; clear s1 s2 s3 s4 r8
        have hw1 := HW1.out
        go_wp2_with fail
        clear hw1
        refine (read_to 2 k' 0 _ H7.out S1.out (by omega) (wfi (by decide) (by decide))).mono ?_
        rintro e w8 ⟨rfl, L8, h8, -⟩
        have H8 := Lib.hid h8; clear h8
        go_wp2_with fail
        refine (read_to 2 k 0 _ H8.out S2.out (by omega) (wfi (by decide) (by decide))).mono ?_
        rintro e w9 ⟨rfl, L9, h9, -⟩
        have H9 := Lib.hid h9; clear h9
        go_wp2_with (first | (go_at_call 11; refine (num_any _ _).mono ?_; rintro e w' ⟨rfl, rfl⟩))
        refine (up_to 2 true H9.out S3.out (wfi (by decide) (by decide))).mono ?_
        rintro e w' ⟨rfl, rfl⟩
        go_wp2_with (first | (go_at_call 11; refine (num_any _ _).mono ?_; rintro e w' ⟨rfl, rfl⟩))
        refine (up_to 1 true H9.out S4.out (wfi (by decide) (by decide))).mono ?_
        rintro e w' ⟨rfl, rfl⟩
        go_wp2_with (first | (go_at_call 11; refine (num_any _ _).mono ?_; rintro e w' ⟨rfl, rfl⟩))
        go_ret
        exact ⟨rfl, H9.out.2.1⟩
    · have x1 : ¬ (1000 : Int) < (a.size : Int) := by omega
      have x2 : (1000 : Int) < (b.size : Int) := by omega
      go_enter Try.func7, Try.ntmps7
      go_wp2_with fail
      refine (awake_any _).mono ?_
      rintro e w1 ⟨rfl, hb1⟩
      go_wp2_with fail
      go_ret
      exact ⟨rfl, hb1⟩
  · have x1 : (1000 : Int) < (a.size : Int) := by omega
    go_enter Try.func7, Try.ntmps7
    go_wp2_with fail
    refine (awake_any _).mono ?_
    rintro e w1 ⟨rfl, hb1⟩
    go_wp2_with fail
    go_ret
    exact ⟨rfl, hb1⟩
end Go.Proofs.Ytmbnonkbflchoaa
