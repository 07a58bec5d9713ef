/- The contract of the reference's Uncontrol: as control.Get. No condition. -/
import Derived.Test.YtmonkjogonjflaaCtlGet
import Derived.Test.YtmonkjogonjflaaOptUn
namespace Go.Proofs.Ytmonkjogonjflaa
open Go.RowKit
set_option linter.unusedVariables false
set_option linter.unusedSimpArgs false
attribute [local go_sem] conv1 conv1d conv1n conv1a conv1ad conv1an conv2 conv2d conv2n conv2a conv2ad conv2an conv4 conv4d conv4n conv4a conv4ad conv4an conv5 conv5d conv5n conv5a conv5ad conv5an size_nums byt_fold
set_option maxHeartbeats 1000000 in
theorem rctlget_short (s : ByteArray) (w : World) (h4 : ¬ 4 ≤ s.size) : Calls Try.prog 12 #[.string s] w (CtlGet s w) := by
  go_enter Try.func12, Try.ntmps12
  go_wp2
  refine bodyPost_ret (v := .tuple #[.agg #[.int .i64 0, .int .i64 0, .slice none 0 0, .string ⟨#[]⟩], .int .i64 500]) (by simp [results, Try.results12, go_sem]) rfl ?_
  exact ctlget_bad (by repeat' (first | (with_reducible exact Below.refl _ _) | (with_reducible apply Below.drew) | (with_reducible apply below_drewN) | (with_reducible apply Below.setCell) | (with_reducible apply Below.alloc) | (with_reducible refine below_step ?_ (by assumption) ?_) | omega | (simp; done) | (simp; omega))) (kE_500 (by omega)) (by decide)
set_option maxHeartbeats 1000000 in
theorem rctlget_len (s : ByteArray) (w : World) (h4 : 4 ≤ s.size) (n : Nat) (hn : byt s 2 * 256 + byt s 3 = (n : Int)) (HN : Hid (gN s = n)) (hw : (n < 4 ∨ s.size < n) ∨ (4 ≤ n ∧ n ≤ s.size ∧ 2048 < n)) : Calls Try.prog 12 #[.string s] w (CtlGet s w) := by
  obtain ⟨c0, c1⟩ := byt_range s 2
  obtain ⟨d0, d1⟩ := byt_range s 3
  have h42 : 2 < s.size := by omega
  have h43 : 3 < s.size := by omega
  rcases hw with hw | ⟨hw1, hw2, hw3⟩
  · go_enter Try.func12, Try.ntmps12
    go_wp2_with fail
    go_quiet (fail)
    go_wp2
    all_goals
      refine bodyPost_ret (v := .tuple #[.agg #[.int .i64 0, .int .i64 0, .slice none 0 0, .string ⟨#[]⟩], .int .i64 501]) (by simp [results, Try.results12, go_sem]) rfl ?_
      exact ctlget_bad (by repeat' (first | (with_reducible exact Below.refl _ _) | (with_reducible apply Below.drew) | (with_reducible apply below_drewN) | (with_reducible apply Below.setCell) | (with_reducible apply Below.alloc) | (with_reducible refine below_step ?_ (by assumption) ?_) | omega | (simp; done) | (simp; omega))) (kE_501 (by omega) (by rw [HN.out]; exact hw)) (by decide)
  · go_enter Try.func12, Try.ntmps12
    go_wp2_with fail
    go_quiet (fail)
    go_wp2
    all_goals
      refine bodyPost_ret (v := .tuple #[.agg #[.int .i64 0, .int .i64 0, .slice none 0 0, .string ⟨#[]⟩], .int .i64 503]) (by simp [results, Try.results12, go_sem]) rfl ?_
      exact ctlget_bad (by repeat' (first | (with_reducible exact Below.refl _ _) | (with_reducible apply Below.drew) | (with_reducible apply below_drewN) | (with_reducible apply Below.setCell) | (with_reducible apply Below.alloc) | (with_reducible refine below_step ?_ (by assumption) ?_) | omega | (simp; done) | (simp; omega))) (kE_503 (by omega) (by rw [HN.out]; omega) (by rw [HN.out]; exact hw3)) (by decide)
set_option maxHeartbeats 1000000 in
theorem rctlget_main (s : ByteArray) (w : World) (h4 : 4 ≤ s.size) (n : Nat) (hn : byt s 2 * 256 + byt s 3 = (n : Int)) (HN : Hid (gN s = n)) (hw1 : 4 ≤ n) (hw2 : n ≤ s.size) (hw3 : n ≤ 2048) : Calls Try.prog 12 #[.string s] w (CtlGet s w) := by
  obtain ⟨a0, a1⟩ := byt_range s 0
  obtain ⟨b0, b1⟩ := byt_range s 1
  obtain ⟨c0, c1⟩ := byt_range s 2
  obtain ⟨d0, d1⟩ := byt_range s 3
  have h40 : 0 < s.size := by omega
  have h41 : 1 < s.size := by omega
  have h42 : 2 < s.size := by omega
  have h43 : 3 < s.size := by omega
  have HB : Hid (kBody s = s.extract 4 n) := by show kBody s = s.extract 4 n; unfold kBody; rw [HN.out]
  by_cases hcb : 1 ≤ byt s 0 ∧ byt s 0 ≤ 4
  rotate_left
  · have HC : Hid (confB (byt s 0) = false) := Lib.hid (by unfold confB; exact decide_eq_false hcb)
    have hcx : byt s 0 < 1 ∨ 4 < byt s 0 := by omega
    clear hcb
    rcases hcx with hcx | hcx
    all_goals
      go_enter Try.func12, Try.ntmps12
      go_wp2_with fail
      go_region
      go_wp2_with fail
      go_region
      go_wp2_with fail
      refine bodyPost_ret (v := .tuple #[.agg #[.int .i64 (byt s 0), .int .i64 (byt s 1), .slice none 0 0, .string (s.extract 4 n)], .int .i64 0]) (by simp [results, Try.results12, go_sem]) rfl ?_
      rw [← HB.out]
      exact ctlget_data (by repeat' (first | (with_reducible exact Below.refl _ _) | (with_reducible apply Below.drew) | (with_reducible apply below_drewN) | (with_reducible apply Below.setCell) | (with_reducible apply Below.alloc) | (with_reducible refine below_step ?_ (by assumption) ?_) | omega | (simp; done) | (simp; omega))) (kE_0 (by omega) (by rw [HN.out]; omega) (by rw [HN.out]; omega) (.inl HC.out)) HC.out
  · have HC : Hid (confB (byt s 0) = true) := Lib.hid (by unfold confB; exact decide_eq_true hcb)
    obtain ⟨hcb1, hcb2⟩ := hcb
    go_enter Try.func12, Try.ntmps12
    go_wp2_with fail
    go_region
    go_wp2_with fail
    go_region
    go_wp2_with fail
    refine (runopts_any _ _).mono ?_
    rintro e w1 ⟨A, cap, rfl, hown, hb1⟩
    obtain ⟨hc1, hf1⟩ := bcell hb1
    have hz1 := hb1.size
    simp at hz1
    have z1 : w.heap.size < w1.heap.size := by omega
    have z2 : w.heap.size + 1 < w1.heap.size := by omega
    have e0 : w1.cell? ⟨w.heap.size, 0, none⟩ = some (.int .i64 0) := by rw [hc1 _ _ (by simp; omega)]; simp
    have e1 : w1.cell? ⟨w.heap.size, 1, none⟩ = some (.int .i64 0) := by rw [hc1 _ _ (by simp; omega)]; simp
    have e2 : w1.cell? ⟨w.heap.size, 2, none⟩ = some (.slice none 0 0) := by rw [hc1 _ _ (by simp; omega)]; simp
    have e3 : w1.cell? ⟨w.heap.size, 3, none⟩ = some (.string ⟨#[]⟩) := by rw [hc1 _ _ (by simp; omega)]; simp
    by_cases hu : uE (s.extract 4 n) = 0
    · have HU := Lib.hid hu
      have hown2 : w1.ownsRow (w.heap.size + 1 + 1) 46 2 (.slice A (uL (s.extract 4 n)).length cap) (uL (s.extract 4 n)).length (optCells (uL (s.extract 4 n))) := by simpa using hown
      have HOWN := Lib.hid hown2; clear hown hown2
      have bel : Below w.heap.size w w1 := (((((Below.refl _ _).alloc (Nat.le_refl _) _).alloc (by simp) _).drew).drew).trans (hb1.mono (by simp; omega))
      go_wp2_with fail
      refine bodyPost_ret (v := .tuple #[.agg #[.int .i64 (byt s 0), .int .i64 (byt s 1), .slice A (uL (s.extract 4 n)).length cap, .string ⟨#[]⟩], .int .i64 0]) (by simp [results, Try.results12, go_sem, e0, e1, e2, e3]) rfl ?_
      rw [← HB.out]
      refine ctlget_opts ?_ (kE_0 (by omega) (by rw [HN.out]; omega) (by rw [HN.out]; omega) (.inr (by rw [HB.out]; exact HU.out))) HC.out ?_
      · exact (by repeat' (first | (with_reducible exact bel) | (with_reducible refine Below.setCell ?_ (Nat.le_refl _) _) | (with_reducible apply Below.setCell) | (with_reducible apply Below.alloc) | (with_reducible apply Below.drew) | (with_reducible apply below_drewN) | (exact Nat.le_refl _) | omega | (simp; done) | (simp; omega)))
      · rw [HB.out]
        refine own_base (b := w.heap.size + 1 + 1) ?_ (by omega)
        exact (by repeat' (first | (with_reducible exact HOWN.out) | (with_reducible apply ownsRow_setCell_below) | omega | (simp; done) | (simp; omega)))
    · have hub : (uE (s.extract 4 n) == 0) = false := by simpa using hu
      have hub2 : (uE (s.extract 4 n) != 0) = true := by simpa using hu
      have HU := Lib.hid hu
      clear hown hu
      have bel : Below w.heap.size w w1 := (((((Below.refl _ _).alloc (Nat.le_refl _) _).alloc (by simp) _).drew).drew).trans (hb1.mono (by simp; omega))
      go_wp2_with fail
      refine bodyPost_ret (v := .tuple #[.agg #[.int .i64 0, .int .i64 0, .slice none 0 0, .string ⟨#[]⟩], .int .i64 502]) (by simp [results, Try.results12, go_sem, e0, e1, e2, e3]) rfl ?_
      refine ctlget_bad ?_ (kE_502 (by omega) (by rw [HN.out]; omega) (by rw [HN.out]; omega) HC.out (by rw [HB.out]; exact HU.out)) (by decide)
      exact (by repeat' (first | (with_reducible exact bel) | (with_reducible refine Below.setCell ?_ (Nat.le_refl _) _) | (with_reducible apply Below.setCell) | (with_reducible apply Below.alloc) | (with_reducible apply Below.drew) | (with_reducible apply below_drewN) | (exact Nat.le_refl _) | omega | (simp; done) | (simp; omega)))
theorem rctlget_any (s : ByteArray) (w : World) : Calls Try.prog 12 #[.string s] w (CtlGet s w) := by
  by_cases h4 : 4 ≤ s.size
  · have e := gN_eq s
    by_cases h5 : (gN s < 4 ∨ s.size < gN s) ∨ (4 ≤ gN s ∧ gN s ≤ s.size ∧ 2048 < gN s)
    · exact rctlget_len s w h4 (gN s) e rfl h5
    · exact rctlget_main s w h4 (gN s) e rfl (by omega) (by omega) (by omega)
  · exact rctlget_short s w h4
end Go.Proofs.Ytmonkjogonjflaa
