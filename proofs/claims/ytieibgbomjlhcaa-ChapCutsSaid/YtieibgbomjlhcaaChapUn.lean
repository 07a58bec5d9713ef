/- The contract of the reference's Unchap: it answers as chapmsg.Get does. No condition. -/
import Derived.Test.YtieibgbomjlhcaaChapGet
namespace Go.Proofs.Ytieibgbomjlhcaa
open Go.RowKit
set_option linter.unusedVariables false
set_option linter.unusedSimpArgs false
attribute [local go_sem] conv1 conv1d conv1n conv1a conv1ad conv1an conv2 conv2d conv2n conv2a conv2ad conv2an conv4 conv4d conv4n conv4a conv4ad conv4an conv5 conv5d conv5n conv5a conv5ad conv5an size_nums byt_fold
set_option maxHeartbeats 1000000 in
theorem rget_short (s : ByteArray) (w : World) (h4 : ¬ 4 ≤ s.size) : Calls Try.prog 11 #[.string s] w (ChGet s w) := by
  go_enter Try.func11, Try.ntmps11
  go_wp2
  refine bodyPost_ret (v := .tuple #[.agg #[.int .i64 0, .int .i64 0, .string ⟨#[]⟩, .string ⟨#[]⟩], .int .i64 600]) (by simp [results, Try.results11, go_sem]) rfl ?_
  exact chget_bad (by repeat' (first | (with_reducible exact Below.refl _ _) | (with_reducible apply Below.drew) | (with_reducible apply below_drewN) | (with_reducible apply Below.setCell) | (with_reducible apply Below.alloc) | (with_reducible refine below_step ?_ (by assumption) ?_) | omega | (simp; done) | (simp; omega))) (gBad_yes (.inl (by omega)))
set_option maxHeartbeats 1000000 in
theorem rget_code (s : ByteArray) (w : World) (h4 : 4 ≤ s.size) (hc : byt s 0 < 1 ∨ 4 < byt s 0) : Calls Try.prog 11 #[.string s] w (ChGet s w) := by
  have h40 : 0 < s.size := by omega
  rcases hc with hc | hc
  all_goals
    go_enter Try.func11, Try.ntmps11
    go_wp2
    refine bodyPost_ret (v := .tuple #[.agg #[.int .i64 0, .int .i64 0, .string ⟨#[]⟩, .string ⟨#[]⟩], .int .i64 600]) (by simp [results, Try.results11, go_sem]) rfl ?_
    exact chget_bad (by repeat' (first | (with_reducible exact Below.refl _ _) | (with_reducible apply Below.drew) | (with_reducible apply below_drewN) | (with_reducible apply Below.setCell) | (with_reducible apply Below.alloc) | (with_reducible refine below_step ?_ (by assumption) ?_) | omega | (simp; done) | (simp; omega))) (gBad_yes (by omega))
set_option maxHeartbeats 1000000 in
theorem rget_len (s : ByteArray) (w : World) (h4 : 4 ≤ s.size) (hc1 : 1 ≤ byt s 0) (hc2 : byt s 0 ≤ 4) (n : Nat) (hn : byt s 2 * 256 + byt s 3 = (n : Int)) (HN : Hid (gN s = n)) (hw : n < 4 ∨ s.size < n) : Calls Try.prog 11 #[.string s] w (ChGet s w) := by
  obtain ⟨c0, c1⟩ := byt_range s 2
  obtain ⟨d0, d1⟩ := byt_range s 3
  have h40 : 0 < s.size := by omega
  have h41 : 1 < s.size := by omega
  have h42 : 2 < s.size := by omega
  have h43 : 3 < s.size := by omega
  have hb : (byt s 0 == 1) = true ∨ ((byt s 0 == 1) = false ∧ (byt s 0 == 2) = true) ∨ ((byt s 0 == 1) = false ∧ (byt s 0 == 2) = false) := by
    cases (byt s 0 == 1) <;> cases (byt s 0 == 2) <;> simp
  rcases hb with hb | ⟨hb, hb2⟩ | ⟨hb, hb2⟩
  all_goals
    go_enter Try.func11, Try.ntmps11
    go_wp2_with (first | fail)
    go_quiet (fail)
    go_wp2_with (first | fail)
    all_goals
      refine bodyPost_ret (v := .tuple #[.agg #[.int .i64 0, .int .i64 0, .string ⟨#[]⟩, .string ⟨#[]⟩], .int .i64 600]) (by simp [results, Try.results11, go_sem]) rfl ?_
      exact chget_bad (by repeat' (first | (with_reducible exact Below.refl _ _) | (with_reducible apply Below.drew) | (with_reducible apply below_drewN) | (with_reducible apply Below.setCell) | (with_reducible apply Below.alloc) | (with_reducible refine below_step ?_ (by assumption) ?_) | omega | (simp; done) | (simp; omega))) (gBad_yes (by rw [HN.out]; omega))
set_option maxHeartbeats 1000000 in
theorem rget_v1 (s : ByteArray) (w : World) (h4 : 4 ≤ s.size) (n : Nat) (hn : byt s 2 * 256 + byt s 3 = (n : Int)) (HN : Hid (gN s = n)) (h5 : 5 ≤ n) (h6 : n ≤ s.size) (hc1 : 1 ≤ byt s 0) (hc2 : byt s 0 ≤ 4) (hc3 : byt s 1 ≤ 255) (hc4 : 0 ≤ byt s 1) (v : Nat) (hv : byt s 4 = (v : Int)) (HV : Hid (gV s = v)) (hv1 : v ≤ 255)
    (hb : (byt s 0 == 1) = true) : Calls Try.prog 11 #[.string s] w (ChGet s w) := by
  obtain ⟨c0, c1⟩ := byt_range s 2
  obtain ⟨d0, d1⟩ := byt_range s 3
  have h40 : 0 < s.size := by omega
  have h41 : 1 < s.size := by omega
  have h42 : 2 < s.size := by omega
  have h43 : 3 < s.size := by omega
  have h44 : 4 < s.size := by omega
  have HB : Hid (valB (byt s 0) = true) := by show valB (byt s 0) = true; unfold valB; rw [hb]; rfl
  go_enter Try.func11, Try.ntmps11
  go_wp2_with (first | fail)
  go_quiet (fail)
  go_wp2_with (first | fail)
  go_region
  go_wp2_with (first | fail)
  · refine bodyPost_ret (v := .tuple #[.agg #[.int .i64 0, .int .i64 0, .string ⟨#[]⟩, .string ⟨#[]⟩], .int .i64 600]) (by simp [results, Try.results11, go_sem]) rfl ?_
    have h0 : v = 0 := by assumption
    exact chget_bad (by repeat' (first | (with_reducible exact Below.refl _ _) | (with_reducible apply Below.drew) | (with_reducible apply below_drewN) | (with_reducible apply Below.setCell) | (with_reducible apply Below.alloc) | (with_reducible refine below_step ?_ (by assumption) ?_) | omega | (simp; done) | (simp; omega))) (gBad_yes2 HB.out (by rw [HN.out, HV.out]; omega))
  · refine bodyPost_ret (v := .tuple #[.agg #[.int .i64 0, .int .i64 0, .string ⟨#[]⟩, .string ⟨#[]⟩], .int .i64 600]) (by simp [results, Try.results11, go_sem]) rfl ?_
    have h0 : ((v : Int) == 0) = true ∨ (n : Int) - 5 < v := by assumption
    exact chget_bad (by repeat' (first | (with_reducible exact Below.refl _ _) | (with_reducible apply Below.drew) | (with_reducible apply below_drewN) | (with_reducible apply Below.setCell) | (with_reducible apply Below.alloc) | (with_reducible refine below_step ?_ (by assumption) ?_) | omega | (simp; done) | (simp; omega))) (gBad_yes2 HB.out (by rw [HN.out, HV.out]; simp at h0; omega))
  · refine bodyPost_ret (v := .tuple #[.agg #[.int .i64 0, .int .i64 0, .string ⟨#[]⟩, .string ⟨#[]⟩], .int .i64 601]) (by simp [results, Try.results11, go_sem]) rfl ?_
    exact chget_long (by repeat' (first | (with_reducible exact Below.refl _ _) | (with_reducible apply Below.drew) | (with_reducible apply below_drewN) | (with_reducible apply Below.setCell) | (with_reducible apply Below.alloc) | (with_reducible refine below_step ?_ (by assumption) ?_) | omega | (simp; done) | (simp; omega))) (gBad_no (by rw [HN.out]; omega) (.inr (by rw [HN.out, HV.out]; omega))) (by rw [HN.out]; unfold gFrom; rw [HB.out, HV.out]; simp; omega)
  · refine bodyPost_ret (v := .tuple #[.agg #[.int .i64 (byt s 0), .int .i64 (byt s 1), .string (s.extract 5 (5 + v)), .string (s.extract (5 + v) n)], .int .i64 0]) (by simp [results, Try.results11, go_sem]) rfl ?_
    exact chget_ok (by repeat' (first | (with_reducible exact Below.refl _ _) | (with_reducible apply Below.drew) | (with_reducible apply below_drewN) | (with_reducible apply Below.setCell) | (with_reducible apply Below.alloc) | (with_reducible refine below_step ?_ (by assumption) ?_) | omega | (simp; done) | (simp; omega))) (gBad_no (by rw [HN.out]; omega) (.inr (by rw [HN.out, HV.out]; omega))) (by rw [HN.out]; unfold gFrom; rw [HB.out, HV.out]; simp; omega) (by rw [HB.out, HV.out, if_pos rfl]) (by rw [HN.out]; unfold gFrom; rw [HB.out, HV.out, if_pos rfl])
set_option maxHeartbeats 1000000 in
theorem rget_s1 (s : ByteArray) (w : World) (h4 : 4 ≤ s.size) (n : Nat) (hn : byt s 2 * 256 + byt s 3 = (n : Int)) (HN : Hid (gN s = n)) (h5 : n = 4) (h6 : n ≤ s.size) (hc1 : 1 ≤ byt s 0) (hc2 : byt s 0 ≤ 4) (hc3 : byt s 1 ≤ 255) (hc4 : 0 ≤ byt s 1)
    (hb : (byt s 0 == 1) = true) : Calls Try.prog 11 #[.string s] w (ChGet s w) := by
  have HN4 : Hid (n = 4) := h5
  obtain rfl : n = 4 := h5
  obtain ⟨c0, c1⟩ := byt_range s 2
  obtain ⟨d0, d1⟩ := byt_range s 3
  have h40 : 0 < s.size := by omega
  have h41 : 1 < s.size := by omega
  have h42 : 2 < s.size := by omega
  have h43 : 3 < s.size := by omega
  have HB : Hid (valB (byt s 0) = true) := by show valB (byt s 0) = true; unfold valB; rw [hb]; rfl
  go_enter Try.func11, Try.ntmps11
  go_wp2_with (first | fail)
  go_quiet (fail)
  go_wp2_with (first | fail)
  refine bodyPost_ret (v := .tuple #[.agg #[.int .i64 0, .int .i64 0, .string ⟨#[]⟩, .string ⟨#[]⟩], .int .i64 600]) (by simp [results, Try.results11, go_sem]) rfl ?_
  exact chget_bad (by repeat' (first | (with_reducible exact Below.refl _ _) | (with_reducible apply Below.drew) | (with_reducible apply below_drewN) | (with_reducible apply Below.setCell) | (with_reducible apply Below.alloc) | (with_reducible refine below_step ?_ (by assumption) ?_) | omega | (simp; done) | (simp; omega))) (gBad_yes2 HB.out (by rw [HN.out]; omega))
set_option maxHeartbeats 1000000 in
theorem rget_v2 (s : ByteArray) (w : World) (h4 : 4 ≤ s.size) (n : Nat) (hn : byt s 2 * 256 + byt s 3 = (n : Int)) (HN : Hid (gN s = n)) (h5 : 5 ≤ n) (h6 : n ≤ s.size) (hc1 : 1 ≤ byt s 0) (hc2 : byt s 0 ≤ 4) (hc3 : byt s 1 ≤ 255) (hc4 : 0 ≤ byt s 1) (v : Nat) (hv : byt s 4 = (v : Int)) (HV : Hid (gV s = v)) (hv1 : v ≤ 255)
    (hb : (byt s 0 == 1) = false) (hb2 : (byt s 0 == 2) = true) : Calls Try.prog 11 #[.string s] w (ChGet s w) := by
  obtain ⟨c0, c1⟩ := byt_range s 2
  obtain ⟨d0, d1⟩ := byt_range s 3
  have h40 : 0 < s.size := by omega
  have h41 : 1 < s.size := by omega
  have h42 : 2 < s.size := by omega
  have h43 : 3 < s.size := by omega
  have h44 : 4 < s.size := by omega
  have HB : Hid (valB (byt s 0) = true) := by show valB (byt s 0) = true; unfold valB; rw [hb, hb2]; rfl
  go_enter Try.func11, Try.ntmps11
  go_wp2_with (first | fail)
  go_quiet (fail)
  go_wp2_with (first | fail)
  go_region
  go_wp2_with (first | fail)
  · refine bodyPost_ret (v := .tuple #[.agg #[.int .i64 0, .int .i64 0, .string ⟨#[]⟩, .string ⟨#[]⟩], .int .i64 600]) (by simp [results, Try.results11, go_sem]) rfl ?_
    have h0 : v = 0 := by assumption
    exact chget_bad (by repeat' (first | (with_reducible exact Below.refl _ _) | (with_reducible apply Below.drew) | (with_reducible apply below_drewN) | (with_reducible apply Below.setCell) | (with_reducible apply Below.alloc) | (with_reducible refine below_step ?_ (by assumption) ?_) | omega | (simp; done) | (simp; omega))) (gBad_yes2 HB.out (by rw [HN.out, HV.out]; omega))
  · refine bodyPost_ret (v := .tuple #[.agg #[.int .i64 0, .int .i64 0, .string ⟨#[]⟩, .string ⟨#[]⟩], .int .i64 600]) (by simp [results, Try.results11, go_sem]) rfl ?_
    have h0 : ((v : Int) == 0) = true ∨ (n : Int) - 5 < v := by assumption
    exact chget_bad (by repeat' (first | (with_reducible exact Below.refl _ _) | (with_reducible apply Below.drew) | (with_reducible apply below_drewN) | (with_reducible apply Below.setCell) | (with_reducible apply Below.alloc) | (with_reducible refine below_step ?_ (by assumption) ?_) | omega | (simp; done) | (simp; omega))) (gBad_yes2 HB.out (by rw [HN.out, HV.out]; simp at h0; omega))
  · refine bodyPost_ret (v := .tuple #[.agg #[.int .i64 0, .int .i64 0, .string ⟨#[]⟩, .string ⟨#[]⟩], .int .i64 601]) (by simp [results, Try.results11, go_sem]) rfl ?_
    exact chget_long (by repeat' (first | (with_reducible exact Below.refl _ _) | (with_reducible apply Below.drew) | (with_reducible apply below_drewN) | (with_reducible apply Below.setCell) | (with_reducible apply Below.alloc) | (with_reducible refine below_step ?_ (by assumption) ?_) | omega | (simp; done) | (simp; omega))) (gBad_no (by rw [HN.out]; omega) (.inr (by rw [HN.out, HV.out]; omega))) (by rw [HN.out]; unfold gFrom; rw [HB.out, HV.out]; simp; omega)
  · refine bodyPost_ret (v := .tuple #[.agg #[.int .i64 (byt s 0), .int .i64 (byt s 1), .string (s.extract 5 (5 + v)), .string (s.extract (5 + v) n)], .int .i64 0]) (by simp [results, Try.results11, go_sem]) rfl ?_
    exact chget_ok (by repeat' (first | (with_reducible exact Below.refl _ _) | (with_reducible apply Below.drew) | (with_reducible apply below_drewN) | (with_reducible apply Below.setCell) | (with_reducible apply Below.alloc) | (with_reducible refine below_step ?_ (by assumption) ?_) | omega | (simp; done) | (simp; omega))) (gBad_no (by rw [HN.out]; omega) (.inr (by rw [HN.out, HV.out]; omega))) (by rw [HN.out]; unfold gFrom; rw [HB.out, HV.out]; simp; omega) (by rw [HB.out, HV.out, if_pos rfl]) (by rw [HN.out]; unfold gFrom; rw [HB.out, HV.out, if_pos rfl])
set_option maxHeartbeats 1000000 in
theorem rget_s2 (s : ByteArray) (w : World) (h4 : 4 ≤ s.size) (n : Nat) (hn : byt s 2 * 256 + byt s 3 = (n : Int)) (HN : Hid (gN s = n)) (h5 : n = 4) (h6 : n ≤ s.size) (hc1 : 1 ≤ byt s 0) (hc2 : byt s 0 ≤ 4) (hc3 : byt s 1 ≤ 255) (hc4 : 0 ≤ byt s 1)
    (hb : (byt s 0 == 1) = false) (hb2 : (byt s 0 == 2) = true) : Calls Try.prog 11 #[.string s] w (ChGet s w) := by
  have HN4 : Hid (n = 4) := h5
  obtain rfl : n = 4 := h5
  obtain ⟨c0, c1⟩ := byt_range s 2
  obtain ⟨d0, d1⟩ := byt_range s 3
  have h40 : 0 < s.size := by omega
  have h41 : 1 < s.size := by omega
  have h42 : 2 < s.size := by omega
  have h43 : 3 < s.size := by omega
  have HB : Hid (valB (byt s 0) = true) := by show valB (byt s 0) = true; unfold valB; rw [hb, hb2]; rfl
  go_enter Try.func11, Try.ntmps11
  go_wp2_with (first | fail)
  go_quiet (fail)
  go_wp2_with (first | fail)
  refine bodyPost_ret (v := .tuple #[.agg #[.int .i64 0, .int .i64 0, .string ⟨#[]⟩, .string ⟨#[]⟩], .int .i64 600]) (by simp [results, Try.results11, go_sem]) rfl ?_
  exact chget_bad (by repeat' (first | (with_reducible exact Below.refl _ _) | (with_reducible apply Below.drew) | (with_reducible apply below_drewN) | (with_reducible apply Below.setCell) | (with_reducible apply Below.alloc) | (with_reducible refine below_step ?_ (by assumption) ?_) | omega | (simp; done) | (simp; omega))) (gBad_yes2 HB.out (by rw [HN.out]; omega))
set_option maxHeartbeats 1000000 in
theorem rget_n (s : ByteArray) (w : World) (h4 : 4 ≤ s.size) (n : Nat) (hn : byt s 2 * 256 + byt s 3 = (n : Int)) (HN : Hid (gN s = n)) (h5 : 4 ≤ n) (h6 : n ≤ s.size) (hc1 : 1 ≤ byt s 0) (hc2 : byt s 0 ≤ 4) (hc3 : byt s 1 ≤ 255) (hc4 : 0 ≤ byt s 1)
    (hb : (byt s 0 == 1) = false) (hb2 : (byt s 0 == 2) = false) : Calls Try.prog 11 #[.string s] w (ChGet s w) := by
  obtain ⟨c0, c1⟩ := byt_range s 2
  obtain ⟨d0, d1⟩ := byt_range s 3
  have h40 : 0 < s.size := by omega
  have h41 : 1 < s.size := by omega
  have h42 : 2 < s.size := by omega
  have h43 : 3 < s.size := by omega
  have HB : Hid (valB (byt s 0) = false) := by show valB (byt s 0) = false; unfold valB; rw [hb, hb2]; rfl
  go_enter Try.func11, Try.ntmps11
  go_wp2_with (first | fail)
  go_quiet (fail)
  go_wp2_with (first | fail)
  go_region
  go_wp2_with (first | fail)
  · refine bodyPost_ret (v := .tuple #[.agg #[.int .i64 0, .int .i64 0, .string ⟨#[]⟩, .string ⟨#[]⟩], .int .i64 601]) (by simp [results, Try.results11, go_sem]) rfl ?_
    exact chget_long (by repeat' (first | (with_reducible exact Below.refl _ _) | (with_reducible apply Below.drew) | (with_reducible apply below_drewN) | (with_reducible apply Below.setCell) | (with_reducible apply Below.alloc) | (with_reducible refine below_step ?_ (by assumption) ?_) | omega | (simp; done) | (simp; omega))) (gBad_no (by rw [HN.out]; omega) (.inl HB.out)) (by rw [HN.out]; unfold gFrom; rw [HB.out]; simp; omega)
  · refine bodyPost_ret (v := .tuple #[.agg #[.int .i64 (byt s 0), .int .i64 (byt s 1), .string ⟨#[]⟩, .string (s.extract 4 n)], .int .i64 0]) (by simp [results, Try.results11, go_sem]) rfl ?_
    exact chget_ok (by repeat' (first | (with_reducible exact Below.refl _ _) | (with_reducible apply Below.drew) | (with_reducible apply below_drewN) | (with_reducible apply Below.setCell) | (with_reducible apply Below.alloc) | (with_reducible refine below_step ?_ (by assumption) ?_) | omega | (simp; done) | (simp; omega))) (gBad_no (by rw [HN.out]; omega) (.inl HB.out)) (by rw [HN.out]; unfold gFrom; rw [HB.out]; simp; omega) (by rw [HB.out]; rfl) (by rw [HN.out]; unfold gFrom; rw [HB.out]; rfl)
theorem rget_any (s : ByteArray) (w : World) : Calls Try.prog 11 #[.string s] w (ChGet s w) := by
  by_cases h4 : 4 ≤ s.size
  · by_cases hc : byt s 0 < 1 ∨ 4 < byt s 0
    · exact rget_code s w h4 hc
    · have e := gN_eq s
      obtain ⟨b0, b1⟩ := byt_range s 1
      by_cases h5 : gN s < 4 ∨ s.size < gN s
      · exact rget_len s w h4 (by omega) (by omega) (gN s) e rfl h5
      · have e4 := byt_range s 4
        have e5 := gV_eq s
        cases hb : (byt s 0 == 1)
        · cases hb2 : (byt s 0 == 2)
          · exact rget_n s w h4 (gN s) e rfl (by omega) (by omega) (by omega) (by omega) b1 b0 hb hb2
          · by_cases h6 : gN s = 4
            · exact rget_s2 s w h4 (gN s) e rfl h6 (by omega) (by omega) (by omega) b1 b0 hb hb2
            · exact rget_v2 s w h4 (gN s) e rfl (by omega) (by omega) (by omega) (by omega) b1 b0 (gV s) e5 rfl (by omega) hb hb2
        · by_cases h6 : gN s = 4
          · exact rget_s1 s w h4 (gN s) e rfl h6 (by omega) (by omega) (by omega) b1 b0 hb
          · exact rget_v1 s w h4 (gN s) e rfl (by omega) (by omega) (by omega) (by omega) b1 b0 (gV s) e5 rfl (by omega) hb
  · exact rget_short s w h4
end Go.Proofs.Ytieibgbomjlhcaa
