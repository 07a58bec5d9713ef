/- The contract of bapmsg.Get: a request. No condition. -/
import Derived.Test.YthhbgokjalmmpaaBapGet
namespace Go.Proofs.Ythhbgokjalmmpaa
open Go.RowKit
set_option linter.unusedVariables false
set_option linter.unusedSimpArgs false
attribute [local go_sem] conv1 conv1d conv1n conv1a conv1ad conv1an conv2 conv2d conv2n conv2a conv2ad conv2an conv4 conv4d conv4n conv4a conv4ad conv4an conv5 conv5d conv5n conv5a conv5ad conv5an size_nums byt_fold
set_option maxRecDepth 100000 in
set_option maxHeartbeats 6000000 in
theorem bapget_req (s : ByteArray) (w : World) (h4 : 4 ≤ s.size) (n : Nat) (hn : byt s 2 * 256 + byt s 3 = (n : Int)) (HN : Hid (gN s = n)) (hm : bMay (byt s 0) (byt s 1) = true) (hr : bResp (byt s 0) = false) (hw1 : 4 ≤ n) (hw2 : n ≤ s.size) : Calls Try.prog 9 #[.string s] w (BapGet s w) := by
  obtain ⟨a0, a1⟩ := byt_range s 0
  obtain ⟨b0, b1⟩ := byt_range s 1
  obtain ⟨c0, c1⟩ := byt_range s 2
  obtain ⟨d0, d1⟩ := byt_range s 3
  obtain ⟨f0, f1⟩ := byt_range s 4
  have h40 : 0 < s.size := by omega
  have h41 : 1 < s.size := by omega
  have h42 : 2 < s.size := by omega
  have h43 : 3 < s.size := by omega
  skip
  have hor := or_bytes s s 2 3
  have hl : gLeast s = 4 := by unfold gLeast; rw [hr]; rfl
  have HB : Hid (gBody s = s.extract 4 n) := by show gBody s = s.extract 4 n; unfold gBody; rw [HN.out, hl]
  have HBD : Hid (gBad s = false) := Lib.hid (gBad_no (by omega) hm (by rw [HN.out, hl]; omega))
  clear hl
  go_enter Try.func9, Try.ntmps9
  go_wp2_with fail
  go_region
  go_wp2_with fail
  go_region
  go_wp2_with (first | (go_at_call 12; refine (may_any _ _ _).mono ?_; rintro e w' ⟨rfl, rfl⟩) | (go_at_call 13; refine (resp_any _ _ _).mono ?_; rintro e w' ⟨rfl, rfl⟩))
  refine (optget_any _ _).mono ?_
  rintro e w1 ⟨A, cap, rfl, hown, hb1⟩
  obtain ⟨hc1, hf1⟩ := bcell hb1
  have hz1 := hb1.size
  simp at hz1
  have z1 : w.heap.size < w1.heap.size := by omega
  have z2 : w.heap.size + 1 < w1.heap.size := by omega
  have bel : Below w.heap.size w w1 := by
    refine Below.trans ?_ (hb1.mono (by simp; omega))
    exact (by repeat' (first | (with_reducible exact Below.refl _ _) | (with_reducible apply Below.drew) | (with_reducible apply below_drewN) | (with_reducible apply Below.setCell) | (with_reducible apply Below.alloc) | (with_reducible refine below_step ?_ (by assumption) ?_) | omega | (simp; done) | (simp; omega)))
  have hown2 := hown
  simp at hown2
  replace hown2 := own_base (b' := w.heap.size + 1) hown2 (by omega)
  have HOWN := Lib.hid hown2
  clear hown hown2
  have g0 : w1.cell? ⟨w.heap.size + 1, 0, none⟩ = some (.int .i64 (byt s 0)) := (by repeat' (first | (with_reducible refine cell1 ?_) | (with_reducible exact hb1) | (with_reducible refine cellK hb1 ?_) | ((with_reducible refine cell0 ?hb ?hv); (case hb => first | rfl | (simp; done)); (case hv => rfl)) | (with_reducible refine cellA ?_) | (with_reducible refine cellD ?_) | (with_reducible refine cellN ?_) | ((with_reducible refine cellS ?hn ?_); (case hn => first | (left; omega) | (right; omega) | (left; simp; omega))) | ((with_reducible refine has0 ?hb ?hv); (case hb => first | rfl | (simp; done)); (case hv => rfl)) | (with_reducible refine hasA ?_) | (with_reducible refine hasD ?_) | (with_reducible refine hasN ?_) | (with_reducible refine hasK hb1 ?_) | (with_reducible refine hasS ?_)))
  have g1 : w1.cell? ⟨w.heap.size + 1, 1, none⟩ = some (.int .i64 (byt s 1)) := (by repeat' (first | (with_reducible refine cell1 ?_) | (with_reducible exact hb1) | (with_reducible refine cellK hb1 ?_) | ((with_reducible refine cell0 ?hb ?hv); (case hb => first | rfl | (simp; done)); (case hv => rfl)) | (with_reducible refine cellA ?_) | (with_reducible refine cellD ?_) | (with_reducible refine cellN ?_) | ((with_reducible refine cellS ?hn ?_); (case hn => first | (left; omega) | (right; omega) | (left; simp; omega))) | ((with_reducible refine has0 ?hb ?hv); (case hb => first | rfl | (simp; done)); (case hv => rfl)) | (with_reducible refine hasA ?_) | (with_reducible refine hasD ?_) | (with_reducible refine hasN ?_) | (with_reducible refine hasK hb1 ?_) | (with_reducible refine hasS ?_)))
  have g2 : w1.cell? ⟨w.heap.size + 1, 2, none⟩ = some (.int .i64 (0)) := (by repeat' (first | (with_reducible refine cell1 ?_) | (with_reducible exact hb1) | (with_reducible refine cellK hb1 ?_) | ((with_reducible refine cell0 ?hb ?hv); (case hb => first | rfl | (simp; done)); (case hv => rfl)) | (with_reducible refine cellA ?_) | (with_reducible refine cellD ?_) | (with_reducible refine cellN ?_) | ((with_reducible refine cellS ?hn ?_); (case hn => first | (left; omega) | (right; omega) | (left; simp; omega))) | ((with_reducible refine has0 ?hb ?hv); (case hb => first | rfl | (simp; done)); (case hv => rfl)) | (with_reducible refine hasA ?_) | (with_reducible refine hasD ?_) | (with_reducible refine hasN ?_) | (with_reducible refine hasK hb1 ?_) | (with_reducible refine hasS ?_)))
  have e0 : w1.cell? ⟨w.heap.size, 0, none⟩ = some (.int .i64 0) := (by repeat' (first | (with_reducible refine cell1 ?_) | (with_reducible exact hb1) | (with_reducible refine cellK hb1 ?_) | ((with_reducible refine cell0 ?hb ?hv); (case hb => first | rfl | (simp; done)); (case hv => rfl)) | (with_reducible refine cellA ?_) | (with_reducible refine cellD ?_) | (with_reducible refine cellN ?_) | ((with_reducible refine cellS ?hn ?_); (case hn => first | (left; omega) | (right; omega) | (left; simp; omega))) | ((with_reducible refine has0 ?hb ?hv); (case hb => first | rfl | (simp; done)); (case hv => rfl)) | (with_reducible refine hasA ?_) | (with_reducible refine hasD ?_) | (with_reducible refine hasN ?_) | (with_reducible refine hasK hb1 ?_) | (with_reducible refine hasS ?_)))
  have e1 : w1.cell? ⟨w.heap.size, 1, none⟩ = some (.int .i64 0) := (by repeat' (first | (with_reducible refine cell1 ?_) | (with_reducible exact hb1) | (with_reducible refine cellK hb1 ?_) | ((with_reducible refine cell0 ?hb ?hv); (case hb => first | rfl | (simp; done)); (case hv => rfl)) | (with_reducible refine cellA ?_) | (with_reducible refine cellD ?_) | (with_reducible refine cellN ?_) | ((with_reducible refine cellS ?hn ?_); (case hn => first | (left; omega) | (right; omega) | (left; simp; omega))) | ((with_reducible refine has0 ?hb ?hv); (case hb => first | rfl | (simp; done)); (case hv => rfl)) | (with_reducible refine hasA ?_) | (with_reducible refine hasD ?_) | (with_reducible refine hasN ?_) | (with_reducible refine hasK hb1 ?_) | (with_reducible refine hasS ?_)))
  have e2 : w1.cell? ⟨w.heap.size, 2, none⟩ = some (.int .i64 0) := (by repeat' (first | (with_reducible refine cell1 ?_) | (with_reducible exact hb1) | (with_reducible refine cellK hb1 ?_) | ((with_reducible refine cell0 ?hb ?hv); (case hb => first | rfl | (simp; done)); (case hv => rfl)) | (with_reducible refine cellA ?_) | (with_reducible refine cellD ?_) | (with_reducible refine cellN ?_) | ((with_reducible refine cellS ?hn ?_); (case hn => first | (left; omega) | (right; omega) | (left; simp; omega))) | ((with_reducible refine has0 ?hb ?hv); (case hb => first | rfl | (simp; done)); (case hv => rfl)) | (with_reducible refine hasA ?_) | (with_reducible refine hasD ?_) | (with_reducible refine hasN ?_) | (with_reducible refine hasK hb1 ?_) | (with_reducible refine hasS ?_)))
  have e3 : w1.cell? ⟨w.heap.size, 3, none⟩ = some (.slice none 0 0) := (by repeat' (first | (with_reducible refine cell1 ?_) | (with_reducible exact hb1) | (with_reducible refine cellK hb1 ?_) | ((with_reducible refine cell0 ?hb ?hv); (case hb => first | rfl | (simp; done)); (case hv => rfl)) | (with_reducible refine cellA ?_) | (with_reducible refine cellD ?_) | (with_reducible refine cellN ?_) | ((with_reducible refine cellS ?hn ?_); (case hn => first | (left; omega) | (right; omega) | (left; simp; omega))) | ((with_reducible refine has0 ?hb ?hv); (case hb => first | rfl | (simp; done)); (case hv => rfl)) | (with_reducible refine hasA ?_) | (with_reducible refine hasD ?_) | (with_reducible refine hasN ?_) | (with_reducible refine hasK hb1 ?_) | (with_reducible refine hasS ?_)))
  have fr0 : Free w1 w.heap.size := (by repeat' (first | (with_reducible exact hb1) | (with_reducible refine freeK hb1 ?_) | ((with_reducible refine free0 ?hb); (case hb => first | rfl | (simp; done))) | (with_reducible refine freeA ?_) | (with_reducible refine freeD ?_) | (with_reducible refine freeN ?_) | (with_reducible refine freeS ?_)))
  obtain ⟨_, fr⟩ := fr0
  clear hb1 hc1 hf1
  by_cases hu : uE (s.extract 4 n) = 400
  · have HU := Lib.hid hu
    have q : (uE (s.extract 4 n) == 400) = true := by simpa using hu
    clear hu
    go_wp2_with fail
    refine bodyPost_ret (v := .tuple #[.agg #[.int .i64 0, .int .i64 0, .int .i64 0, .slice none 0 0], .int .i64 900]) (by simp [results, Try.results9, go_sem, e0, e1, e2, e3]) rfl ?_
    exact bapget_bad (by repeat' (first | (with_reducible exact bel) | (with_reducible refine Below.setCell ?_ (Nat.le_refl _) _) | (with_reducible apply Below.setCell) | (with_reducible apply Below.alloc) | (with_reducible apply Below.drew) | (with_reducible apply below_drewN) | (exact Nat.le_refl _) | omega | (simp; done) | (simp; omega))) (gE_form (by rw [HB.out]; exact HU.out)) (by decide)
  · have HU := Lib.hid hu
    have q : (uE (s.extract 4 n) == 400) = false := by simpa using hu
    clear hu
    by_cases hL : 2048 < n
    · go_wp2_with fail
      refine bodyPost_ret (v := .tuple #[.agg #[.int .i64 0, .int .i64 0, .int .i64 0, .slice none 0 0], .int .i64 901]) (by simp [results, Try.results9, go_sem, e0, e1, e2, e3]) rfl ?_
      exact bapget_bad (by repeat' (first | (with_reducible exact bel) | (with_reducible refine Below.setCell ?_ (Nat.le_refl _) _) | (with_reducible apply Below.setCell) | (with_reducible apply Below.alloc) | (with_reducible apply Below.drew) | (with_reducible apply below_drewN) | (exact Nat.le_refl _) | omega | (simp; done) | (simp; omega))) (gE_long HBD.out (by rw [HB.out]; exact HU.out) (by rw [HN.out]; exact hL)) (by decide)
    · go_wp2_with fail
      refine bodyPost_ret (v := .tuple #[.agg #[.int .i64 (byt s 0), .int .i64 (byt s 1), .int .i64 (0), .slice A (uL (s.extract 4 n)).length cap], .int .i64 0]) (by simp [results, Try.results9, go_sem, e0, e1, e2, e3]) rfl ?_
      rw [← HB.out]
      refine bapget_ok ?_ (gE_ok HBD.out (by rw [HB.out]; exact HU.out) (by rw [HN.out]; exact hL)) (by rw [hr]; rfl) ?_
      · exact (by repeat' (first | (with_reducible exact bel) | (with_reducible refine Below.setCell ?_ (Nat.le_refl _) _) | (with_reducible apply Below.setCell) | (with_reducible apply Below.alloc) | (with_reducible apply Below.drew) | (with_reducible apply below_drewN) | (exact Nat.le_refl _) | omega | (simp; done) | (simp; omega)))
      · rw [HB.out]
        refine own_base (b := w.heap.size + 1) ?_ (by omega)
        exact (by repeat' (first | (with_reducible exact HOWN.out) | (with_reducible apply ownsRow_setCell_below) | omega | (simp; done) | (simp; omega)))
end Go.Proofs.Ythhbgokjalmmpaa
