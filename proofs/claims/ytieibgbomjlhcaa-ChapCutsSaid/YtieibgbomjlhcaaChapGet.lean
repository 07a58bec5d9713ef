/- The contract of chapmsg.Get: what it answers, in plain words. No condition. -/
import Derived.Test.YtieibgbomjlhcaaChapGetA
import Derived.WalkSmall
namespace Go.Proofs.Ytieibgbomjlhcaa
open Go.RowKit
set_option linter.unusedVariables false
set_option linter.unusedSimpArgs false
attribute [local go_sem] conv1 conv1d conv1n conv1a conv1ad conv1an conv2 conv2d conv2n conv2a conv2ad conv2an conv4 conv4d conv4n conv4a conv4ad conv4an conv5 conv5d conv5n conv5a conv5ad conv5an size_nums byt_fold

set_option maxHeartbeats 1000000 in
theorem get_main_p (s : ByteArray) (w : World) (h4 : 4 ≤ s.size) (n : Nat) (hn : byt s 2 * 256 + byt s 3 = (n : Int)) (HN : Hid (gN s = n)) (h5 : 4 < n) (h6 : n ≤ s.size) (v : Nat) (hv : byt (s.extract 4 n) 0 = (v : Int)) (HV : Hid (gV s = v)) (hval : valB (byt s 0) = true) (hv0 : ¬ v = 0) (hvn : v + 5 ≤ n) : Calls Try.prog 10 #[.string s] w (ChGet s w) := by
  obtain ⟨a0, a1⟩ := byt_range s 0
  obtain ⟨b0, b1⟩ := byt_range s 1
  obtain ⟨c0, c1⟩ := byt_range s 2
  obtain ⟨d0, d1⟩ := byt_range s 3
  have h40 : 0 < s.size := by omega
  have h41 : 1 < s.size := by omega
  have h42 : 2 < s.size := by omega
  have h43 : 3 < s.size := by omega
  have hor := or_bytes s s 2 3
  have hsz : (s.extract 4 n).size = n - 4 := by rw [size_ext]; omega
  have hv1 : v ≤ 255 := by have := byt_range (s.extract 4 n) 0; omega
  have he1 : (s.extract 4 n).toList.isEmpty = false := nonempty_of _ (by omega)
  have he2 : ¬ (s.extract 4 n).toList = [] := by intro h; rw [h] at he1; cases he1
  have h7 : 0 < n - 4 := by omega
  have hc1 : 1 ≤ byt s 0 := by unfold valB at hval; simp at hval; omega
  have hc2 : byt s 0 ≤ 4 := by unfold valB at hval; simp at hval; omega
  have hb0 : ((v : Int) == 0) = false := by simpa using hv0
  go_enter Try.func10, Try.ntmps10
  go_wp2_with (first | (go_at_call 14; refine (valued_any _ _).mono ?_; rintro e w' ⟨rfl, rfl⟩))
  go_region
  go_wp2_with (first | (go_at_call 14; refine (valued_any _ _).mono ?_; rintro e w' ⟨rfl, rfl⟩))
  go_region
  go_wp2_with (first | (go_at_call 14; refine (valued_any _ _).mono ?_; rintro e w' ⟨rfl, rfl⟩))
  go_region
  go_wp2
  · refine bodyPost_ret (v := .tuple #[.agg #[.int .i64 0, .int .i64 0, .string ⟨#[]⟩, .string ⟨#[]⟩], .int .i64 601]) (by simp [results, Try.results10, go_sem]) rfl ?_
    exact chget_long (by repeat' (first | (with_reducible exact Below.refl _ _) | (with_reducible apply Below.drew) | (with_reducible apply below_drewN) | (with_reducible apply Below.setCell) | (with_reducible apply Below.alloc) | (with_reducible refine below_step ?_ (by assumption) ?_) | omega | (simp; done) | (simp; omega))) (gBad_no (by rw [HN.out]; omega) (.inr (by rw [HN.out, HV.out]; omega))) (by rw [HN.out]; unfold gFrom; rw [hval, HV.out]; simp; omega)
  · refine bodyPost_ret (v := .tuple #[.agg #[.int .i64 (byt s 0), .int .i64 (byt s 1), .string ((s.extract 4 n).extract 1 (1 + v)), .string ((s.extract 4 n).extract (1 + v) (n - 4))], .int .i64 0]) (by simp [results, Try.results10, go_sem]) rfl ?_
    exact chget_ok (by repeat' (first | (with_reducible exact Below.refl _ _) | (with_reducible apply Below.drew) | (with_reducible apply below_drewN) | (with_reducible apply Below.setCell) | (with_reducible apply Below.alloc) | (with_reducible refine below_step ?_ (by assumption) ?_) | omega | (simp; done) | (simp; omega))) (gBad_no (by rw [HN.out]; omega) (.inr (by rw [HN.out, HV.out]; omega))) (by rw [HN.out]; unfold gFrom; rw [hval, HV.out]; simp; omega) (by rw [hval, HV.out, ext_ext _ _ _ _ _ (by omega), if_pos rfl]; congr 1; omega) (by rw [HN.out]; unfold gFrom; rw [hval, HV.out, ext_ext _ _ _ _ _ (by omega), if_pos rfl]; congr 1 <;> omega)
theorem get_main (s : ByteArray) (w : World) (h4 : 4 ≤ s.size) (n : Nat) (hn : byt s 2 * 256 + byt s 3 = (n : Int)) (HN : Hid (gN s = n)) (h5 : 4 < n) (h6 : n ≤ s.size) : Calls Try.prog 10 #[.string s] w (ChGet s w) := by
  obtain ⟨v, hv⟩ : ∃ v : Nat, byt (s.extract 4 n) 0 = (v : Int) := ⟨(byt (s.extract 4 n) 0).toNat, by have := byt_range (s.extract 4 n) 0; omega⟩
  have HV : Hid (gV s = v) := by
    have e := byt_ext s 4 n 0 (by omega)
    have e2 := gV_eq s
    show gV s = v
    simp at e; omega
  by_cases hval : valB (byt s 0) = true ∧ ¬ v = 0 ∧ v + 5 ≤ n
  · exact get_main_p s w h4 n hn HN h5 h6 v hv HV hval.1 hval.2.1 hval.2.2
  · exact get_main_n s w h4 n hn HN h5 h6 v hv HV hval
theorem get_any (s : ByteArray) (w : World) : Calls Try.prog 10 #[.string s] w (ChGet s w) := by
  by_cases h4 : 4 ≤ s.size
  · have e := gN_eq s
    by_cases h5 : gN s < 4 ∨ s.size < gN s
    · exact get_wrong s w h4 (gN s) e rfl h5
    · by_cases h6 : gN s = 4
      · exact get_four s w h4 (by rw [e, h6]; rfl) h6
      · exact get_main s w h4 (gN s) e rfl (by omega) (by omega)
  · exact get_short s w h4
end Go.Proofs.Ytieibgbomjlhcaa
