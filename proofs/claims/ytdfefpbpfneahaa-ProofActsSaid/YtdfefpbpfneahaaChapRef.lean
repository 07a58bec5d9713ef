/- Contracts of the reference's two and Chap (where Chap refuses): it answers as chapmsg.Put does. No condition. -/
import Derived.Test.YtdfefpbpfneahaaChapPut
namespace Go.Proofs.Ytdfefpbpfneahaa
open Go.RowKit
set_option linter.unusedVariables false
set_option linter.unusedSimpArgs false
attribute [local go_sem] conv1 conv1d conv1n conv1a conv1ad conv1an conv2 conv2d conv2n conv2a conv2ad conv2an conv4 conv4d conv4n conv4a conv4ad conv4an conv5 conv5d conv5n conv5a conv5ad conv5an size_nums byt_fold

theorem and255 (x : Int) : bits .and .i64 x 255 = x % 256 := i64_mask 8 (by decide) x
theorem two_any (x : Int) (h0 : 0 ≤ x) (h1 : x < 65536) (w : World) : Calls Try.prog 38 #[.int .i64 x] w fun e w' => e = .returned (.string (strOfNums [x / 256, x % 256])) ∧ w.alloc (.cells #[.int .u8 (x / 256), .int .u8 (x % 256)] 5) = w' := by
  have e1 : bits .and .i64 (x / 256) 255 = x / 256 := by rw [and255]; omega
  have e2 : bits .and .i64 x 255 = x % 256 := and255 x
  go_enter Try.func38, Try.ntmps38
  go_wp2
  go_ret
  exact ⟨rfl, rfl⟩

theorem chput_bad1 {c i : Int} {v nm : ByteArray} {w w' : World} (hb : Below w.heap.size w w') (h : c < 1 ∨ 4 < c ∨ i < 0 ∨ 255 < i ∨ 255 < v.size) :
    ChPut c i v nm w (.returned (.tuple #[.string ⟨#[]⟩, .int .i64 600])) w' := by
  refine chput_bad nm hb ?_
  rcases h with h | h | h | h | h
  · exact .inl h
  · exact .inr (.inl h)
  · exact .inr (.inr (.inl (by unfold octB; simp; omega)))
  · exact .inr (.inr (.inl (by unfold octB; simp; omega)))
  · exact .inr (.inr (.inr (.inr (by omega))))
theorem chput_bad2 {c i : Int} {v nm : ByteArray} {w w' : World} (hb : Below w.heap.size w w') (hv : valB c = true) (h : ¬ 0 < v.size) :
    ChPut c i v nm w (.returned (.tuple #[.string ⟨#[]⟩, .int .i64 600])) w' := by
  refine chput_bad nm hb (.inr (.inr (.inr (.inl ?_))))
  rw [hv, empty_of v (by omega)]; simp
theorem chput_bad3 {c i : Int} {v nm : ByteArray} {w w' : World} (hb : Below w.heap.size w w') (hv : valB c = false) (h : 0 < v.size) :
    ChPut c i v nm w (.returned (.tuple #[.string ⟨#[]⟩, .int .i64 600])) w' := by
  refine chput_bad nm hb (.inr (.inr (.inr (.inl ?_))))
  rw [hv, nonempty_of v h]; simp
theorem chput_long2 {c i : Int} {v nm : ByteArray} {w w' : World} (hb : Below w.heap.size w w') (h1 : 1 ≤ c ∧ c ≤ 4) (h3 : 0 ≤ i ∧ i ≤ 255) (h4 : valB c = decide (0 < v.size)) (h5 : v.size ≤ 255) (h6 : 253 < nm.size) :
    ChPut c i v nm w (.returned (.tuple #[.string ⟨#[]⟩, .int .i64 601])) w' := by
  refine chput_long hb h1.1 h1.2 (by unfold octB; simp; omega) ?_ (by omega) (by omega)
  by_cases h : 0 < v.size
  · rw [h4, nonempty_of v h]; simp [h]
  · rw [h4, empty_of v (by omega), decide_eq_false h]; rfl

theorem nums_app (xs ys : List Int) : strOfNums xs ++ strOfNums ys = strOfNums (xs ++ ys) := by
  apply ByteArray.ext; simp [strOfNums, ByteArray.data_append]
theorem chput_ok2 {c i : Int} {v nm B : ByteArray} {L : Nat} {w w' : World} (hb : Below w.heap.size w w') (h1 : 1 ≤ c ∧ c ≤ 4) (h3 : 0 ≤ i ∧ i ≤ 255) (h4 : valB c = decide (0 < v.size)) (h5 : v.size ≤ 255) (h6 : nm.size ≤ 253)
    (hB : chBody c v nm = B) (hL : (L : Int) = 4 + B.size) :
    ChPut c i v nm w (.returned (.tuple #[.string (strOfNums [c, i] ++ strOfNums [(L : Int) / 256, (L : Int) % 256] ++ B), .int .i64 0])) w' := by
  refine chput_ok hb h1.1 h1.2 (by unfold octB; simp; omega) ?_ (by omega) (by omega) ?_
  · by_cases h : 0 < v.size
    · rw [h4, nonempty_of v h]; simp [h]
    · rw [h4, empty_of v (by omega), decide_eq_false h]; rfl
  · unfold chText; rw [hB, nums_app, hL]; rfl
def rcFine (c i : Int) (v nm : ByteArray) : Prop := 1 ≤ c ∧ c ≤ 4 ∧ 0 ≤ i ∧ i ≤ 255 ∧ valB c = decide (0 < v.size) ∧ v.size ≤ 255 ∧ nm.size ≤ 253

set_option maxHeartbeats 1000000 in
theorem rput_e1 (i : Int) (v nm : ByteArray) (w : World) (h : ¬ rcFine 1 i v nm) :
    Calls Try.prog 32 #[.agg #[.int .i64 1, .int .i64 i, .string v, .string nm]] w (ChPut 1 i v nm w) := by
  have H := Lib.hid h; clear h
  go_enter Try.func32, Try.ntmps32
  go_wp2_with (first | fail)
  · go_ret2; exact chput_bad1 (by repeat' (first | (with_reducible exact Below.refl _ _) | (with_reducible apply Below.drew) | (with_reducible apply below_drewN) | (with_reducible apply Below.setCell) | (with_reducible apply Below.alloc) | (with_reducible refine below_step ?_ (by assumption) ?_) | omega | (simp; done) | (simp; omega))) (by omega)
  · have hs : 0 < v.size := by assumption
    go_ret2; exact chput_long2 (by repeat' (first | (with_reducible exact Below.refl _ _) | (with_reducible apply Below.drew) | (with_reducible apply below_drewN) | (with_reducible apply Below.setCell) | (with_reducible apply Below.alloc) | (with_reducible refine below_step ?_ (by assumption) ?_) | omega | (simp; done) | (simp; omega))) (by omega) (by omega) (by rw [decide_eq_true hs]; rfl) (by omega) (by omega)
  · have hs : 0 < v.size := by assumption
    exfalso; exact H.out ⟨by omega, by omega, by omega, by omega, by rw [decide_eq_true hs]; rfl, by omega, by omega⟩
  · have hs : ¬ 0 < v.size := by assumption
    go_ret2; exact chput_bad2 (by repeat' (first | (with_reducible exact Below.refl _ _) | (with_reducible apply Below.drew) | (with_reducible apply below_drewN) | (with_reducible apply Below.setCell) | (with_reducible apply Below.alloc) | (with_reducible refine below_step ?_ (by assumption) ?_) | omega | (simp; done) | (simp; omega))) rfl hs
  · go_ret2; exact chput_bad1 (by repeat' (first | (with_reducible exact Below.refl _ _) | (with_reducible apply Below.drew) | (with_reducible apply below_drewN) | (with_reducible apply Below.setCell) | (with_reducible apply Below.alloc) | (with_reducible refine below_step ?_ (by assumption) ?_) | omega | (simp; done) | (simp; omega))) (by omega)
  · go_ret2; exact chput_bad1 (by repeat' (first | (with_reducible exact Below.refl _ _) | (with_reducible apply Below.drew) | (with_reducible apply below_drewN) | (with_reducible apply Below.setCell) | (with_reducible apply Below.alloc) | (with_reducible refine below_step ?_ (by assumption) ?_) | omega | (simp; done) | (simp; omega))) (by omega)
set_option maxHeartbeats 1000000 in
theorem rput_e2 (i : Int) (v nm : ByteArray) (w : World) (h : ¬ rcFine 2 i v nm) :
    Calls Try.prog 32 #[.agg #[.int .i64 2, .int .i64 i, .string v, .string nm]] w (ChPut 2 i v nm w) := by
  have H := Lib.hid h; clear h
  go_enter Try.func32, Try.ntmps32
  go_wp2_with (first | fail)
  · go_ret2; exact chput_bad1 (by repeat' (first | (with_reducible exact Below.refl _ _) | (with_reducible apply Below.drew) | (with_reducible apply below_drewN) | (with_reducible apply Below.setCell) | (with_reducible apply Below.alloc) | (with_reducible refine below_step ?_ (by assumption) ?_) | omega | (simp; done) | (simp; omega))) (by omega)
  · have hs : 0 < v.size := by assumption
    go_ret2; exact chput_long2 (by repeat' (first | (with_reducible exact Below.refl _ _) | (with_reducible apply Below.drew) | (with_reducible apply below_drewN) | (with_reducible apply Below.setCell) | (with_reducible apply Below.alloc) | (with_reducible refine below_step ?_ (by assumption) ?_) | omega | (simp; done) | (simp; omega))) (by omega) (by omega) (by rw [decide_eq_true hs]; rfl) (by omega) (by omega)
  · have hs : 0 < v.size := by assumption
    exfalso; exact H.out ⟨by omega, by omega, by omega, by omega, by rw [decide_eq_true hs]; rfl, by omega, by omega⟩
  · have hs : ¬ 0 < v.size := by assumption
    go_ret2; exact chput_bad2 (by repeat' (first | (with_reducible exact Below.refl _ _) | (with_reducible apply Below.drew) | (with_reducible apply below_drewN) | (with_reducible apply Below.setCell) | (with_reducible apply Below.alloc) | (with_reducible refine below_step ?_ (by assumption) ?_) | omega | (simp; done) | (simp; omega))) rfl hs
  · go_ret2; exact chput_bad1 (by repeat' (first | (with_reducible exact Below.refl _ _) | (with_reducible apply Below.drew) | (with_reducible apply below_drewN) | (with_reducible apply Below.setCell) | (with_reducible apply Below.alloc) | (with_reducible refine below_step ?_ (by assumption) ?_) | omega | (simp; done) | (simp; omega))) (by omega)
  · go_ret2; exact chput_bad1 (by repeat' (first | (with_reducible exact Below.refl _ _) | (with_reducible apply Below.drew) | (with_reducible apply below_drewN) | (with_reducible apply Below.setCell) | (with_reducible apply Below.alloc) | (with_reducible refine below_step ?_ (by assumption) ?_) | omega | (simp; done) | (simp; omega))) (by omega)
set_option maxHeartbeats 1000000 in
theorem rput_e3 (c i : Int) (nm : ByteArray) (w : World) (h1 : (c == 1) = false) (h2 : (c == 2) = false) (h : ¬ rcFine c i ⟨#[]⟩ nm) :
    Calls Try.prog 32 #[.agg #[.int .i64 c, .int .i64 i, .string ⟨#[]⟩, .string nm]] w (ChPut c i ⟨#[]⟩ nm w) := by
  have H := Lib.hid h; clear h
  have hv : valB c = false := by unfold valB; rw [h1, h2]; rfl
  have HV := Lib.hid hv; clear hv
  go_enter Try.func32, Try.ntmps32
  go_wp2_with (first | fail)
  · go_ret2; exact chput_long2 (by repeat' (first | (with_reducible exact Below.refl _ _) | (with_reducible apply Below.drew) | (with_reducible apply below_drewN) | (with_reducible apply Below.setCell) | (with_reducible apply Below.alloc) | (with_reducible refine below_step ?_ (by assumption) ?_) | omega | (simp; done) | (simp; omega))) (by omega) (by omega) (by rw [HV.out]; rfl) (by decide) (by omega)
  · exfalso; exact H.out ⟨by omega, by omega, by omega, by omega, by rw [HV.out]; rfl, by decide, by omega⟩
  all_goals (go_ret2; exact chput_bad1 (by repeat' (first | (with_reducible exact Below.refl _ _) | (with_reducible apply Below.drew) | (with_reducible apply below_drewN) | (with_reducible apply Below.setCell) | (with_reducible apply Below.alloc) | (with_reducible refine below_step ?_ (by assumption) ?_) | omega | (simp; done) | (simp; omega))) (by omega))
set_option maxHeartbeats 1000000 in
theorem rput_e4 (c i : Int) (v nm : ByteArray) (w : World) (h1 : (c == 1) = false) (h2 : (c == 2) = false) (hs : 0 < v.size) :
    Calls Try.prog 32 #[.agg #[.int .i64 c, .int .i64 i, .string v, .string nm]] w (ChPut c i v nm w) := by
  have hv : valB c = false := by unfold valB; rw [h1, h2]; rfl
  have HV := Lib.hid hv; clear hv
  have hd : decide (0 < v.size) = true := by simpa using hs
  have hne : ¬ v = ByteArray.empty := by intro e; rw [e] at hs; exact absurd hs (by decide)
  go_enter Try.func32, Try.ntmps32
  go_wp2_with (first | fail)
  · go_ret2; exact chput_bad3 (by repeat' (first | (with_reducible exact Below.refl _ _) | (with_reducible apply Below.drew) | (with_reducible apply below_drewN) | (with_reducible apply Below.setCell) | (with_reducible apply Below.alloc) | (with_reducible refine below_step ?_ (by assumption) ?_) | omega | (simp; done) | (simp; omega))) HV.out hs
  all_goals (go_ret2; exact chput_bad1 (by repeat' (first | (with_reducible exact Below.refl _ _) | (with_reducible apply Below.drew) | (with_reducible apply below_drewN) | (with_reducible apply Below.setCell) | (with_reducible apply Below.alloc) | (with_reducible refine below_step ?_ (by assumption) ?_) | omega | (simp; done) | (simp; omega))) (by omega))
end Go.Proofs.Ytdfefpbpfneahaa
