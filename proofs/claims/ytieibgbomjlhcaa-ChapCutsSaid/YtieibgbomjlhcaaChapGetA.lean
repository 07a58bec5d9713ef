/- The contract of chapmsg.Get: what it answers, in plain words. No condition. -/
import Derived.Test.YtieibgbomjlhcaaChapPut
import Derived.WalkSmall
namespace Go.Proofs.Ytieibgbomjlhcaa
open Go.RowKit
set_option linter.unusedVariables false
set_option linter.unusedSimpArgs false
attribute [local go_sem] conv1 conv1d conv1n conv1a conv1ad conv1an conv2 conv2d conv2n conv2a conv2ad conv2an conv4 conv4d conv4n conv4a conv4ad conv4an conv5 conv5d conv5n conv5a conv5ad conv5an size_nums byt_fold

/-! ### Get -/
def gN (s : ByteArray) : Nat := (byt s 2 * 256 + byt s 3).toNat
def gV (s : ByteArray) : Nat := (byt s 4).toNat
def gBad (s : ByteArray) : Bool := decide (s.size < 4 ∨ byt s 0 < 1 ∨ 4 < byt s 0 ∨ gN s < 4 ∨ s.size < gN s) || (valB (byt s 0) && decide (gN s < 5 ∨ gV s = 0 ∨ gN s < gV s + 5))
def gFrom (s : ByteArray) : Nat := if valB (byt s 0) then 5 + gV s else 4
def gE (s : ByteArray) : Int := if gBad s then 600 else if gFrom s + 253 < gN s then 601 else 0
def gCode (s : ByteArray) : Int := if gE s = 0 then byt s 0 else 0
def gId (s : ByteArray) : Int := if gE s = 0 then byt s 1 else 0
def gVal (s : ByteArray) : ByteArray := if gE s = 0 ∧ valB (byt s 0) = true then s.extract 5 (5 + gV s) else ⟨#[]⟩
def gNm (s : ByteArray) : ByteArray := if gE s = 0 then s.extract (gFrom s) (gN s) else ⟨#[]⟩
def ChGet (s : ByteArray) (w : World) (e : Ending) (w' : World) : Prop :=
  e = .returned (.tuple #[.agg #[.int .i64 (gCode s), .int .i64 (gId s), .string (gVal s), .string (gNm s)], .int .i64 (gE s)]) ∧ Below w.heap.size w w'

theorem chget_bad {s : ByteArray} {w w' : World} (hb : Below w.heap.size w w') (h : gBad s = true) :
    ChGet s w (.returned (.tuple #[.agg #[.int .i64 0, .int .i64 0, .string ⟨#[]⟩, .string ⟨#[]⟩], .int .i64 600])) w' := by
  have e : gE s = 600 := by unfold gE; rw [h]; rfl
  refine ⟨?_, hb⟩
  unfold gCode gId gVal gNm; rw [e]; rfl
theorem chget_long {s : ByteArray} {w w' : World} (hb : Below w.heap.size w w') (h : gBad s = false) (h2 : gFrom s + 253 < gN s) :
    ChGet s w (.returned (.tuple #[.agg #[.int .i64 0, .int .i64 0, .string ⟨#[]⟩, .string ⟨#[]⟩], .int .i64 601])) w' := by
  have e : gE s = 601 := by unfold gE; rw [h, if_neg (by simp), if_pos h2]
  refine ⟨?_, hb⟩
  unfold gCode gId gVal gNm; rw [e]; rfl
theorem chget_ok {s : ByteArray} {w w' : World} {v nm : ByteArray} (hb : Below w.heap.size w w') (h : gBad s = false) (h2 : gN s ≤ gFrom s + 253)
    (hv : v = if valB (byt s 0) = true then s.extract 5 (5 + gV s) else ⟨#[]⟩) (hn : nm = s.extract (gFrom s) (gN s)) :
    ChGet s w (.returned (.tuple #[.agg #[.int .i64 (byt s 0), .int .i64 (byt s 1), .string v, .string nm], .int .i64 0])) w' := by
  have e : gE s = 0 := by unfold gE; rw [h, if_neg (by simp), if_neg (by omega)]
  refine ⟨?_, hb⟩
  unfold gCode gId gVal gNm; rw [e, hv, hn]; simp
theorem gBad_yes {s : ByteArray} (h : s.size < 4 ∨ byt s 0 < 1 ∨ 4 < byt s 0 ∨ gN s < 4 ∨ s.size < gN s) : gBad s = true := by
  unfold gBad; rw [decide_eq_true h]; rfl
theorem gBad_yes2 {s : ByteArray} (hv : valB (byt s 0) = true) (h : gN s < 5 ∨ gV s = 0 ∨ gN s < gV s + 5) : gBad s = true := by
  unfold gBad; rw [hv, decide_eq_true h]; simp
theorem gBad_no {s : ByteArray} (h : ¬ (s.size < 4 ∨ byt s 0 < 1 ∨ 4 < byt s 0 ∨ gN s < 4 ∨ s.size < gN s)) (h2 : valB (byt s 0) = false ∨ ¬ (gN s < 5 ∨ gV s = 0 ∨ gN s < gV s + 5)) : gBad s = false := by
  unfold gBad
  rw [decide_eq_false h]
  rcases h2 with h2 | h2
  · rw [h2]; rfl
  · rw [decide_eq_false h2]; simp
theorem gN_eq (s : ByteArray) : byt s 2 * 256 + byt s 3 = (gN s : Int) := by
  obtain ⟨a0, a1⟩ := byt_range s 2
  obtain ⟨b0, b1⟩ := byt_range s 3
  unfold gN; omega
theorem gV_eq (s : ByteArray) : byt s 4 = (gV s : Int) := by
  obtain ⟨a0, a1⟩ := byt_range s 4
  unfold gV; omega
set_option maxHeartbeats 1000000 in
theorem get_short (s : ByteArray) (w : World) (h4 : ¬ 4 ≤ s.size) : Calls Try.prog 10 #[.string s] w (ChGet s w) := by
  go_enter Try.func10, Try.ntmps10
  go_wp2
  refine bodyPost_ret (v := .tuple #[.agg #[.int .i64 0, .int .i64 0, .string ⟨#[]⟩, .string ⟨#[]⟩], .int .i64 600]) (by simp [results, Try.results10, go_sem]) rfl ?_
  exact chget_bad (by repeat' (first | (with_reducible exact Below.refl _ _) | (with_reducible apply Below.drew) | (with_reducible apply below_drewN) | (with_reducible apply Below.setCell) | (with_reducible apply Below.alloc) | (with_reducible refine below_step ?_ (by assumption) ?_) | omega | (simp; done) | (simp; omega))) (gBad_yes (.inl (by omega)))
set_option maxHeartbeats 1000000 in
theorem get_wrong (s : ByteArray) (w : World) (h4 : 4 ≤ s.size) (n : Nat) (hn : byt s 2 * 256 + byt s 3 = (n : Int)) (HN : Hid (gN s = n)) (hw : n < 4 ∨ s.size < n) : Calls Try.prog 10 #[.string s] w (ChGet s w) := by
  obtain ⟨a0, a1⟩ := byt_range s 0
  obtain ⟨b0, b1⟩ := byt_range s 1
  obtain ⟨c0, c1⟩ := byt_range s 2
  obtain ⟨d0, d1⟩ := byt_range s 3
  have h40 : 0 < s.size := by omega
  have h41 : 1 < s.size := by omega
  have h42 : 2 < s.size := by omega
  have h43 : 3 < s.size := by omega
  have hor := or_bytes s s 2 3
  go_enter Try.func10, Try.ntmps10
  go_wp2_with (first | (go_at_call 14; refine (valued_any _ _).mono ?_; rintro e w' ⟨rfl, rfl⟩))
  go_region
  go_wp2_with (first | (go_at_call 14; refine (valued_any _ _).mono ?_; rintro e w' ⟨rfl, rfl⟩))
  go_quiet (fail)
  go_wp2_with (first | (go_at_call 14; refine (valued_any _ _).mono ?_; rintro e w' ⟨rfl, rfl⟩))
  all_goals
    refine bodyPost_ret (v := .tuple #[.agg #[.int .i64 0, .int .i64 0, .string ⟨#[]⟩, .string ⟨#[]⟩], .int .i64 600]) (by simp [results, Try.results10, go_sem]) rfl ?_
    exact chget_bad (by repeat' (first | (with_reducible exact Below.refl _ _) | (with_reducible apply Below.drew) | (with_reducible apply below_drewN) | (with_reducible apply Below.setCell) | (with_reducible apply Below.alloc) | (with_reducible refine below_step ?_ (by assumption) ?_) | omega | (simp; done) | (simp; omega))) (gBad_yes (by rw [HN.out]; omega))
set_option maxHeartbeats 1000000 in
theorem get_four (s : ByteArray) (w : World) (h4 : 4 ≤ s.size) (hn : byt s 2 * 256 + byt s 3 = 4) (HN : Hid (gN s = 4)) : Calls Try.prog 10 #[.string s] w (ChGet s w) := by
  obtain ⟨a0, a1⟩ := byt_range s 0
  obtain ⟨b0, b1⟩ := byt_range s 1
  obtain ⟨c0, c1⟩ := byt_range s 2
  obtain ⟨d0, d1⟩ := byt_range s 3
  have h40 : 0 < s.size := by omega
  have h41 : 1 < s.size := by omega
  have h42 : 2 < s.size := by omega
  have h43 : 3 < s.size := by omega
  have hor := or_bytes s s 2 3
  have he : s.extract 4 4 = ⟨#[]⟩ := ext_none _ _ _ (by omega)
  cases hv : valB (byt s 0)
  all_goals
    go_enter Try.func10, Try.ntmps10
    go_wp2_with (first | (go_at_call 14; refine (valued_any _ _).mono ?_; rintro e w' ⟨rfl, rfl⟩))
    go_region
    go_wp2_with (first | (go_at_call 14; refine (valued_any _ _).mono ?_; rintro e w' ⟨rfl, rfl⟩))
    go_quiet (fail)
    go_wp2_with (first | (go_at_call 14; refine (valued_any _ _).mono ?_; rintro e w' ⟨rfl, rfl⟩))
    all_goals first
      | ((refine bodyPost_ret (v := .tuple #[.agg #[.int .i64 0, .int .i64 0, .string ⟨#[]⟩, .string ⟨#[]⟩], .int .i64 600]) (by simp [results, Try.results10, go_sem]) rfl ?_); exact chget_bad (by repeat' (first | (with_reducible exact Below.refl _ _) | (with_reducible apply Below.drew) | (with_reducible apply below_drewN) | (with_reducible apply Below.setCell) | (with_reducible apply Below.alloc) | (with_reducible refine below_step ?_ (by assumption) ?_) | omega | (simp; done) | (simp; omega))) (gBad_yes (by rw [HN.out]; omega)))
      | ((refine bodyPost_ret (v := .tuple #[.agg #[.int .i64 0, .int .i64 0, .string ⟨#[]⟩, .string ⟨#[]⟩], .int .i64 600]) (by simp [results, Try.results10, go_sem]) rfl ?_); exact chget_bad (by repeat' (first | (with_reducible exact Below.refl _ _) | (with_reducible apply Below.drew) | (with_reducible apply below_drewN) | (with_reducible apply Below.setCell) | (with_reducible apply Below.alloc) | (with_reducible refine below_step ?_ (by assumption) ?_) | omega | (simp; done) | (simp; omega))) (gBad_yes2 hv (by rw [HN.out]; omega)))
      | ((refine bodyPost_ret (v := .tuple #[.agg #[.int .i64 (byt s 0), .int .i64 (byt s 1), .string ⟨#[]⟩, .string ⟨#[]⟩], .int .i64 0]) (by simp [results, Try.results10, go_sem]; rfl) rfl ?_); exact chget_ok (by repeat' (first | (with_reducible exact Below.refl _ _) | (with_reducible apply Below.drew) | (with_reducible apply below_drewN) | (with_reducible apply Below.setCell) | (with_reducible apply Below.alloc) | (with_reducible refine below_step ?_ (by assumption) ?_) | omega | (simp; done) | (simp; omega))) (gBad_no (by rw [HN.out]; omega) (.inl hv)) (by rw [HN.out]; unfold gFrom; rw [hv]; simp) (by rw [hv]; rfl) (by rw [HN.out]; unfold gFrom; rw [hv]; exact (ext_none _ _ _ (Nat.le_refl _)).symm))
set_option maxHeartbeats 1000000 in
theorem get_main_n (s : ByteArray) (w : World) (h4 : 4 ≤ s.size) (n : Nat) (hn : byt s 2 * 256 + byt s 3 = (n : Int)) (HN : Hid (gN s = n)) (h5 : 4 < n) (h6 : n ≤ s.size) (v : Nat) (hv : byt (s.extract 4 n) 0 = (v : Int)) (HV : Hid (gV s = v)) (hval : ¬ (valB (byt s 0) = true ∧ ¬ v = 0 ∧ v + 5 ≤ n)) : Calls Try.prog 10 #[.string s] w (ChGet s w) := by
  obtain ⟨a0, a1⟩ := byt_range s 0
  obtain ⟨b0, b1⟩ := byt_range s 1
  obtain ⟨c0, c1⟩ := byt_range s 2
  obtain ⟨d0, d1⟩ := byt_range s 3
  have h40 : 0 < s.size := by omega
  have h41 : 1 < s.size := by omega
  have h42 : 2 < s.size := by omega
  have h43 : 3 < s.size := by omega
  have hor := or_bytes s s 2 3
  have hsz : (s.extract 4 n).size = n - 4 := by rw [size_ext]; omega
  have hv1 : v ≤ 255 := by have := byt_range (s.extract 4 n) 0; omega
  have he1 : (s.extract 4 n).toList.isEmpty = false := nonempty_of _ (by omega)
  have he2 : ¬ (s.extract 4 n).toList = [] := by intro h; rw [h] at he1; cases he1
  have h7 : 0 < n - 4 := by omega
  go_enter Try.func10, Try.ntmps10
  go_wp2_with (first | (go_at_call 14; refine (valued_any _ _).mono ?_; rintro e w' ⟨rfl, rfl⟩))
  go_region
  go_wp2_with (first | (go_at_call 14; refine (valued_any _ _).mono ?_; rintro e w' ⟨rfl, rfl⟩))
  go_quiet (fail)
  go_wp2_with (first | (go_at_call 14; refine (valued_any _ _).mono ?_; rintro e w' ⟨rfl, rfl⟩))
  · refine bodyPost_ret (v := .tuple #[.agg #[.int .i64 0, .int .i64 0, .string ⟨#[]⟩, .string ⟨#[]⟩], .int .i64 600]) (by simp [results, Try.results10, go_sem]) rfl ?_
    have h0 : v = 0 := by assumption
    exact chget_bad (by repeat' (first | (with_reducible exact Below.refl _ _) | (with_reducible apply Below.drew) | (with_reducible apply below_drewN) | (with_reducible apply Below.setCell) | (with_reducible apply Below.alloc) | (with_reducible refine below_step ?_ (by assumption) ?_) | omega | (simp; done) | (simp; omega))) (gBad_yes2 (by assumption) (by rw [HN.out, HV.out]; omega))
  · refine bodyPost_ret (v := .tuple #[.agg #[.int .i64 0, .int .i64 0, .string ⟨#[]⟩, .string ⟨#[]⟩], .int .i64 600]) (by simp [results, Try.results10, go_sem]) rfl ?_
    have h0 : ((v : Int) == 0) = true ∨ ((n - 4 : Nat) : Int) - 1 < v := by assumption
    exact chget_bad (by repeat' (first | (with_reducible exact Below.refl _ _) | (with_reducible apply Below.drew) | (with_reducible apply below_drewN) | (with_reducible apply Below.setCell) | (with_reducible apply Below.alloc) | (with_reducible refine below_step ?_ (by assumption) ?_) | omega | (simp; done) | (simp; omega))) (gBad_yes2 (by assumption) (by rw [HN.out, HV.out]; simp at h0; omega))
  · exfalso
    have h0 : ((v : Int) == 0) = false ∧ (v : Int) ≤ ((n - 4 : Nat) : Int) - 1 := by assumption
    exact hval ⟨by assumption, by assumption, by omega⟩
  · refine bodyPost_ret (v := .tuple #[.agg #[.int .i64 0, .int .i64 0, .string ⟨#[]⟩, .string ⟨#[]⟩], .int .i64 601]) (by simp [results, Try.results10, go_sem]) rfl ?_
    have h0 : valB (byt s 0) = false := by assumption
    exact chget_long (by repeat' (first | (with_reducible exact Below.refl _ _) | (with_reducible apply Below.drew) | (with_reducible apply below_drewN) | (with_reducible apply Below.setCell) | (with_reducible apply Below.alloc) | (with_reducible refine below_step ?_ (by assumption) ?_) | omega | (simp; done) | (simp; omega))) (gBad_no (by rw [HN.out]; omega) (.inl h0)) (by rw [HN.out]; unfold gFrom; rw [h0]; simp; omega)
  · have h0 : valB (byt s 0) = false := by assumption
    refine bodyPost_ret (v := .tuple #[.agg #[.int .i64 (byt s 0), .int .i64 (byt s 1), .string ⟨#[]⟩, .string (s.extract 4 n)], .int .i64 0]) (by simp [results, Try.results10, go_sem]) rfl ?_
    exact chget_ok (by repeat' (first | (with_reducible exact Below.refl _ _) | (with_reducible apply Below.drew) | (with_reducible apply below_drewN) | (with_reducible apply Below.setCell) | (with_reducible apply Below.alloc) | (with_reducible refine below_step ?_ (by assumption) ?_) | omega | (simp; done) | (simp; omega))) (gBad_no (by rw [HN.out]; omega) (.inl h0)) (by rw [HN.out]; unfold gFrom; rw [h0]; simp; omega) (by rw [h0]; rfl) (by rw [HN.out]; unfold gFrom; rw [h0]; rfl)
  all_goals
    refine bodyPost_ret (v := .tuple #[.agg #[.int .i64 0, .int .i64 0, .string ⟨#[]⟩, .string ⟨#[]⟩], .int .i64 600]) (by simp [results, Try.results10, go_sem]) rfl ?_
    exact chget_bad (by repeat' (first | (with_reducible exact Below.refl _ _) | (with_reducible apply Below.drew) | (with_reducible apply below_drewN) | (with_reducible apply Below.setCell) | (with_reducible apply Below.alloc) | (with_reducible refine below_step ?_ (by assumption) ?_) | omega | (simp; done) | (simp; omega))) (gBad_yes (by rw [HN.out]; omega))
end Go.Proofs.Ytieibgbomjlhcaa
