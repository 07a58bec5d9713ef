/- The contract of the reference's Again: as package chap's. No condition but what a side keeps. -/
import Derived.Test.YtdfefpbpfneahaaPrfR
namespace Go.Proofs.Ytdfefpbpfneahaa
open Go.RowKit
set_option linter.unusedVariables false
set_option linter.unusedSimpArgs false
attribute [local go_sem] conv1 conv1d conv1n conv1a conv1ad conv1an conv2 conv2d conv2n conv2a conv2ad conv2an conv4 conv4d conv4n conv4a conv4ad conv4an conv5 conv5d conv5n conv5a conv5ad conv5an size_nums byt_fold
def RAg (s : PS) (g : Nat) (w : World) (e : Ending) (w' : World) : Prop := e = .returned (.tuple #[pAgV s, .int .i64 (pAgE s)]) ∧ RAt w' g (pAg s) ∧ w.grownBy w' (some g)
theorem rsC7 (ex ch : ByteArray) (left : Int) (st pr : Bool) (nm se : ByteArray) (tk fl : Bool) (x : Int) : (rsC ⟨ex, ch, left, st, pr, nm, se, tk, fl⟩).setIfInBounds 7 (.int .i64 x) = rsC ⟨ex, ch, x, st, pr, nm, se, tk, fl⟩ := rfl
theorem rsC72 (ex ch : ByteArray) (left : Int) (st pr : Bool) (nm se : ByteArray) (tk fl : Bool) (x : Int) : ((rsC ⟨ex, ch, left, st, pr, nm, se, tk, fl⟩).setIfInBounds 7 (.int .i64 x)).setIfInBounds 2 (.bool true) = rsC ⟨ex, ch, x, st, pr, nm, se, tk, true⟩ := rfl
set_option maxHeartbeats 1000000 in
theorem ragain_any (g : Nat) (s : PS) (w : World) (hp : RAt w g s) (hi : Inv s) : Calls Try.prog 22 #[.pointer (some ⟨g, 0, none⟩)] w (RAg s g w) := by
  obtain ⟨ex, ch, left, st, pr, nm, se, tk, fl⟩ := s
  obtain ⟨c0, c1, c2, c3, c4, c5, c6, c7⟩ := hp.cells
  have hst := hi.st
  have hl := hi.left
  simp only at hst hl c0 c1 c2 c3 c4 c5 c6 c7
  clear hi
  have hfr := Blk.frozen hp
  have hlt := Blk.lt hp
  have HP := Lib.hid hp; clear hp
  have hpa : ∀ o, RAt (w.alloc o) g ⟨ex, ch, left, st, pr, nm, se, tk, fl⟩ := fun o => HP.out.alloc o
  have HPA := Lib.hid hpa; clear hpa
  cases hx : !st || pr || fl
  case true =>
    have h3 : ch.toList.isEmpty = true ∨ (ch.toList.isEmpty = false ∧ pr = true) ∨ (ch.toList.isEmpty = false ∧ pr = false ∧ fl = true) := by
      rw [hst] at hx
      cases h : ch.toList.isEmpty
      · right
        rw [h] at hx
        cases pr
        · right; exact ⟨rfl, rfl, by simpa using hx⟩
        · left; exact ⟨rfl, rfl⟩
      · left; rfl
    have HX : Hid (pAgE ⟨ex, ch, left, st, pr, nm, se, tk, fl⟩ = 1601 ∧ pAg ⟨ex, ch, left, st, pr, nm, se, tk, fl⟩ = ⟨ex, ch, left, st, pr, nm, se, tk, fl⟩) := Lib.hid ⟨by unfold pAgE; rw [if_pos hx], by unfold pAg; rw [if_pos hx]⟩
    clear hx hl hst
    rcases h3 with h3 | ⟨h3, rfl⟩ | ⟨h3, rfl, rfl⟩
    all_goals
      go_enter Try.func22, Try.ntmps22
      go_wp2_with fail
      refine bodyPost_ret (v := .tuple #[.agg #[.int .i64 0, .int .i64 0, .string ⟨#[]⟩, .string ⟨#[]⟩], .int .i64 1601]) (by simp [results, Try.results22, go_sem]) rfl ?_
      exact ⟨by unfold pAgV; rw [HX.out.1]; rfl, by rw [HX.out.2]; exact HPA.out _, gr_alloc (gr_refl _ _) _⟩
  obtain ⟨⟨rfl, rfl⟩, rfl⟩ : (st = true ∧ pr = false) ∧ fl = false := by simpa using hx
  clear hx
  have h3 : ch.toList.isEmpty = false := by
    cases h : ch.toList.isEmpty
    · rfl
    · rw [h] at hst; cases hst
  have hl2 := hl rfl
  clear hl hst
  have hw : IntKind.i64.wrap (left - 1) = left - 1 := IntWalk.i64_in _ (by omega)
  by_cases h0 : left - 1 = 0
  · obtain rfl : left = 1 := by omega
    go_enter Try.func22, Try.ntmps22
    go_wp2_with fail
    refine bodyPost_ret (v := .tuple #[.agg #[.int .i64 0, .int .i64 0, .string ⟨#[]⟩, .string ⟨#[]⟩], .int .i64 1601]) (by simp [results, Try.results22, go_sem]) rfl ?_
    refine ⟨rfl, ?_, (by repeat' (first | (with_reducible exact gr_refl w g) | (with_reducible exact gr_refl _ _) | (with_reducible refine gr_set ?_ (by first | (left; rfl) | (right; simp; done) | (right; simp; omega) | (left; omega)) _) | (with_reducible refine gr_alloc ?_ _) | (with_reducible refine gr_drew ?_) | (with_reducible refine gr_drewN ?_ _)))⟩
    have h := Blk.set_ (Blk.set_ HP.out 7 (.int .i64 0)) 2 (.bool true)
    rw [rsC72] at h
    show Blk _ g 56 (rsC ⟨ex, ch, 0, true, false, nm, se, tk, true⟩)
    exact (by repeat' (first | (with_reducible exact h) | (with_reducible refine Blk.far ?_ (by first | omega | (simp; done) | (simp; omega)) _) | (with_reducible refine Blk.alloc ?_ _) | (with_reducible refine Blk.drew ?_) | (with_reducible refine Blk.drewN ?_ _)))
  · obtain ⟨l2, hl3⟩ : ∃ l2, left - 1 = l2 := ⟨_, rfl⟩
    have HX : Hid (pAgE ⟨ex, ch, left, true, false, nm, se, tk, false⟩ = 0 ∧ pAg ⟨ex, ch, left, true, false, nm, se, tk, false⟩ = ⟨ex, ch, l2, true, false, nm, se, tk, false⟩) := Lib.hid ⟨by unfold pAgE; rw [if_neg (by simp), if_neg h0], by unfold pAg; rw [if_neg (by simp), if_neg h0, hl3]⟩
    have hz : ¬ l2 ≤ 0 := by omega
    rw [hl3] at hw h0
    clear h0
    go_enter Try.func22, Try.ntmps22
    go_wp2_with fail
    have hp2 : RAt ((w.setCell ⟨g, 7, none⟩ (.int .i64 l2)).alloc (.cells #[.int .i64 0, .int .i64 0, .string ⟨#[]⟩, .string ⟨#[]⟩] 33)) g ⟨ex, ch, l2, true, false, nm, se, tk, false⟩ := by
      have h := Blk.set_ HP.out 7 (.int .i64 l2)
      rw [rsC7] at h
      exact Blk.alloc h _
    refine (rask_any g _ _ hp2).mono ?_
    rintro e w1 ⟨rfl, hb1⟩
    obtain ⟨hc1, hf1⟩ := bcell hb1
    have hz1 := hb1.size
    simp at hz1
    have z1 : w.heap.size < w1.heap.size := by omega
    have hb3 : Blk w1 g 56 (rsC ⟨ex, ch, l2, true, false, nm, se, tk, false⟩) := Blk.keep hp2 hb1
    have hg3 : w.grownBy w1 (some g) := gr_below (by repeat' (first | (with_reducible exact gr_refl w g) | (with_reducible exact gr_refl _ _) | (with_reducible refine gr_set ?_ (by first | (left; rfl) | (right; simp; done) | (right; simp; omega) | (left; omega)) _) | (with_reducible refine gr_alloc ?_ _) | (with_reducible refine gr_drew ?_) | (with_reducible refine gr_drewN ?_ _))) hb1
    have HB3 := Lib.hid hb3; have HG3 := Lib.hid hg3; clear hb3 hg3
    have r0 : w1.cell? ⟨w.heap.size, 0, none⟩ = some (.int .i64 0) := (by repeat' (first | (with_reducible refine cell1 ?_) | (with_reducible exact hb1) | (with_reducible refine cellK hb1 ?_) | ((with_reducible refine cell0 ?hb ?hv); (case hb => first | rfl | (simp; done)); (case hv => rfl)) | (with_reducible refine cellA ?_) | (with_reducible refine cellD ?_) | (with_reducible refine cellN ?_) | ((with_reducible refine cellS ?hn ?_); (case hn => first | (left; omega) | (right; omega) | (left; simp; omega))) | ((with_reducible refine has0 ?hb ?hv); (case hb => first | rfl | (simp; done)); (case hv => rfl)) | (with_reducible refine hasA ?_) | (with_reducible refine hasD ?_) | (with_reducible refine hasN ?_) | (with_reducible refine hasK hb1 ?_) | (with_reducible refine hasS ?_)))
    have r1 : w1.cell? ⟨w.heap.size, 1, none⟩ = some (.int .i64 0) := (by repeat' (first | (with_reducible refine cell1 ?_) | (with_reducible exact hb1) | (with_reducible refine cellK hb1 ?_) | ((with_reducible refine cell0 ?hb ?hv); (case hb => first | rfl | (simp; done)); (case hv => rfl)) | (with_reducible refine cellA ?_) | (with_reducible refine cellD ?_) | (with_reducible refine cellN ?_) | ((with_reducible refine cellS ?hn ?_); (case hn => first | (left; omega) | (right; omega) | (left; simp; omega))) | ((with_reducible refine has0 ?hb ?hv); (case hb => first | rfl | (simp; done)); (case hv => rfl)) | (with_reducible refine hasA ?_) | (with_reducible refine hasD ?_) | (with_reducible refine hasN ?_) | (with_reducible refine hasK hb1 ?_) | (with_reducible refine hasS ?_)))
    have r2 : w1.cell? ⟨w.heap.size, 2, none⟩ = some (.string ⟨#[]⟩) := (by repeat' (first | (with_reducible refine cell1 ?_) | (with_reducible exact hb1) | (with_reducible refine cellK hb1 ?_) | ((with_reducible refine cell0 ?hb ?hv); (case hb => first | rfl | (simp; done)); (case hv => rfl)) | (with_reducible refine cellA ?_) | (with_reducible refine cellD ?_) | (with_reducible refine cellN ?_) | ((with_reducible refine cellS ?hn ?_); (case hn => first | (left; omega) | (right; omega) | (left; simp; omega))) | ((with_reducible refine has0 ?hb ?hv); (case hb => first | rfl | (simp; done)); (case hv => rfl)) | (with_reducible refine hasA ?_) | (with_reducible refine hasD ?_) | (with_reducible refine hasN ?_) | (with_reducible refine hasK hb1 ?_) | (with_reducible refine hasS ?_)))
    have r3 : w1.cell? ⟨w.heap.size, 3, none⟩ = some (.string ⟨#[]⟩) := (by repeat' (first | (with_reducible refine cell1 ?_) | (with_reducible exact hb1) | (with_reducible refine cellK hb1 ?_) | ((with_reducible refine cell0 ?hb ?hv); (case hb => first | rfl | (simp; done)); (case hv => rfl)) | (with_reducible refine cellA ?_) | (with_reducible refine cellD ?_) | (with_reducible refine cellN ?_) | ((with_reducible refine cellS ?hn ?_); (case hn => first | (left; omega) | (right; omega) | (left; simp; omega))) | ((with_reducible refine has0 ?hb ?hv); (case hb => first | rfl | (simp; done)); (case hv => rfl)) | (with_reducible refine hasA ?_) | (with_reducible refine hasD ?_) | (with_reducible refine hasN ?_) | (with_reducible refine hasK hb1 ?_) | (with_reducible refine hasS ?_)))
    go_wp2_with fail
    refine bodyPost_ret (v := .tuple #[.agg #[.int .i64 1, .int .i64 1, .string ch, .string nm], .int .i64 0]) (by simp [results, Try.results22, go_sem, r0, r1, r2, r3]) rfl ?_
    refine ⟨by unfold pAgV; rw [HX.out.1]; rfl, ?_, (by repeat' (first | (with_reducible exact HG3.out) | (with_reducible exact gr_refl _ _) | (with_reducible refine gr_set ?_ (by first | (left; rfl) | (right; simp; done) | (right; simp; omega) | (left; omega)) _) | (with_reducible refine gr_alloc ?_ _) | (with_reducible refine gr_drew ?_) | (with_reducible refine gr_drewN ?_ _)))⟩
    rw [HX.out.2]
    show Blk _ g 56 (rsC ⟨ex, ch, l2, true, false, nm, se, tk, false⟩)
    exact (by repeat' (first | (with_reducible exact HB3.out) | (with_reducible refine Blk.far ?_ (by first | omega | (simp; done) | (simp; omega)) _) | (with_reducible refine Blk.alloc ?_ _) | (with_reducible refine Blk.drew ?_) | (with_reducible refine Blk.drewN ?_ _)))
end Go.Proofs.Ytdfefpbpfneahaa
