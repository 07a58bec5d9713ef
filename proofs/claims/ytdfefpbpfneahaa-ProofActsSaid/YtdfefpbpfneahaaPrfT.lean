/- The contract of the reference's Take: as package chap's. No condition but what a side keeps. -/
import Derived.Test.YtdfefpbpfneahaaPrfS
import Derived.Test.YtdfefpbpfneahaaChapRefD
namespace Go.Proofs.Ytdfefpbpfneahaa
open Go.RowKit
set_option linter.unusedVariables false
set_option linter.unusedSimpArgs false
attribute [local go_sem] conv1 conv1d conv1n conv1a conv1ad conv1an conv2 conv2d conv2n conv2a conv2ad conv2an conv4 conv4d conv4n conv4a conv4ad conv4an conv5 conv5d conv5n conv5a conv5ad conv5an size_nums byt_fold
def RTk (s : PS) (c i : Int) (v n : ByteArray) (g : Nat) (w : World) (e : Ending) (w' : World) : Prop := (∃ A cap, e = .returned (.tuple #[.slice A (tL s c i v n).length cap, .int .i64 (tE c i v n)]) ∧ ChapsAt w' A (tL s c i v n).length (tL s c i v n) ∧ NewA w A) ∧ RAt w' g (tS s c i v n) ∧ w.grownBy w' (some g)
theorem RTk.nil {s : PS} {c i : Int} {v n : ByteArray} {g : Nat} {w w' : World} {x : Int} {S : PS} (h1 : tL s c i v n = []) (h2 : tE c i v n = x) (h3 : tS s c i v n = S) (hp : RAt w' g S) (hg : w.grownBy w' (some g)) : RTk s c i v n g w (.returned (.tuple #[.slice none 0 0, .int .i64 x])) w' := by
  unfold RTk; rw [h1, h2, h3]
  exact ⟨⟨_, _, rfl, ChapsAt.nil _ _, NewA.none _⟩, hp, hg⟩
theorem RTk.of {s : PS} {c i : Int} {v n : ByteArray} {g m : Nat} {w w' : World} {S : PS} {L : List (Int × Int × ByteArray × ByteArray)} {A : Option Addr} {cap : Nat} (h1 : tL s c i v n = L) (h2 : tE c i v n = 0) (h3 : tS s c i v n = S) (hm : L.length = m) (hl : ChapsAt w' A m L) (ha : NewA w A) (hp : RAt w' g S) (hg : w.grownBy w' (some g)) : RTk s c i v n g w (.returned (.tuple #[.slice A m cap, .int .i64 0])) w' := by
  unfold RTk; rw [h1, h2, h3, hm]
  exact ⟨⟨_, _, rfl, hl, ha⟩, hp, hg⟩
theorem rsC1 (ex ch : ByteArray) (left : Int) (st pr : Bool) (nm se : ByteArray) (tk fl : Bool) : (rsC ⟨ex, ch, left, st, pr, nm, se, tk, fl⟩).setIfInBounds 1 (.bool true) = rsC ⟨ex, ch, left, st, pr, nm, se, true, fl⟩ := rfl
theorem rsC2 (ex ch : ByteArray) (left : Int) (st pr : Bool) (nm se : ByteArray) (tk fl : Bool) : (rsC ⟨ex, ch, left, st, pr, nm, se, tk, fl⟩).setIfInBounds 2 (.bool true) = rsC ⟨ex, ch, left, st, pr, nm, se, tk, true⟩ := rfl
theorem rsC0 (ex ch : ByteArray) (left : Int) (st pr : Bool) (nm se : ByteArray) (tk fl : Bool) : (rsC ⟨ex, ch, left, st, pr, nm, se, tk, fl⟩).setIfInBounds 0 (.bool true) = rsC ⟨ex, ch, left, st, true, nm, se, tk, fl⟩ := rfl
theorem chFit_c {c i : Int} {v nm : ByteArray} (h : chE c i v nm = 0) : 1 ≤ c ∧ c ≤ 4 := by
  unfold chE at h
  cases hf : chFit c i v
  · rw [hf] at h; cases h
  · unfold chFit at hf; simp at hf; omega
set_option maxRecDepth 100000 in
set_option maxHeartbeats 4000000 in
theorem rtake_any (g : Nat) (s : PS) (c i : Int) (v n : ByteArray) (w : World) (hp : RAt w g s) (hi : Inv s) :
    Calls Try.prog 23 #[.pointer (some ⟨g, 0, none⟩), .agg #[.int .i64 c, .int .i64 i, .string v, .string n]] w (RTk s c i v n g w) := by
  have HP := Lib.hid hp
  have hlt := Blk.lt hp
  have hst := hi.st; have hy := hi.ch; have hx := hi.ex; have hs := hi.se
  clear hp hi
  obtain ⟨X, hX⟩ : ∃ X, chE c i v n = X := ⟨_, rfl⟩
  obtain ⟨T, hT⟩ : ∃ T, chS c i v n = T := ⟨_, rfl⟩
  go_enter Try.func23, Try.ntmps23
  go_wp2_with fail
  refine (rput_any c i v n _).mono ?_
  rintro e w1 ⟨rfl, hb1⟩
  rw [hX, hT]
  have hbel : Below w.heap.size w w1 := ((Below.refl _ w).alloc (Nat.le_refl _) _).trans (hb1.mono (by simp))
  have hz1 := hb1.size
  simp at hz1
  have z1 : w.heap.size < w1.heap.size := by omega
  have hpu : Blk w1 g 56 (rsC s) := Blk.below HP.out hbel hlt
  have hbx : Blk w1 w.heap.size 33 (chC c i v n) := Blk.keep (Blk.new w _ (chC c i v n)) hb1
  have hgu := gr_of g hbel
  have hgs := hgu.size
  have hbg : w.heap.size ≠ g := by omega
  by_cases hX0 : X = 0
  case neg =>
    have hXn : (X != 0) = true := by simpa using hX0
    have HX : Hid (chE c i v n ≠ 0) := Lib.hid (by rw [hX]; exact hX0)
    have HPU := Lib.hid hpu; have HGU := Lib.hid hgu
    clear hpu hgu hbx hX hX0 hst
    go_wp2_with fail
    go_ret2
    exact RTk.nil (by unfold tL; rw [if_neg (by simp [HX.out])]) (by unfold tE; rw [if_neg HX.out]) (by unfold tS; rw [if_neg (by simp [HX.out])]) HPU.out HGU.out
  subst hX0
  have hv := chFit_v hX
  obtain ⟨hc1, hc4⟩ := chFit_c hX
  obtain ⟨p0, p1, p2, p3, p4, p5, p6, p7⟩ := RAt.cells (s := s) hpu
  obtain ⟨c0, c1, c2, c3⟩ := chC_cells hbx
  have hfu := hpu.frozen
  have hlu := hpu.lt
  have HX := Lib.hid hX
  have HBX := Lib.hid hbx; have HPU := Lib.hid hpu; have HGU := Lib.hid hgu
  obtain ⟨ex, ch, left, st, pr, nm, se, tk, fl⟩ := s
  simp only at hx hy hs hst p0 p1 p2 p3 p4 p5 p6 p7
  clear hpu hgu hbx hX
  have hB1 := HGU.out
  cases hfl : fl
  case true =>
    subst hfl
    clear hst
    go_wp2_with fail
    go_ret2
    exact RTk.nil (by unfold tL; rw [if_neg (by simp)]) (by unfold tE; rw [if_pos HX.out]) (by unfold tS; rw [if_neg (by simp)]) HPU.out HGU.out
  subst hfl
  by_cases h1 : c = 1
  · subst h1
    clear hst
    go_wp2_with fail
    go_region_held3 (fun W => Below w1.heap.size w1 W ∧ W.cell? ⟨g, 3, none⟩ = some (.string nm) ∧ W.cell? ⟨g, 4, none⟩ = some (.string se) ∧ W.cell? ⟨w.heap.size, 1, none⟩ = some (.int .i64 i) ∧ W.cell? ⟨w.heap.size, 2, none⟩ = some (.string v))
      (first | exact ⟨(Below.refl _ _).drew, p3, p4, c1, c2⟩ | (have hB := below_call ((Below.refl _ w1).drew) hbu (Nat.le_refl _); exact ⟨hB, (hB.cell hlu).trans p3, (hB.cell hlu).trans p4, (hB.cell z1).trans c1, (hB.cell z1).trans c2⟩) | (have hA := below_call ((Below.refl _ w1).drew) hbu (Nat.le_refl _); have hB := hA.alloc hA.size (.cells #[.int .i64 2, .int .i64 i, .string (md5 (chapT i se v)), .string nm] 33); exact ⟨hB, (hB.cell hlu).trans p3, (hB.cell hlu).trans p4, (hB.cell z1).trans c1, (hB.cell z1).trans c2⟩))
      (first | (go_at_call 14; refine (rchap_any _ _ _ _ (by omega) (by omega)).mono ?_; rintro e u ⟨rfl, hbu⟩))
    rename_i hHeld
    have hB := hHeld.1
    clear hHeld
    go_wp2_with fail
    go_ret2
    exact RTk.of (S := ⟨ex, ch, left, st, pr, nm, se, tk, false⟩) (by unfold tL; rw [if_pos ⟨HX.out, rfl⟩, if_pos rfl]) (by unfold tE; rw [if_pos HX.out]) (by unfold tS; rw [if_pos ⟨HX.out, rfl⟩, if_pos rfl]) rfl (ChapsAt.new_at _ _ rfl _ _ _ _) (NewA.some (Nat.le_trans hgs hbu.size)) (Blk.below HPU.out hB hlu) (gr_below HGU.out hB)
  have e1 : (c == 1) = false := by simpa using h1
  by_cases h3 : c = 3
  · subst h3
    clear hst
    go_wp2_with fail
    go_ret2
    have h := Blk.set_ HPU.out 1 (.bool true)
    rw [rsC1] at h
    exact RTk.nil (by unfold tL; rw [if_pos ⟨HX.out, rfl⟩, if_neg h1, if_neg (by decide)]) (by unfold tE; rw [if_pos HX.out]) (by unfold tS; rw [if_pos ⟨HX.out, rfl⟩, if_neg h1, if_neg (by decide), if_pos rfl]) (show Blk _ g 56 (rsC ⟨ex, ch, left, st, pr, nm, se, true, false⟩) from (by repeat' (first | (with_reducible exact h) | (with_reducible refine Blk.far ?_ (by first | omega | (simp; done) | (simp; omega)) _) | (with_reducible refine Blk.alloc ?_ _) | (with_reducible refine Blk.drew ?_) | (with_reducible refine Blk.drewN ?_ _)))) (by repeat' (first | (with_reducible exact HGU.out) | (with_reducible exact gr_refl _ _) | (with_reducible refine gr_set ?_ (by first | (left; rfl) | (right; simp; done) | (right; simp; omega) | (left; omega)) _) | (with_reducible refine gr_alloc ?_ _) | (with_reducible refine gr_drew ?_) | (with_reducible refine gr_drewN ?_ _)))
  by_cases h4 : c = 4
  · subst h4
    clear hst
    go_wp2_with fail
    go_ret2
    have h := Blk.set_ HPU.out 2 (.bool true)
    rw [rsC2] at h
    exact RTk.nil (by unfold tL; rw [if_pos ⟨HX.out, rfl⟩, if_neg h1, if_neg (by decide)]) (by unfold tE; rw [if_pos HX.out]) (by unfold tS; rw [if_pos ⟨HX.out, rfl⟩, if_neg h1, if_neg (by decide), if_neg (by decide)]) (show Blk _ g 56 (rsC ⟨ex, ch, left, st, pr, nm, se, tk, true⟩) from (by repeat' (first | (with_reducible exact h) | (with_reducible refine Blk.far ?_ (by first | omega | (simp; done) | (simp; omega)) _) | (with_reducible refine Blk.alloc ?_ _) | (with_reducible refine Blk.drew ?_) | (with_reducible refine Blk.drewN ?_ _)))) (by repeat' (first | (with_reducible exact HGU.out) | (with_reducible exact gr_refl _ _) | (with_reducible refine gr_set ?_ (by first | (left; rfl) | (right; simp; done) | (right; simp; omega) | (left; omega)) _) | (with_reducible refine gr_alloc ?_ _) | (with_reducible refine gr_drew ?_) | (with_reducible refine gr_drewN ?_ _)))
  obtain rfl : c = 2 := by omega
  have T2 := Lib.hid (tk2 (s := ⟨ex, ch, left, st, pr, nm, se, tk, false⟩) (i := i) (v := v) (n := n) HX.out rfl)
  cases hq : !st || decide (i ≠ 1)
  case true =>
    have hj : jL ⟨ex, ch, left, st, pr, nm, se, tk, false⟩ i v = [] ∧ jS ⟨ex, ch, left, st, pr, nm, se, tk, false⟩ i v = ⟨ex, ch, left, st, pr, nm, se, tk, false⟩ := ⟨by unfold jL; rw [if_pos hq], by unfold jS; rw [if_pos hq]⟩
    have HJ := Lib.hid hj
    have hq2 : ch.toList.isEmpty = true ∨ (ch.toList.isEmpty = false ∧ (i != 1) = true) := by
      cases he : ch.toList.isEmpty
      · right
        rw [he] at hst
        rw [hst] at hq
        exact ⟨rfl, by simpa using hq⟩
      · left; rfl
    clear hq hst hj
    rcases hq2 with hq2 | ⟨hq2, hq3⟩
    all_goals
      go_wp2_with fail
      go_ret2
      exact RTk.nil (by rw [T2.out.1, HJ.out.1]) T2.out.2.1 (by rw [T2.out.2.2, HJ.out.2]) HPU.out HGU.out
  obtain ⟨hs1, rfl⟩ : st = true ∧ i = 1 := by simpa using hq
  have he : ch.toList.isEmpty = false := by
    cases h : ch.toList.isEmpty
    · rfl
    · rw [h, hs1] at hst; cases hst
  clear hst hq
  obtain ⟨D, hD⟩ : ∃ D, md5 (chapT 1 ex ch) = D := ⟨_, rfl⟩
  cases hpr : pr
  case true =>
    subst hpr
    have HXX : Hid (jL ⟨ex, ch, left, st, true, nm, se, tk, false⟩ 1 v = [(3, 1, ⟨#[]⟩, tOk)] ∧ jS ⟨ex, ch, left, st, true, nm, se, tk, false⟩ 1 v = ⟨ex, ch, left, st, true, nm, se, tk, false⟩) := Lib.hid ⟨by unfold jL; simp [hs1], by unfold jS; simp [hs1]⟩
    go_wp2_with fail
    go_quiet (fail)
    go_wp2_with fail
    go_ret2
    have h := Blk.set_ (Blk.drewN HPU.out nq) 0 (.bool true)
    rw [rsC0] at h
    exact RTk.of (S := ⟨ex, ch, left, st, true, nm, se, tk, false⟩) (T2.out.1.trans HXX.out.1) T2.out.2.1 (by rw [T2.out.2.2, HXX.out.2]) rfl (ChapsAt.new_at _ _ (by simp) _ _ _ _) (NewA.some (by first | exact hgs | (simp; exact hgs))) (show Blk _ g 56 (rsC ⟨ex, ch, left, st, true, nm, se, tk, false⟩) from (by repeat' (first | (with_reducible exact h) | (with_reducible refine Blk.far ?_ (by first | omega | (simp; done) | (simp; omega)) _) | (with_reducible refine Blk.alloc ?_ _) | (with_reducible refine Blk.drew ?_) | (with_reducible refine Blk.drewN ?_ _)))) (by repeat' (first | (with_reducible exact HGU.out) | (with_reducible exact gr_refl _ _) | (with_reducible refine gr_set ?_ (by first | (left; rfl) | (right; simp; done) | (right; simp; omega) | (left; omega)) _) | (with_reducible refine gr_alloc ?_ _) | (with_reducible refine gr_drew ?_) | (with_reducible refine gr_drewN ?_ _)))
  case false =>
    subst hpr
    by_cases hv : v = D
    · have hvl : (v.toList == D.toList) = true := by subst hv; simp
      have HXX : Hid (jL ⟨ex, ch, left, st, false, nm, se, tk, false⟩ 1 v = [(3, 1, ⟨#[]⟩, tOk)] ∧ jS ⟨ex, ch, left, st, false, nm, se, tk, false⟩ 1 v = ⟨ex, ch, left, st, true, nm, se, tk, false⟩) := Lib.hid ⟨by unfold jL; simp [hv, hD, hs1], by unfold jS; simp [hv, hD, hs1]⟩
      subst hv
      go_wp2_with fail
      go_region_held3 (fun W => Below w1.heap.size w1 W ∧ W.cell? ⟨g, 0, none⟩ = some (.bool false) ∧ W.cell? ⟨g, 5, none⟩ = some (.string ex) ∧ W.cell? ⟨g, 6, none⟩ = some (.string ch) ∧ W.cell? ⟨w.heap.size, 2, none⟩ = some (.string v))
        (first | exact ⟨(Below.refl _ _).drew, p0, p5, p6, c2⟩ | (have hB := below_call ((Below.refl _ w1).drew) hbu (Nat.le_refl _); exact ⟨hB, (hB.cell hlu).trans p0, (hB.cell hlu).trans p5, (hB.cell hlu).trans p6, (hB.cell z1).trans c2⟩))
        (first | (go_at_call 14; refine (rchap_any _ _ _ _ (by omega) (by omega)).mono ?_; rintro e u ⟨rfl, hbu⟩; rw [hD]))
      rename_i hHeld
      obtain ⟨hB, k0, -⟩ := hHeld
      have hpu : Blk u g 56 (rsC ⟨ex, ch, left, st, false, nm, se, tk, false⟩) := Blk.below HPU.out hB hlu
      have hfq := hpu.frozen
      have k2 : u.cell? ⟨g, 2, none⟩ = some (.bool false) := (hB.cell hlu).trans p2
      have hgq := gr_below HGU.out hB
      have HPQ := Lib.hid hpu; have HGQ := Lib.hid hgq; clear hpu hgq
      have hzu := Nat.le_trans hgs hbu.size
      go_wp2_with fail
      go_ret2
      have h := Blk.set_ HPQ.out 0 (.bool true)
      rw [rsC0] at h
      exact RTk.of (S := ⟨ex, ch, left, st, true, nm, se, tk, false⟩) (T2.out.1.trans HXX.out.1) T2.out.2.1 (by rw [T2.out.2.2, HXX.out.2]) rfl (ChapsAt.new_at _ _ (by simp) _ _ _ _) (NewA.some (by first | exact hzu | (simp; exact hzu))) (show Blk _ g 56 (rsC ⟨ex, ch, left, st, true, nm, se, tk, false⟩) from (by repeat' (first | (with_reducible exact h) | (with_reducible refine Blk.far ?_ (by first | omega | (simp; done) | (simp; omega)) _) | (with_reducible refine Blk.alloc ?_ _) | (with_reducible refine Blk.drew ?_) | (with_reducible refine Blk.drewN ?_ _)))) (by repeat' (first | (with_reducible exact HGQ.out) | (with_reducible exact gr_refl _ _) | (with_reducible refine gr_set ?_ (by first | (left; rfl) | (right; simp; done) | (right; simp; omega) | (left; omega)) _) | (with_reducible refine gr_alloc ?_ _) | (with_reducible refine gr_drew ?_) | (with_reducible refine gr_drewN ?_ _)))
    · have hvl := bytes_ne hv
      have HXX : Hid (jL ⟨ex, ch, left, st, false, nm, se, tk, false⟩ 1 v = [(4, 1, ⟨#[]⟩, tNo)] ∧ jS ⟨ex, ch, left, st, false, nm, se, tk, false⟩ 1 v = ⟨ex, ch, left, st, false, nm, se, tk, true⟩) := Lib.hid ⟨by unfold jL; simp [hv, hD, hs1], by unfold jS; simp [hv, hD, hs1]⟩
      go_wp2_with fail
      go_region_held3 (fun W => Below w1.heap.size w1 W ∧ W.cell? ⟨g, 0, none⟩ = some (.bool false) ∧ W.cell? ⟨g, 5, none⟩ = some (.string ex) ∧ W.cell? ⟨g, 6, none⟩ = some (.string ch) ∧ W.cell? ⟨w.heap.size, 2, none⟩ = some (.string v))
        (first | exact ⟨(Below.refl _ _).drew, p0, p5, p6, c2⟩ | (have hB := below_call ((Below.refl _ w1).drew) hbu (Nat.le_refl _); exact ⟨hB, (hB.cell hlu).trans p0, (hB.cell hlu).trans p5, (hB.cell hlu).trans p6, (hB.cell z1).trans c2⟩))
        (first | (go_at_call 14; refine (rchap_any _ _ _ _ (by omega) (by omega)).mono ?_; rintro e u ⟨rfl, hbu⟩; rw [hD]))
      rename_i hHeld
      obtain ⟨hB, k0, -⟩ := hHeld
      have hpu : Blk u g 56 (rsC ⟨ex, ch, left, st, false, nm, se, tk, false⟩) := Blk.below HPU.out hB hlu
      have hfq := hpu.frozen
      have k2 : u.cell? ⟨g, 2, none⟩ = some (.bool false) := (hB.cell hlu).trans p2
      have hgq := gr_below HGU.out hB
      have HPQ := Lib.hid hpu; have HGQ := Lib.hid hgq; clear hpu hgq
      have hzu := Nat.le_trans hgs hbu.size
      go_wp2_with fail
      go_ret2
      have h := Blk.set_ HPQ.out 2 (.bool true)
      rw [rsC2] at h
      exact RTk.of (S := ⟨ex, ch, left, st, false, nm, se, tk, true⟩) (T2.out.1.trans HXX.out.1) T2.out.2.1 (by rw [T2.out.2.2, HXX.out.2]) rfl (ChapsAt.new_at _ _ (by simp) _ _ _ _) (NewA.some (by first | exact hzu | (simp; exact hzu))) (show Blk _ g 56 (rsC ⟨ex, ch, left, st, false, nm, se, tk, true⟩) from (by repeat' (first | (with_reducible exact h) | (with_reducible refine Blk.far ?_ (by first | omega | (simp; done) | (simp; omega)) _) | (with_reducible refine Blk.alloc ?_ _) | (with_reducible refine Blk.drew ?_) | (with_reducible refine Blk.drewN ?_ _)))) (by repeat' (first | (with_reducible exact HGQ.out) | (with_reducible exact gr_refl _ _) | (with_reducible refine gr_set ?_ (by first | (left; rfl) | (right; simp; done) | (right; simp; omega) | (left; omega)) _) | (with_reducible refine gr_alloc ?_ _) | (with_reducible refine gr_drew ?_) | (with_reducible refine gr_drewN ?_ _)))
end Go.Proofs.Ytdfefpbpfneahaa
