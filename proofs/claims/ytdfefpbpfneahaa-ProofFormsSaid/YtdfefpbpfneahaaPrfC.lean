/- The contract of package chap's Take. No condition but sizes. -/
import Derived.Test.YtdfefpbpfneahaaPrfB
namespace Go.Proofs.Ytdfefpbpfneahaa
open Go.RowKit
set_option linter.unusedVariables false
set_option linter.unusedSimpArgs false
attribute [local go_sem] conv1 conv1d conv1n conv1a conv1ad conv1an conv2 conv2d conv2n conv2a conv2ad conv2an conv4 conv4d conv4n conv4a conv4ad conv4an conv5 conv5d conv5n conv5a conv5ad conv5an size_nums byt_fold
def tE (c i : Int) (v n : ByteArray) : Int := if chE c i v n = 0 then 0 else 1600
def tS (s : PS) (c i : Int) (v n : ByteArray) : PS := if chE c i v n = 0 ∧ s.fl = false then (if c = 1 then s else if c = 2 then jS s i v else if c = 3 then { s with tk := true } else { s with fl := true }) else s
def tL (s : PS) (c i : Int) (v n : ByteArray) : List (Int × Int × ByteArray × ByteArray) := if chE c i v n = 0 ∧ s.fl = false then (if c = 1 then [(2, i, md5 (chapT i s.se v), s.nm)] else if c = 2 then jL s i v else []) else []
def PTk (s : PS) (c i : Int) (v n : ByteArray) (g : Nat) (w : World) (e : Ending) (w' : World) : Prop := (∃ A cap, e = .returned (.tuple #[.slice A (tL s c i v n).length cap, .int .i64 (tE c i v n)]) ∧ ChapsAt w' A (tL s c i v n).length (tL s c i v n) ∧ NewA w A) ∧ PAt w' g (tS s c i v n) ∧ w.grownBy w' (some g)
theorem chFit_v {c i : Int} {v nm : ByteArray} (h : chE c i v nm = 0) : v.size ≤ 255 := by
  unfold chE at h
  cases hf : chFit c i v
  · rw [hf] at h; cases h
  · unfold chFit at hf; simp at hf; omega
theorem PTk.nil {s : PS} {c i : Int} {v n : ByteArray} {g : Nat} {w w' : World} {x : Int} {S : PS} (h1 : tL s c i v n = []) (h2 : tE c i v n = x) (h3 : tS s c i v n = S) (hp : PAt w' g S) (hg : w.grownBy w' (some g)) : PTk s c i v n g w (.returned (.tuple #[.slice none 0 0, .int .i64 x])) w' := by
  unfold PTk; rw [h1, h2, h3]
  exact ⟨⟨_, _, rfl, ChapsAt.nil _ _, NewA.none _⟩, hp, hg⟩
theorem PTk.of {s : PS} {c i : Int} {v n : ByteArray} {g m : Nat} {w w' : World} {S : PS} {L : List (Int × Int × ByteArray × ByteArray)} {A : Option Addr} {cap : Nat} (h1 : tL s c i v n = L) (h2 : tE c i v n = 0) (h3 : tS s c i v n = S) (hm : L.length = m) (hl : ChapsAt w' A m L) (ha : NewA w A) (hp : PAt w' g S) (hg : w.grownBy w' (some g)) : PTk s c i v n g w (.returned (.tuple #[.slice A m cap, .int .i64 0])) w' := by
  unfold PTk; rw [h1, h2, h3, hm]
  exact ⟨⟨_, _, rfl, hl, ha⟩, hp, hg⟩
set_option maxRecDepth 100000 in
set_option maxHeartbeats 1000000 in
theorem take_any (g : Nat) (s : PS) (c i : Int) (v n : ByteArray) (w : World) (hp : PAt w g s) (hx : s.ex.size ≤ 64) (hy : s.ch.size ≤ 255) (hs : s.se.size ≤ 64) :
    Calls Try.prog 11 #[.pointer (some ⟨g, 0, none⟩), .agg #[.int .i64 c, .int .i64 i, .string v, .string n]] w (PTk s c i v n g w) := by
  have HP := Lib.hid hp
  have hlt := Blk.lt hp
  clear hp
  obtain ⟨X, hX⟩ : ∃ X, chE c i v n = X := ⟨_, rfl⟩
  obtain ⟨T, hT⟩ : ∃ T, chS c i v n = T := ⟨_, rfl⟩
  go_enter Try.func11, Try.ntmps11
  go_wp2_with fail
  refine (put_any c i v n _).mono ?_
  rintro e w1 ⟨rfl, hb1⟩
  rw [hX, hT]
  have hbel : Below w.heap.size w w1 := ((Below.refl _ w).alloc (Nat.le_refl _) _).trans (hb1.mono (by simp))
  have hz1 := hb1.size
  simp at hz1
  have z1 : w.heap.size < w1.heap.size := by omega
  have hpu : Blk w1 g 66 (psC s) := Blk.below HP.out hbel hlt
  have hbx : Blk w1 w.heap.size 33 (chC c i v n) := Blk.keep (Blk.new w _ (chC c i v n)) hb1
  have hgu := gr_of g hbel
  have hbg : w.heap.size ≠ g := by omega
  have hgs := hgu.size
  by_cases hX0 : X = 0
  case neg =>
    have hXn : (X != 0) = true := by simpa using hX0
    have HX : Hid (chE c i v n ≠ 0) := Lib.hid (by rw [hX]; exact hX0)
    have HPU := Lib.hid hpu; have HGU := Lib.hid hgu
    clear hpu hgu hbx hX hX0
    go_wp2_with fail
    go_ret2
    exact PTk.nil (by unfold tL; rw [if_neg (by simp [HX.out])]) (by unfold tE; rw [if_neg HX.out]) (by unfold tS; rw [if_neg (by simp [HX.out])]) HPU.out HGU.out
  subst hX0
  have hv := chFit_v hX
  obtain ⟨p0, p1, p2, p3, p4, p5, p6, p7, p8⟩ := PAt.cells (s := s) hpu
  obtain ⟨c0, c1, c2, c3⟩ := chC_cells hbx
  have hfu := hpu.frozen
  have HX := Lib.hid hX
  have HBX := Lib.hid hbx; have HPU := Lib.hid hpu; have HGU := Lib.hid hgu
  obtain ⟨ex, ch, left, st, pr, nm, se, tk, fl⟩ := s
  simp only at hx hy hs
  clear hpu hgu hbx hX p0 p1 p2 p3 p4 p5 p6
  simp only at p7 p8
  cases hfl : fl
  case true =>
    subst hfl
    go_wp2_with fail
    go_ret2
    exact PTk.nil (by unfold tL; rw [if_neg (by simp)]) (by unfold tE; rw [if_pos HX.out]) (by unfold tS; rw [if_neg (by simp)]) HPU.out HGU.out
  subst hfl
  by_cases h1 : c = 1
  · subst h1
    go_wp2_with fail
    refine (respond_any g w.heap.size ⟨ex, ch, left, st, pr, nm, se, tk, false⟩ 1 i v n _ HPU.out HBX.out hv hs).mono ?_
    rintro e w2 ⟨⟨A, cap, rfl, hl, ha⟩, hb2⟩
    have HL := Lib.hid hl; clear hl
    go_wp2_with fail
    go_ret2
    exact PTk.of (S := ⟨ex, ch, left, st, pr, nm, se, tk, false⟩) (by unfold tL; rw [if_pos ⟨HX.out, rfl⟩, if_pos rfl]) (by unfold tE; rw [if_pos HX.out]) (by unfold tS; rw [if_pos ⟨HX.out, rfl⟩, if_pos rfl]) rfl HL.out (ha.mono hgs) (Blk.keep HPU.out hb2) (gr_below HGU.out hb2)
  by_cases h2 : c = 2
  · subst h2
    go_wp2_with fail
    refine (judge_any g w.heap.size ⟨ex, ch, left, st, pr, nm, se, tk, false⟩ 2 i v n _ HPU.out HBX.out hbg hx hy).mono ?_
    rintro e w2 ⟨⟨A, cap, rfl, hl, ha⟩, hp2, hg2⟩
    have HL := Lib.hid hl; have HP2 := Lib.hid hp2; clear hl hp2
    go_wp2_with fail
    go_ret2
    exact PTk.of (S := jS ⟨ex, ch, left, st, pr, nm, se, tk, false⟩ i v) (by unfold tL; rw [if_pos ⟨HX.out, rfl⟩, if_neg h1, if_pos rfl]) (by unfold tE; rw [if_pos HX.out]) (by unfold tS; rw [if_pos ⟨HX.out, rfl⟩, if_neg h1, if_pos rfl]) rfl HL.out (ha.mono hgs) HP2.out (gr_trans HGU.out hg2)
  have e1 : (c == 1) = false := by simpa using h1
  have e2 : (c == 2) = false := by simpa using h2
  by_cases h3 : c = 3
  · subst h3
    go_wp2_with fail
    go_ret2
    have h := Blk.set_ HPU.out 7 (.bool true)
    rw [psC7] at h
    exact PTk.nil (by unfold tL; rw [if_pos ⟨HX.out, rfl⟩, if_neg h1, if_neg h2]) (by unfold tE; rw [if_pos HX.out]) (by unfold tS; rw [if_pos ⟨HX.out, rfl⟩, if_neg h1, if_neg h2, if_pos rfl]) (show Blk _ g 66 (psC ⟨ex, ch, left, st, pr, nm, se, true, false⟩) from (by repeat' (first | (with_reducible exact h) | (with_reducible refine Blk.far ?_ (by first | omega | (simp; done) | (simp; omega)) _) | (with_reducible refine Blk.alloc ?_ _) | (with_reducible refine Blk.drew ?_) | (with_reducible refine Blk.drewN ?_ _)))) (by repeat' (first | (with_reducible exact HGU.out) | (with_reducible exact gr_refl _ _) | (with_reducible refine gr_set ?_ (by first | (left; rfl) | (right; simp; done) | (right; simp; omega) | (left; omega)) _) | (with_reducible refine gr_alloc ?_ _) | (with_reducible refine gr_drew ?_) | (with_reducible refine gr_drewN ?_ _)))
  · have e3 : (c == 3) = false := by simpa using h3
    go_wp2_with fail
    go_ret2
    have h := Blk.set_ HPU.out 8 (.bool true)
    rw [psC8] at h
    exact PTk.nil (by unfold tL; rw [if_pos ⟨HX.out, rfl⟩, if_neg h1, if_neg h2]) (by unfold tE; rw [if_pos HX.out]) (by unfold tS; rw [if_pos ⟨HX.out, rfl⟩, if_neg h1, if_neg h2, if_neg h3]) (show Blk _ g 66 (psC ⟨ex, ch, left, st, pr, nm, se, tk, true⟩) from (by repeat' (first | (with_reducible exact h) | (with_reducible refine Blk.far ?_ (by first | omega | (simp; done) | (simp; omega)) _) | (with_reducible refine Blk.alloc ?_ _) | (with_reducible refine Blk.drew ?_) | (with_reducible refine Blk.drewN ?_ _)))) (by repeat' (first | (with_reducible exact HGU.out) | (with_reducible exact gr_refl _ _) | (with_reducible refine gr_set ?_ (by first | (left; rfl) | (right; simp; done) | (right; simp; omega) | (left; omega)) _) | (with_reducible refine gr_alloc ?_ _) | (with_reducible refine gr_drew ?_) | (with_reducible refine gr_drewN ?_ _)))
end Go.Proofs.Ytdfefpbpfneahaa
