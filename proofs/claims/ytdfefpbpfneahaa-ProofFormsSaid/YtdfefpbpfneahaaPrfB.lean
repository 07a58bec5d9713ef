/- The contracts of package chap's respond and judge. No condition but sizes. -/
import Derived.Test.YtdfefpbpfneahaaPrfA
import Derived.Test.YtdfefpbpfneahaaDigDuo
import Derived.Test.YtdfefpbpfneahaaQReg
import Derived.Deep.RegionHeld3
namespace Go.Proofs.Ytdfefpbpfneahaa
open Go.RowKit
set_option linter.unusedVariables false
set_option linter.unusedSimpArgs false
attribute [local go_sem] conv1 conv1d conv1n conv1a conv1ad conv1an conv2 conv2d conv2n conv2a conv2ad conv2an conv4 conv4d conv4n conv4a conv4ad conv4an conv5 conv5d conv5n conv5a conv5ad conv5an size_nums byt_fold
def chC (c i : Int) (v n : ByteArray) : Array Value := #[.int .i64 c, .int .i64 i, .string v, .string n]
theorem chC_cells {w : World} {b : Nat} {c i : Int} {v n : ByteArray} (h : Blk w b 33 (chC c i v n)) : w.cell? ⟨b, 0, none⟩ = some (.int .i64 c) ∧ w.cell? ⟨b, 1, none⟩ = some (.int .i64 i) ∧ w.cell? ⟨b, 2, none⟩ = some (.string v) ∧ w.cell? ⟨b, 3, none⟩ = some (.string n) :=
  ⟨h.cell 0, h.cell 1, h.cell 2, h.cell 3⟩
theorem ChapsAt.new (w : World) (c i : Int) (v n : ByteArray) : ChapsAt (w.alloc (.cells #[.int .i64 c, .int .i64 i, .string v, .string n] 33)) (some ⟨w.heap.size, 0, none⟩) 1 [(c, i, v, n)] := by
  have h : Blk (w.alloc (.cells #[.int .i64 c, .int .i64 i, .string v, .string n] 33)) w.heap.size 33 (chC c i v n) := Blk.new w _ _
  obtain ⟨h0, h1, h2, h3⟩ := chC_cells h
  exact ChapsAt.one _ _ _ _ _ _ h0 h1 h2 h3 h.lt
theorem ChapsAt.new_at (w : World) (b0 : Nat) (hb : b0 = w.heap.size) (c i : Int) (v n : ByteArray) : ChapsAt (w.alloc (.cells #[.int .i64 c, .int .i64 i, .string v, .string n] 33)) (some ⟨b0, 0, none⟩) 1 [(c, i, v, n)] := by
  subst hb; exact ChapsAt.new w c i v n
set_option maxRecDepth 100000 in
set_option maxHeartbeats 1000000 in
theorem respond_any (g b : Nat) (s : PS) (c i : Int) (v n : ByteArray) (w : World) (hp : PAt w g s) (hc : Blk w b 33 (chC c i v n)) (hv : v.size ≤ 255) (hs : s.se.size ≤ 64) :
    Calls Try.prog 26 #[.pointer (some ⟨g, 5, none⟩), .pointer (some ⟨b, 0, none⟩)] w fun e w' => (∃ A cap, e = .returned (.slice A 1 cap) ∧ ChapsAt w' A 1 [(2, i, md5 (chapT i s.se v), s.nm)] ∧ NewA w A) ∧ Below w.heap.size w w' := by
  obtain ⟨ex, ch, left, st, pr, nm, se, tk, fl⟩ := s
  obtain ⟨p0, p1, p2, p3, p4, p5, p6, p7, p8⟩ := hp.cells
  obtain ⟨c0, c1, c2, c3⟩ := chC_cells hc
  have hlt := Blk.lt hp
  have hlb := hc.lt
  simp only at hs p5 p6
  clear hp hc p0 p1 p2 p3 p4 p7 p8
  go_enter Try.func26, Try.ntmps26
  go_wp2_with fail
  go_region_held3 (fun W => Below w.heap.size w W ∧ W.cell? ⟨g, 5, none⟩ = some (.string nm) ∧ W.cell? ⟨g, 6, none⟩ = some (.string se) ∧ W.cell? ⟨b, 1, none⟩ = some (.int .i64 i) ∧ W.cell? ⟨b, 2, none⟩ = some (.string v))
    (first | exact ⟨(Below.refl _ _).drew, p5, p6, c1, c2⟩ | (have hB := below_call ((Below.refl _ w).drew) hbu (Nat.le_refl _); exact ⟨hB, (hB.cell hlt).trans p5, (hB.cell hlt).trans p6, (hB.cell hlb).trans c1, (hB.cell hlb).trans c2⟩) | (have hA := below_call ((Below.refl _ w).drew) hbu (Nat.le_refl _); have hB := hA.alloc hA.size (.cells #[.int .i64 2, .int .i64 i, .string (md5 (chapT i se v)), .string nm] 33); exact ⟨hB, (hB.cell hlt).trans p5, (hB.cell hlt).trans p6, (hB.cell hlb).trans c1, (hB.cell hlb).trans c2⟩))
    (first | (go_at_call 35; refine (dchap_any _ _ _ _ (by omega) (by omega)).mono ?_; rintro e u ⟨rfl, hbu⟩))
  rename_i hHeld
  have hB := hHeld.1
  clear hHeld
  go_wp2_with fail
  go_ret
  exact ⟨⟨_, _, rfl, ChapsAt.new _ _ _ _ _, NewA.some hbu.size⟩, hB⟩
def tNo : ByteArray := ⟨#[110, 111]⟩
def tOk : ByteArray := ⟨#[111, 107]⟩
def jS (s : PS) (i : Int) (v : ByteArray) : PS := if !s.st || decide (i ≠ 1) then s else if !s.pr && decide (v ≠ md5 (chapT 1 s.ex s.ch)) then { s with fl := true } else { s with pr := true }
def jL (s : PS) (i : Int) (v : ByteArray) : List (Int × Int × ByteArray × ByteArray) := if !s.st || decide (i ≠ 1) then [] else if !s.pr && decide (v ≠ md5 (chapT 1 s.ex s.ch)) then [(4, 1, ⟨#[]⟩, tNo)] else [(3, 1, ⟨#[]⟩, tOk)]
def PJu (s : PS) (i : Int) (v : ByteArray) (g : Nat) (w : World) (e : Ending) (w' : World) : Prop := (∃ A cap, e = .returned (.slice A (jL s i v).length cap) ∧ ChapsAt w' A (jL s i v).length (jL s i v) ∧ NewA w A) ∧ PAt w' g (jS s i v) ∧ w.grownBy w' (some g)
theorem psC8 (ex ch : ByteArray) (left : Int) (st pr : Bool) (nm se : ByteArray) (tk fl : Bool) : (psC ⟨ex, ch, left, st, pr, nm, se, tk, fl⟩).setIfInBounds 8 (.bool true) = psC ⟨ex, ch, left, st, pr, nm, se, tk, true⟩ := rfl
theorem psC4 (ex ch : ByteArray) (left : Int) (st pr : Bool) (nm se : ByteArray) (tk fl : Bool) : (psC ⟨ex, ch, left, st, pr, nm, se, tk, fl⟩).setIfInBounds 4 (.bool true) = psC ⟨ex, ch, left, st, true, nm, se, tk, fl⟩ := rfl
theorem psC7 (ex ch : ByteArray) (left : Int) (st pr : Bool) (nm se : ByteArray) (tk fl : Bool) : (psC ⟨ex, ch, left, st, pr, nm, se, tk, fl⟩).setIfInBounds 7 (.bool true) = psC ⟨ex, ch, left, st, pr, nm, se, true, fl⟩ := rfl
theorem bytes_ne {a b : ByteArray} (h : ¬ a = b) : (a.toList == b.toList) = false := by
  cases hx : a.toList == b.toList
  · rfl
  · exfalso; apply h
    have := eq_of_beq hx
    apply ByteArray.ext; apply Array.toList_inj.1
    rw [ByteArray.toList_eq, ByteArray.toList_eq] at this
    exact this
set_option maxRecDepth 100000 in
set_option maxHeartbeats 1000000 in
theorem judge_any (g b : Nat) (s : PS) (c i : Int) (v n : ByteArray) (w : World) (hp : PAt w g s) (hc : Blk w b 33 (chC c i v n)) (hne : b ≠ g) (hx : s.ex.size ≤ 64) (hy : s.ch.size ≤ 255) :
    Calls Try.prog 27 #[.pointer (some ⟨g, 0, none⟩), .pointer (some ⟨b, 0, none⟩)] w (PJu s i v g w) := by
  obtain ⟨ex, ch, left, st, pr, nm, se, tk, fl⟩ := s
  obtain ⟨p0, p1, p2, p3, p4, p5, p6, p7, p8⟩ := hp.cells
  obtain ⟨c0, c1, c2, c3⟩ := chC_cells hc
  have hlt := Blk.lt hp
  have hlb := hc.lt
  have hfr := Blk.frozen hp
  simp only at hx hy p0 p1 p3 p4
  have HP := Lib.hid hp; clear hp hc p2 p5 p6 p7
  cases h1 : !st || decide (i ≠ 1)
  case true =>
    have HX : Hid (jL ⟨ex, ch, left, st, pr, nm, se, tk, fl⟩ i v = [] ∧ jS ⟨ex, ch, left, st, pr, nm, se, tk, fl⟩ i v = ⟨ex, ch, left, st, pr, nm, se, tk, fl⟩) := Lib.hid ⟨by unfold jL; rw [if_pos h1], by unfold jS; rw [if_pos h1]⟩
    have h3 : st = false ∨ (st = true ∧ (i != 1) = true) := by cases st <;> simp_all
    clear h1
    rcases h3 with rfl | ⟨rfl, h3⟩
    all_goals
      go_enter Try.func27, Try.ntmps27
      go_wp2_with fail
      go_ret
      unfold PJu
      rw [HX.out.1, HX.out.2]
      exact ⟨⟨_, _, rfl, ChapsAt.nil _ _, NewA.none _⟩, HP.out, gr_refl _ _⟩
  obtain ⟨rfl, rfl⟩ : st = true ∧ i = 1 := by simpa using h1
  clear h1
  obtain ⟨D, hD⟩ : ∃ D, md5 (chapT 1 ex ch) = D := ⟨_, rfl⟩
  cases hpr : pr
  case true =>
    subst hpr
    have HX : Hid (jL ⟨ex, ch, left, true, true, nm, se, tk, fl⟩ 1 v = [(3, 1, ⟨#[]⟩, tOk)] ∧ jS ⟨ex, ch, left, true, true, nm, se, tk, fl⟩ 1 v = ⟨ex, ch, left, true, true, nm, se, tk, fl⟩) := Lib.hid ⟨rfl, rfl⟩
    go_enter Try.func27, Try.ntmps27
    go_wp2_with fail
    go_quiet (fail)
    go_wp2_with fail
    go_ret
    unfold PJu
    rw [HX.out.1, HX.out.2]
    refine ⟨⟨_, _, rfl, ChapsAt.new_at _ _ (by simp) _ _ _ _, NewA.some (by first | (simp; done) | (simp; omega))⟩, ?_, (by repeat' (first | (with_reducible exact gr_refl w g) | (with_reducible exact gr_refl _ _) | (with_reducible refine gr_set ?_ (by first | (left; rfl) | (right; simp; done) | (right; simp; omega) | (left; omega)) _) | (with_reducible refine gr_alloc ?_ _) | (with_reducible refine gr_drew ?_) | (with_reducible refine gr_drewN ?_ _)))⟩
    have h := Blk.set_ (Blk.drewN HP.out nq) 4 (.bool true)
    rw [psC4] at h
    show Blk _ g 66 (psC ⟨ex, ch, left, true, true, nm, se, tk, fl⟩)
    exact (by repeat' (first | (with_reducible exact h) | (with_reducible refine Blk.far ?_ (by first | omega | (simp; done) | (simp; omega)) _) | (with_reducible refine Blk.alloc ?_ _) | (with_reducible refine Blk.drew ?_) | (with_reducible refine Blk.drewN ?_ _)))
  case false =>
    subst hpr
    by_cases hv : v = D
    · have hvl : (v.toList == D.toList) = true := by subst hv; simp
      have HX : Hid (jL ⟨ex, ch, left, true, false, nm, se, tk, fl⟩ 1 v = [(3, 1, ⟨#[]⟩, tOk)] ∧ jS ⟨ex, ch, left, true, false, nm, se, tk, fl⟩ 1 v = ⟨ex, ch, left, true, true, nm, se, tk, fl⟩) := Lib.hid ⟨by unfold jL; simp [hv, hD], by unfold jS; simp [hv, hD]⟩
      subst hv
      go_enter Try.func27, Try.ntmps27
      go_wp2_with fail
      go_region_held3 (fun W => Below w.heap.size w W ∧ W.cell? ⟨g, 0, none⟩ = some (.string ex) ∧ W.cell? ⟨g, 1, none⟩ = some (.string ch) ∧ W.cell? ⟨g, 4, none⟩ = some (.bool false) ∧ W.cell? ⟨b, 2, none⟩ = some (.string v))
        (first | exact ⟨(Below.refl _ _).drew, p0, p1, p4, c2⟩ | (have hB := below_call ((Below.refl _ w).drew) hbu (Nat.le_refl _); exact ⟨hB, (hB.cell hlt).trans p0, (hB.cell hlt).trans p1, (hB.cell hlt).trans p4, (hB.cell hlb).trans c2⟩))
        (first | (go_at_call 35; refine (dchap_any _ _ _ _ (by omega) (by omega)).mono ?_; rintro e u ⟨rfl, hbu⟩; rw [hD]))
      rename_i hHeld
      obtain ⟨hB, h0, h1, h4, -⟩ := hHeld
      have hpu : Blk u g 66 (psC ⟨ex, ch, left, true, false, nm, se, tk, fl⟩) := Blk.below HP.out hB hlt
      have hfu := hpu.frozen
      have h8 : u.cell? ⟨g, 8, none⟩ = some (.bool fl) := (hB.cell hlt).trans p8
      have hgu := gr_of g hB
      have HPU := Lib.hid hpu; have HGU := Lib.hid hgu; clear hpu hgu
      go_wp2_with fail
      go_ret
      unfold PJu
      rw [HX.out.1, HX.out.2]
      refine ⟨⟨_, _, rfl, ChapsAt.new_at _ _ (by simp) _ _ _ _, NewA.some (by first | exact HGU.out.size | (simp; exact HGU.out.size))⟩, ?_, (by repeat' (first | (with_reducible exact HGU.out) | (with_reducible exact gr_refl _ _) | (with_reducible refine gr_set ?_ (by first | (left; rfl) | (right; simp; done) | (right; simp; omega) | (left; omega)) _) | (with_reducible refine gr_alloc ?_ _) | (with_reducible refine gr_drew ?_) | (with_reducible refine gr_drewN ?_ _)))⟩
      have h := Blk.set_ HPU.out 4 (.bool true)
      rw [psC4] at h
      show Blk _ g 66 (psC ⟨ex, ch, left, true, true, nm, se, tk, fl⟩)
      exact (by repeat' (first | (with_reducible exact h) | (with_reducible refine Blk.far ?_ (by first | omega | (simp; done) | (simp; omega)) _) | (with_reducible refine Blk.alloc ?_ _) | (with_reducible refine Blk.drew ?_) | (with_reducible refine Blk.drewN ?_ _)))
    · have hvl := bytes_ne hv
      have HX : Hid (jL ⟨ex, ch, left, true, false, nm, se, tk, fl⟩ 1 v = [(4, 1, ⟨#[]⟩, tNo)] ∧ jS ⟨ex, ch, left, true, false, nm, se, tk, fl⟩ 1 v = ⟨ex, ch, left, true, false, nm, se, tk, true⟩) := Lib.hid ⟨by unfold jL; simp [hv, hD], by unfold jS; simp [hv, hD]⟩
      go_enter Try.func27, Try.ntmps27
      go_wp2_with fail
      go_region_held3 (fun W => Below w.heap.size w W ∧ W.cell? ⟨g, 0, none⟩ = some (.string ex) ∧ W.cell? ⟨g, 1, none⟩ = some (.string ch) ∧ W.cell? ⟨g, 4, none⟩ = some (.bool false) ∧ W.cell? ⟨b, 2, none⟩ = some (.string v))
        (first | exact ⟨(Below.refl _ _).drew, p0, p1, p4, c2⟩ | (have hB := below_call ((Below.refl _ w).drew) hbu (Nat.le_refl _); exact ⟨hB, (hB.cell hlt).trans p0, (hB.cell hlt).trans p1, (hB.cell hlt).trans p4, (hB.cell hlb).trans c2⟩))
        (first | (go_at_call 35; refine (dchap_any _ _ _ _ (by omega) (by omega)).mono ?_; rintro e u ⟨rfl, hbu⟩; rw [hD]))
      rename_i hHeld
      obtain ⟨hB, h0, h1, h4, -⟩ := hHeld
      have hpu : Blk u g 66 (psC ⟨ex, ch, left, true, false, nm, se, tk, fl⟩) := Blk.below HP.out hB hlt
      have hfu := hpu.frozen
      have h8 : u.cell? ⟨g, 8, none⟩ = some (.bool fl) := (hB.cell hlt).trans p8
      have hgu := gr_of g hB
      have HPU := Lib.hid hpu; have HGU := Lib.hid hgu; clear hpu hgu
      go_wp2_with fail
      go_ret
      unfold PJu
      rw [HX.out.1, HX.out.2]
      refine ⟨⟨_, _, rfl, ChapsAt.new_at _ _ (by simp) _ _ _ _, NewA.some (by first | exact HGU.out.size | (simp; exact HGU.out.size))⟩, ?_, (by repeat' (first | (with_reducible exact HGU.out) | (with_reducible exact gr_refl _ _) | (with_reducible refine gr_set ?_ (by first | (left; rfl) | (right; simp; done) | (right; simp; omega) | (left; omega)) _) | (with_reducible refine gr_alloc ?_ _) | (with_reducible refine gr_drew ?_) | (with_reducible refine gr_drewN ?_ _)))⟩
      have h := Blk.set_ HPU.out 8 (.bool true)
      rw [psC8] at h
      show Blk _ g 66 (psC ⟨ex, ch, left, true, false, nm, se, tk, true⟩)
      exact (by repeat' (first | (with_reducible exact h) | (with_reducible refine Blk.far ?_ (by first | omega | (simp; done) | (simp; omega)) _) | (with_reducible refine Blk.alloc ?_ _) | (with_reducible refine Blk.drew ?_) | (with_reducible refine Blk.drewN ?_ _)))

end Go.Proofs.Ytdfefpbpfneahaa
