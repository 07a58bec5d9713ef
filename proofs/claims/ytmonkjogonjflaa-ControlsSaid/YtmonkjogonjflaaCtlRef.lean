/- The contract of the reference's Control: as control.Put. No condition but memory's own limits. -/
import Derived.Test.YtmonkjogonjflaaCtlPut
import Derived.Test.YtmonkjogonjflaaOptRef
import Derived.Test.YtmonkjogonjflaaTwo
import Derived.BigRegion
import Derived.Deep.RegionWith
namespace Go.Proofs.Ytmonkjogonjflaa
open Go.RowKit
set_option linter.unusedVariables false
set_option linter.unusedSimpArgs false
attribute [local go_sem] conv1 conv1d conv1n conv1a conv1ad conv1an conv2 conv2d conv2n conv2a conv2ad conv2an conv4 conv4d conv4n conv4a conv4ad conv4an conv5 conv5d conv5n conv5a conv5ad conv5an size_nums byt_fold
attribute [local go_sem high] run_string_add_sum
theorem ctlput_ok2 {c i : Int} {os : List (Int × ByteArray)} {d B : ByteArray} {L : Int} {w w' : World} (hb : Below w.heap.size w w') (h1 : octB c = true) (h2 : octB i = true) (h : cBad c os d = false) (hB : cBody c os d = B) (h3 : B.size ≤ 2044) (hL : L = 4 + B.size) :
    CtlPut c i os d w (.returned (.tuple #[.string (strOfNums [c, i] ++ strOfNums [L / 256, L % 256] ++ B), .int .i64 0])) w' :=
  ctlput_ok hb h1 h2 h (by rw [hB]; omega) (by rw [nums_app, hL, hB]; rfl)
set_option maxRecDepth 100000 in
set_option maxHeartbeats 1000000 in
theorem rctl_a (c i : Int) (A : Option Addr) (n cap : Nat) (os : List (Int × ByteArray)) (d : ByteArray) (w : World) (h : c < 0 ∨ (0 ≤ c ∧ 255 < c) ∨ (0 ≤ c ∧ c ≤ 255 ∧ i < 0) ∨ (0 ≤ c ∧ c ≤ 255 ∧ 0 ≤ i ∧ 255 < i)) :
    Calls Try.prog 10 #[.agg #[.int .i64 c, .int .i64 i, .slice A n cap, .string d]] w (CtlPut c i os d w) := by
  have hx : octB c = false ∨ octB i = false := by unfold octB; rcases h with h | h | h | h; left; exact decide_eq_false (by omega); left; exact decide_eq_false (by omega); right; exact decide_eq_false (by omega); right; exact decide_eq_false (by omega)
  have HX := Lib.hid hx; clear hx
  rcases h with h | ⟨h1, h2⟩ | ⟨h1, h2, h3⟩ | ⟨h1, h2, h3, h4⟩
  all_goals
    go_enter Try.func10, Try.ntmps10
    go_wp2_with fail
    go_ret2
    exact ctlput_501 (by repeat' (first | (with_reducible exact Below.refl _ _) | (with_reducible apply Below.drew) | (with_reducible apply below_drewN) | (with_reducible apply Below.setCell) | (with_reducible apply Below.alloc) | (with_reducible refine below_step ?_ (by assumption) ?_) | omega | (simp; done) | (simp; omega))) HX.out
set_option maxRecDepth 100000 in
set_option maxHeartbeats 1000000 in
theorem rctl_b (c i : Int) (A : Option Addr) (n cap : Nat) (os : List (Int × ByteArray)) (d : ByteArray) (w : World) (hv : OptsAt w A n os) (hn : n ≤ 9223372036854775807) (hd : d.size ≤ 140737488351232) (ho : ∀ o ∈ os, o.2.size ≤ 140737488351232)
    (hc0 : 0 ≤ c) (hc1 : c ≤ 255) (hi0 : 0 ≤ i) (hi1 : i ≤ 255) (T : ByteArray) (x : Int) (hT : oS os = T) (hx : oE os = x) (hbad : cBad c os d = true)
    (h : ((c < 1 ∨ 4 < c) ∧ 0 < n) ∨ (1 ≤ c ∧ c ≤ 4 ∧ (x != 0) = true) ∨ (1 ≤ c ∧ c ≤ 4 ∧ (x != 0) = false ∧ d.toList.isEmpty = false)) :
    Calls Try.prog 10 #[.agg #[.int .i64 c, .int .i64 i, .slice A n cap, .string d]] w (CtlPut c i os d w) := by
  have o1 : octB c = true := by unfold octB; exact decide_eq_true ⟨hc0, hc1⟩
  have o2 : octB i = true := by unfold octB; exact decide_eq_true ⟨hi0, hi1⟩
  have O1 := Lib.hid o1; have O2 := Lib.hid o2; have HBAD := Lib.hid hbad; have HV := Lib.hid hv; have HO := Lib.hid ho; have HT := Lib.hid hT; have HX := Lib.hid hx
  clear o1 o2 hbad hv ho hT hx
  rcases h with ⟨h1 | h1, h2⟩ | ⟨h1, h2, h3⟩ | ⟨h1, h2, h3, h4⟩
  iterate 2
    · have hn0 : decide ((0 : Int) < (n : Int)) = true := by simp; omega
      go_enter Try.func10, Try.ntmps10
      go_wp2_with fail
      go_ret2
      exact ctlput_502 (by repeat' (first | (with_reducible exact Below.refl _ _) | (with_reducible apply Below.drew) | (with_reducible apply below_drewN) | (with_reducible apply Below.setCell) | (with_reducible apply Below.alloc) | (with_reducible refine below_step ?_ (by assumption) ?_) | omega | (simp; done) | (simp; omega))) O1.out O2.out HBAD.out
  all_goals
    go_enter Try.func10, Try.ntmps10
    go_wp2_with fail
    refine (ropts_any A n cap os _ (HV.out.keep ((Below.refl _ _).alloc (Nat.le_refl _) _)) hn HO.out).mono ?_
    rintro e w1 ⟨rfl, hb1⟩
    rw [HT.out, HX.out]
    obtain ⟨hcc, hff⟩ := bcell hb1
    have hz1 := hb1.size
    simp at hz1
    have z1 : w.heap.size < w1.heap.size := by omega
    have bel : Below w.heap.size w w1 := ((Below.refl _ _).alloc (Nat.le_refl _) _).trans (hb1.mono (by simp))
    go_wp2_with fail
    go_ret2
    exact ctlput_502 bel O1.out O2.out HBAD.out
set_option maxRecDepth 100000 in
set_option maxHeartbeats 1000000 in
theorem rctl_c (c i : Int) (A : Option Addr) (n cap : Nat) (os : List (Int × ByteArray)) (d : ByteArray) (w : World) (hv : OptsAt w A n os) (hn : n ≤ 9223372036854775807) (hd : d.size ≤ 140737488351232) (ho : ∀ o ∈ os, o.2.size ≤ 140737488351232)
    (hc0 : 0 ≤ c) (hc1 : c ≤ 255) (hi0 : 0 ≤ i) (hi1 : i ≤ 255) (B : ByteArray) (hB : cBody c os d = B) (hbad : cBad c os d = false) (hlong : 2044 < B.size)
    (h : ((c < 1 ∨ 4 < c) ∧ ((n : Int) ≤ 0) ∧ d = B) ∨ (1 ≤ c ∧ c ≤ 4 ∧ oE os = 0 ∧ d.toList.isEmpty = true ∧ oS os = B)) :
    Calls Try.prog 10 #[.agg #[.int .i64 c, .int .i64 i, .slice A n cap, .string d]] w (CtlPut c i os d w) := by
  have o1 : octB c = true := by unfold octB; exact decide_eq_true ⟨hc0, hc1⟩
  have o2 : octB i = true := by unfold octB; exact decide_eq_true ⟨hi0, hi1⟩
  have O1 := Lib.hid o1; have O2 := Lib.hid o2; have HBAD := Lib.hid hbad; have HV := Lib.hid hv; have HO := Lib.hid ho; have HB := Lib.hid hB
  clear o1 o2 hbad hv ho hB
  rcases h with ⟨h1 | h1, h2, rfl⟩ | ⟨h1, h2, h3, h4, h5⟩
  iterate 2
    · go_enter Try.func10, Try.ntmps10
      go_wp2_with fail
      go_ret2
      exact ctlput_503 (by repeat' (first | (with_reducible exact Below.refl _ _) | (with_reducible apply Below.drew) | (with_reducible apply below_drewN) | (with_reducible apply Below.setCell) | (with_reducible apply Below.alloc) | (with_reducible refine below_step ?_ (by assumption) ?_) | omega | (simp; done) | (simp; omega))) O1.out O2.out HBAD.out (by rw [HB.out]; omega)
  · have HX := Lib.hid h3; have HT := Lib.hid h5
    have hz := oS_size os
    rw [h5] at hz
    clear h3 h5
    go_enter Try.func10, Try.ntmps10
    go_wp2_with fail
    refine (ropts_any A n cap os _ (HV.out.keep ((Below.refl _ _).alloc (Nat.le_refl _) _)) hn HO.out).mono ?_
    rintro e w1 ⟨rfl, hb1⟩
    rw [HT.out, HX.out]
    obtain ⟨hcc, hff⟩ := bcell hb1
    have hz1 := hb1.size
    simp at hz1
    have z1 : w.heap.size < w1.heap.size := by omega
    have bel : Below w.heap.size w w1 := ((Below.refl _ _).alloc (Nat.le_refl _) _).trans (hb1.mono (by simp))
    go_wp2_with fail
    go_ret2
    exact ctlput_503 bel O1.out O2.out HBAD.out (by rw [HB.out]; omega)
end Go.Proofs.Ytmonkjogonjflaa
