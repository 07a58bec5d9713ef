/- The reference's Control where it writes a packet of options: as control.Put. No condition but memory's own limits. -/
import Derived.Test.YtmonkjogonjflaaCtlRef
namespace Go.Proofs.Ytmonkjogonjflaa
open Go.RowKit
set_option linter.unusedVariables false
set_option linter.unusedSimpArgs false
attribute [local go_sem] conv1 conv1d conv1n conv1a conv1ad conv1an conv2 conv2d conv2n conv2a conv2ad conv2an conv4 conv4d conv4n conv4a conv4ad conv4an conv5 conv5d conv5n conv5a conv5ad conv5an size_nums byt_fold
attribute [local go_sem high] run_string_add
set_option maxRecDepth 100000 in
set_option maxHeartbeats 8000000 in
theorem rctl_o2 (c i : Int) (A : Option Addr) (n cap : Nat) (os : List (Int × ByteArray)) (d : ByteArray) (w : World) (hv : OptsAt w A n os) (hn : n ≤ 9223372036854775807) (hd : d.size ≤ 140737488351232) (ho : ∀ o ∈ os, o.2.size ≤ 140737488351232)
    (hc0 : 0 ≤ c) (hc1 : c ≤ 255) (hi0 : 0 ≤ i) (hi1 : i ≤ 255) (B : ByteArray) (hB : cBody c os d = B) (hbad : cBad c os d = false) (hshort : B.size ≤ 2044) (h1 : 1 ≤ c) (h2 : c ≤ 4) (h3 : oE os = 0) (h4 : d.toList.isEmpty = true) (h5 : oS os = B) :
    Calls Try.prog 10 #[.agg #[.int .i64 c, .int .i64 i, .slice A n cap, .string d]] w (CtlPut c i os d w) := by
  have o1 : octB c = true := by unfold octB; exact decide_eq_true ⟨hc0, hc1⟩
  have o2 : octB i = true := by unfold octB; exact decide_eq_true ⟨hi0, hi1⟩
  have O1 := Lib.hid o1; have O2 := Lib.hid o2; have HBAD := Lib.hid hbad; have HV := Lib.hid hv; have HO := Lib.hid ho; have HB := Lib.hid hB; have HN := Lib.hid hn
  clear o1 o2 hbad hv ho hB hn hd
  have u1 : IntKind.u8.wrap c = c := IntWalk.u8_in c (by omega)
  have u2 : IntKind.u8.wrap i = i := IntWalk.u8_in i (by omega)
  have hBs2 : (B.size : Int) ≤ 8388608 := by omega
  have HX := Lib.hid h3; have HT := Lib.hid h5
  clear h3 h5
  go_enter Try.func10, Try.ntmps10
  go_wp2_with fail
  refine (ropts_any A n cap os _ (HV.out.keep ((Below.refl _ _).alloc (Nat.le_refl _) _)) HN.out HO.out).mono ?_
  rintro e w1 ⟨rfl, hb1⟩
  rw [HT.out, HX.out]
  obtain ⟨hcc, hff⟩ := bcell hb1
  have hz1 := hb1.size
  simp at hz1
  have z1 : w.heap.size < w1.heap.size := by omega
  have bel : Below w.heap.size w w1 := ((Below.refl _ _).alloc (Nat.le_refl _) _).trans (hb1.mono (by simp))
  clear hb1
  go_wp2_with fail
  obtain ⟨L, hL⟩ : ∃ L : Nat, IntKind.i64.wrap ((B.size : Int) + 4) = (L : Int) := ⟨4 + B.size, by rw [IntWalk.i64_in _ (by omega)]; omega⟩
  have HL : Hid ((L : Int) = 4 + B.size) := by show _ = _; rw [← hL, IntWalk.i64_in _ (by omega)]; omega
  have hL2 : (L : Int) < 65536 := by have := HL.out; omega
  go_region_with (first | (go_at_call 23; refine (two_any _ (by omega) (by omega) _).mono ?_; rintro e w' ⟨rfl, rfl⟩))
  all_goals
    go_wp2
    go_ret2
    exact ctlput_ok2 (by repeat' (first | (with_reducible exact bel) | (with_reducible refine Below.setCell ?_ (Nat.le_refl _) _) | (with_reducible apply Below.setCell) | (with_reducible apply Below.alloc) | (with_reducible apply Below.drew) | (with_reducible apply below_drewN) | (exact Nat.le_refl _) | omega | (simp; done) | (simp; omega))) O1.out O2.out HBAD.out HB.out (by omega) HL.out
end Go.Proofs.Ytmonkjogonjflaa
