/- The reference's Chap where it writes a message: as chapmsg.Put. No condition. -/
import Derived.Test.YtdfefpbpfneahaaChapRef
import Derived.BigRegion
import Derived.Deep.RegionWith
namespace Go.Proofs.Ytdfefpbpfneahaa
open Go.RowKit
set_option linter.unusedVariables false
set_option linter.unusedSimpArgs false
attribute [local go_sem] conv1 conv1d conv1n conv1a conv1ad conv1an conv2 conv2d conv2n conv2a conv2ad conv2an conv4 conv4d conv4n conv4a conv4ad conv4an conv5 conv5d conv5n conv5a conv5ad conv5an size_nums byt_fold
attribute [local go_sem high] run_string_add

set_option maxRecDepth 100000 in
set_option maxHeartbeats 4000000 in
theorem rput_o1 (i : Int) (v nm : ByteArray) (w : World) (h1 : 0 ≤ i) (h2 : i ≤ 255) (h3 : 0 < v.size) (h4 : v.size ≤ 255) (h5 : nm.size ≤ 253) :
    Calls Try.prog 32 #[.agg #[.int .i64 1, .int .i64 i, .string v, .string nm]] w (ChPut 1 i v nm w) := by
  have u1 : IntKind.u8.wrap 1 = 1 := by decide
  have u2 : IntKind.u8.wrap i = i := IntWalk.u8_in i (by omega)
  go_enter Try.func32, Try.ntmps32
  go_wp2_with (first | fail)
  generalize hB : strOfNums [(v.size : Int)] ++ v ++ nm = B
  have HB : Hid (chBody 1 v nm = B) := by show chBody 1 v nm = B; rw [← hB]; rfl
  have hBs : B.size = 1 + v.size + nm.size := by rw [← hB]; simp only [size_app, size_nums]; rfl
  clear hB
  have hBs2 : (B.size : Int) ≤ 8388608 := by omega
  have HBs := Lib.hid hBs; clear hBs
  obtain ⟨L, hL⟩ : ∃ L : Nat, IntKind.i64.wrap (B.size + 4) = (L : Int) := ⟨4 + B.size, by rw [IntWalk.i64_in _ (by omega)]; omega⟩
  have HL : Hid ((L : Int) = 4 + B.size) := by show _ = _; rw [← hL, IntWalk.i64_in _ (by omega)]; omega
  have hL2 : (L : Int) < 65536 := by have := HL.out; have := HBs.out; omega
  go_region_with (first | (go_at_call 38; refine (two_any _ (by omega) (by omega) _).mono ?_; rintro e w' ⟨rfl, rfl⟩))
  all_goals
    go_wp2
    go_ret2
    exact chput_ok2 (by repeat' (first | (with_reducible exact Below.refl _ _) | (with_reducible apply Below.drew) | (with_reducible apply below_drewN) | (with_reducible apply Below.setCell) | (with_reducible apply Below.alloc) | (with_reducible refine below_step ?_ (by assumption) ?_) | omega | (simp; done) | (simp; omega))) (by omega) ⟨h1, h2⟩ (by rw [decide_eq_true h3]; rfl) h4 h5 HB.out HL.out
end Go.Proofs.Ytdfefpbpfneahaa
