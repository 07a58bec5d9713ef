/- What all laws of chapter 7 ask first: it returns true. No condition. -/
import Derived.Test.YtppegmggcmjboaaRepPut
import Derived.Test.YtppegmggcmjboaaRepGet
namespace Go.Proofs.Ytppegmggcmjboaa
open Go.RowKit
set_option linter.unusedVariables false
set_option linter.unusedSimpArgs false
attribute [local go_sem] conv1 conv1d conv1n conv1a conv1ad conv1an conv2 conv2d conv2n conv2a conv2ad conv2an conv4 conv4d conv4n conv4a conv4ad conv4an conv5 conv5d conv5n conv5a conv5ad conv5an size_nums byt_fold
theorem IntsAt.made_at (w : World) (b : Nat) (hb : b = w.heap.size) (zs : List Int) (cs : Array Value) (t : TypeId) (n : Nat) (hn : zs.length = n) (h : cs.toList = intCells zs) : IntsAt (w.alloc (.cells cs t)) (some ⟨b, 0, none⟩) n zs := by
  subst hb
  refine ⟨hn, fun _ => ⟨w.heap.size, 0, rfl, by simp, fun j hj => ?_⟩⟩
  rw [cell_of_row _ _ _ _ _ _ (heap_alloc_new w (.cells cs t))]
  have a1 : (intCells zs)[j]? = some (.int .i64 zs[j]) := by unfold intCells; rw [List.getElem?_map, List.getElem?_eq_getElem hj]; rfl
  rw [← h] at a1
  simp only [Nat.zero_add]
  simpa using a1
def twelve : List Int := [1, 2, 3, 4, 5, 6, 7, 8, 9, 10, 11, 4294967295]
set_option maxRecDepth 100000 in
set_option maxHeartbeats 1000000 in
theorem awake_any (w : World) : Calls Try.prog 15 #[] w fun e w' => e = .returned (.bool true) ∧ Below w.heap.size w w' := by
  have a1 : rE twelve = 0 := by decide +kernel
  have a2 : rE [1] = 700 := by decide +kernel
  obtain ⟨b1, b2⟩ := rback1 a1
  obtain ⟨T, hT⟩ : ∃ T, rS twelve = T := ⟨_, rfl⟩
  rw [hT] at b1 b2
  have a3 : gE T = 0 := by unfold gE; rw [if_pos b1]
  have A1 := Lib.hid a1; have A2 := Lib.hid a2; have A3 := Lib.hid a3; have HT := Lib.hid hT; have B2 := Lib.hid b2
  clear a1 a2 a3 hT b2
  have HV0 := Lib.hid (IntsAt.made_at w _ rfl twelve #[.int .i64 1, .int .i64 2, .int .i64 3, .int .i64 4, .int .i64 5, .int .i64 6, .int .i64 7, .int .i64 8, .int .i64 9, .int .i64 10, .int .i64 11, .int .i64 4294967295] 3 12 rfl rfl)
  go_enter Try.func15, Try.ntmps15
  go_wp2_with (first | (go_at_call 11; refine (num_any _ _).mono ?_; rintro e w' ⟨rfl, rfl⟩))
  refine (repput_any _ _ _ twelve _ HV0.out (by simp)).mono ?_
  rintro e w1 ⟨rfl, hb1⟩
  rw [HT.out, A1.out]
  have hz1 := hb1.size
  simp at hz1
  have bel1 : Below w.heap.size w w1 := ((Below.refl _ _).alloc (Nat.le_refl _) _).trans (hb1.mono (by simp))
  go_wp2_with (first | (go_at_call 11; refine (num_any _ _).mono ?_; rintro e w' ⟨rfl, rfl⟩))
  refine (repget_any _ _).mono ?_
  rintro e w2 ⟨A2', cap2, rfl, hown2, hb2⟩
  rw [A3.out, B2.out]
  rw [B2.out] at hown2
  have hz2 := hb2.size
  have bel2 := below_step bel1 hb2 (by omega)
  have hv2 := IntsAt.own hown2
  have HV2 := Lib.hid hv2
  clear hown2 hv2
  have HV2' := Lib.hid (IntsAt.made_at w2 _ rfl [1] #[.int .i64 1] 3 1 rfl rfl)
  have hlen : twelve.length = 12 := rfl
  rw [hlen]
  go_wp2_with (first | (go_at_call 11; refine (num_any _ _).mono ?_; rintro e w' ⟨rfl, rfl⟩))
  refine (repput_any _ _ _ [1] _ HV2'.out (by simp)).mono ?_
  rintro e w3 ⟨rfl, hb3⟩
  rw [A2.out]
  have hz3 := hb3.size
  simp at hz3
  have b23 : Below w2.heap.size w2 w3 := ((Below.refl _ _).alloc (Nat.le_refl _) _).trans (hb3.mono (by simp))
  have bel3 := below_step bel2 b23 (by omega)
  obtain ⟨b, off, z, rfl, hb, ho, c1⟩ := (HV2.out.keep b23).at_ 11 (by decide)
  obtain rfl : (4294967295 : Int) = z := Option.some.inj ho
  clear ho
  go_wp2_with (first | (go_at_call 11; refine (num_any _ _).mono ?_; rintro e w' ⟨rfl, rfl⟩))
  go_ret
  exact ⟨rfl, bel3⟩
end Go.Proofs.Ytppegmggcmjboaa
