/- What all laws of chapter 9 ask first, and SameBap where the datagrams are alike: each returns true. No condition. -/
import Derived.Test.YthhbgokjalmmpaaBapGetC
import Derived.Test.YthhbgokjalmmpaaOptEq
import Derived.Test.YthhbgokjalmmpaaMake
namespace Go.Proofs.Ythhbgokjalmmpaa
open Go.RowKit
set_option linter.unusedVariables false
set_option linter.unusedSimpArgs false
attribute [local go_sem] conv1 conv1d conv1n conv1a conv1ad conv1an conv2 conv2d conv2n conv2a conv2ad conv2an conv4 conv4d conv4n conv4a conv4ad conv4an conv5 conv5d conv5n conv5a conv5ad conv5an size_nums byt_fold
theorem OptsAt.made_at (w : World) (b : Nat) (hb : b = w.heap.size) (os : List (Int × ByteArray)) (cs : Array Value) (t : TypeId) (n : Nat) (hn : os.length = n) (h : cs.toList = optCells os) : OptsAt (w.alloc (.cells cs t)) (some ⟨b, 0, none⟩) n os := by
  subst hb
  refine ⟨hn, fun _ => ⟨w.heap.size, 0, rfl, by simp, fun j hj => ?_⟩⟩
  obtain ⟨a1, a2⟩ := optCells_at os j hj
  rw [cell_of_row _ _ _ _ _ _ (heap_alloc_new w (.cells cs t)), cell_of_row _ _ _ _ _ _ (heap_alloc_new w (.cells cs t))]
  rw [← h] at a1 a2
  simp only [Nat.zero_add]
  exact ⟨by simpa using a1, by simpa using a2⟩
/-- A block's first cells, as a list. -/
def Box (w : World) (b : Nat) (l : List Value) : Prop := b < w.heap.size ∧ ∀ j v, l[j]? = some v → w.cell? ⟨b, j, none⟩ = some v
theorem Box.keep {w w' : World} {b : Nat} {l : List Value} (h : Box w b l) (hb : Below w.heap.size w w') : Box w' b l :=
  ⟨Nat.lt_of_lt_of_le h.1 hb.size, fun j v hj => (hb.cell (p := ⟨b, j, none⟩) h.1).trans (h.2 j v hj)⟩
theorem Box.new (w : World) (b : Nat) (hb : b = w.heap.size) (cs : Array Value) (t : TypeId) : Box (w.alloc (.cells cs t)) b cs.toList := by
  subst hb
  refine ⟨by simp, fun j v hj => ?_⟩
  rw [cell_of_row _ _ _ _ _ _ (heap_alloc_new w (.cells cs t))]
  simpa using hj
theorem Box.alloc {w : World} {b : Nat} {l : List Value} (h : Box w b l) (o : Obj) : Box (w.alloc o) b l := h.keep ((Below.refl _ _).alloc (Nat.le_refl _) _)
theorem Box.drew {w : World} {b : Nat} {l : List Value} (h : Box w b l) : Box w.drew b l := h
set_option maxRecDepth 100000 in
set_option maxHeartbeats 1000000 in
theorem sameb_any (c i a : Int) (A B : Option Addr) (n m cap cap' : Nat) (os : List (Int × ByteArray)) (w : World) (hv : OptsAt w A n os) (hu : OptsAt w B m os) (hn : n ≤ 9223372036854775807) :
    Calls Try.prog 10 #[.agg #[.int .i64 c, .int .i64 i, .int .i64 a, .slice A n cap], .agg #[.int .i64 c, .int .i64 i, .int .i64 a, .slice B m cap']] w fun e w' => e = .returned (.bool true) ∧ Below w.heap.size w w' := by
  have HV := Lib.hid hv; clear hv
  have HU := Lib.hid hu; clear hu
  go_enter Try.func10, Try.ntmps10
  go_wp2_with fail
  refine (same_any _ _ _ _ _ _ os os _ ((HV.out.keep ((Below.refl _ _).alloc (Nat.le_refl _) _)).keep ((Below.refl _ _).alloc (Nat.le_refl _) _)) ((HU.out.keep ((Below.refl _ _).alloc (Nat.le_refl _) _)).keep ((Below.refl _ _).alloc (Nat.le_refl _) _)) hn).mono ?_
  rintro e w1 ⟨rfl, hb1⟩
  rw [same_refl]
  go_wp2_with fail
  go_ret
  exact ⟨rfl, (by repeat' (first | (with_reducible exact Below.refl _ _) | (with_reducible apply Below.drew) | (with_reducible apply below_drewN) | (with_reducible apply Below.setCell) | (with_reducible apply Below.alloc) | (with_reducible refine below_step ?_ (by assumption) ?_) | omega | (simp; done) | (simp; omega)))⟩
set_option maxRecDepth 100000 in
set_option maxHeartbeats 1000000 in
theorem awake_any (w : World) : Calls Try.prog 6 #[] w fun e w' => e = .returned (.bool true) ∧ Below w.heap.size w w' := by
  have a1 : bS 2 4 1 [(1, ⟨#[122]⟩)] = ⟨#[2, 4, 0, 8, 1, 1, 3, 122]⟩ := by decide +kernel
  have a2 : bE 2 4 1 [(1, ⟨#[122]⟩)] = 0 := by decide +kernel
  have a3 : gE ⟨#[2, 4, 0, 8, 1, 1, 3, 122]⟩ = 0 := by decide +kernel
  have a4 : gC ⟨#[2, 4, 0, 8, 1, 1, 3, 122]⟩ = 2 := by decide +kernel
  have a5 : gI ⟨#[2, 4, 0, 8, 1, 1, 3, 122]⟩ = 4 := by decide +kernel
  have a6 : gA ⟨#[2, 4, 0, 8, 1, 1, 3, 122]⟩ = 1 := by decide +kernel
  have a7 : gL ⟨#[2, 4, 0, 8, 1, 1, 3, 122]⟩ = [(1, ⟨#[122]⟩)] := by decide +kernel
  have a8 : gE ⟨#[9, 0, 0, 4]⟩ = 900 := by decide +kernel
  have a9 : bE 1 0 1 [] = 900 := by decide +kernel
  have A1 := Lib.hid a1; have A2 := Lib.hid a2; have A3 := Lib.hid a3; have A4 := Lib.hid a4; have A5 := Lib.hid a5; have A6 := Lib.hid a6; have A7 := Lib.hid a7; have A8 := Lib.hid a8; have A9 := Lib.hid a9
  clear a1 a2 a3 a4 a5 a6 a7 a8 a9
  have hv0 : OptsAt (w.alloc (.cells #[.int .i64 1, .string ⟨#[122]⟩] 39)) (some ⟨w.heap.size, 0, none⟩) 1 [(1, ⟨#[122]⟩)] := OptsAt.made_at w _ rfl _ _ _ 1 rfl rfl
  have HV0 := Lib.hid hv0; clear hv0
  go_enter Try.func6, Try.ntmps6
  go_wp2_with (first | (go_at_call 8; refine (num_any _ _).mono ?_; rintro e w' ⟨rfl, rfl⟩))
  refine (bapput_any _ _ _ _ _ _ [(1, ⟨#[122]⟩)] _ (HV0.out.keep ((Below.refl _ _).alloc (Nat.le_refl _) _)) (by simp)).mono ?_
  rintro e w1 ⟨rfl, hb1⟩
  rw [A1.out, A2.out]
  have hz1 := hb1.size
  simp at hz1
  have HV1 := Lib.hid ((HV0.out.keep ((Below.refl _ _).alloc (Nat.le_refl _) _)).keep hb1)
  have bel1 : Below w.heap.size w w1 := (((Below.refl _ _).alloc (Nat.le_refl _) _).alloc (by simp) _).trans (hb1.mono (by simp; omega))
  have BP1 := Lib.hid ((Box.new (w.alloc (.cells #[.int .i64 1, .string ⟨#[122]⟩] 39)) (w.heap.size + 1) (by simp) #[.int .i64 2, .int .i64 4, .int .i64 1, .slice (some ⟨w.heap.size, 0, none⟩) 1 1] 24).keep hb1)
  go_wp2_with (first | (go_at_call 8; refine (num_any _ _).mono ?_; rintro e w' ⟨rfl, rfl⟩))
  refine (bapget_any _ _).mono ?_
  rintro e w2 ⟨A2', cap2, rfl, hown2, hb2⟩
  rw [A3.out, A4.out, A5.out, A6.out, A7.out]
  rw [A7.out] at hown2
  have hz2 := hb2.size
  have HV2 := Lib.hid (OptsAt.own hown2); clear hown2
  have bel2 := below_step bel1 hb2 (by omega)
  have BP2 := Lib.hid (BP1.out.keep hb2)
  have BQ2 := Lib.hid (Box.new w2 w2.heap.size rfl #[.int .i64 2, .int .i64 4, .int .i64 1, .slice A2' 1 cap2] 24)
  go_wp2_with (first | (go_at_call 8; refine (num_any _ _).mono ?_; rintro e w' ⟨rfl, rfl⟩))
  refine (bapget_any _ _).mono ?_
  rintro e w3 ⟨A3', cap3, rfl, hown3, hb3⟩
  rw [A8.out]
  clear hown3
  have hz3 := hb3.size
  simp at hz3
  have bel3 : Below w.heap.size w w3 := (bel2.alloc (by omega) _).trans (hb3.mono (by simp; omega))
  have BP3 := Lib.hid ((BP2.out.alloc _).keep hb3)
  have BQ3 := Lib.hid (BQ2.out.keep hb3)
  have HV3 := Lib.hid (((HV1.out.keep hb2).keep ((Below.refl _ _).alloc (Nat.le_refl _) _)).keep hb3)
  have HQ3 := Lib.hid ((HV2.out.keep ((Below.refl _ _).alloc (Nat.le_refl _) _)).keep hb3)
  have zz : w.heap.size + 1 < w3.heap.size := by omega
  go_wp2_with (first | (go_at_call 8; refine (num_any _ _).mono ?_; rintro e w' ⟨rfl, rfl⟩))
  refine (bapput_any _ _ _ _ _ _ [] _ (OptsAt.nil _ _) (by simp)).mono ?_
  rintro e w4 ⟨rfl, hb4⟩
  rw [A9.out]
  have hz4 := hb4.size
  simp at hz4
  have bel4 : Below w.heap.size w w4 := (bel3.alloc (by omega) _).trans (hb4.mono (by simp; omega))
  have BP4 := (BP3.out.alloc _).keep hb4
  have BQ4 := (BQ3.out.alloc _).keep hb4
  have p0 := BP4.2 0 _ rfl
  have p1 := BP4.2 1 _ rfl
  have p2 := BP4.2 2 _ rfl
  have p3 := BP4.2 3 _ rfl
  have q0 := BQ4.2 0 _ rfl
  have q1 := BQ4.2 1 _ rfl
  have q2 := BQ4.2 2 _ rfl
  have q3 := BQ4.2 3 _ rfl
  clear BP4 BQ4
  go_wp2_with (first | (go_at_call 8; refine (num_any _ _).mono ?_; rintro e w' ⟨rfl, rfl⟩))
  refine (sameb_any 2 4 1 _ _ _ _ _ _ [(1, ⟨#[122]⟩)] _ ((HQ3.out.keep ((Below.refl _ _).alloc (Nat.le_refl _) _)).keep hb4) ((HV3.out.keep ((Below.refl _ _).alloc (Nat.le_refl _) _)).keep hb4) (by simp)).mono ?_
  rintro e w5 ⟨rfl, hb5⟩
  go_wp2_with (first | (go_at_call 8; refine (num_any _ _).mono ?_; rintro e w' ⟨rfl, rfl⟩))
  go_ret
  exact ⟨rfl, below_step bel4 hb5 (by omega)⟩
end Go.Proofs.Ythhbgokjalmmpaa
