/- SameBap and SameBaps where the datagrams are alike: each returns true. No condition but memory's own limits. -/
import Derived.Test.YtckbbfdllflmjaaOptEq
import Derived.Test.YtckbbfdllflmjaaBlk
import Derived.Test.YtckbbfdllflmjaaCells
import Derived.Test.YtckbbfdllflmjaaStill
namespace Go.Proofs.Ytckbbfdllflmjaa
open Go.RowKit
set_option linter.unusedVariables false
set_option linter.unusedSimpArgs false
attribute [local go_sem] conv1 conv1d conv1n conv1a conv1ad conv1an conv2 conv2d conv2n conv2a conv2ad conv2an conv4 conv4d conv4n conv4a conv4ad conv4an conv5 conv5d conv5n conv5a conv5ad conv5an size_nums byt_fold
theorem OptsAt.made_at (w : World) (b : Nat) (hb : b = w.heap.size) (os : List (Int × ByteArray)) (cs : Array Value) (t : TypeId) (n : Nat) (hn : os.length = n) (h : cs.toList = optCells os) : OptsAt (w.alloc (.cells cs t)) (some ⟨b, 0, none⟩) n os := by
  subst hb
  refine ⟨hn, fun _ => ⟨w.heap.size, 0, rfl, by simp, fun j hj => ?_⟩⟩
  obtain ⟨a1, a2⟩ := optCells_at os j hj
  rw [cell_of_row _ _ _ _ _ _ (heap_alloc_new w (.cells cs t)), cell_of_row _ _ _ _ _ _ (heap_alloc_new w (.cells cs t))]
  rw [← h] at a1 a2
  simp only [Nat.zero_add]
  exact ⟨by simpa using a1, by simpa using a2⟩
set_option maxRecDepth 100000 in
set_option maxHeartbeats 1000000 in
theorem sameb_any (c i a : Int) (A B : Option Addr) (n m cap cap' : Nat) (os : List (Int × ByteArray)) (w : World) (hv : OptsAt w A n os) (hu : OptsAt w B m os) (hn : n ≤ 9223372036854775807) :
    Calls Try.prog 17 #[.agg #[.int .i64 c, .int .i64 i, .int .i64 a, .slice A n cap], .agg #[.int .i64 c, .int .i64 i, .int .i64 a, .slice B m cap']] w fun e w' => e = .returned (.bool true) ∧ Below w.heap.size w w' := by
  have HV := Lib.hid hv; clear hv
  have HU := Lib.hid hu; clear hu
  go_enter Try.func17, Try.ntmps17
  go_wp2_with fail
  refine (same_any _ _ _ _ _ _ os os _ ((HV.out.keep ((Below.refl _ _).alloc (Nat.le_refl _) _)).keep ((Below.refl _ _).alloc (Nat.le_refl _) _)) ((HU.out.keep ((Below.refl _ _).alloc (Nat.le_refl _) _)).keep ((Below.refl _ _).alloc (Nat.le_refl _) _)) hn).mono ?_
  rintro e w1 ⟨rfl, hb1⟩
  rw [same_refl]
  go_wp2_with fail
  go_ret
  exact ⟨rfl, (by repeat' (first | (with_reducible exact Below.refl _ _) | (with_reducible apply Below.drew) | (with_reducible apply below_drewN) | (with_reducible apply Below.setCell) | (with_reducible apply Below.alloc) | (with_reducible refine below_step ?_ (by assumption) ?_) | omega | (simp; done) | (simp; omega)))⟩
set_option maxRecDepth 100000 in
set_option maxHeartbeats 1000000 in
theorem samebs_nil (A B : Option Addr) (cap cap' : Nat) (w : World) : Calls Try.prog 23 #[.slice A 0 cap, .slice B 0 cap'] w fun e w' => e = .returned (.bool true) ∧ Below w.heap.size w w' := by
  go_enter Try.func23, Try.ntmps23
  go_wp2_with fail
  go_loopw [5] (fun i wr => i = .int .i64 0 ∧ Below w.heap.size w wr) (fun i _ => 0)
  case atStart => exact ⟨rfl, Below.refl _ _⟩
  case round =>
    obtain ⟨rfl, hbel⟩ := hrel
    go_wp2_with fail
    go_ret
    exact ⟨rfl, hbel⟩
set_option maxRecDepth 100000 in
set_option maxHeartbeats 1000000 in
theorem samebs_one (c i a : Int) (b b' : Nat) (R R' : Option Addr) (n n' rc rc' : Nat) (os : List (Int × ByteArray)) (w : World) (h : Blk w b 34 #[.int .i64 c, .int .i64 i, .int .i64 a, .slice R n rc]) (h' : Blk w b' 34 #[.int .i64 c, .int .i64 i, .int .i64 a, .slice R' n' rc']) (hv : OptsAt w R n os) (hu : OptsAt w R' n' os) (hn : n ≤ 9223372036854775807) (cap cap' : Nat) :
    Calls Try.prog 23 #[.slice (some ⟨b, 0, none⟩) 1 cap, .slice (some ⟨b', 0, none⟩) 1 cap'] w fun e w' => e = .returned (.bool true) ∧ Below w.heap.size w w' := by
  have H := Lib.hid h; have H' := Lib.hid h'; have HV := Lib.hid hv; have HU := Lib.hid hu
  clear h h' hv hu
  go_enter Try.func23, Try.ntmps23
  go_wp2_with fail
  go_loopw [5] (fun i wr => ∃ k : Nat, i = .int .i64 k ∧ k ≤ 1 ∧ Below w.heap.size w wr) (fun i _ => 1 - (intOf i).toNat)
  case atStart => exact ⟨0, rfl, by omega, Below.refl _ _⟩
  case round =>
    obtain ⟨k, rfl, hk, hbel⟩ := hrel
    rcases (by omega : k = 0 ∨ k = 1) with rfl | rfl
    · have hb1 := H.out.keep hbel
      have hb2 := H'.out.keep hbel
      have c0 : wr.cell? ⟨b, 0, none⟩ = some (.int .i64 c) := hb1.cell 0
      have c1 : wr.cell? ⟨b, 1, none⟩ = some (.int .i64 i) := hb1.cell 1
      have c2 : wr.cell? ⟨b, 2, none⟩ = some (.int .i64 a) := hb1.cell 2
      have c3 : wr.cell? ⟨b, 3, none⟩ = some (.slice R n rc) := hb1.cell 3
      have d0 : wr.cell? ⟨b', 0, none⟩ = some (.int .i64 c) := hb2.cell 0
      have d1 : wr.cell? ⟨b', 1, none⟩ = some (.int .i64 i) := hb2.cell 1
      have d2 : wr.cell? ⟨b', 2, none⟩ = some (.int .i64 a) := hb2.cell 2
      have d3 : wr.cell? ⟨b', 3, none⟩ = some (.slice R' n' rc') := hb2.cell 3
      clear hb1 hb2
      go_wp2_with fail
      have hl1 := (H.out.keep hbel).lt
      have hl2 := (H'.out.keep hbel).lt
      (refine region_tail 8 (by kernel_rfl) (by kernel_rfl) ?_; simp only [List.take_succ_cons, List.take_zero, List.drop_succ_cons, List.drop_zero]; (repeat (first | (refine wpStill_step (fun K hK => ?_); go_simp; refine hK _ ?_; clear hK K) | (refine wpStill_step (fun K hK => ?_); go_simp; refine ⟨_, rfl, hK _ ?_⟩; clear hK K))); refine wpStill_nil ?_)
      go_wp2_with fail
      refine (sameb_any c i a R R' n n' rc rc' os _ ((HV.out.keep hbel).keep (Below.refl _ _).drew) ((HU.out.keep hbel).keep (Below.refl _ _).drew) hn).mono ?_
      rintro e w2 ⟨rfl, hb2⟩
      go_wp2_with fail
      go_roundw
      case rel => exact ⟨1, by go_num, by omega, below_step hbel.drew hb2 hbel.size⟩
      case measure => simp [intOf]
    · go_wp2_with fail
      go_ret
      exact ⟨rfl, hbel⟩
end Go.Proofs.Ytckbbfdllflmjaa
