/- What all laws of chapter 5 ask first, and SamePacket where the packets are alike: each returns true. No condition. -/
import Derived.Test.YtmonkjogonjflaaCtlGet
import Derived.Test.YtmonkjogonjflaaOptEq
import Derived.Test.YtmonkjogonjflaaMake
namespace Go.Proofs.Ytmonkjogonjflaa
open Go.RowKit
set_option linter.unusedVariables false
set_option linter.unusedSimpArgs false
attribute [local go_sem] conv1 conv1d conv1n conv1a conv1ad conv1an conv2 conv2d conv2n conv2a conv2ad conv2an conv4 conv4d conv4n conv4a conv4ad conv4an conv5 conv5d conv5n conv5a conv5ad conv5an size_nums byt_fold
theorem OptsAt.made_at (w : World) (b : Nat) (hb : b = w.heap.size) (os : List (Int × ByteArray)) (cs : Array Value) (t : TypeId) (n : Nat) (hn : os.length = n) (h : cs.toList = optCells os) : OptsAt (w.alloc (.cells cs t)) (some ⟨b, 0, none⟩) n os := by
  subst hb
  refine ⟨hn, fun _ => ⟨w.heap.size, 0, rfl, by simp, fun j hj => ?_⟩⟩
  obtain ⟨a1, a2⟩ := optCells_at os j hj
  rw [cell_of_row _ _ _ _ _ _ (heap_alloc_new w (.cells cs t)), cell_of_row _ _ _ _ _ _ (heap_alloc_new w (.cells cs t))]
  rw [← h] at a1 a2
  simp only [Nat.zero_add]
  exact ⟨by simpa using a1, by simpa using a2⟩
theorem own_keep {w w' : World} {base n : Nat} {e : TypeId} {size : Nat} {v : Value} {xs : List Value} (h : w.ownsRow base e size v n xs) (hb : Below w.heap.size w w') : w'.ownsRow base e size v n xs := by
  refine ⟨h.1, ?_⟩
  rcases h.2 with h | ⟨g, cap, cur, rfl, hg, hh, r⟩
  · exact .inl h
  · exact .inr ⟨g, cap, cur, rfl, hg, (hb.block g (Array.getElem?_eq_some_iff.1 hh).1).trans hh, r⟩
/-- A block's first cells, as a list. -/
def Box (w : World) (b : Nat) (l : List Value) : Prop := b < w.heap.size ∧ ∀ j v, l[j]? = some v → w.cell? ⟨b, j, none⟩ = some v
theorem Box.keep {w w' : World} {b : Nat} {l : List Value} (h : Box w b l) (hb : Below w.heap.size w w') : Box w' b l :=
  ⟨Nat.lt_of_lt_of_le h.1 hb.size, fun j v hj => (hb.cell (p := ⟨b, j, none⟩) h.1).trans (h.2 j v hj)⟩
theorem Box.new (w : World) (b : Nat) (hb : b = w.heap.size) (cs : Array Value) (t : TypeId) : Box (w.alloc (.cells cs t)) b cs.toList := by
  subst hb
  refine ⟨by simp, fun j v hj => ?_⟩
  rw [cell_of_row _ _ _ _ _ _ (heap_alloc_new w (.cells cs t))]
  simpa using hj
theorem Box.alloc {w : World} {b : Nat} {l : List Value} (h : Box w b l) (o : Obj) : Box (w.alloc o) b l := h.keep ((Below.refl _ _).alloc (Nat.le_refl _) _)
set_option maxRecDepth 100000 in
set_option maxHeartbeats 1000000 in
theorem samep_any (c i : Int) (d : ByteArray) (A B : Option Addr) (n m cap cap' : Nat) (os : List (Int × ByteArray)) (w : World) (hv : OptsAt w A n os) (hu : OptsAt w B m os) (hn : n ≤ 9223372036854775807) :
    Calls Try.prog 14 #[.agg #[.int .i64 c, .int .i64 i, .slice A n cap, .string d], .agg #[.int .i64 c, .int .i64 i, .slice B m cap', .string d]] w fun e w' => e = .returned (.bool true) ∧ Below w.heap.size w w' := by
  have HV := Lib.hid hv; clear hv
  have HU := Lib.hid hu; clear hu
  go_enter Try.func14, Try.ntmps14
  go_wp2_with fail
  refine (same_any _ _ _ _ _ _ os os _ ((HV.out.keep ((Below.refl _ _).alloc (Nat.le_refl _) _)).keep ((Below.refl _ _).alloc (Nat.le_refl _) _)) ((HU.out.keep ((Below.refl _ _).alloc (Nat.le_refl _) _)).keep ((Below.refl _ _).alloc (Nat.le_refl _) _)) hn).mono ?_
  rintro e w1 ⟨rfl, hb1⟩
  rw [same_refl]
  go_wp2_with fail
  go_ret
  exact ⟨rfl, (by repeat' (first | (with_reducible exact Below.refl _ _) | (with_reducible apply Below.drew) | (with_reducible apply below_drewN) | (with_reducible apply Below.setCell) | (with_reducible apply Below.alloc) | (with_reducible refine below_step ?_ (by assumption) ?_) | omega | (simp; done) | (simp; omega)))⟩
set_option maxRecDepth 100000 in
set_option maxHeartbeats 1000000 in
theorem awake_any (w : World) : Calls Try.prog 17 #[] w fun e w' => e = .returned (.bool true) ∧ Below w.heap.size w w' := by
  have a1 : cS 1 7 [(1, ⟨#[97, 98]⟩)] ⟨#[]⟩ = ⟨#[1, 7, 0, 8, 1, 4, 97, 98]⟩ := by decide +kernel
  have a2 : cE 1 7 [(1, ⟨#[97, 98]⟩)] ⟨#[]⟩ = 0 := by decide +kernel
  have a3 : kE (⟨#[1, 7, 0, 8, 1, 4, 97, 98]⟩ ++ ⟨#[112, 97, 100]⟩) = 0 := by decide +kernel
  have a4 : kCode (⟨#[1, 7, 0, 8, 1, 4, 97, 98]⟩ ++ ⟨#[112, 97, 100]⟩) = 1 := by decide +kernel
  have a5 : kId (⟨#[1, 7, 0, 8, 1, 4, 97, 98]⟩ ++ ⟨#[112, 97, 100]⟩) = 7 := by decide +kernel
  have a6 : kL (⟨#[1, 7, 0, 8, 1, 4, 97, 98]⟩ ++ ⟨#[112, 97, 100]⟩) = [(1, ⟨#[97, 98]⟩)] := by decide +kernel
  have a7 : kD (⟨#[1, 7, 0, 8, 1, 4, 97, 98]⟩ ++ ⟨#[112, 97, 100]⟩) = ⟨#[]⟩ := by decide +kernel
  have a8 : kE ⟨#[1]⟩ = 500 := by decide +kernel
  have a9 : cE 9 0 [(1, ⟨#[97, 98]⟩)] ⟨#[]⟩ = 502 := by decide +kernel
  have A := Lib.hid (And.intro a1 (And.intro a2 (And.intro a3 (And.intro a4 (And.intro a5 (And.intro a6 (And.intro a7 (And.intro a8 a9))))))))
  clear a1 a2 a3 a4 a5 a6 a7 a8 a9
  have hv0 : OptsAt (w.alloc (.cells #[.int .i64 1, .string ⟨#[97, 98]⟩] 46)) (some ⟨w.heap.size, 0, none⟩) 1 [(1, ⟨#[97, 98]⟩)] := OptsAt.made_at w _ rfl _ _ _ 1 rfl rfl
  have HV0 := Lib.hid hv0; clear hv0
  go_enter Try.func17, Try.ntmps17
  go_wp2_with (first | (go_at_call 13; refine (num_any _ _).mono ?_; rintro e w' ⟨rfl, rfl⟩))
  refine (ctlput_any _ _ _ _ _ [(1, ⟨#[97, 98]⟩)] ⟨#[]⟩ _ (HV0.out.keep ((Below.refl _ _).alloc (Nat.le_refl _) _)) (by simp) (by decide)).mono ?_
  rintro e w1 ⟨rfl, hb1⟩
  rw [A.out.1, A.out.2.1]
  have hz1 := hb1.size
  simp at hz1
  have HV1 := Lib.hid ((HV0.out.keep ((Below.refl _ _).alloc (Nat.le_refl _) _)).keep hb1)
  have bel1 : Below w.heap.size w w1 := (((Below.refl _ _).alloc (Nat.le_refl _) _).alloc (by simp) _).trans (hb1.mono (by simp; omega))
  have BP1 := Lib.hid ((Box.new (w.alloc (.cells #[.int .i64 1, .string ⟨#[97, 98]⟩] 46)) (w.heap.size + 1) (by simp) #[.int .i64 1, .int .i64 7, .slice (some ⟨w.heap.size, 0, none⟩) 1 1, .string ⟨#[]⟩] 24).keep hb1)
  go_wp2_with (first | (go_at_call 13; refine (num_any _ _).mono ?_; rintro e w' ⟨rfl, rfl⟩))
  refine (ctlget_any _ _).mono ?_
  rintro e w2 ⟨A2, cap2, rfl, hown2, hb2⟩
  rw [A.out.2.2.1, A.out.2.2.2.1, A.out.2.2.2.2.1, A.out.2.2.2.2.2.1, A.out.2.2.2.2.2.2.1]
  rw [A.out.2.2.2.2.2.1] at hown2
  have hz2 := hb2.size
  have HV2 := Lib.hid (OptsAt.own hown2); clear hown2
  have bel2 := below_step bel1 hb2 (by omega)
  have BP2 := Lib.hid (BP1.out.keep hb2)
  have BQ2 := Lib.hid (Box.new w2 w2.heap.size rfl #[.int .i64 1, .int .i64 7, .slice A2 1 cap2, .string ⟨#[]⟩] 24)
  go_wp2_with (first | (go_at_call 13; refine (num_any _ _).mono ?_; rintro e w' ⟨rfl, rfl⟩))
  refine (ctlget_any _ _).mono ?_
  rintro e w3 ⟨A3, cap3, rfl, hown3, hb3⟩
  rw [A.out.2.2.2.2.2.2.2.1]
  clear hown3
  have hz3 := hb3.size
  simp at hz3
  have bel3 : Below w.heap.size w w3 := (bel2.alloc (by omega) _).trans (hb3.mono (by simp; omega))
  have BP3 := Lib.hid ((BP2.out.alloc _).keep hb3)
  have BQ3 := Lib.hid (BQ2.out.keep hb3)
  have hv3 := ((HV1.out.keep hb2).keep ((Below.refl _ _).alloc (Nat.le_refl _) _)).keep hb3
  have HV3 := Lib.hid hv3; clear hv3
  have HQ3 := Lib.hid ((HV2.out.keep ((Below.refl _ _).alloc (Nat.le_refl _) _)).keep hb3)
  have p2 := BP3.out.2 2 _ rfl
  have zz : w.heap.size + 1 < w3.heap.size := by omega
  go_wp2_with (first | (go_at_call 13; refine (num_any _ _).mono ?_; rintro e w' ⟨rfl, rfl⟩))
  refine (ctlput_any _ _ _ _ _ [(1, ⟨#[97, 98]⟩)] ⟨#[]⟩ _ (HV3.out.keep ((Below.refl _ _).alloc (Nat.le_refl _) _)) (by simp) (by decide)).mono ?_
  rintro e w4 ⟨rfl, hb4⟩
  rw [A.out.2.2.2.2.2.2.2.2]
  have hz4 := hb4.size
  simp at hz4
  have bel4 : Below w.heap.size w w4 := (bel3.alloc (by omega) _).trans (hb4.mono (by simp; omega))
  have BP4 := (BP3.out.alloc _).keep hb4
  have BQ4 := (BQ3.out.alloc _).keep hb4
  clear p2
  have p0 := BP4.2 0 _ rfl
  have p1 := BP4.2 1 _ rfl
  have p2 := BP4.2 2 _ rfl
  have p3 := BP4.2 3 _ rfl
  have q0 := BQ4.2 0 _ rfl
  have q1 := BQ4.2 1 _ rfl
  have q2 := BQ4.2 2 _ rfl
  have q3 := BQ4.2 3 _ rfl
  clear BP4 BQ4
  go_wp2_with (first | (go_at_call 13; refine (num_any _ _).mono ?_; rintro e w' ⟨rfl, rfl⟩))
  refine (samep_any 1 7 ⟨#[]⟩ _ _ _ _ _ _ [(1, ⟨#[97, 98]⟩)] _ ((HQ3.out.keep ((Below.refl _ _).alloc (Nat.le_refl _) _)).keep hb4) ((HV3.out.keep ((Below.refl _ _).alloc (Nat.le_refl _) _)).keep hb4) (by simp)).mono ?_
  rintro e w5 ⟨rfl, hb5⟩
  go_wp2_with (first | (go_at_call 13; refine (num_any _ _).mono ?_; rintro e w' ⟨rfl, rfl⟩))
  go_ret
  exact ⟨rfl, below_step bel4 hb5 (by omega)⟩
end Go.Proofs.Ytmonkjogonjflaa
