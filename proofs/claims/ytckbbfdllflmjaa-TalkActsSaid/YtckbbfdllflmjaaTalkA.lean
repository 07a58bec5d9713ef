/- The contracts of package bap's New, clone, Pending, Last, Again. No condition but memory's own limits. -/
import Derived.Test.YtckbbfdllflmjaaTalk
import Derived.Test.YtckbbfdllflmjaaCells
import Derived.Test.YtckbbfdllflmjaaElectC
namespace Go.Proofs.Ytckbbfdllflmjaa
open Go.RowKit
set_option linter.unusedVariables false
set_option linter.unusedSimpArgs false
attribute [local go_sem] conv1 conv1d conv1n conv1a conv1ad conv1an conv2 conv2d conv2n conv2a conv2ad conv2an conv4 conv4d conv4n conv4a conv4ad conv4an conv5 conv5d conv5n conv5a conv5ad conv5an size_nums byt_fold
theorem MadeO.mono {w w1 w' : World} {A : Option Addr} {n cap : Nat} {l : List (Int × ByteArray)} (h : MadeO w1 w' A n cap l) (hs : w.heap.size ≤ w1.heap.size) : MadeO w w' A n cap l := by
  obtain ⟨⟨h1, h2⟩, h3, h4⟩ := h
  refine ⟨⟨h1, ?_⟩, h3, h4⟩
  rcases h2 with h | ⟨g, cap', cur, e, hg, r⟩
  · exact .inl h
  · exact .inr ⟨g, cap', cur, e, Nat.le_trans hs hg, r⟩
theorem MadeO.grown {w w' w2 : World} {A : Option Addr} {n cap x : Nat} {l : List (Int × ByteArray)} (h : MadeO w w' A n cap l) (hg : w'.grownBy w2 (some x)) (hx : ∀ a, A = some a → a.block ≠ x) : MadeO w w2 A n cap l := by
  refine ⟨h.1.kept hg ?_, h.2⟩
  cases A with
  | none => left; rfl
  | some a => right; intro e; exact hx a rfl (by simpa [Value.ownBlock] using e)
theorem MadeO.keep {w w' w2 : World} {A : Option Addr} {n cap : Nat} {l : List (Int × ByteArray)} (h : MadeO w w' A n cap l) (hb : Below w'.heap.size w' w2) : MadeO w w2 A n cap l :=
  h.grown (gr_of w'.heap.size hb) (fun a ha => by have := (h.new a ha).2; omega)
theorem MadeO.far {w w' : World} {A : Option Addr} {n cap : Nat} {l : List (Int × ByteArray)} (h : MadeO w w' A n cap l) {p : Addr} (hp : p.block < w.heap.size) (u : Value) : MadeO w (w'.setCell p u) A n cap l :=
  h.grown (gr_set (gr_refl w' p.block) (.inl rfl) u) (fun a ha => by have := (h.new a ha).1; omega)
theorem MadeO.alloc {w w' : World} {A : Option Addr} {n cap : Nat} {l : List (Int × ByteArray)} (h : MadeO w w' A n cap l) (o : Obj) : MadeO w (w'.alloc o) A n cap l := h.keep ((Below.refl _ _).alloc (Nat.le_refl _) _)
theorem MadeO.drew {w w' : World} {A : Option Addr} {n cap : Nat} {l : List (Int × ByteArray)} (h : MadeO w w' A n cap l) : MadeO w w'.drew A n cap l := h
theorem MadeO.drewN {w w' : World} {A : Option Addr} {n cap : Nat} {l : List (Int × ByteArray)} (h : MadeO w w' A n cap l) (k : Nat) : MadeO w (w'.drewN k) A n cap l := h
def CloneB (c i a : Int) (n : Nat) (os : List (Int × ByteArray)) (w : World) (e : Ending) (w' : World) : Prop := ∃ R rc, e = .returned (.agg #[.int .i64 c, .int .i64 i, .int .i64 a, .slice R n rc]) ∧ MadeO w w' R n rc os ∧ Below w.heap.size w w'
set_option maxRecDepth 100000 in
set_option maxHeartbeats 1000000 in
theorem clone_any (c i a : Int) (A : Option Addr) (n cap : Nat) (os : List (Int × ByteArray)) (w : World) (hv : OptsAt w A n os) (hn : n * 24 ≤ 140737488351232) (hcap : A = none → n = 0 ∧ cap = 0) :
    Calls Try.prog 33 #[.agg #[.int .i64 c, .int .i64 i, .int .i64 a, .slice A n cap]] w (CloneB c i a n os w) := by
  have HV := Lib.hid hv; clear hv
  have HC := Lib.hid hcap; clear hcap
  go_enter Try.func33, Try.ntmps33
  go_wp2_with fail
  refine (sclone_any A n cap os _ ((HV.out.keep ((Below.refl _ _).alloc (Nat.le_refl _) _)).keep ((Below.refl _ _).alloc (Nat.le_refl _) _)) hn HC.out).mono ?_
  rintro e w1 ⟨R, rc, rfl, hm, hb1⟩
  obtain ⟨hc1, hf1⟩ := bcell hb1
  have hz1 := hb1.size
  simp at hz1
  have z1 : w.heap.size < w1.heap.size := by omega
  have z2 : w.heap.size + 1 < w1.heap.size := by omega
  have HM := Lib.hid hm; clear hm
  have bel : Below w.heap.size w w1 := (((Below.refl _ _).alloc (Nat.le_refl _) _).alloc (by simp) _).trans (hb1.mono (by simp; omega))
  have f0 : Free w1 w.heap.size := (by repeat' (first | (with_reducible exact hb1) | (with_reducible refine freeK hb1 ?_) | ((with_reducible refine free0 ?hb); (case hb => first | rfl | (simp; done))) | (with_reducible refine freeA ?_) | (with_reducible refine freeD ?_) | (with_reducible refine freeN ?_) | (with_reducible refine freeS ?_)))
  have f1 : Free w1 (w.heap.size + 1) := (by repeat' (first | (with_reducible exact hb1) | (with_reducible refine freeK hb1 ?_) | ((with_reducible refine free0 ?hb); (case hb => first | rfl | (simp; done))) | (with_reducible refine freeA ?_) | (with_reducible refine freeD ?_) | (with_reducible refine freeN ?_) | (with_reducible refine freeS ?_)))
  have f0' := f0.2; have f1' := f1.2
  have k0 : w1.cell? ⟨w.heap.size, 0, none⟩ = some (.int .i64 c) := (by repeat' (first | (with_reducible refine cell1 ?_) | (with_reducible exact hb1) | (with_reducible refine cellK hb1 ?_) | ((with_reducible refine cell0 ?hb ?hv); (case hb => first | rfl | (simp; done)); (case hv => rfl)) | (with_reducible refine cellA ?_) | (with_reducible refine cellD ?_) | (with_reducible refine cellN ?_) | ((with_reducible refine cellS ?hn ?_); (case hn => first | (left; omega) | (right; omega) | (left; simp; omega))) | ((with_reducible refine has0 ?hb ?hv); (case hb => first | rfl | (simp; done)); (case hv => rfl)) | (with_reducible refine hasA ?_) | (with_reducible refine hasD ?_) | (with_reducible refine hasN ?_) | (with_reducible refine hasK hb1 ?_) | (with_reducible refine hasS ?_)))
  have k1 : w1.cell? ⟨w.heap.size, 1, none⟩ = some (.int .i64 i) := (by repeat' (first | (with_reducible refine cell1 ?_) | (with_reducible exact hb1) | (with_reducible refine cellK hb1 ?_) | ((with_reducible refine cell0 ?hb ?hv); (case hb => first | rfl | (simp; done)); (case hv => rfl)) | (with_reducible refine cellA ?_) | (with_reducible refine cellD ?_) | (with_reducible refine cellN ?_) | ((with_reducible refine cellS ?hn ?_); (case hn => first | (left; omega) | (right; omega) | (left; simp; omega))) | ((with_reducible refine has0 ?hb ?hv); (case hb => first | rfl | (simp; done)); (case hv => rfl)) | (with_reducible refine hasA ?_) | (with_reducible refine hasD ?_) | (with_reducible refine hasN ?_) | (with_reducible refine hasK hb1 ?_) | (with_reducible refine hasS ?_)))
  have k2 : w1.cell? ⟨w.heap.size, 2, none⟩ = some (.int .i64 a) := (by repeat' (first | (with_reducible refine cell1 ?_) | (with_reducible exact hb1) | (with_reducible refine cellK hb1 ?_) | ((with_reducible refine cell0 ?hb ?hv); (case hb => first | rfl | (simp; done)); (case hv => rfl)) | (with_reducible refine cellA ?_) | (with_reducible refine cellD ?_) | (with_reducible refine cellN ?_) | ((with_reducible refine cellS ?hn ?_); (case hn => first | (left; omega) | (right; omega) | (left; simp; omega))) | ((with_reducible refine has0 ?hb ?hv); (case hb => first | rfl | (simp; done)); (case hv => rfl)) | (with_reducible refine hasA ?_) | (with_reducible refine hasD ?_) | (with_reducible refine hasN ?_) | (with_reducible refine hasK hb1 ?_) | (with_reducible refine hasS ?_)))
  have k3 : w1.cell? ⟨w.heap.size, 3, none⟩ = some (.slice A n cap) := (by repeat' (first | (with_reducible refine cell1 ?_) | (with_reducible exact hb1) | (with_reducible refine cellK hb1 ?_) | ((with_reducible refine cell0 ?hb ?hv); (case hb => first | rfl | (simp; done)); (case hv => rfl)) | (with_reducible refine cellA ?_) | (with_reducible refine cellD ?_) | (with_reducible refine cellN ?_) | ((with_reducible refine cellS ?hn ?_); (case hn => first | (left; omega) | (right; omega) | (left; simp; omega))) | ((with_reducible refine has0 ?hb ?hv); (case hb => first | rfl | (simp; done)); (case hv => rfl)) | (with_reducible refine hasA ?_) | (with_reducible refine hasD ?_) | (with_reducible refine hasN ?_) | (with_reducible refine hasK hb1 ?_) | (with_reducible refine hasS ?_)))
  have r0 : w1.cell? ⟨w.heap.size + 1, 0, none⟩ = some (.int .i64 0) := (by repeat' (first | (with_reducible refine cell1 ?_) | (with_reducible exact hb1) | (with_reducible refine cellK hb1 ?_) | ((with_reducible refine cell0 ?hb ?hv); (case hb => first | rfl | (simp; done)); (case hv => rfl)) | (with_reducible refine cellA ?_) | (with_reducible refine cellD ?_) | (with_reducible refine cellN ?_) | ((with_reducible refine cellS ?hn ?_); (case hn => first | (left; omega) | (right; omega) | (left; simp; omega))) | ((with_reducible refine has0 ?hb ?hv); (case hb => first | rfl | (simp; done)); (case hv => rfl)) | (with_reducible refine hasA ?_) | (with_reducible refine hasD ?_) | (with_reducible refine hasN ?_) | (with_reducible refine hasK hb1 ?_) | (with_reducible refine hasS ?_)))
  have r1 : w1.cell? ⟨w.heap.size + 1, 1, none⟩ = some (.int .i64 0) := (by repeat' (first | (with_reducible refine cell1 ?_) | (with_reducible exact hb1) | (with_reducible refine cellK hb1 ?_) | ((with_reducible refine cell0 ?hb ?hv); (case hb => first | rfl | (simp; done)); (case hv => rfl)) | (with_reducible refine cellA ?_) | (with_reducible refine cellD ?_) | (with_reducible refine cellN ?_) | ((with_reducible refine cellS ?hn ?_); (case hn => first | (left; omega) | (right; omega) | (left; simp; omega))) | ((with_reducible refine has0 ?hb ?hv); (case hb => first | rfl | (simp; done)); (case hv => rfl)) | (with_reducible refine hasA ?_) | (with_reducible refine hasD ?_) | (with_reducible refine hasN ?_) | (with_reducible refine hasK hb1 ?_) | (with_reducible refine hasS ?_)))
  have r2 : w1.cell? ⟨w.heap.size + 1, 2, none⟩ = some (.int .i64 0) := (by repeat' (first | (with_reducible refine cell1 ?_) | (with_reducible exact hb1) | (with_reducible refine cellK hb1 ?_) | ((with_reducible refine cell0 ?hb ?hv); (case hb => first | rfl | (simp; done)); (case hv => rfl)) | (with_reducible refine cellA ?_) | (with_reducible refine cellD ?_) | (with_reducible refine cellN ?_) | ((with_reducible refine cellS ?hn ?_); (case hn => first | (left; omega) | (right; omega) | (left; simp; omega))) | ((with_reducible refine has0 ?hb ?hv); (case hb => first | rfl | (simp; done)); (case hv => rfl)) | (with_reducible refine hasA ?_) | (with_reducible refine hasD ?_) | (with_reducible refine hasN ?_) | (with_reducible refine hasK hb1 ?_) | (with_reducible refine hasS ?_)))
  have r3 : w1.cell? ⟨w.heap.size + 1, 3, none⟩ = some (.slice none 0 0) := (by repeat' (first | (with_reducible refine cell1 ?_) | (with_reducible exact hb1) | (with_reducible refine cellK hb1 ?_) | ((with_reducible refine cell0 ?hb ?hv); (case hb => first | rfl | (simp; done)); (case hv => rfl)) | (with_reducible refine cellA ?_) | (with_reducible refine cellD ?_) | (with_reducible refine cellN ?_) | ((with_reducible refine cellS ?hn ?_); (case hn => first | (left; omega) | (right; omega) | (left; simp; omega))) | ((with_reducible refine has0 ?hb ?hv); (case hb => first | rfl | (simp; done)); (case hv => rfl)) | (with_reducible refine hasA ?_) | (with_reducible refine hasD ?_) | (with_reducible refine hasN ?_) | (with_reducible refine hasK hb1 ?_) | (with_reducible refine hasS ?_)))
  clear f0 f1
  go_wp2_with fail
  refine bodyPost_ret (v := .agg #[.int .i64 c, .int .i64 i, .int .i64 a, .slice R n rc]) (by simp [results, Try.results33, go_sem, k0, k1, k2, k3, r0, r1, r2, r3]) rfl ?_
  refine ⟨R, rc, rfl, ?_, ?_⟩
  · refine MadeO.mono (w1 := (w.alloc (.cells #[.int .i64 c, .int .i64 i, .int .i64 a, .slice A n cap] 34)).alloc (.cells #[.int .i64 0, .int .i64 0, .int .i64 0, .slice none 0 0] 34)) ?_ (by simp; omega)
    exact (by repeat' (first | (with_reducible exact HM.out) | (with_reducible refine MadeO.far ?_ (by first | omega | (simp; done) | (simp; omega)) _) | (with_reducible refine MadeO.alloc ?_ _) | (with_reducible refine MadeO.drew ?_) | (with_reducible refine MadeO.drewN ?_ _)))
  · exact (by repeat' (first | (with_reducible exact bel) | (with_reducible refine Below.setCell ?_ (Nat.le_refl _) _) | (with_reducible apply Below.setCell) | (with_reducible apply Below.alloc) | (with_reducible apply Below.drew) | (with_reducible apply below_drewN) | (exact Nat.le_refl _) | omega | (simp; done) | (simp; omega)))
def tnewB (tries : Int) : Bool := decide (1 ≤ tries ∧ tries ≤ 10)
def ts0 (fav : Bool) (tries : Int) : TS := ⟨0, 0, 0, [], 0, fav, tries, 0, 0, 0, 0, []⟩
set_option maxHeartbeats 1000000 in
theorem tnew_bad (fav : Bool) (tries : Int) (w : World) (h : tnewB tries = false) : Calls Try.prog 10 #[.bool fav, .int .i64 tries] w fun e w' => e = .returned (.tuple #[.pointer none, .int .i64 2200]) ∧ w = w' := by
  have h4 : tries < 1 ∨ 10 < tries := by have := of_decide_eq_false h; omega
  clear h
  rcases h4 with h4 | h4
  all_goals
    go_enter Try.func10, Try.ntmps10
    go_wp2_with fail
    go_ret2
    exact ⟨rfl, rfl⟩
set_option maxHeartbeats 1000000 in
theorem tnew_ok (fav : Bool) (tries : Int) (w : World) (h : tnewB tries = true) (X : Nat → Prop) : Calls Try.prog 10 #[.bool fav, .int .i64 tries] w fun e w' => e = .returned (.tuple #[.pointer (some ⟨w.heap.size, 0, none⟩), .int .i64 0]) ∧ TAt w' X w.heap.size (ts0 fav tries) ∧ Below w.heap.size w w' := by
  obtain ⟨h4, h5⟩ := of_decide_eq_true h
  clear h
  go_enter Try.func10, Try.ntmps10
  go_wp2_with fail
  go_ret2
  exact ⟨rfl, ⟨none, 0, 0, none, 0, 0, Blk.new _ _ _, Lies.nil _ _, Lies.nil _ _⟩, (Below.refl _ _).alloc (Nat.le_refl _) _⟩
set_option maxHeartbeats 1000000 in
theorem pending_any (X : Nat → Prop) (g : Nat) (s : TS) (w : World) (hp : TAt w X g s) : Calls Try.prog 26 #[.pointer (some ⟨g, 0, none⟩)] w fun e w' => e = .returned (.bool (decide (0 < s.left))) ∧ w = w' := by
  obtain ⟨A, n, cap, B, m, cb, h, h1, h2⟩ := hp
  have c4 : w.cell? ⟨g, 4, none⟩ = some (.int .i64 s.left) := h.cell 4
  clear h h1 h2
  go_enter Try.func26, Try.ntmps26
  go_wp2_with fail
  go_ret
  exact ⟨rfl, rfl⟩
def LastB (s : TS) (X : Nat → Prop) (g : Nat) (w : World) (e : Ending) (w' : World) : Prop := ∃ R rn rc, e = .returned (.agg #[.int .i64 s.lc, .int .i64 s.li, .int .i64 s.la, .slice R rn rc]) ∧ MadeO w w' R rn rc s.ll ∧ Below w.heap.size w w'
set_option maxRecDepth 100000 in
set_option maxHeartbeats 1000000 in
theorem last_any (X : Nat → Prop) (g : Nat) (s : TS) (w : World) (hp : TAt w X g s) : Calls Try.prog 25 #[.pointer (some ⟨g, 0, none⟩)] w (LastB s X g w) := by
  obtain ⟨A, n, cap, B, m, cb, h, -, h2⟩ := hp
  have c8 : w.cell? ⟨g, 8, none⟩ = some (.int .i64 s.lc) := h.cell 8
  have c9 : w.cell? ⟨g, 9, none⟩ = some (.int .i64 s.li) := h.cell 9
  have c10 : w.cell? ⟨g, 10, none⟩ = some (.int .i64 s.la) := h.cell 10
  have c11 : w.cell? ⟨g, 11, none⟩ = some (.slice B m cb) := h.cell 11
  have hlt := h.lt
  have H2 := Lib.hid h2
  clear h h2
  go_enter Try.func25, Try.ntmps25
  go_wp2_with fail
  refine (clone_any _ _ _ B m cb s.ll _ (H2.out.1.keep ((Below.refl _ _).alloc (Nat.le_refl _) _)) H2.out.2.1 H2.out.2.2.1).mono ?_
  rintro e w1 ⟨R, rc, rfl, hm, hb1⟩
  obtain ⟨hc1, hf1⟩ := bcell hb1
  have hz1 := hb1.size
  simp at hz1
  have z1 : w.heap.size < w1.heap.size := by omega
  have HM := Lib.hid hm; clear hm
  have bel : Below w.heap.size w w1 := ((Below.refl _ _).alloc (Nat.le_refl _) _).trans (hb1.mono (by simp))
  have f0 : Free w1 w.heap.size := (by repeat' (first | (with_reducible exact hb1) | (with_reducible refine freeK hb1 ?_) | ((with_reducible refine free0 ?hb); (case hb => first | rfl | (simp; done))) | (with_reducible refine freeA ?_) | (with_reducible refine freeD ?_) | (with_reducible refine freeN ?_) | (with_reducible refine freeS ?_)))
  have f0' := f0.2
  have r0 : w1.cell? ⟨w.heap.size, 0, none⟩ = some (.int .i64 0) := (by repeat' (first | (with_reducible refine cell1 ?_) | (with_reducible exact hb1) | (with_reducible refine cellK hb1 ?_) | ((with_reducible refine cell0 ?hb ?hv); (case hb => first | rfl | (simp; done)); (case hv => rfl)) | (with_reducible refine cellA ?_) | (with_reducible refine cellD ?_) | (with_reducible refine cellN ?_) | ((with_reducible refine cellS ?hn ?_); (case hn => first | (left; omega) | (right; omega) | (left; simp; omega))) | ((with_reducible refine has0 ?hb ?hv); (case hb => first | rfl | (simp; done)); (case hv => rfl)) | (with_reducible refine hasA ?_) | (with_reducible refine hasD ?_) | (with_reducible refine hasN ?_) | (with_reducible refine hasK hb1 ?_) | (with_reducible refine hasS ?_)))
  have r1 : w1.cell? ⟨w.heap.size, 1, none⟩ = some (.int .i64 0) := (by repeat' (first | (with_reducible refine cell1 ?_) | (with_reducible exact hb1) | (with_reducible refine cellK hb1 ?_) | ((with_reducible refine cell0 ?hb ?hv); (case hb => first | rfl | (simp; done)); (case hv => rfl)) | (with_reducible refine cellA ?_) | (with_reducible refine cellD ?_) | (with_reducible refine cellN ?_) | ((with_reducible refine cellS ?hn ?_); (case hn => first | (left; omega) | (right; omega) | (left; simp; omega))) | ((with_reducible refine has0 ?hb ?hv); (case hb => first | rfl | (simp; done)); (case hv => rfl)) | (with_reducible refine hasA ?_) | (with_reducible refine hasD ?_) | (with_reducible refine hasN ?_) | (with_reducible refine hasK hb1 ?_) | (with_reducible refine hasS ?_)))
  have r2 : w1.cell? ⟨w.heap.size, 2, none⟩ = some (.int .i64 0) := (by repeat' (first | (with_reducible refine cell1 ?_) | (with_reducible exact hb1) | (with_reducible refine cellK hb1 ?_) | ((with_reducible refine cell0 ?hb ?hv); (case hb => first | rfl | (simp; done)); (case hv => rfl)) | (with_reducible refine cellA ?_) | (with_reducible refine cellD ?_) | (with_reducible refine cellN ?_) | ((with_reducible refine cellS ?hn ?_); (case hn => first | (left; omega) | (right; omega) | (left; simp; omega))) | ((with_reducible refine has0 ?hb ?hv); (case hb => first | rfl | (simp; done)); (case hv => rfl)) | (with_reducible refine hasA ?_) | (with_reducible refine hasD ?_) | (with_reducible refine hasN ?_) | (with_reducible refine hasK hb1 ?_) | (with_reducible refine hasS ?_)))
  have r3 : w1.cell? ⟨w.heap.size, 3, none⟩ = some (.slice none 0 0) := (by repeat' (first | (with_reducible refine cell1 ?_) | (with_reducible exact hb1) | (with_reducible refine cellK hb1 ?_) | ((with_reducible refine cell0 ?hb ?hv); (case hb => first | rfl | (simp; done)); (case hv => rfl)) | (with_reducible refine cellA ?_) | (with_reducible refine cellD ?_) | (with_reducible refine cellN ?_) | ((with_reducible refine cellS ?hn ?_); (case hn => first | (left; omega) | (right; omega) | (left; simp; omega))) | ((with_reducible refine has0 ?hb ?hv); (case hb => first | rfl | (simp; done)); (case hv => rfl)) | (with_reducible refine hasA ?_) | (with_reducible refine hasD ?_) | (with_reducible refine hasN ?_) | (with_reducible refine hasK hb1 ?_) | (with_reducible refine hasS ?_)))
  clear f0
  go_wp2_with fail
  refine bodyPost_ret (v := .agg #[.int .i64 s.lc, .int .i64 s.li, .int .i64 s.la, .slice R m rc]) (by simp [results, Try.results25, go_sem, r0, r1, r2, r3]) rfl ?_
  refine ⟨R, m, rc, rfl, ?_, (by repeat' (first | (with_reducible exact bel) | (with_reducible refine Below.setCell ?_ (Nat.le_refl _) _) | (with_reducible apply Below.setCell) | (with_reducible apply Below.alloc) | (with_reducible apply Below.drew) | (with_reducible apply below_drewN) | (exact Nat.le_refl _) | omega | (simp; done) | (simp; omega)))⟩
  refine MadeO.mono (w1 := w.alloc (.cells #[.int .i64 0, .int .i64 0, .int .i64 0, .slice none 0 0] 34)) ?_ (by simp)
  exact (by repeat' (first | (with_reducible exact HM.out) | (with_reducible refine MadeO.far ?_ (by first | omega | (simp; done) | (simp; omega)) _) | (with_reducible refine MadeO.alloc ?_ _) | (with_reducible refine MadeO.drew ?_) | (with_reducible refine MadeO.drewN ?_ _)))
end Go.Proofs.Ytckbbfdllflmjaa
