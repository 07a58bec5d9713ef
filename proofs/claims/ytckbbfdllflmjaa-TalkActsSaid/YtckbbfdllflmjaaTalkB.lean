/- The contract of package bap's Again. No condition but memory's own limits. -/
import Derived.Test.YtckbbfdllflmjaaTalkA
namespace Go.Proofs.Ytckbbfdllflmjaa
open Go.RowKit
set_option linter.unusedVariables false
set_option linter.unusedSimpArgs false
attribute [local go_sem] conv1 conv1d conv1n conv1a conv1ad conv1an conv2 conv2d conv2n conv2a conv2ad conv2an conv4 conv4d conv4n conv4a conv4ad conv4an conv5 conv5d conv5n conv5a conv5ad conv5an size_nums byt_fold
theorem TAt.far {w : World} {Y : Nat → Prop} {g : Nat} {s : TS} (h : TAt w Y g s) {p : Addr} (hp : Y p.block) (hne : p.block ≠ g) (u : Value) : TAt (w.setCell p u) Y g s :=
  h.grown (gr_set (gr_refl w p.block) (.inl rfl) u) hp hne
theorem TAt.drew {w : World} {X : Nat → Prop} {g : Nat} {s : TS} (h : TAt w X g s) : TAt w.drew X g s := h
theorem TAt.drewN {w : World} {X : Nat → Prop} {g : Nat} {s : TS} (h : TAt w X g s) (k : Nat) : TAt (w.drewN k) X g s := h
/-- X, and all blocks from k on. -/
def UpX (X : Nat → Prop) (k : Nat) : Nat → Prop := fun b => X b ∨ k ≤ b
theorem upX_new {X : Nat → Prop} {k b : Nat} (h : k ≤ b) : UpX X k b := .inr h
theorem TAt.up {w : World} {X : Nat → Prop} {g : Nat} {s : TS} (h : TAt w X g s) : TAt w (UpX X w.heap.size) g s := h.mono fun b hb hx => by
  rcases hx with hx | hx
  · exact hx
  · omega
theorem TAt.own {w w' : World} {X : Nat → Prop} {g rn rc : Nat} {s : TS} {R : Option Addr} {rl : List (Int × ByteArray)} (h : TAt w' (UpX X w.heap.size) g s) (hm : MadeO w w' R rn rc rl) : TAt w' (OwnX X R) g s := h.mono fun b _ hx => by
  rcases hx with hx | ⟨r, hr, e⟩
  · exact .inl hx
  · have := (hm.new r hr).1; right; omega
/-- What a call leaves that hands back a datagram with options of its own. -/
def BapR (xc xi xa : Int) (xl : List (Int × ByteArray)) (E : Int) (X : Nat → Prop) (g : Nat) (S : TS) (w : World) (e : Ending) (w' : World) : Prop :=
  ∃ R rn rc, e = .returned (.tuple #[.agg #[.int .i64 xc, .int .i64 xi, .int .i64 xa, .slice R rn rc], .int .i64 E]) ∧ MadeO w w' R rn rc xl ∧ TAt w' (OwnX X R) g S ∧ w.grownBy w' (some g)
def tAgE (s : TS) : Int := if s.left = 0 ∨ s.left = 1 then 2202 else 0
def tAg (s : TS) : TS := if s.left = 0 then s else { s with left := s.left - 1 }
def tAgR (s : TS) : Int × Int × Int × List (Int × ByteArray) := if s.left = 0 ∨ s.left = 1 then (0, 0, 0, []) else (s.ac, s.ai, s.aa, s.al)
theorem tsC4 (s : TS) (A : Option Addr) (n cap : Nat) (B : Option Addr) (m cb : Nat) (x : Int) : (tsC s A n cap B m cb).setIfInBounds 4 (.int .i64 x) = tsC { s with left := x } A n cap B m cb := rfl
set_option maxRecDepth 100000 in
set_option maxHeartbeats 1000000 in
theorem tagain_any (X : Nat → Prop) (g : Nat) (s : TS) (w : World) (hp : TAt w X g s) (hX : X g) (hl : 0 ≤ s.left ∧ s.left ≤ 10) :
    Calls Try.prog 19 #[.pointer (some ⟨g, 0, none⟩)] w (BapR (tAgR s).1 (tAgR s).2.1 (tAgR s).2.2.1 (tAgR s).2.2.2 (tAgE s) X g (tAg s) w) := by
  have hY : UpX X w.heap.size g := .inl hX
  obtain ⟨A, n, cap, B, m, cb, h, h1, h2⟩ := hp.up
  have c0 : w.cell? ⟨g, 0, none⟩ = some (.int .i64 s.ac) := h.cell 0
  have c1 : w.cell? ⟨g, 1, none⟩ = some (.int .i64 s.ai) := h.cell 1
  have c2 : w.cell? ⟨g, 2, none⟩ = some (.int .i64 s.aa) := h.cell 2
  have c3 : w.cell? ⟨g, 3, none⟩ = some (.slice A n cap) := h.cell 3
  have c4 : w.cell? ⟨g, 4, none⟩ = some (.int .i64 s.left) := h.cell 4
  have hlt := h.lt
  have hfr := h.frozen
  have HH := Lib.hid h; have H1 := Lib.hid h1; have H2 := Lib.hid h2
  clear h h1 h2
  obtain ⟨L, hL⟩ : ∃ L, s.left = L := ⟨_, rfl⟩
  rw [hL] at c4 hl
  by_cases h0 : L = 0
  · subst h0
    have HX := Lib.hid (show tAgR s = (0, 0, 0, []) ∧ tAgE s = 2202 ∧ tAg s = s from ⟨by unfold tAgR; rw [if_pos (.inl hL)], by unfold tAgE; rw [if_pos (.inl hL)], by unfold tAg; rw [if_pos hL]⟩)
    go_enter Try.func19, Try.ntmps19
    go_wp2_with fail
    refine bodyPost_ret (v := .tuple #[.agg #[.int .i64 0, .int .i64 0, .int .i64 0, .slice none 0 0], .int .i64 2202]) (by simp [results, Try.results19, go_sem]) rfl ?_
    rw [HX.out.1, HX.out.2.1, HX.out.2.2]
    have ht : TAt (w.alloc (.cells #[.int .i64 0, .int .i64 0, .int .i64 0, .slice none 0 0] 34)) (UpX X w.heap.size) g s := TAt.alloc ⟨A, n, cap, B, m, cb, HH.out, H1.out, H2.out⟩ _
    exact ⟨none, 0, 0, rfl, MadeO.nil _ _, ht.mono (fun b _ hb => .inl (OwnX.none hb)), gr_alloc (gr_refl _ _) _⟩
  have hw : IntKind.i64.wrap (L - 1) = L - 1 := IntWalk.i64_in _ (by omega)
  by_cases h1 : L = 1
  · subst h1
    have HX := Lib.hid (show tAgR s = (0, 0, 0, []) ∧ tAgE s = 2202 ∧ tAg s = { s with left := 0 } from ⟨by unfold tAgR; rw [if_pos (.inr hL)], by unfold tAgE; rw [if_pos (.inr hL)], by unfold tAg; rw [if_neg (by omega), hL]; rfl⟩)
    go_enter Try.func19, Try.ntmps19
    go_wp2_with fail
    refine bodyPost_ret (v := .tuple #[.agg #[.int .i64 0, .int .i64 0, .int .i64 0, .slice none 0 0], .int .i64 2202]) (by simp [results, Try.results19, go_sem]) rfl ?_
    rw [HX.out.1, HX.out.2.1, HX.out.2.2]
    have hgr : w.grownBy (w.setCell ⟨g, 4, none⟩ (.int .i64 0)) (some g) := gr_set (gr_refl w g) (.inl rfl) _
    have ht : TAt (w.setCell ⟨g, 4, none⟩ (.int .i64 0)) (UpX X w.heap.size) g { s with left := 0 } := ⟨A, n, cap, B, m, cb, by
      have h := Blk.set_ HH.out 4 (.int .i64 0)
      rw [tsC4] at h; exact h, H1.out.grown hgr hY, H2.out.grown hgr hY⟩
    exact ⟨none, 0, 0, rfl, MadeO.nil _ _, (ht.alloc _).mono (fun b _ hb => .inl (OwnX.none hb)), (by repeat' (first | (with_reducible exact hgr) | (with_reducible exact gr_refl _ _) | (with_reducible refine gr_set ?_ (by first | (left; rfl) | (right; simp; done) | (right; simp; omega) | (left; omega)) _) | (with_reducible refine gr_alloc ?_ _) | (with_reducible refine gr_drew ?_) | (with_reducible refine gr_drewN ?_ _)))⟩
  · obtain ⟨L2, hL2⟩ : ∃ L2, L - 1 = L2 := ⟨_, rfl⟩
    rw [hL2] at hw
    have e2 : (L2 == 0) = false := by simp; omega
    have e1 : (L == 0) = false := by simp; omega
    have HX := Lib.hid (show tAgR s = (s.ac, s.ai, s.aa, s.al) ∧ tAgE s = 0 ∧ tAg s = { s with left := L2 } from ⟨by unfold tAgR; rw [if_neg (by omega)], by unfold tAgE; rw [if_neg (by omega)], by unfold tAg; rw [if_neg (by omega), hL, hL2]⟩)
    have hgr : w.grownBy (w.setCell ⟨g, 4, none⟩ (.int .i64 L2)) (some g) := gr_set (gr_refl w g) (.inl rfl) _
    have hb : Blk (w.setCell ⟨g, 4, none⟩ (.int .i64 L2)) g 73 (tsC { s with left := L2 } A n cap B m cb) := by
      have h := Blk.set_ HH.out 4 (.int .i64 L2)
      rw [tsC4] at h; exact h
    have hq1 := H1.out.grown hgr hY
    have hq2 := H2.out.grown hgr hY
    have HB := Lib.hid hb; have Q1 := Lib.hid hq1; have Q2 := Lib.hid hq2; have HGR := Lib.hid hgr
    clear hb hq1 hq2 hgr
    go_enter Try.func19, Try.ntmps19
    go_wp2_with fail
    refine (clone_any _ _ _ A n cap s.al _ (Q1.out.keep ((Below.refl _ _).alloc (Nat.le_refl _) _)).1 Q1.out.2.1 Q1.out.2.2.1).mono ?_
    rintro e w1 ⟨R, rc, rfl, hm, hb1⟩
    obtain ⟨hc1, hf1⟩ := bcell hb1
    have hz1 := hb1.size
    simp at hz1
    have z1 : w.heap.size < w1.heap.size := by omega
    have ht : TAt w1 (UpX X w.heap.size) g { s with left := L2 } := TAt.keep ⟨A, n, cap, B, m, cb, HB.out.alloc _, Q1.out.keep ((Below.refl _ _).alloc (Nat.le_refl _) _), Q2.out.keep ((Below.refl _ _).alloc (Nat.le_refl _) _)⟩ hb1
    have HM := Lib.hid hm; have HT := Lib.hid ht; clear hm ht
    have bel : w.grownBy w1 (some g) := gr_below (gr_alloc HGR.out _) hb1
    have f0 : Free w1 w.heap.size := (by repeat' (first | (with_reducible exact hb1) | (with_reducible refine freeK hb1 ?_) | ((with_reducible refine free0 ?hb); (case hb => first | rfl | (simp; done))) | (with_reducible refine freeA ?_) | (with_reducible refine freeD ?_) | (with_reducible refine freeN ?_) | (with_reducible refine freeS ?_)))
    have f0' := f0.2
    have r0 : w1.cell? ⟨w.heap.size, 0, none⟩ = some (.int .i64 0) := (by repeat' (first | (with_reducible refine cell1 ?_) | (with_reducible exact hb1) | (with_reducible refine cellK hb1 ?_) | ((with_reducible refine cell0 ?hb ?hv); (case hb => first | rfl | (simp; done)); (case hv => rfl)) | (with_reducible refine cellA ?_) | (with_reducible refine cellD ?_) | (with_reducible refine cellN ?_) | ((with_reducible refine cellS ?hn ?_); (case hn => first | (left; omega) | (right; omega) | (left; simp; omega))) | ((with_reducible refine has0 ?hb ?hv); (case hb => first | rfl | (simp; done)); (case hv => rfl)) | (with_reducible refine hasA ?_) | (with_reducible refine hasD ?_) | (with_reducible refine hasN ?_) | (with_reducible refine hasK hb1 ?_) | (with_reducible refine hasS ?_)))
    have r1 : w1.cell? ⟨w.heap.size, 1, none⟩ = some (.int .i64 0) := (by repeat' (first | (with_reducible refine cell1 ?_) | (with_reducible exact hb1) | (with_reducible refine cellK hb1 ?_) | ((with_reducible refine cell0 ?hb ?hv); (case hb => first | rfl | (simp; done)); (case hv => rfl)) | (with_reducible refine cellA ?_) | (with_reducible refine cellD ?_) | (with_reducible refine cellN ?_) | ((with_reducible refine cellS ?hn ?_); (case hn => first | (left; omega) | (right; omega) | (left; simp; omega))) | ((with_reducible refine has0 ?hb ?hv); (case hb => first | rfl | (simp; done)); (case hv => rfl)) | (with_reducible refine hasA ?_) | (with_reducible refine hasD ?_) | (with_reducible refine hasN ?_) | (with_reducible refine hasK hb1 ?_) | (with_reducible refine hasS ?_)))
    have r2 : w1.cell? ⟨w.heap.size, 2, none⟩ = some (.int .i64 0) := (by repeat' (first | (with_reducible refine cell1 ?_) | (with_reducible exact hb1) | (with_reducible refine cellK hb1 ?_) | ((with_reducible refine cell0 ?hb ?hv); (case hb => first | rfl | (simp; done)); (case hv => rfl)) | (with_reducible refine cellA ?_) | (with_reducible refine cellD ?_) | (with_reducible refine cellN ?_) | ((with_reducible refine cellS ?hn ?_); (case hn => first | (left; omega) | (right; omega) | (left; simp; omega))) | ((with_reducible refine has0 ?hb ?hv); (case hb => first | rfl | (simp; done)); (case hv => rfl)) | (with_reducible refine hasA ?_) | (with_reducible refine hasD ?_) | (with_reducible refine hasN ?_) | (with_reducible refine hasK hb1 ?_) | (with_reducible refine hasS ?_)))
    have r3 : w1.cell? ⟨w.heap.size, 3, none⟩ = some (.slice none 0 0) := (by repeat' (first | (with_reducible refine cell1 ?_) | (with_reducible exact hb1) | (with_reducible refine cellK hb1 ?_) | ((with_reducible refine cell0 ?hb ?hv); (case hb => first | rfl | (simp; done)); (case hv => rfl)) | (with_reducible refine cellA ?_) | (with_reducible refine cellD ?_) | (with_reducible refine cellN ?_) | ((with_reducible refine cellS ?hn ?_); (case hn => first | (left; omega) | (right; omega) | (left; simp; omega))) | ((with_reducible refine has0 ?hb ?hv); (case hb => first | rfl | (simp; done)); (case hv => rfl)) | (with_reducible refine hasA ?_) | (with_reducible refine hasD ?_) | (with_reducible refine hasN ?_) | (with_reducible refine hasK hb1 ?_) | (with_reducible refine hasS ?_)))
    clear f0
    go_wp2_with fail
    refine bodyPost_ret (v := .tuple #[.agg #[.int .i64 s.ac, .int .i64 s.ai, .int .i64 s.aa, .slice R n rc], .int .i64 0]) (by simp [results, Try.results19, go_sem, r0, r1, r2, r3]) rfl ?_
    rw [HX.out.1, HX.out.2.1, HX.out.2.2]
    have hmo : MadeO w ((((w1.setCell ⟨w.heap.size, 0, none⟩ (.int .i64 s.ac)).setCell ⟨w.heap.size, 1, none⟩ (.int .i64 s.ai)).setCell ⟨w.heap.size, 2, none⟩ (.int .i64 s.aa)).setCell ⟨w.heap.size, 3, none⟩ (.slice R n rc)) R n rc s.al := by
      refine MadeO.mono (w1 := (w.setCell ⟨g, 4, none⟩ (.int .i64 L2)).alloc (.cells #[.int .i64 0, .int .i64 0, .int .i64 0, .slice none 0 0] 34)) ?_ (by simp)
      exact (by repeat' (first | (with_reducible exact HM.out) | (with_reducible refine MadeO.far ?_ (by first | omega | (simp; done) | (simp; omega)) _) | (with_reducible refine MadeO.alloc ?_ _) | (with_reducible refine MadeO.drew ?_) | (with_reducible refine MadeO.drewN ?_ _)))
    exact ⟨R, n, rc, rfl, hmo, TAt.own (by repeat' (first | (with_reducible exact HT.out) | (with_reducible refine TAt.far ?_ (upX_new (by first | exact Nat.le_refl _ | omega | (simp; done) | (simp; omega))) (by first | omega | (simp; done) | (simp; omega)) _) | (with_reducible refine TAt.alloc ?_ _) | (with_reducible refine TAt.drew ?_) | (with_reducible refine TAt.drewN ?_ _))) hmo, (by repeat' (first | (with_reducible exact bel) | (with_reducible exact gr_refl _ _) | (with_reducible refine gr_set ?_ (by first | (left; rfl) | (right; simp; done) | (right; simp; omega) | (left; omega)) _) | (with_reducible refine gr_alloc ?_ _) | (with_reducible refine gr_drew ?_) | (with_reducible refine gr_drewN ?_ _)))⟩
end Go.Proofs.Ytckbbfdllflmjaa
