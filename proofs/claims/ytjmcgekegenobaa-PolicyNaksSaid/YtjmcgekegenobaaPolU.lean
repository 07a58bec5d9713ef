/- Plain facts: a link that learns what it was told: how far it is from being taken. No condition. -/
import Derived.Test.YtjmcgekegenobaaPolQ
namespace Go.Proofs.Ytjmcgekegenobaa
open Go.RowKit
set_option linter.unusedVariables false
set_option linter.unusedSimpArgs false
theorem flip_range {m : Int} (h0 : 0 ≤ m) (h1 : m ≤ 4294967295) : 1 ≤ flipM m ∧ flipM m ≤ 4294967295 ∧ flipM m ≠ m := by
  unfold flipM
  split <;> omega
theorem learn_short {l : Lk} (h : l.short = true) : learnAll 4 l [(18, ⟨#[]⟩)] = { l with short := false } := by
  show stepL 4 l (18, ⟨#[]⟩) = _
  unfold stepL
  rw [show rightB ((18 : Int), (⟨#[]⟩ : ByteArray)).1 ((18 : Int), (⟨#[]⟩ : ByteArray)).2 = true from rfl, show asksB l ((18 : Int), (⟨#[]⟩ : ByteArray)).1 = l.short from rfl, h]
  rfl
theorem learn_magic {l : Lk} {f : Int} (h : l.magic ≠ 0) (h0 : 1 ≤ f) (h1 : f ≤ 4294967295) : learnAll 3 l [(5, be4 f)] = { l with magic := f } := by
  show stepL 3 l (5, be4 f) = _
  unfold stepL
  have e1 : rightB ((5 : Int), be4 f).1 ((5 : Int), be4 f).2 = true := by show rightB 5 (be4 f) = true; unfold rightB; rw [size_be4]; rfl
  have e2 : asksB l ((5 : Int), be4 f).1 = true := by show (l.magic != 0) = true; simpa using h
  have e3 : unfitB 5 (be4 f) = false := by unfold unfitB; rw [val_be4 (by omega) (by omega)]; have : (f == 0) = false := by simp; omega
                                           rw [this]; rfl
  rw [e1, e2]
  show learnL l 5 (be4 f) = _
  unfold learnL
  rw [e3]
  show { l with magic := val (be4 f) } = _
  rw [val_be4 (by omega) (by omega)]
def farL (l b : Lk) : Nat := (if cS l b then 1 else 0) + (if cM l b then 1 else 0)
theorem far_short {l b : Lk} (h : cS l b = true) : farL { l with short := false } b + 1 = farL l b ∧ mayB { l with short := false } = mayB l := by
  refine ⟨?_, rfl⟩
  unfold farL
  rw [h]
  have e : cS { l with short := false } b = false := rfl
  have e2 : cM { l with short := false } b = cM l b := rfl
  rw [e, e2]
  simp
  omega
theorem far_magic {l b : Lk} (h : cM l b = true) (hb : mayB b = true) (hl : mayB l = true) : farL { l with magic := flipM b.magic } b + 1 = farL l b ∧ mayB { l with magic := flipM b.magic } = true := by
  have hr := (may_range hb).2.1
  obtain ⟨f0, f1, f2⟩ := flip_range hr.1 (by omega)
  constructor
  · unfold farL
    rw [h]
    have e : cS { l with magic := flipM b.magic } b = cS l b := rfl
    have e2 : cM { l with magic := flipM b.magic } b = false := by
      show (flipM b.magic != 0 && flipM b.magic == b.magic) = false
      simp [f2]
    rw [e, e2]
    simp
  · unfold mayB at hl ⊢
    simp only [Bool.and_eq_true, decide_eq_true_eq] at hl ⊢
    exact ⟨⟨⟨⟨⟨hl.1.1.1.1.1, by omega⟩, f1⟩, hl.1.1.2⟩, hl.1.2⟩, hl.2⟩
theorem Blk.set6 {w : World} {g : Nat} {t : TypeId} {a0 a1 a2 a3 a4 a5 : Value} (h : Blk w g t #[a0, a1, a2, a3, a4, a5]) (v0 v1 v2 v3 v4 v5 : Value) : Blk ((((((w.setCell ⟨g, 0, none⟩ v0).setCell ⟨g, 1, none⟩ v1).setCell ⟨g, 2, none⟩ v2).setCell ⟨g, 3, none⟩ v3).setCell ⟨g, 4, none⟩ v4).setCell ⟨g, 5, none⟩ v5) g t #[v0, v1, v2, v3, v4, v5] :=
  (((((h.set_ 0 v0).set_ 1 v1).set_ 2 v2).set_ 3 v3).set_ 4 v4).set_ 5 v5
theorem below_set6 {B : Nat} {a w : World} {g : Nat} (h : Below B a w) (hg : B ≤ g) (v0 v1 v2 v3 v4 v5 : Value) : Below B a ((((((w.setCell ⟨g, 0, none⟩ v0).setCell ⟨g, 1, none⟩ v1).setCell ⟨g, 2, none⟩ v2).setCell ⟨g, 3, none⟩ v3).setCell ⟨g, 4, none⟩ v4).setCell ⟨g, 5, none⟩ v5) :=
  Below.setCell (Below.setCell (Below.setCell (Below.setCell (Below.setCell (Below.setCell h hg v0) hg v1) hg v2) hg v3) hg v4) hg v5
theorem size_set6 (w : World) (g : Nat) (v0 v1 v2 v3 v4 v5 : Value) : ((((((w.setCell ⟨g, 0, none⟩ v0).setCell ⟨g, 1, none⟩ v1).setCell ⟨g, 2, none⟩ v2).setCell ⟨g, 3, none⟩ v3).setCell ⟨g, 4, none⟩ v4).setCell ⟨g, 5, none⟩ v5).heap.size = w.heap.size := by simp
end Go.Proofs.Ytjmcgekegenobaa
