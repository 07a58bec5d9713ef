/- Cells of old blocks, read in later worlds: behind an alloc, a draw, a store elsewhere, a call that only makes memory. No condition. -/
import Derived.Test.YtckbbfdllflmjaaNum
import Derived.Deep.Draws
namespace Go.Proofs.Ytckbbfdllflmjaa
open Go.RowKit
set_option linter.unusedVariables false
set_option linter.unusedSimpArgs false
theorem cell_lt {w : World} {b o : Nat} {v : Value} (h : w.cell? ⟨b, o, none⟩ = some v) : b < w.heap.size := by
  rcases Nat.lt_or_ge b w.heap.size with h1 | h1
  · exact h1
  · exfalso
    have : w.heap[b]? = none := Array.getElem?_eq_none h1
    simp [World.cell?, this] at h
theorem cellA {w : World} {o : Obj} {b j : Nat} {v : Value} (h : w.cell? ⟨b, j, none⟩ = some v) : (w.alloc o).cell? ⟨b, j, none⟩ = some v :=
  (World.cell?_alloc_lt w o ⟨b, j, none⟩ (cell_lt h)).trans h
theorem cellD {w : World} {b j : Nat} {v : Value} (h : w.cell? ⟨b, j, none⟩ = some v) : w.drew.cell? ⟨b, j, none⟩ = some v := h
theorem cellN {w : World} {k b j : Nat} {v : Value} (h : w.cell? ⟨b, j, none⟩ = some v) : (w.drewN k).cell? ⟨b, j, none⟩ = some v := h
theorem cellK {w w' : World} {b j : Nat} {v : Value} (hb : Below w.heap.size w w') (h : w.cell? ⟨b, j, none⟩ = some v) : w'.cell? ⟨b, j, none⟩ = some v :=
  (hb.cell (p := ⟨b, j, none⟩) (cell_lt h)).trans h
theorem cellS {w : World} {b j b' j' : Nat} {u v : Value} (hn : b ≠ b' ∨ j ≠ j') (h : w.cell? ⟨b, j, none⟩ = some v) : (w.setCell ⟨b', j', none⟩ u).cell? ⟨b, j, none⟩ = some v :=
  (World.cell?_setCell_other w ⟨b', j', none⟩ ⟨b, j, none⟩ u (fun e => by injection e with e1 e2; rcases hn with h | h; exact h e1.symm; exact h e2.symm)).trans h
theorem cell0 {w : World} {cs : Array Value} {t : TypeId} {b j : Nat} {v : Value} (hb : b = w.heap.size) (hv : cs[j]? = some v) : (w.alloc (.cells cs t)).cell? ⟨b, j, none⟩ = some v := by
  subst hb
  rw [cell_of_row _ _ _ _ _ _ (heap_alloc_new w (.cells cs t))]; exact hv
/-- There is a cell. -/
def Has (w : World) (b j : Nat) : Prop := ∃ v, w.cell? ⟨b, j, none⟩ = some v
theorem cell1 {w : World} {b j : Nat} {u : Value} (h : Has w b j) : (w.setCell ⟨b, j, none⟩ u).cell? ⟨b, j, none⟩ = some u := by obtain ⟨v, h⟩ := h; exact World.cell?_setCell_same _ _ _ h
theorem hasOf {w : World} {b j : Nat} {v : Value} (h : w.cell? ⟨b, j, none⟩ = some v) : Has w b j := ⟨v, h⟩
theorem hasA {w : World} {o : Obj} {b j : Nat} (h : Has w b j) : Has (w.alloc o) b j := by obtain ⟨v, h⟩ := h; exact ⟨v, cellA h⟩
theorem hasD {w : World} {b j : Nat} (h : Has w b j) : Has w.drew b j := h
theorem hasN {w : World} {k b j : Nat} (h : Has w b j) : Has (w.drewN k) b j := h
theorem hasK {w w' : World} {b j : Nat} (hb : Below w.heap.size w w') (h : Has w b j) : Has w' b j := by obtain ⟨v, h⟩ := h; exact ⟨v, cellK hb h⟩
theorem hasS {w : World} {b j : Nat} {p : Addr} {u : Value} (h : Has w b j) : Has (w.setCell p u) b j := by
  obtain ⟨v, h⟩ := h
  by_cases e : p = ⟨b, j, none⟩
  · subst e; exact ⟨u, World.cell?_setCell_same _ _ _ h⟩
  · exact ⟨v, (World.cell?_setCell_other w p ⟨b, j, none⟩ u e).trans h⟩
theorem has0 {w : World} {cs : Array Value} {t : TypeId} {b j : Nat} (hb : b = w.heap.size) (hv : cs[j]?.isSome = true) : Has (w.alloc (.cells cs t)) b j := by
  obtain ⟨v, hv⟩ := Option.isSome_iff_exists.1 hv
  exact ⟨v, cell0 hb hv⟩
/-- A block that is there and may be written. -/
def Free (w : World) (b : Nat) : Prop := b < w.heap.size ∧ ∀ o, w.frozen? ⟨b, o, none⟩ = false
theorem freeA {w : World} {o : Obj} {b : Nat} (h : Free w b) : Free (w.alloc o) b :=
  ⟨by simp; have := h.1; omega, fun j => ((Below.refl w.heap.size w).alloc (Nat.le_refl _) o |>.frozen (p := ⟨b, j, none⟩) h.1).trans (h.2 j)⟩
theorem freeD {w : World} {b : Nat} (h : Free w b) : Free w.drew b := h
theorem freeN {w : World} {k b : Nat} (h : Free w b) : Free (w.drewN k) b := h
theorem freeK {w w' : World} {b : Nat} (hb : Below w.heap.size w w') (h : Free w b) : Free w' b :=
  ⟨Nat.lt_of_lt_of_le h.1 hb.size, fun j => (hb.frozen (p := ⟨b, j, none⟩) h.1).trans (h.2 j)⟩
theorem freeS {w : World} {p : Addr} {u : Value} {b : Nat} (h : Free w b) : Free (w.setCell p u) b :=
  ⟨by simpa using h.1, fun j => by simpa using h.2 j⟩
theorem free0 {w : World} {cs : Array Value} {t : TypeId} {b : Nat} (hb : b = w.heap.size) : Free (w.alloc (.cells cs t)) b := by
  subst hb
  have e : (w.alloc (.cells cs t)).heap[w.heap.size]? = some (.cells cs t) := heap_alloc_new w _
  refine ⟨by simp, fun o => ?_⟩
  unfold World.frozen?
  rw [e]
  show (decide (0 ≤ o) && decide (o < 0)) = false
  simp
end Go.Proofs.Ytckbbfdllflmjaa
