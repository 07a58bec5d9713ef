/- The contracts of package circuit's Fail, Up, Busy, Hang. No condition but that a number is an int's. -/
import Derived.Test.YtmbnonkbflchoaaCir
namespace Go.Proofs.Ytmbnonkbflchoaa
open Go.RowKit
set_option linter.unusedVariables false
set_option linter.unusedSimpArgs false
open Go.Maps
theorem sw_ne {w : World} {g : Nat} {s : Sw} (h : SwAt w g s) : g ≠ s.mb := by
  intro e
  obtain ⟨es, clock, hb, -⟩ := h.2
  have h1 : w.heap[g]? = some (.cells (swC s) 50 (0, 0)) := h.1
  rw [e, hb] at h1
  cases h1
/-- What an operation on a switch may turn: its block and its map. -/
def Chg (w w' : World) (g mb : Nat) : Prop := w'.os = w.os ∧ w'.tape = w.tape ∧ w'.output = w.output ∧ w.heap.size ≤ w'.heap.size ∧ ∀ i, i < w.heap.size → i ≠ g → i ≠ mb → w'.heap[i]? = w.heap[i]?
theorem chg_refl (w : World) (g mb : Nat) : Chg w w g mb := ⟨rfl, rfl, rfl, Nat.le_refl _, fun _ _ _ _ => rfl⟩
theorem chg_trans {a w w' : World} {g mb : Nat} (h : Chg a w g mb) (h2 : Chg w w' g mb) : Chg a w' g mb :=
  ⟨h2.1.trans h.1, h2.2.1.trans h.2.1, h2.2.2.1.trans h.2.2.1, Nat.le_trans h.2.2.2.1 h2.2.2.2.1, fun i hi h1 h3 => (h2.2.2.2.2 i (Nat.lt_of_lt_of_le hi h.2.2.2.1) h1 h3).trans (h.2.2.2.2 i hi h1 h3)⟩
theorem chg_gr {w w' : World} {g mb r : Nat} (h : w.grownBy w' (some r)) (hr : r = g ∨ r = mb) : Chg w w' g mb :=
  ⟨h.os, h.tape, h.output, h.size, fun i hi h1 h2 => h.block i hi (by intro e; have e := Option.some.inj e; rcases hr with rfl | rfl <;> omega)⟩
theorem chg_below {B : Nat} {a w w' : World} {g mb : Nat} (h : Below B a w) (hg : Chg w w' g mb) (h1 : B ≤ g) (h2 : B ≤ mb) (h3 : B ≤ w.heap.size) : Below B a w' where
  os := hg.1.trans h.os
  tape := hg.2.1.trans h.tape
  output := hg.2.2.1.trans h.output
  size := Nat.le_trans h.size hg.2.2.2.1
  block := fun i hi => (hg.2.2.2.2 i (by omega) (by omega) (by omega)).trans (h.block i hi)
theorem fail_any (g : Nat) (s : Sw) (many : Int) (w : World) (h : SwAt w g s) (h0 : 0 ≤ many) : Calls Try.prog 16 #[.pointer (some ⟨g, 0, none⟩), .int .i64 many] w fun e w' => e = .returned (.int .i64 0) ∧ SwAt w' g { s with owed := many } ∧ Chg w w' g s.mb := by
  have c4 : w.cell? ⟨g, 4, none⟩ = some (.int .i64 s.owed) := h.1.cell 4
  have hf := h.1.frozen
  have hs : SwAt (w.setCell ⟨g, 4, none⟩ (.int .i64 many)) g { s with owed := many } := ⟨h.1.set_ 4 (.int .i64 many), World.ownsMap.setCell h.2 (by have := sw_ne h; exact fun e => this e.symm) _⟩
  have HS := Lib.hid hs; have H := Lib.hid h; clear hs h
  have hd : decide (many < 0) = false := decide_eq_false (by omega)
  go_enter Try.func16, Try.ntmps16
  go_wp2
  go_ret
  exact ⟨rfl, HS, chg_gr (gr_set (gr_refl _ _) (.inl rfl) _) (.inl rfl)⟩
theorem fail_bad (g : Nat) (many : Int) (w : World) (h0 : many < 0) : Calls Try.prog 16 #[.pointer (some ⟨g, 0, none⟩), .int .i64 many] w fun e w' => e = .returned (.int .i64 2500) ∧ w = w' := by
  go_enter Try.func16, Try.ntmps16
  go_wp2
  go_ret
  exact ⟨rfl, rfl⟩
theorem busy_any (g : Nat) (s : Sw) (n : Int) (w : World) (h : SwAt w g s) (hn : sideB n = true) : Calls Try.prog 13 #[.pointer (some ⟨g, 0, none⟩), .int .i64 n] w fun e w' => e = .returned (.int .i64 (Maps.size s.D)) ∧ w = w' := by
  have c3 : w.cell? ⟨g, 3, none⟩ = some (.map (some s.mb)) := h.1.cell 3
  have hl := fun ty => World.ownsMap.len h.2 Try.underlying48 ty
  clear h
  go_enter Try.func13, Try.ntmps13
  go_wp2_with (first | (go_at_call 21; refine (side_any _ _).mono ?_; rintro e w' ⟨rfl, rfl⟩; rw [hn]))
  go_ret
  exact ⟨rfl, rfl⟩
theorem up_any (g : Nat) (s : Sw) (c : Int) (w : World) (h : SwAt w g s) (hc : (Lit.int .i64 c).wf = true) : Calls Try.prog 20 #[.pointer (some ⟨g, 0, none⟩), .int .i64 c] w fun e w' => e = .returned (.bool (isUp s.D c)) ∧ w = w' := by
  have c3 : w.cell? ⟨g, 3, none⟩ = some (.map (some s.mb)) := h.1.cell 3
  rcases look h.2 hc with ⟨hr, e⟩ | ⟨q, hr, e, -⟩
  · rw [e]
    clear h
    go_enter Try.func20, Try.ntmps20
    go_wp2
    go_ret
    exact ⟨rfl, rfl⟩
  · rw [e]
    clear h
    go_enter Try.func20, Try.ntmps20
    go_wp2
    go_ret
    exact ⟨rfl, rfl⟩
theorem hang_no (g : Nat) (s : Sw) (c : Int) (w : World) (h : SwAt w g s) (hc : (Lit.int .i64 c).wf = true) (hu : isUp s.D c = false) : Calls Try.prog 12 #[.pointer (some ⟨g, 0, none⟩), .int .i64 c] w fun e w' => e = .returned (.int .i64 2502) ∧ w = w' := by
  have c3 : w.cell? ⟨g, 3, none⟩ = some (.map (some s.mb)) := h.1.cell 3
  rcases look h.2 hc with ⟨hr, e⟩ | ⟨q, hr, e, -⟩
  · clear h
    go_enter Try.func12, Try.ntmps12
    go_wp2
    go_ret
    exact ⟨rfl, rfl⟩
  · rw [hu] at e; cases e
theorem hang_ok (g : Nat) (s : Sw) (c : Int) (w : World) (h : SwAt w g s) (hc : (Lit.int .i64 c).wf = true) (hu : isUp s.D c = true) : Calls Try.prog 12 #[.pointer (some ⟨g, 0, none⟩), .int .i64 c] w fun e w' => e = .returned (.int .i64 0) ∧ SwAt w' g { s with D := s.D.del (keyD c) } ∧ Chg w w' g s.mb := by
  have c3 : w.cell? ⟨g, 3, none⟩ = some (.map (some s.mb)) := h.1.cell 3
  rcases look h.2 hc with ⟨hr, e⟩ | ⟨q, hr, e, -⟩
  · rw [hu] at e; cases e
  · have H := Lib.hid h; clear h
    go_enter Try.func12, Try.ntmps12
    go_wp2_with (first | (at_delete; refine wpList_delete_own _ rfl _ _ 48 3 rfl 51 lawK Try.underlying48 ptrE s.mb (Maps.size s.D) s.D rfl H.out.2 (.int .i64 c) (keyD c) rfl (keyOf_int_mk Try.underlying3 hc) ?_))
    intro w1 hown1 hturn1
    have fin : SwAt w1 g { s with D := s.D.del (keyD c) } := ⟨H.out.1.grown hturn1.grown (by intro e; exact sw_ne H.out (Option.some.inj e)), shrink hown1⟩
    have FIN := Lib.hid fin; have HT := Lib.hid hturn1; clear fin hown1 hturn1
    go_wp2
    go_ret
    exact ⟨rfl, FIN, chg_gr HT.out.grown (.inr rfl)⟩
end Go.Proofs.Ytmbnonkbflchoaa
