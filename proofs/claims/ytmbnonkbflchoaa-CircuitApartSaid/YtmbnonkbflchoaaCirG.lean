/- The contract of package circuit's Lose at a circuit that is there. No condition but that numbers are ints. -/
import Derived.Test.YtmbnonkbflchoaaCirF
namespace Go.Proofs.Ytmbnonkbflchoaa
open Go.RowKit
set_option linter.unusedVariables false
set_option linter.unusedSimpArgs false
open Go.Maps
theorem blk_ne {w : World} {g q : Nat} {t u : TypeId} {a b : Array Value} (h : Blk w g t a) (h2 : Blk w q u b) (hn : t ≠ u) : g ≠ q := by
  intro e
  subst e
  have h1 : w.heap[g]? = some (.cells a t (0, 0)) := h
  have h3 : w.heap[g]? = some (.cells b u (0, 0)) := h2
  rw [h1] at h3
  injection h3 with h4
  injection h4 with _ h5
  exact hn h5
theorem map_ne {w : World} {g : Nat} {s : Sw} {q : Nat} {u : TypeId} {b : Array Value} (h : SwAt w g s) (h2 : Blk w q u b) : s.mb ≠ q := by
  intro e
  obtain ⟨es, clock, hb, -⟩ := h.2
  have h3 : w.heap[q]? = some (.cells b u (0, 0)) := h2
  rw [← e, hb] at h3
  cases h3
/-- A side's pipe, turned. -/
def withP (n : Nat) (p : Pipe) (x : Pipe × Pipe) : Pipe × Pipe := if n = 0 then (p, x.2) else (x.1, p)
def thP (n : Nat) (x : Pipe × Pipe) : Pipe := if n = 0 then x.1 else x.2
def cirC (x : Pipe × Pipe) : Array Value := pipeC x.1 x.2
theorem lose_ok (g : Nat) (s : Sw) (c : Int) (n q : Nat) (x : Pipe × Pipe) (w : World) (h : SwAt w g s) (hc : (Lit.int .i64 c).wf = true) (hq : s.D.atKey (keyD c) nilD = .lit (.int .i64 (q : Int))) (hn : n = 0 ∨ n = 1) (hb : Blk w q 58 (cirC x)) (h0 : 0 ≤ (thP n x).lost) (h1 : (thP n x).lost < 4611686018427387904) : Calls Try.prog 18 #[.pointer (some ⟨g, 0, none⟩), .int .i64 c, .int .i64 (n : Int)] w fun e w' => e = .returned (.int .i64 0) ∧ SwAt w' g s ∧ Blk w' q 58 (cirC (withP n { thP n x with lost := (thP n x).lost + 1 } x)) ∧ w.grownBy w' (some q) := by
  have hgq := blk_ne h.1 hb (by decide)
  have hmq := map_ne h hb
  have hfz := hb.frozen
  have H := Lib.hid h
  have hw := wrap_one h0 h1
  rcases hn with rfl | rfl
  · have c2 : w.cell? ⟨q, 2, none⟩ = some (.int .i64 x.1.lost) := hb.cell 2
    have HB := Lib.hid hb; clear hb h
    have hw' : wrap64 (x.1.lost + 1) = x.1.lost + 1 := hw
    go_enter Try.func18, Try.ntmps18
    go_wp2_with fail
    refine (open_ok g s c 0 q _ H.out hc hq (.inl rfl)).mono ?_
    rintro e w1 ⟨rfl, rfl⟩
    go_wp2
    go_ret
    exact ⟨rfl, sw_far H.out (gr_set (gr_refl w q) (.inl rfl) _) hgq hmq, HB.out.set_ 2 _, gr_set (gr_refl w q) (.inl rfl) _⟩
  · have c2 : w.cell? ⟨q, 5, none⟩ = some (.int .i64 x.2.lost) := hb.cell 5
    have HB := Lib.hid hb; clear hb h
    have hw' : wrap64 (x.2.lost + 1) = x.2.lost + 1 := hw
    go_enter Try.func18, Try.ntmps18
    go_wp2_with fail
    refine (open_ok g s c 1 q _ H.out hc hq (.inr rfl)).mono ?_
    rintro e w1 ⟨rfl, rfl⟩
    go_wp2
    go_ret
    exact ⟨rfl, sw_far H.out (gr_set (gr_refl w q) (.inl rfl) _) hgq hmq, HB.out.set_ 5 _, gr_set (gr_refl w q) (.inl rfl) _⟩
end Go.Proofs.Ytmbnonkbflchoaa
