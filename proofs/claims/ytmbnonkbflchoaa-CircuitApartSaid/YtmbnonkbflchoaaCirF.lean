/- The contract of package circuit's Cut. No condition but that a number is an int's. -/
import Derived.Test.YtmbnonkbflchoaaCirD
import Derived.Test.YtmbnonkbflchoaaCirE
namespace Go.Proofs.Ytmbnonkbflchoaa
open Go.RowKit
set_option linter.unusedVariables false
set_option linter.unusedSimpArgs false
open Go.Maps
theorem cut_ok (g : Nat) (s : Sw) (c : Int) (w : World) (h : SwAt w g s) (hc : (Lit.int .i64 c).wf = true) (hu : isUp s.D c = true) : Calls Try.prog 17 #[.pointer (some ⟨g, 0, none⟩), .int .i64 c] w fun e w' => e = .returned (.int .i64 0) ∧ SwAt w' g { s with D := s.D.del (keyD c) } ∧ Chg w w' g s.mb := by
  have H := Lib.hid h; clear h
  go_enter Try.func17, Try.ntmps17
  go_wp2_with fail
  refine (hang_ok g s c _ H.out hc hu).mono ?_
  rintro e w1 ⟨rfl, h1, h2⟩
  have H1 := Lib.hid h1; have H2 := Lib.hid h2; clear h1 h2
  go_wp2
  go_ret
  exact ⟨rfl, H1, H2⟩
theorem cut_no (g : Nat) (s : Sw) (c : Int) (w : World) (h : SwAt w g s) (hc : (Lit.int .i64 c).wf = true) (hu : isUp s.D c = false) : Calls Try.prog 17 #[.pointer (some ⟨g, 0, none⟩), .int .i64 c] w fun e w' => e = .returned (.int .i64 2502) ∧ w = w' := by
  have H := Lib.hid h; clear h
  go_enter Try.func17, Try.ntmps17
  go_wp2_with fail
  refine (hang_no g s c _ H.out hc hu).mono ?_
  rintro e w1 ⟨rfl, rfl⟩
  go_wp2
  go_ret
  exact ⟨rfl, rfl⟩
theorem sw_keep {w w' : World} {g : Nat} {s : Sw} (h : SwAt w g s) (hb : Below w.heap.size w w') : SwAt w' g s := by
  refine ⟨h.1.keep hb, ?_⟩
  obtain ⟨es, clock, h1, F, hs, e⟩ := h.2
  exact ⟨es, clock, (hb.block _ (Array.getElem?_eq_some_iff.1 h1).1).trans h1, F, hs, e⟩
theorem sw_far {w w' : World} {g : Nat} {s : Sw} {r : Nat} (h : SwAt w g s) (hb : w.grownBy w' (some r)) (h1 : g ≠ r) (h2 : s.mb ≠ r) : SwAt w' g s :=
  ⟨h.1.grown hb (by intro e; exact h1 (Option.some.inj e)), h.2.kept hb (by intro e; exact h2 (Option.some.inj e))⟩
/-- A pipe's three cells in a circuit's block. -/
structure Pipe where
  v : Value
  bytes : Int
  lost : Int
def pipeC (p q : Pipe) : Array Value := #[p.v, .int .i64 p.bytes, .int .i64 p.lost, q.v, .int .i64 q.bytes, .int .i64 q.lost]
def zeroPipe : Pipe := ⟨.slice none 0 0, 0, 0⟩
end Go.Proofs.Ytmbnonkbflchoaa
