/- The contracts of package circuit's open. No condition but that a number is an int's. -/
import Derived.Test.YtmbnonkbflchoaaCirC
namespace Go.Proofs.Ytmbnonkbflchoaa
open Go.RowKit
set_option linter.unusedVariables false
set_option linter.unusedSimpArgs false
open Go.Maps
theorem open_no (g : Nat) (s : Sw) (c n : Int) (w : World) (h : SwAt w g s) (hc : (Lit.int .i64 c).wf = true) (hu : isUp s.D c = false) : Calls Try.prog 22 #[.pointer (some ⟨g, 0, none⟩), .int .i64 c, .int .i64 n] w fun e w' => e = .returned (.tuple #[.pointer none, .int .i64 2502]) ∧ w = w' := by
  have c3 : w.cell? ⟨g, 3, none⟩ = some (.map (some s.mb)) := h.1.cell 3
  rcases look h.2 hc with ⟨hr, e⟩ | ⟨q, hr, e, -⟩
  · clear h
    go_enter Try.func22, Try.ntmps22
    go_wp2
    go_ret2
    exact ⟨rfl, rfl⟩
  · rw [hu] at e; cases e
theorem open_side (g : Nat) (s : Sw) (c n : Int) (w : World) (h : SwAt w g s) (hc : (Lit.int .i64 c).wf = true) (hu : isUp s.D c = true) (hn : sideB n = false) : Calls Try.prog 22 #[.pointer (some ⟨g, 0, none⟩), .int .i64 c, .int .i64 n] w fun e w' => e = .returned (.tuple #[.pointer none, .int .i64 2500]) ∧ w = w' := by
  have c3 : w.cell? ⟨g, 3, none⟩ = some (.map (some s.mb)) := h.1.cell 3
  rcases look h.2 hc with ⟨hr, e⟩ | ⟨q, hr, e, -⟩
  · rw [hu] at e; cases e
  · clear h
    go_enter Try.func22, Try.ntmps22
    go_wp2_with (first | (go_at_call 21; refine (side_any _ _).mono ?_; rintro e w' ⟨rfl, rfl⟩; rw [hn]))
    go_ret2
    exact ⟨rfl, rfl⟩
/-- An open pipe's address: the circuit's block, three cells a side. -/
theorem open_ok (g : Nat) (s : Sw) (c : Int) (n : Nat) (q : Nat) (w : World) (h : SwAt w g s) (hc : (Lit.int .i64 c).wf = true) (hq : s.D.atKey (keyD c) nilD = .lit (.int .i64 (q : Int))) (hn : n = 0 ∨ n = 1) : Calls Try.prog 22 #[.pointer (some ⟨g, 0, none⟩), .int .i64 c, .int .i64 (n : Int)] w fun e w' => e = .returned (.tuple #[.pointer (some ⟨q, n * 3, none⟩), .int .i64 0]) ∧ w = w' := by
  have c3 : w.cell? ⟨g, 3, none⟩ = some (.map (some s.mb)) := h.1.cell 3
  have hu : isUp s.D c = true := by
    unfold isUp
    rw [hq]
    show (!((q : Int) == -1)) = true
    have : ((q : Int) == -1) = false := decide_eq_false (by omega)
    rw [this]; rfl
  rcases look h.2 hc with ⟨hr, e⟩ | ⟨q', hr, e, e2⟩
  · rw [hu] at e; cases e
  · rw [hq] at e2
    have hqq : q = q' := by injection e2 with e3; injection e3 with _ e4; omega
    subst hqq
    clear h e e2
    rcases hn with rfl | rfl
    · go_enter Try.func22, Try.ntmps22
      go_wp2_with (first | (go_at_call 21; refine (side_any _ _).mono ?_; rintro e w' ⟨rfl, rfl⟩))
      go_ret2
      exact ⟨rfl, rfl⟩
    · go_enter Try.func22, Try.ntmps22
      go_wp2_with (first | (go_at_call 21; refine (side_any _ _).mono ?_; rintro e w' ⟨rfl, rfl⟩))
      go_ret2
      exact ⟨rfl, rfl⟩
end Go.Proofs.Ytmbnonkbflchoaa
