/- A parameter that is a slice of chapter 11's acts, opened as rows of three cells. No condition. -/
import Derived.Test.YtjhcengdaclihaaRowsAt
namespace Go.Proofs.Ytjhcengdaclihaa
open Go.ChangeShapes Go.WideShapes Go.Deep Go.RowKit
set_option linter.unusedVariables false
def ActRow (B : Nat) (cs : List Value) : Prop := ∃ (k i a : Int), cs = [.int .i64 k, .int .i64 i, .int .i64 a] ∧ (Lit.int .i64 i).wf = true ∧ (Lit.int .i64 a).wf = true
section
variable {H : Type} {enc : TypeId × Value → H} {w : World} {base : Nat} {spare : Nat → Bool} {held : Bool}
theorem cells_intA : Try.prog.cellsOf 3 = 1 := by kernel_rfl
theorem cells_actA : Try.prog.cellsOf 30 = 3 := by kernel_rfl
theorem act_fields : ∃ f0 f1 f2 : Field, Try.prog.underlying 30 = some (.struct #[f0, f1, f2]) ∧ (f0.offset = 0 ∧ f1.offset = 1 ∧ f2.offset = 2) ∧ f0.type = 3 ∧ f1.type = 3 ∧ f2.type = 3 :=
  ⟨_, _, _, Try.underlying30, ⟨rfl, rfl, rfl⟩, rfl, rfl, rfl⟩
theorem act_row (n : Nat) (cs : List Value) (d : DataW H) (p : List MemPlace) (h : DataW.trod enc Try.prog w base spare held n 30 cs = some (d, p)) (B : Nat) (hB : ∀ x ∈ DataW.weights Try.prog 30 d, x ≤ B) : ActRow B cs := by
  obtain ⟨f0, f1, f2, hu, ⟨o0, o1, o2⟩, t0, t1, t2⟩ := act_fields
  obtain ⟨xs, m, hm, hx, hl, hlen, hf⟩ := DataW.trod_struct hu h
  rw [cells_actA] at hl
  match xs, hlen with
  | [y0, y1, y2], _ =>
    have h0 := hf 0 f0 rfl
    have h1 := hf 1 f1 rfl
    have h2 := hf 2 f2 rfl
    simp only [List.getElem?_cons_zero, List.getElem?_cons_succ] at h0 h1 h2
    rw [o0, t0, cells_intA] at h0
    rw [o1, t1, cells_intA] at h1
    rw [o2, t2, cells_intA] at h2
    obtain ⟨k, e0, z0, v0⟩ := DataW.trod_int Try.underlying3 h0
    obtain ⟨c, e1, z1, v1⟩ := DataW.trod_int Try.underlying3 h1
    obtain ⟨s, e2, z2, v2⟩ := DataW.trod_int Try.underlying3 h2
    match cs, hl with
    | [a0, a1, a2], _ =>
      simp at e0 e1 e2
      subst e0 e1 e2
      exact ⟨k, c, s, rfl, v1, v2⟩
theorem open_acts {r : Reach} {b0 : Nat} {v : Value} {d : DataW H} {p : List MemPlace} (hval : Value.okWide Try.prog w r b0 22 v) (h : DataW.Trod enc Try.prog w base spare held 22 v d p) :
    ∃ (A : Option Addr) (len cap : Nat) (rows : List (List Value)), v = .slice A len cap ∧ RowsAt w A len 3 rows ∧ (A = none → len = 0 ∧ cap = 0) ∧ len ≤ cap ∧ cap ≤ maxLen ∧
      ∀ B, (∀ n ∈ d.weights Try.prog 22, n ≤ B) → len * 24 ≤ B ∧ ∀ r ∈ rows, ActRow B r :=
  open_rows Try.underlying22 cells_actA (by omega) (by kernel_rfl) ActRow act_row (okWide_slice Try.underlying22 hval) h
end
end Go.Proofs.Ytjhcengdaclihaa
