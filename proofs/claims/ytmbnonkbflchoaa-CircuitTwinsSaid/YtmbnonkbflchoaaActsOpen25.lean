/- A parameter that is a slice of chapter 25's acts, opened as rows of five cells. No condition. -/
import Derived.Test.YtmbnonkbflchoaaRowsAt
namespace Go.Proofs.Ytmbnonkbflchoaa
open Go.ChangeShapes Go.WideShapes Go.Deep Go.RowKit
set_option linter.unusedVariables false
def ActRow (B : Nat) (cs : List Value) : Prop := ∃ (k c s n : Int) (d : ByteArray), cs = [.int .i64 k, .int .i64 c, .int .i64 s, .int .i64 n, .string d] ∧ d.size ≤ B ∧ (Lit.int .i64 c).wf = true ∧ (Lit.int .i64 s).wf = true ∧ (Lit.int .i64 n).wf = true
section
variable {H : Type} {enc : TypeId × Value → H} {w : World} {base : Nat} {spare : Nat → Bool} {held : Bool}
theorem cells_intA : Try.prog.cellsOf 3 = 1 := by kernel_rfl
theorem cells_strA : Try.prog.cellsOf 9 = 1 := by kernel_rfl
theorem cells_actA : Try.prog.cellsOf 41 = 5 := by kernel_rfl
theorem act_fields : ∃ f0 f1 f2 f3 f4 : Field, Try.prog.underlying 41 = some (.struct #[f0, f1, f2, f3, f4]) ∧ (f0.offset = 0 ∧ f1.offset = 1 ∧ f2.offset = 2 ∧ f3.offset = 3 ∧ f4.offset = 4) ∧ f0.type = 3 ∧ f1.type = 3 ∧ f2.type = 3 ∧ f3.type = 3 ∧ f4.type = 9 :=
  ⟨_, _, _, _, _, Try.underlying41, ⟨rfl, rfl, rfl, rfl, rfl⟩, rfl, rfl, rfl, rfl, rfl⟩
theorem act_row (n : Nat) (cs : List Value) (d : DataW H) (p : List MemPlace) (h : DataW.trod enc Try.prog w base spare held n 41 cs = some (d, p)) (B : Nat) (hB : ∀ x ∈ DataW.weights Try.prog 41 d, x ≤ B) : ActRow B cs := by
  obtain ⟨f0, f1, f2, f3, f4, hu, ⟨o0, o1, o2, o3, o4⟩, t0, t1, t2, t3, t4⟩ := act_fields
  obtain ⟨xs, m, hm, hx, hl, hlen, hf⟩ := DataW.trod_struct hu h
  rw [cells_actA] at hl
  match xs, hlen with
  | [y0, y1, y2, y3, y4], _ =>
    have h0 := hf 0 f0 rfl
    have h1 := hf 1 f1 rfl
    have h2 := hf 2 f2 rfl
    have h3 := hf 3 f3 rfl
    have h4 := hf 4 f4 rfl
    simp only [List.getElem?_cons_zero, List.getElem?_cons_succ] at h0 h1 h2 h3 h4
    rw [o0, t0, cells_intA] at h0
    rw [o1, t1, cells_intA] at h1
    rw [o2, t2, cells_intA] at h2
    rw [o3, t3, cells_intA] at h3
    rw [o4, t4, cells_strA] at h4
    obtain ⟨k, e0, z0, v0⟩ := DataW.trod_int Try.underlying3 h0
    obtain ⟨c, e1, z1, v1⟩ := DataW.trod_int Try.underlying3 h1
    obtain ⟨s, e2, z2, v2⟩ := DataW.trod_int Try.underlying3 h2
    obtain ⟨q, e3, z3, v3⟩ := DataW.trod_int Try.underlying3 h3
    obtain ⟨u, e4, z4, v4⟩ := DataW.trod_string Try.underlying9 h4
    match cs, hl with
    | [a0, a1, a2, a3, a4], _ =>
      simp at e0 e1 e2 e3 e4
      subst e0 e1 e2 e3 e4
      refine ⟨k, c, s, q, u, rfl, ?_, v1, v2, v3⟩
      have hd : d = .agg [y0.1, y1.1, y2.1, y3.1, y4.1] := by simpa using congrArg Prod.fst hx
      have := hB u.data.toList.length (by rw [hd, z0, z1, z2, z3, z4]; simp [DataW.weights, hu, DataW.weightsEach])
      simpa using this
theorem open_acts {r : Reach} {b0 : Nat} {v : Value} {d : DataW H} {p : List MemPlace} (hval : Value.okWide Try.prog w r b0 39 v) (h : DataW.Trod enc Try.prog w base spare held 39 v d p) :
    ∃ (A : Option Addr) (len cap : Nat) (rows : List (List Value)), v = .slice A len cap ∧ RowsAt w A len 5 rows ∧ (A = none → len = 0 ∧ cap = 0) ∧ len ≤ cap ∧ cap ≤ maxLen ∧
      ∀ B, (∀ n ∈ d.weights Try.prog 39, n ≤ B) → len * 48 ≤ B ∧ ∀ r ∈ rows, ActRow B r :=
  open_rows Try.underlying39 cells_actA (by omega) (by kernel_rfl) ActRow act_row (okWide_slice Try.underlying39 hval) h
end
end Go.Proofs.Ytmbnonkbflchoaa
