/- A parameter that is a slice of chapter 16's acts, opened as rows of seven cells. No condition. -/
import Derived.Test.YtdfefpbpfneahaaRowsAt
namespace Go.Proofs.Ytdfefpbpfneahaa
open Go.ChangeShapes Go.WideShapes Go.Deep Go.RowKit
set_option linter.unusedVariables false
def ActRow (B : Nat) (cs : List Value) : Prop := ∃ (k : Int) (s : ByteArray) (c i : Int) (v n : ByteArray) (r : Bool), cs = [.int .i64 k, .string s, .int .i64 c, .int .i64 i, .string v, .string n, .bool r] ∧ s.size ≤ B ∧ v.size ≤ B ∧ n.size ≤ B
section
variable {H : Type} {enc : TypeId × Value → H} {w : World} {base : Nat} {spare : Nat → Bool} {held : Bool}
theorem cells_intA : Try.prog.cellsOf 3 = 1 := by kernel_rfl
theorem cells_strA : Try.prog.cellsOf 9 = 1 := by kernel_rfl
theorem cells_boolA : Try.prog.cellsOf 4 = 1 := by kernel_rfl
theorem cells_chapA : Try.prog.cellsOf 33 = 4 := by kernel_rfl
theorem cells_actA : Try.prog.cellsOf 48 = 7 := by kernel_rfl
theorem act_fields : ∃ f0 f1 f2 f3 : Field, Try.prog.underlying 48 = some (.struct #[f0, f1, f2, f3]) ∧ (f0.offset = 0 ∧ f1.offset = 1 ∧ f2.offset = 2 ∧ f3.offset = 6) ∧ f0.type = 3 ∧ f1.type = 9 ∧ f2.type = 33 ∧ f3.type = 4 :=
  ⟨_, _, _, _, Try.underlying48, ⟨rfl, rfl, rfl, rfl⟩, rfl, rfl, rfl, rfl⟩
theorem chap_fields : ∃ f0 f1 f2 f3 : Field, Try.prog.underlying 33 = some (.struct #[f0, f1, f2, f3]) ∧ (f0.offset = 0 ∧ f1.offset = 1 ∧ f2.offset = 2 ∧ f3.offset = 3) ∧ f0.type = 3 ∧ f1.type = 3 ∧ f2.type = 9 ∧ f3.type = 9 :=
  ⟨_, _, _, _, Try.underlying33, ⟨rfl, rfl, rfl, rfl⟩, rfl, rfl, rfl, rfl⟩
theorem chap_row (n : Nat) (cs : List Value) (x : DataW H × List MemPlace) (h : DataW.trod enc Try.prog w base spare held n 33 cs = some x) :
    ∃ (c i : Int) (v m : ByteArray), cs = [.int .i64 c, .int .i64 i, .string v, .string m] ∧ x.1 = .agg [.lit (.int .i64 c), .lit (.int .i64 i), .lit (.string v.data.toList), .lit (.string m.data.toList)] := by
  obtain ⟨f0, f1, f2, f3, hu, ⟨o0, o1, o2, o3⟩, t0, t1, t2, t3⟩ := chap_fields
  obtain ⟨y0, y1, y2, y3, m, hx, hl, h0, h1, h2, h3⟩ := Joins.trod_struct4 hu h
  rw [o0, t0, cells_intA] at h0
  rw [o1, t1, cells_intA] at h1
  rw [o2, t2, cells_strA] at h2
  rw [o3, t3, cells_strA] at h3
  rw [cells_chapA] at hl
  obtain ⟨c, e0, z0, _⟩ := DataW.trod_int Try.underlying3 h0
  obtain ⟨i, e1, z1, _⟩ := DataW.trod_int Try.underlying3 h1
  obtain ⟨v, e2, z2, _⟩ := DataW.trod_string Try.underlying9 h2
  obtain ⟨q, e3, z3, _⟩ := DataW.trod_string Try.underlying9 h3
  match cs, hl with
  | [a0, a1, a2, a3], _ =>
    simp at e0 e1 e2 e3
    subst e0 e1 e2 e3
    refine ⟨c, i, v, q, rfl, ?_⟩
    rw [hx, z0, z1, z2, z3]
theorem act_row (n : Nat) (cs : List Value) (d : DataW H) (p : List MemPlace) (h : DataW.trod enc Try.prog w base spare held n 48 cs = some (d, p)) (B : Nat) (hB : ∀ x ∈ DataW.weights Try.prog 48 d, x ≤ B) : ActRow B cs := by
  obtain ⟨f0, f1, f2, f3, hu, ⟨o0, o1, o2, o3⟩, t0, t1, t2, t3⟩ := act_fields
  obtain ⟨y0, y1, y2, y3, m, hx, hl, h0, h1, h2, h3⟩ := Joins.trod_struct4 hu h
  rw [o0, t0, cells_intA] at h0
  rw [o1, t1, cells_strA] at h1
  rw [o2, t2, cells_chapA] at h2
  rw [o3, t3, cells_boolA] at h3
  rw [cells_actA] at hl
  obtain ⟨k, e0, z0, _⟩ := DataW.trod_int Try.underlying3 h0
  obtain ⟨s, e1, z1, _⟩ := DataW.trod_string Try.underlying9 h1
  obtain ⟨c, i, v, q, e2, z2⟩ := chap_row _ _ _ h2
  obtain ⟨r, e3, z3⟩ := DataW.trod_bool Try.underlying4 h3
  match cs, hl with
  | [a0, a1, a2, a3, a4, a5, a6], _ =>
    simp at e0 e1 e2 e3
    obtain ⟨rfl, rfl, rfl, rfl⟩ := e2
    subst e0 e1 e3
    have hd : d = .agg [y0.1, y1.1, y2.1, y3.1] := congrArg Prod.fst hx
    rw [z0, z1, z2] at hd
    obtain ⟨g0, g1, g2, g3, hu2, -, t20, t21, t22, t23⟩ := chap_fields
    refine ⟨k, s, c, i, v, q, r, rfl, ?_, ?_, ?_⟩
    · have := hB s.data.toList.length (by rw [hd]; simp [DataW.weights, hu, DataW.weightsEach])
      simpa using this
    · have := hB v.data.toList.length (by rw [hd]; simp [DataW.weights, hu, DataW.weightsEach, t2, hu2])
      simpa using this
    · have := hB q.data.toList.length (by rw [hd]; simp [DataW.weights, hu, DataW.weightsEach, t2, hu2])
      simpa using this
theorem open_acts {r : Reach} {b0 : Nat} {v : Value} {d : DataW H} {p : List MemPlace} (hval : Value.okWide Try.prog w r b0 43 v) (h : DataW.Trod enc Try.prog w base spare held 43 v d p) :
    ∃ (A : Option Addr) (len cap : Nat) (rows : List (List Value)), v = .slice A len cap ∧ RowsAt w A len 7 rows ∧ (A = none → len = 0 ∧ cap = 0) ∧ len ≤ cap ∧ cap ≤ maxLen ∧
      ∀ B, (∀ n ∈ d.weights Try.prog 43, n ≤ B) → len * 80 ≤ B ∧ ∀ r ∈ rows, ActRow B r :=
  open_rows Try.underlying43 cells_actA (by omega) (by kernel_rfl) ActRow act_row (okWide_slice Try.underlying43 hval) h
end
end Go.Proofs.Ytdfefpbpfneahaa
