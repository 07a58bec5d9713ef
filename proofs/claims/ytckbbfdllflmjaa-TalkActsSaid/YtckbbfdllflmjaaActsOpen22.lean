/- A parameter that is a slice of chapter 22's acts, opened as rows of six cells, of which one is a slice of options. No condition. -/
import Derived.Test.YtckbbfdllflmjaaRowsAt
import Derived.Test.YtckbbfdllflmjaaOptOpen
import Derived.Lib.SmallJoins
import Derived.Deep.Strs
namespace Go.Proofs.Ytckbbfdllflmjaa
open Go.ChangeShapes Go.WideShapes Go.Deep Go.RowKit
set_option linter.unusedVariables false
def ActRow (w : World) (B : Nat) (cs : List Value) : Prop := ∃ (k c i a : Int) (A : Option Addr) (n cap : Nat) (os : List (Int × ByteArray)) (y : Bool), cs = [.int .i64 k, .int .i64 c, .int .i64 i, .int .i64 a, .slice A n cap, .bool y] ∧ OptsAt w A n os ∧ (A = none → n = 0 ∧ cap = 0) ∧ n * 24 ≤ B ∧ ∀ o ∈ os, o.2.size ≤ B
section
variable {H : Type} {enc : TypeId × Value → H} {w : World} {base : Nat} {spare : Nat → Bool} {held : Bool}
theorem cells_boolA : Try.prog.cellsOf 4 = 1 := by kernel_rfl
theorem cells_optsA : Try.prog.cellsOf 32 = 1 := by kernel_rfl
theorem cells_bapA : Try.prog.cellsOf 34 = 4 := by kernel_rfl
theorem cells_actA : Try.prog.cellsOf 36 = 6 := by kernel_rfl
theorem act_fields : ∃ f0 f1 f2 : Field, Try.prog.underlying 36 = some (.struct #[f0, f1, f2]) ∧ (f0.offset = 0 ∧ f1.offset = 1 ∧ f2.offset = 5) ∧ f0.type = 3 ∧ f1.type = 34 ∧ f2.type = 4 :=
  ⟨_, _, _, Try.underlying36, ⟨rfl, rfl, rfl⟩, rfl, rfl, rfl⟩
theorem bap_fields : ∃ f0 f1 f2 f3 : Field, Try.prog.underlying 34 = some (.struct #[f0, f1, f2, f3]) ∧ (f0.offset = 0 ∧ f1.offset = 1 ∧ f2.offset = 2 ∧ f3.offset = 3) ∧ f0.type = 3 ∧ f1.type = 3 ∧ f2.type = 3 ∧ f3.type = 32 :=
  ⟨_, _, _, _, Try.underlying34, ⟨rfl, rfl, rfl, rfl⟩, rfl, rfl, rfl, rfl⟩
theorem bap_row (n : Nat) (cs : List Value) (x : DataW H × List MemPlace) (h : DataW.trod enc Try.prog w base spare held n 34 cs = some x) :
    ∃ (c i a : Int) (A : Option Addr) (k cap : Nat) (os : List (Int × ByteArray)) (y : DataW H), cs = [.int .i64 c, .int .i64 i, .int .i64 a, .slice A k cap] ∧ x.1 = .agg [.lit (.int .i64 c), .lit (.int .i64 i), .lit (.int .i64 a), y] ∧ OptsAt w A k os ∧ (A = none → k = 0 ∧ cap = 0) ∧
      ∀ B, (∀ z ∈ y.weights Try.prog 32, z ≤ B) → k * 24 ≤ B ∧ ∀ o ∈ os, o.2.size ≤ B := by
  obtain ⟨f0, f1, f2, f3, hu, ⟨o0, o1, o2, o3⟩, t0, t1, t2, t3⟩ := bap_fields
  obtain ⟨y0, y1, y2, y3, m, hx, hl, h0, h1, h2, h3⟩ := Joins.trod_struct4 hu h
  rw [o0, t0, cells_int] at h0
  rw [o1, t1, cells_int] at h1
  rw [o2, t2, cells_int] at h2
  rw [o3, t3, cells_optsA] at h3
  rw [cells_bapA] at hl
  obtain ⟨c, e0, z0, _⟩ := DataW.trod_int Try.underlying3 h0
  obtain ⟨i, e1, z1, _⟩ := DataW.trod_int Try.underlying3 h1
  obtain ⟨a, e2, z2, _⟩ := DataW.trod_int Try.underlying3 h2
  match cs, hl with
  | [a0, a1, a2, a3], _ =>
    have h3' : DataW.trod enc Try.prog w base spare held m 32 [a3] = some y3 := h3
    obtain ⟨A, k, cap, os, e3, hv, hc, -, -, hb⟩ := open_opts_field h3'
    simp at e0 e1 e2
    subst e0 e1 e2 e3
    refine ⟨c, i, a, A, k, cap, os, y3.1, rfl, ?_, hv, hc, hb⟩
    rw [hx, z0, z1, z2]
theorem act_row (n : Nat) (cs : List Value) (d : DataW H) (p : List MemPlace) (h : DataW.trod enc Try.prog w base spare held n 36 cs = some (d, p)) (B : Nat) (hB : ∀ x ∈ DataW.weights Try.prog 36 d, x ≤ B) : ActRow w B cs := by
  obtain ⟨f0, f1, f2, hu, ⟨o0, o1, o2⟩, t0, t1, t2⟩ := act_fields
  obtain ⟨y0, y1, y2, m, hx, hl, h0, h1, h2⟩ := trod_struct3 hu h
  rw [o0, t0, cells_int] at h0
  rw [o1, t1, cells_bapA] at h1
  rw [o2, t2, cells_boolA] at h2
  rw [cells_actA] at hl
  obtain ⟨k, e0, z0, _⟩ := DataW.trod_int Try.underlying3 h0
  obtain ⟨c, i, a, A, q, cap, os, y, e1, z1, hv, hc, hb⟩ := bap_row _ _ _ h1
  obtain ⟨r, e2, z2⟩ := DataW.trod_bool Try.underlying4 h2
  match cs, hl with
  | [a0, a1, a2, a3, a4, a5], _ =>
    simp at e0 e1 e2
    obtain ⟨rfl, rfl, rfl, rfl⟩ := e1
    subst e0 e2
    have hd : d = .agg [y0.1, y1.1, y2.1] := congrArg Prod.fst hx
    obtain ⟨g0, g1, g2, g3, hu2, -, t20, t21, t22, t23⟩ := bap_fields
    have hb2 := hb B (fun z hz => hB z (by
      rw [hd, z1]
      simp only [DataW.weights, hu, List.map_cons, List.map_nil, DataW.weightsEach, t1, hu2, t23, List.mem_append]
      simp [hz]))
    exact ⟨k, c, i, a, A, q, cap, os, r, rfl, hv, hc, hb2.1, hb2.2⟩
theorem open_acts {r : Reach} {b0 : Nat} {v : Value} {d : DataW H} {p : List MemPlace} (hval : Value.okWide Try.prog w r b0 22 v) (h : DataW.Trod enc Try.prog w base spare held 22 v d p) :
    ∃ (A : Option Addr) (len cap : Nat) (rows : List (List Value)), v = .slice A len cap ∧ RowsAt w A len 6 rows ∧ (A = none → len = 0 ∧ cap = 0) ∧ len ≤ cap ∧ cap ≤ maxLen ∧
      ∀ B, (∀ n ∈ d.weights Try.prog 22, n ≤ B) → len * 64 ≤ B ∧ ∀ r ∈ rows, ActRow w B r :=
  open_rows Try.underlying22 cells_actA (by omega) (by kernel_rfl) (ActRow w) act_row (okWide_slice Try.underlying22 hval) h
end
end Go.Proofs.Ytckbbfdllflmjaa
