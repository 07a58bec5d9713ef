/- A parameter that is a slice of options, opened: it reads as a list, within the row's own bounds. No condition. -/
import Derived.Test.YtckbbfdllflmjaaOptRead
import Derived.Deep.Slices
import Derived.Deep.Fields
import Derived.ChangeSame
import Derived.ChangeShapes
import Derived.WideShapes
namespace Go.Proofs.Ytckbbfdllflmjaa
open Go.ChangeShapes Go.WideShapes Go.Deep Go.RowKit
set_option linter.unusedVariables false

section
variable {H : Type} {enc : TypeId × Value → H} {w : World} {base : Nat} {spare : Nat → Bool} {held : Bool}

theorem opt_cells2 : Try.prog.cellsOf 65 = 2 := by kernel_rfl
theorem opt_one : oneCellFields Try.prog (Try.prog.fieldsOf 65) = true := by kernel_rfl
theorem opt_fields : ∃ f0 f1 : Field, Try.prog.underlying 65 = some (.struct #[f0, f1]) ∧ f0.offset = 0 ∧ f1.offset = 1 ∧ f0.type = 3 ∧ f1.type = 9 :=
  ⟨_, _, Try.underlying65, rfl, rfl, rfl, rfl⟩
theorem opt_bytes : Try.prog.bytesOf 65 = 24 := by kernel_rfl
theorem cells_int : Try.prog.cellsOf 3 = 1 := by kernel_rfl
theorem cells_str : Try.prog.cellsOf 9 = 1 := by kernel_rfl

theorem open_opt {n : Nat} {a : Addr} {cs : List Value} {d : DataW H} {p : List MemPlace} (hc : w.cells? base a 2 = some cs) (h : DataW.trod enc Try.prog w base spare held n 65 cs = some (d, p)) :
    ∃ (kind : Int) (data : ByteArray), w.cell? (a.add 0) = some (.int .i64 kind) ∧ w.cell? (a.add 1) = some (.string data) ∧ d = .agg [.lit (.int .i64 kind), .lit (.string data.data.toList)] := by
  obtain ⟨f0, f1, hu, o0, o1, t0, t1⟩ := opt_fields
  obtain ⟨y0, y1, m, hx, hl, h0, h1⟩ := trod_struct2 hu h
  obtain ⟨_, hlen, hat⟩ := World.cells?_some hc
  rw [o0, t0, cells_int] at h0
  rw [o1, t1, cells_str] at h1
  obtain ⟨kind, e0, rfl, _⟩ := DataW.trod_int Try.underlying3 h0
  obtain ⟨data, e1, rfl, _⟩ := DataW.trod_string Try.underlying9 h1
  have hx1 : d = .agg [.lit (.int .i64 kind), .lit (.string data.data.toList)] := by
    have := congrArg Prod.fst hx
    exact this
  match cs, hlen with
  | [c0, c1], _ =>
    simp at e0 e1
    subst e0 e1
    refine ⟨kind, data, ?_, ?_, hx1⟩
    · rw [hat 0 (by omega)]; rfl
    · rw [hat 1 (by omega)]; rfl
theorem addr_of_cell {a : Addr} {v : Value} (h : w.cell? a = some v) : a = ⟨a.block, a.off, none⟩ := by
  obtain ⟨b, o, s⟩ := a
  cases s with
  | none => rfl
  | some s =>
    unfold World.cell? at h
    split at h <;> simp at h

theorem weights_opt (kind : Int) (bytes : List UInt8) : bytes.length ∈ DataW.weights (H := H) Try.prog 65 (.agg [.lit (.int .i64 kind), .lit (.string bytes)]) := by
  obtain ⟨f0, f1, hu, o0, o1, t0, t1⟩ := opt_fields
  simp [DataW.weights, hu, DataW.weightsEach]
theorem mem_weightsAll {P : Program} {e : TypeId} {d : DataW H} {x : Nat} (hx : x ∈ d.weights P e) : ∀ (l : List (DataW H)), d ∈ l → x ∈ DataW.weightsAll P e l
  | [], h => by simp at h
  | y :: l, h => by
    rw [DataW.weightsAll, List.mem_append]
    rcases List.mem_cons.1 h with rfl | h
    · exact .inl hx
    · exact .inr (mem_weightsAll hx l h)

theorem open_opts_core {v : Value} {d : DataW H} {p : List MemPlace} (hform : ∃ A len cap, v = .slice A len cap) (h : DataW.Trod enc Try.prog w base spare held 32 v d p) :
    ∃ (A : Option Addr) (len cap : Nat) (os : List (Int × ByteArray)), v = .slice A len cap ∧ OptsAt w A len os ∧ (A = none → len = 0 ∧ cap = 0) ∧ len ≤ cap ∧ cap ≤ maxLen ∧
      ∀ B, (∀ n ∈ d.weights Try.prog 32, n ≤ B) → len * 24 ≤ B ∧ ∀ o ∈ os, o.2.size ≤ B := by
  obtain ⟨A, len, cap, rfl⟩ := hform
  obtain ⟨fuel, hf⟩ := h
  rcases open_slice Try.underlying32 hf with ⟨hcs, hx⟩ | ⟨a, len', cap', m, n, D, Pl, hcs, hb, hl, hm, hmm, hx, hi⟩
  · simp [Value.cells] at hcs
    obtain ⟨rfl, rfl, rfl⟩ := hcs
    refine ⟨none, 0, 0, [], rfl, OptsAt.nil _ _, fun _ => ⟨rfl, rfl⟩, Nat.le_refl _, by unfold maxLen; omega, fun B hB => ⟨by omega, fun o ho => by simp at ho⟩⟩
  · simp [Value.cells] at hcs
    obtain ⟨rfl, rfl, rfl⟩ := hcs
    have hlm : len ≤ m := by rw [hmm]; split <;> omega
    rw [opt_cells2] at hi
    have hd : d = .slice ((List.range len).map D) ((List.range (m - len)).map fun j => D (len + j)) := congrArg Prod.fst hx
    have key : ∀ i, ∃ o : Int × ByteArray, i < len → w.cell? ((a.add (i * 2)).add 0) = some (.int .i64 o.1) ∧ w.cell? ((a.add (i * 2)).add 1) = some (.string o.2) ∧ D i = .agg [.lit (.int .i64 o.1), .lit (.string o.2.data.toList)] := by
      intro i
      by_cases hil : i < len
      · obtain ⟨cs', hc, ht⟩ := hi i (by omega)
        obtain ⟨kind, data, c1, c2, e⟩ := open_opt hc ht
        exact ⟨(kind, data), fun _ => ⟨c1, c2, e⟩⟩
      · exact ⟨(0, ⟨#[]⟩), fun h => absurd h hil⟩
    let f : Nat → Int × ByteArray := fun i => Classical.choose (key i)
    have hf2 : ∀ i, i < len → w.cell? ((a.add (i * 2)).add 0) = some (.int .i64 (f i).1) ∧ w.cell? ((a.add (i * 2)).add 1) = some (.string (f i).2) ∧ D i = .agg [.lit (.int .i64 (f i).1), .lit (.string (f i).2.data.toList)] := fun i hil => Classical.choose_spec (key i) hil
    refine ⟨some a, len, cap, (List.range len).map f, rfl, ⟨by simp, fun hpos => ?_⟩, (fun h => by cases h), hl, hm, fun B hB => ⟨?_, fun o ho => ?_⟩⟩
    · have h0 := (hf2 0 hpos).1
      have ha : a = ⟨a.block, a.off, none⟩ := addr_of_cell (by simpa [Addr.add] using h0)
      have hlt := World.block_lt_of_cell? w _ h0
      refine ⟨a.block, a.off, by rw [← ha], ?_, fun j hj => ?_⟩
      · have : ((a.add (0 * 2)).add 0).block = a.block := by simp [Addr.add]
        rw [this] at hlt
        exact hlt
      · have hj2 : j < len := by simpa using hj
        obtain ⟨c1, c2, _⟩ := hf2 j hj2
        have e1 : (a.add (j * 2)).add 0 = ⟨a.block, a.off + j * 2, none⟩ := by
          rw [ha]; unfold Addr.add; by_cases h : j * 2 = 0 <;> simp [h]
        have e2 : (a.add (j * 2)).add 1 = ⟨a.block, a.off + j * 2 + 1, none⟩ := by
          rw [ha]; unfold Addr.add; by_cases h : j * 2 = 0 <;> simp [h]
        rw [e1] at c1
        rw [e2] at c2
        simp only [List.getElem_map, List.getElem_range]
        exact ⟨c1, c2⟩
    · have := hB (((List.range len).map D).length + ((List.range (m - len)).map fun j => D (len + j)).length |> (· * Try.prog.bytesOf 65)) (by rw [hd]; simp [DataW.weights, Try.underlying32])
      rw [opt_bytes] at this
      simp at this
      omega
    · obtain ⟨i, hil, rfl⟩ := List.mem_map.1 ho
      have hil2 : i < len := List.mem_range.1 hil
      obtain ⟨_, _, e⟩ := hf2 i hil2
      have hw := weights_opt (H := H) (f i).1 (f i).2.data.toList
      rw [← e] at hw
      have := hB (f i).2.data.toList.length (by
        rw [hd]
        simp only [DataW.weights, Try.underlying32, List.mem_cons, List.mem_append]
        exact .inr (.inl (mem_weightsAll hw _ (List.mem_map.2 ⟨i, hil, rfl⟩))))
      simpa using this
theorem open_opts {r : Reach} {b0 : Nat} {v : Value} {d : DataW H} {p : List MemPlace} (hval : Value.okWide Try.prog w r b0 32 v) (h : DataW.Trod enc Try.prog w base spare held 32 v d p) :
    ∃ (A : Option Addr) (len cap : Nat) (os : List (Int × ByteArray)), v = .slice A len cap ∧ OptsAt w A len os ∧ (A = none → len = 0 ∧ cap = 0) ∧ len ≤ cap ∧ cap ≤ maxLen ∧
      ∀ B, (∀ n ∈ d.weights Try.prog 32, n ≤ B) → len * 24 ≤ B ∧ ∀ o ∈ os, o.2.size ≤ B :=
  open_opts_core (okWide_slice Try.underlying32 hval) h
/-- .. a field of a struct. -/
theorem open_opts_field {n : Nat} {v : Value} {y : DataW H × List MemPlace} (h : DataW.trod enc Try.prog w base spare held n 32 [v] = some y) :
    ∃ (A : Option Addr) (len cap : Nat) (os : List (Int × ByteArray)), v = .slice A len cap ∧ OptsAt w A len os ∧ (A = none → len = 0 ∧ cap = 0) ∧ len ≤ cap ∧ cap ≤ maxLen ∧
      ∀ B, (∀ n ∈ y.1.weights Try.prog 32, n ≤ B) → len * 24 ≤ B ∧ ∀ o ∈ os, o.2.size ≤ B := by
  have hform : ∃ A len cap, v = .slice A len cap := by
    rcases open_slice Try.underlying32 h with ⟨hcs, _⟩ | ⟨a, len', cap', m, n, D, Pl, hcs, _⟩
    · exact ⟨_, _, _, (List.cons.inj hcs).1⟩
    · exact ⟨_, _, _, (List.cons.inj hcs).1⟩
  obtain ⟨A, len, cap, rfl⟩ := hform
  exact open_opts_core ⟨_, _, _, rfl⟩ ⟨n, h⟩
end
end Go.Proofs.Ytckbbfdllflmjaa
