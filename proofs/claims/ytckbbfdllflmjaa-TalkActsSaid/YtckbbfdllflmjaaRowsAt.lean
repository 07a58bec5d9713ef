/- A slice of structs in memory, read as rows of cells; a parameter of such a type, opened. No condition. -/
import Derived.Test.YtckbbfdllflmjaaStr
import Derived.Test.YtckbbfdllflmjaaNum
import Derived.Deep.Slices
import Derived.Deep.Fields
import Derived.Lib.SmallJoins
import Derived.ChangeSame
import Derived.ChangeShapes
import Derived.WideShapes
namespace Go.Proofs.Ytckbbfdllflmjaa
open Go.ChangeShapes Go.WideShapes Go.Deep Go.RowKit
set_option linter.unusedVariables false
/-- The slice '.slice A n cap' of elements of k cells reads as the rows. -/
def RowsAt (w : World) (A : Option Addr) (n k : Nat) (rows : List (List Value)) : Prop :=
  rows.length = n ∧ (∀ r ∈ rows, r.length = k) ∧ (0 < n → ∃ b off, A = some ⟨b, off, none⟩ ∧ b < w.heap.size ∧ ∀ j (h : j < rows.length) m v, (rows[j])[m]? = some v → w.cell? ⟨b, off + j * k + m, none⟩ = some v)
theorem RowsAt.keep {w w' : World} {A : Option Addr} {n k : Nat} {rows : List (List Value)} (h : RowsAt w A n k rows) (hb : Below w.heap.size w w') : RowsAt w' A n k rows := by
  refine ⟨h.1, h.2.1, fun hn => ?_⟩
  obtain ⟨b, off, rfl, hlt, hc⟩ := h.2.2 hn
  exact ⟨b, off, rfl, Nat.lt_of_lt_of_le hlt hb.size, fun j hj m v hv => (hb.cell (p := ⟨b, off + j * k + m, none⟩) hlt).trans (hc j hj m v hv)⟩
theorem RowsAt.below {B : Nat} {w w' : World} {A : Option Addr} {n k : Nat} {rows : List (List Value)} (h : RowsAt w A n k rows) (hb : Below B w w') (hB : w.heap.size ≤ B) : RowsAt w' A n k rows := h.keep (hb.mono hB)
theorem RowsAt.nil (w : World) (A : Option Addr) (k : Nat) : RowsAt w A 0 k [] := ⟨rfl, by simp, fun h => absurd h (by omega)⟩
theorem RowsAt.at_ {w : World} {A : Option Addr} {n k : Nat} {rows : List (List Value)} (h : RowsAt w A n k rows) (j : Nat) (hj : j < n) :
    ∃ b off r, A = some ⟨b, off, none⟩ ∧ b < w.heap.size ∧ rows[j]? = some r ∧ r ∈ rows ∧ ∀ m v, r[m]? = some v → w.cell? ⟨b, off + j * k + m, none⟩ = some v := by
  obtain ⟨b, off, e, hlt, hc⟩ := h.2.2 (by omega)
  have hj2 : j < rows.length := by rw [h.1]; exact hj
  exact ⟨b, off, _, e, hlt, List.getElem?_eq_getElem hj2, List.getElem_mem hj2, fun m v hv => hc j hj2 m v hv⟩

section
variable {H : Type} {enc : TypeId × Value → H} {w : World} {base : Nat} {spare : Nat → Bool} {held : Bool}
theorem addr_of_cellR {a : Addr} {v : Value} (h : w.cell? a = some v) : a = ⟨a.block, a.off, none⟩ := by
  obtain ⟨b, o, f⟩ := a
  cases f with
  | none => rfl
  | some x =>
    unfold World.cell? at h
    split at h <;> simp at h
theorem mem_weightsAllR {P : Program} {e : TypeId} {d : DataW H} {x : Nat} (hx : x ∈ d.weights P e) : ∀ (l : List (DataW H)), d ∈ l → x ∈ DataW.weightsAll P e l
  | [], h => by simp at h
  | y :: l, h => by
    rw [DataW.weightsAll, List.mem_append]
    rcases List.mem_cons.1 h with rfl | h
    · exact .inl hx
    · exact .inr (mem_weightsAllR hx l h)
/-- A slice of structs opened: T says what a row of cells is, within a bound on what it reads. -/
theorem open_rows {t e : TypeId} {k by8 : Nat} (ht : Try.prog.underlying t = some (.slice e)) (hk : Try.prog.cellsOf e = k) (hk0 : 0 < k) (hby : Try.prog.bytesOf e = by8) (T : Nat → List Value → Prop)
    (hT : ∀ n cs d p, DataW.trod enc Try.prog w base spare held n e cs = some (d, p) → ∀ B, (∀ x ∈ DataW.weights Try.prog e d, x ≤ B) → T B cs)
    {v : Value} {d : DataW H} {p : List MemPlace} (hform : ∃ A len cap, v = .slice A len cap) (h : DataW.Trod enc Try.prog w base spare held t v d p) :
    ∃ (A : Option Addr) (len cap : Nat) (rows : List (List Value)), v = .slice A len cap ∧ RowsAt w A len k rows ∧ (A = none → len = 0 ∧ cap = 0) ∧ len ≤ cap ∧ cap ≤ maxLen ∧
      ∀ B, (∀ n ∈ d.weights Try.prog t, n ≤ B) → len * by8 ≤ B ∧ ∀ r ∈ rows, T B r := by
  obtain ⟨A, len, cap, rfl⟩ := hform
  obtain ⟨fuel, hf⟩ := h
  rcases open_slice ht hf with ⟨hcs, hx⟩ | ⟨a, len', cap', m, n, D, Pl, hcs, hb, hl, hm, hmm, hx, hi⟩
  · simp [Value.cells] at hcs
    obtain ⟨rfl, rfl, rfl⟩ := hcs
    exact ⟨none, 0, 0, [], rfl, RowsAt.nil _ _ _, fun _ => ⟨rfl, rfl⟩, Nat.le_refl _, by unfold maxLen; omega, fun B hB => ⟨by omega, fun o ho => by simp at ho⟩⟩
  · simp [Value.cells] at hcs
    obtain ⟨rfl, rfl, rfl⟩ := hcs
    have hlm : len ≤ m := by rw [hmm]; split <;> omega
    rw [hk] at hi
    have hd : d = .slice ((List.range len).map D) ((List.range (m - len)).map fun j => D (len + j)) := congrArg Prod.fst hx
    have key : ∀ i, ∃ cs : List Value, i < len → w.cells? base (a.add (i * k)) k = some cs ∧ DataW.trod enc Try.prog w base spare held n e cs = some (D i, Pl i) := by
      intro i
      by_cases hil : i < len
      · obtain ⟨cs, h1, h2⟩ := hi i (by omega)
        exact ⟨cs, fun _ => ⟨h1, h2⟩⟩
      · exact ⟨[], fun h => absurd h hil⟩
    let f : Nat → List Value := fun i => Classical.choose (key i)
    have hf2 : ∀ i, i < len → w.cells? base (a.add (i * k)) k = some (f i) ∧ DataW.trod enc Try.prog w base spare held n e (f i) = some (D i, Pl i) := fun i hil => Classical.choose_spec (key i) hil
    refine ⟨some a, len, cap, (List.range len).map f, rfl, ⟨by simp, fun r hr => ?_, fun hpos => ?_⟩, (fun h => by cases h), hl, hm, fun B hB => ⟨?_, fun r hr => ?_⟩⟩
    · obtain ⟨i, hil, rfl⟩ := List.mem_map.1 hr
      exact (World.cells?_some (hf2 i (List.mem_range.1 hil)).1).2.1
    · obtain ⟨_, hlen, hat⟩ := World.cells?_some (hf2 0 hpos).1
      have h0 := hat 0 (by omega)
      have h0' : w.cell? a = (f 0)[0]? := by simpa [Addr.add] using h0
      have hsome : (f 0)[0]? = some ((f 0)[0]'(by omega)) := List.getElem?_eq_getElem (by omega)
      rw [hsome] at h0'
      have ha : a = ⟨a.block, a.off, none⟩ := addr_of_cellR h0'
      have hlt := World.block_lt_of_cell? w _ h0'
      refine ⟨a.block, a.off, by rw [← ha], hlt, fun j hj q u hu => ?_⟩
      have hj2 : j < len := by simpa using hj
      obtain ⟨_, hlen2, hat2⟩ := World.cells?_some (hf2 j hj2).1
      simp only [List.getElem_map, List.getElem_range] at hu
      have hq : q < k := by rw [← hlen2]; exact (List.getElem?_eq_some_iff.1 hu).1
      have h2 := hat2 q hq
      have e1 : (a.add (j * k)).add q = ⟨a.block, a.off + j * k + q, none⟩ := by
        rw [ha]; unfold Addr.add; by_cases h1 : j * k = 0 <;> by_cases h2 : q = 0 <;> simp [h1, h2]
      rw [e1] at h2
      rw [h2, hu]
    · have := hB (((List.range len).map D).length + ((List.range (m - len)).map fun j => D (len + j)).length |> (· * Try.prog.bytesOf e)) (by rw [hd]; simp [DataW.weights, ht])
      rw [hby] at this
      simp at this
      have hle : len * by8 ≤ (len + (m - len)) * by8 := Nat.mul_le_mul_right _ (by omega)
      omega
    · obtain ⟨i, hil, rfl⟩ := List.mem_map.1 hr
      have hil2 : i < len := List.mem_range.1 hil
      obtain ⟨_, ht2⟩ := hf2 i hil2
      refine hT n _ _ _ ht2 B (fun x hx => hB x ?_)
      rw [hd]
      simp only [DataW.weights, ht, List.mem_cons, List.mem_append]
      exact .inr (.inl (mem_weightsAllR hx _ (List.mem_map.2 ⟨i, hil, rfl⟩)))
end
end Go.Proofs.Ytckbbfdllflmjaa
