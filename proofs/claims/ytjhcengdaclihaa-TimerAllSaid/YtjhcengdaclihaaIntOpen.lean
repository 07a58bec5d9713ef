/- A parameter that is a slice of ints, opened: it reads as a list, within the row's own bounds. No condition. -/
import Derived.Test.YtjhcengdaclihaaIntView
import Derived.Deep.Slices
import Derived.ChangeSame
import Derived.ChangeShapes
import Derived.ChangeSlices
import Derived.WideShapes
namespace Go.Proofs.Ytjhcengdaclihaa
open Go.ChangeShapes Go.WideShapes Go.Deep Go.RowKit
set_option linter.unusedVariables false

section
variable {H : Type} {enc : TypeId × Value → H} {w : World} {base : Nat} {spare : Nat → Bool} {held : Bool}
theorem cells_intI : Try.prog.cellsOf 3 = 1 := by kernel_rfl
theorem int_bytes : Try.prog.bytesOf 3 = 8 := by kernel_rfl
theorem addr_of_cellI {w : World} {a : Addr} {v : Value} (h : w.cell? a = some v) : a = ⟨a.block, a.off, none⟩ := by
  obtain ⟨b, o, f⟩ := a
  cases f with
  | none => rfl
  | some x =>
    unfold World.cell? at h
    split at h <;> simp at h
theorem open_intlist {r : Reach} {b0 : Nat} {v : Value} {d : DataW H} {p : List MemPlace} (hval : Value.okWide Try.prog w r b0 37 v) (h : DataW.Trod enc Try.prog w base spare held 37 v d p) :
    ∃ (A : Option Addr) (len cap : Nat) (zs : List Int), v = .slice A len cap ∧ IntsAt w A len zs ∧ (A = none → len = 0 ∧ cap = 0) ∧ len ≤ cap ∧ cap ≤ maxLen ∧ (∀ n ∈ zs, (Lit.int .i64 n).wf = true) ∧
      ∀ B, (∀ n ∈ d.weights Try.prog 37, n ≤ B) → len * 8 ≤ B := by
  obtain ⟨A, len, cap, rfl⟩ := okWide_slice Try.underlying37 hval
  obtain ⟨fuel, hf⟩ := h
  rcases open_ints Try.underlying37 Try.underlying3 cells_intI hf with ⟨hcs, hx⟩ | ⟨a, len', cap', zs, hcs, hb, hl, hm, hlen, hx, hc, hwf⟩
  · simp [Value.cells] at hcs
    obtain ⟨rfl, rfl, rfl⟩ := hcs
    exact ⟨none, 0, 0, [], rfl, IntsAt.nil _ _, fun _ => ⟨rfl, rfl⟩, Nat.le_refl _, by unfold maxLen; omega, by simp, fun B hB => by omega⟩
  · simp [Value.cells] at hcs
    obtain ⟨rfl, rfl, rfl⟩ := hcs
    have hlm : len ≤ zs.length := by rw [hlen]; split <;> omega
    have hd : d = .slice (lits .i64 (zs.take len)) (lits .i64 (zs.drop len)) := congrArg Prod.fst hx
    refine ⟨some a, len, cap, zs.take len, rfl, ⟨by rw [List.length_take]; omega, fun hpos => ?_⟩, (fun h => by cases h), hl, hm, fun n hn => hwf n (List.mem_of_mem_take hn), fun B hB => ?_⟩
    · have h0 := hc 0 (by omega)
      have ha : a = ⟨a.block, a.off, none⟩ := addr_of_cellI (by simpa [Addr.add] using h0)
      have hlt := World.block_lt_of_cell? w _ h0
      refine ⟨a.block, a.off, by rw [← ha], by simpa [Addr.add] using hlt, fun j hj => ?_⟩
      have hj2 : j < len := by rw [List.length_take] at hj; omega
      have c1 := hc j (by omega)
      have e1 : a.add j = ⟨a.block, a.off + j, none⟩ := by
        rw [ha]; unfold Addr.add; by_cases h : j = 0 <;> simp [h]
      rw [e1] at c1
      rw [c1]
      simp [List.getD, List.getElem?_eq_getElem (by omega : j < zs.length)]
    · have := hB (((lits (H := H) .i64 (zs.take len)).length + (lits (H := H) .i64 (zs.drop len)).length) * Try.prog.bytesOf 3) (by rw [hd]; simp [DataW.weights, Try.underlying37])
      rw [int_bytes] at this
      simp [lits] at this
      have e : min len zs.length + (zs.length - len) = zs.length := by omega
      omega
end
end Go.Proofs.Ytjhcengdaclihaa
