/- A slice of options in memory, read as a list; the view is kept by whatever leaves old memory as it was. No condition. -/
import Derived.Test.YtckbbfdllflmjaaStr
import Derived.Test.YtckbbfdllflmjaaPlain
import Derived.Test.YtckbbfdllflmjaaNum
namespace Go.Proofs.Ytckbbfdllflmjaa
open Go.RowKit
set_option linter.unusedVariables false
set_option linter.unusedSimpArgs false

/-- The slice value '.slice A n cap' reads as the options os. -/
def OptsAt (w : World) (A : Option Addr) (n : Nat) (os : List (Int × ByteArray)) : Prop :=
  os.length = n ∧ (0 < n → ∃ b off, A = some ⟨b, off, none⟩ ∧ b < w.heap.size ∧
    ∀ j (h : j < os.length), w.cell? ⟨b, off + j * 2, none⟩ = some (.int .i64 (os[j]).1) ∧ w.cell? ⟨b, off + j * 2 + 1, none⟩ = some (.string (os[j]).2))

theorem OptsAt.keep {w w' : World} {A : Option Addr} {n : Nat} {os : List (Int × ByteArray)} (h : OptsAt w A n os) (hb : Below w.heap.size w w') : OptsAt w' A n os := by
  refine ⟨h.1, fun hn => ?_⟩
  obtain ⟨b, off, rfl, hlt, hc⟩ := h.2 hn
  refine ⟨b, off, rfl, Nat.lt_of_lt_of_le hlt hb.size, fun j hj => ?_⟩
  obtain ⟨h1, h2⟩ := hc j hj
  exact ⟨(hb.cell (p := ⟨b, off + j * 2, none⟩) hlt).trans h1, (hb.cell (p := ⟨b, off + j * 2 + 1, none⟩) hlt).trans h2⟩
theorem OptsAt.nil (w : World) (A : Option Addr) : OptsAt w A 0 [] := ⟨rfl, fun h => absurd h (by omega)⟩
theorem OptsAt.at_ {w : World} {A : Option Addr} {n : Nat} {os : List (Int × ByteArray)} (h : OptsAt w A n os) (k : Nat) (hk : k < n) :
    ∃ b off kind data, A = some ⟨b, off, none⟩ ∧ b < w.heap.size ∧ os[k]? = some (kind, data) ∧ w.cell? ⟨b, off + k * 2, none⟩ = some (.int .i64 kind) ∧ w.cell? ⟨b, off + k * 2 + 1, none⟩ = some (.string data) := by
  obtain ⟨b, off, e, hlt, hc⟩ := h.2 (by omega)
  have hj : k < os.length := by rw [h.1]; exact hk
  obtain ⟨h1, h2⟩ := hc k hj
  exact ⟨b, off, _, _, e, hlt, List.getElem?_eq_getElem hj, h1, h2⟩
end Go.Proofs.Ytckbbfdllflmjaa
