/- Plain facts: circuits that are made and ended; how many there are. No condition. -/
import Derived.Test.YtmbnonkbflchoaaCir
namespace Go.Proofs.Ytmbnonkbflchoaa
open Go.RowKit
set_option linter.unusedVariables false
set_option linter.unusedSimpArgs false
open Go.Maps
theorem key_ne {a b : Int} (h : a ≠ b) : keyD a ≠ keyD b := by
  intro e
  injection e with _ e2
  exact h e2
theorem up_put {D : DU} (hD : IsMap D) (c : Int) (q : Nat) : isUp (D.put (keyD c) (.lit (.int .i64 (q : Int)))) c = true := by
  unfold isUp
  rw [atKey_put_same hD (show WideAt.IsKeyLit (keyD c) from trivial)]
  show (!((q : Int) == -1)) = true
  have : ((q : Int) == -1) = false := decide_eq_false (by omega)
  rw [this]; rfl
theorem up_put_ne {D : DU} {c a : Int} (h : a ≠ c) (d : DU) : isUp (D.put (keyD c) d) a = isUp D a := by
  unfold isUp
  rw [atKey_put_other (key_ne h)]
theorem up_del {D : DU} (c : Int) : isUp (D.del (keyD c)) c = false := by
  unfold isUp
  rw [atKey_del_same]
  rfl
theorem up_del_ne {D : DU} {c a : Int} (h : a ≠ c) : isUp (D.del (keyD c)) a = isUp D a := by
  unfold isUp
  rw [atKey_del_other (key_ne h)]
theorem up_none (c : Int) : isUp (.map []) c = false := by
  unfold isUp
  rfl
/-- Each circuit that is kept has an address. -/
def Live (D : DU) : Prop := Tidy D ∧ ∀ c, isUp D c = Maps.has D (keyD c)
theorem live_none : Live (.map []) := ⟨tidy_empty, fun c => rfl⟩
theorem live_put {D : DU} (h : Live D) (c : Int) (q : Nat) : Live (D.put (keyD c) (.lit (.int .i64 (q : Int)))) := by
  refine ⟨h.1.put (show WideAt.IsKeyLit (keyD c) from trivial) _, fun a => ?_⟩
  by_cases e : a = c
  · subst e
    rw [up_put h.1.isMap, has_put_same h.1.isMap (show WideAt.IsKeyLit (keyD a) from trivial)]
  · rw [up_put_ne e, has_put_other (key_ne e), h.2 a]
theorem live_del {D : DU} (h : Live D) (c : Int) : Live (D.del (keyD c)) := by
  refine ⟨h.1.del _, fun a => ?_⟩
  by_cases e : a = c
  · subst e
    rw [up_del, has_del_same]
  · rw [up_del_ne e, has_del_other (key_ne e), h.2 a]
theorem size_new {D : DU} (h : Live D) {c : Int} (hc : isUp D c = false) (d : DU) : Maps.size (D.put (keyD c) d) = Maps.size D + 1 := by
  rw [size_put h.1, ← h.2 c, hc]
  rfl
theorem size_end {D : DU} (h : Live D) {c : Int} (hc : isUp D c = true) : Maps.size (D.del (keyD c)) + 1 = Maps.size D := by
  have e := size_del (k := keyD c) h.1
  rw [← h.2 c, hc] at e
  exact e
end Go.Proofs.Ytmbnonkbflchoaa
