/- The place of the first option that answers a test. No condition. -/
import Derived.Test.YtjmcgekegenobaaOptView
namespace Go.Proofs.Ytjmcgekegenobaa
open Go.RowKit
set_option linter.unusedVariables false
set_option linter.unusedSimpArgs false
def badK (kind : Int) : Bool := decide (kind < 0) || decide (255 < kind)
/-- The place of the first option that p takes; -1: there is none. -/
def idxOf (p : Int → ByteArray → Bool) : List (Int × ByteArray) → Int
  | [] => -1
  | o :: os => if p o.1 o.2 then 0 else if idxOf p os < 0 then -1 else 1 + idxOf p os
theorem idxOf_at (p : Int → ByteArray → Bool) : ∀ (os : List (Int × ByteArray)) (k : Nat) (o : Int × ByteArray), os[k]? = some o → p o.1 o.2 = true → (∀ j o', j < k → os[j]? = some o' → p o'.1 o'.2 = false) → idxOf p os = k
  | [], k, o, h, _, _ => by simp at h
  | x :: os, 0, o, h, hp, _ => by
    simp at h; subst h
    simp [idxOf, hp]
  | x :: os, k + 1, o, h, hp, hn => by
    have h0 := hn 0 x (by omega) rfl
    have ih := idxOf_at p os k o (by simpa using h) hp (fun j o' hj h' => hn (j + 1) o' (by omega) (by simpa using h'))
    simp only [idxOf, h0]
    rw [ih]
    simp; omega
theorem idxOf_none (p : Int → ByteArray → Bool) : ∀ (os : List (Int × ByteArray)), (∀ (j : Nat) o', os[j]? = some o' → p o'.1 o'.2 = false) → idxOf p os = -1
  | [], _ => rfl
  | x :: os, hn => by
    have h0 := hn 0 x rfl
    have ih := idxOf_none p os (fun j o' h' => hn (j + 1) o' (by simpa using h'))
    simp [idxOf, h0, ih]

def IdxR (p : Int → ByteArray → Bool) (os : List (Int × ByteArray)) (w : World) (k : Nat) (wr : World) : Prop :=
  k ≤ os.length ∧ (∀ j o', j < k → os[j]? = some o' → p o'.1 o'.2 = false) ∧ Below w.heap.size w wr
end Go.Proofs.Ytjmcgekegenobaa
