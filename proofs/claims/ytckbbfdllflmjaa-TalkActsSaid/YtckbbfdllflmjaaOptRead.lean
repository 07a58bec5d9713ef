/- Bytes as options, in plain words; a row of options that a call owns, read as a list. No condition. -/
import Derived.Test.YtckbbfdllflmjaaOptPlain
namespace Go.Proofs.Ytckbbfdllflmjaa
open Go.RowKit
set_option linter.unusedVariables false
set_option linter.unusedSimpArgs false

def uBad (s : ByteArray) : Bool := decide (s.size < 2 ∨ byt s 1 < 2 ∨ (s.size : Int) < byt s 1)
def uN (s : ByteArray) : Nat := (byt s 1).toNat
def uOne (s : ByteArray) : Int × ByteArray := (byt s 0, s.extract 2 (uN s))
def uGo : Nat → ByteArray → Option (List (Int × ByteArray))
  | 0, _ => some []
  | f + 1, s => if s.size = 0 then some [] else if uBad s then none else (uGo f (s.extract (uN s) s.size)).map (uOne s :: ·)
def uE (s : ByteArray) : Int := if 2048 < s.size then 401 else if (uGo s.size s).isNone then 400 else 0
def uL (s : ByteArray) : List (Int × ByteArray) := if 2048 < s.size then [] else (uGo s.size s).getD []

theorem uN_eq (s : ByteArray) : byt s 1 = (uN s : Int) := by have := byt_range s 1; unfold uN; omega
theorem uGo_end (f : Nat) (s : ByteArray) (h : s.size = 0) : uGo f s = some [] := by
  cases f with
  | zero => rfl
  | succ f => rw [uGo, if_pos h]
/-- What has been read so far, and what is left. -/
def UR (s : ByteArray) (t : ByteArray) (acc : List (Int × ByteArray)) : Prop := t.size ≤ s.size ∧ 2 * acc.length + t.size ≤ s.size ∧ ∃ f, t.size ≤ f ∧ uGo s.size s = (uGo f t).map (acc ++ ·)
theorem UR.start (s : ByteArray) : UR s s [] := ⟨Nat.le_refl _, by simp, s.size, Nat.le_refl _, by simp⟩
theorem UR.bad {s t : ByteArray} {acc : List (Int × ByteArray)} (h : UR s t acc) (h0 : 0 < t.size) (hb : uBad t = true) : uGo s.size s = none := by
  obtain ⟨_, _, f, hf, e⟩ := h
  rw [e]
  cases f with
  | zero => omega
  | succ f => rw [uGo, if_neg (by omega), if_pos hb]; rfl
theorem UR.done {s t : ByteArray} {acc : List (Int × ByteArray)} (h : UR s t acc) (h0 : t.size = 0) : uGo s.size s = some acc := by
  obtain ⟨_, _, f, hf, e⟩ := h
  rw [e, uGo_end f t h0]; simp
theorem UR.step {s t : ByteArray} {acc : List (Int × ByteArray)} (h : UR s t acc) (h0 : 0 < t.size) (hb : uBad t = false) : UR s (t.extract (uN t) t.size) (acc ++ [uOne t]) ∧ 2 ≤ uN t ∧ uN t ≤ t.size := by
  obtain ⟨h1, h2, f, hf, e⟩ := h
  unfold uBad at hb
  have hb2 := of_decide_eq_false hb
  have hn := uN_eq t
  have hn2 : 2 ≤ uN t ∧ uN t ≤ t.size := by omega
  have hs : (t.extract (uN t) t.size).size = t.size - uN t := by rw [size_ext]; omega
  refine ⟨⟨by omega, by rw [hs, List.length_append]; simp; omega, ?_⟩, hn2⟩
  cases f with
  | zero => omega
  | succ f =>
    refine ⟨f, by omega, ?_⟩
    have hbt : uBad t = false := by unfold uBad; exact hb
    rw [e, uGo, if_neg (by omega), hbt, if_neg (by simp)]
    rw [Option.map_map]
    congr 1
    funext l
    simp
theorem uRead_bad {s : ByteArray} (h : s.size ≤ 2048) (h2 : uGo s.size s = none) : uE s = 400 ∧ uL s = [] := by
  have h' : ¬ 2048 < s.size := by omega
  unfold uE uL; rw [if_neg h', if_neg h', h2]; exact ⟨rfl, rfl⟩
theorem uRead_ok {s : ByteArray} (h : s.size ≤ 2048) {l : List (Int × ByteArray)} (h2 : uGo s.size s = some l) : uE s = 0 ∧ uL s = l := by
  have h' : ¬ 2048 < s.size := by omega
  unfold uE uL; rw [if_neg h', if_neg h', h2]; exact ⟨rfl, rfl⟩
theorem uRead_long {s : ByteArray} (h : 2048 < s.size) : uE s = 401 ∧ uL s = [] := by
  unfold uE uL; rw [if_pos h, if_pos h]; exact ⟨rfl, rfl⟩

def optCells (os : List (Int × ByteArray)) : List Value := os.flatMap fun o => [.int .i64 o.1, .string o.2]
theorem optCells_len : ∀ os, (optCells os).length = os.length * 2
  | [] => rfl
  | o :: os => by
    have := optCells_len os
    unfold optCells at this ⊢
    rw [List.flatMap_cons, List.length_append, this]; simp; omega
theorem optCells_snoc (os : List (Int × ByteArray)) (o : Int × ByteArray) : optCells (os ++ [o]) = optCells os ++ [.int .i64 o.1, .string o.2] := by
  unfold optCells; rw [List.flatMap_append]; simp
theorem optCells_at : ∀ (os : List (Int × ByteArray)) (j : Nat) (h : j < os.length), (optCells os)[j * 2]? = some (.int .i64 (os[j]).1) ∧ (optCells os)[j * 2 + 1]? = some (.string (os[j]).2)
  | [], j, h => by simp at h
  | o :: os, 0, _ => by simp [optCells]
  | o :: os, j + 1, h => by
    have ih := optCells_at os j (by simpa using h)
    have e : optCells (o :: os) = [.int .i64 o.1, .string o.2] ++ optCells os := by simp [optCells]
    rw [e, List.getElem?_append_right (by simp; omega), List.getElem?_append_right (by simp; omega)]
    simp only [List.length_cons, List.length_nil]
    rw [show (j + 1) * 2 - (0 + 1 + 1) = j * 2 by omega, show (j + 1) * 2 + 1 - (0 + 1 + 1) = j * 2 + 1 by omega]
    simpa using ih
/-- A row that a call owns reads as its options. -/
theorem OptsAt.own {w : World} {base : Nat} {A : Option Addr} {cap : Nat} {os : List (Int × ByteArray)} (h : w.ownsRow base 65 2 (.slice A os.length cap) os.length (optCells os)) : OptsAt w A os.length os := by
  refine ⟨rfl, fun hn => ?_⟩
  rcases h.2 with ⟨hv, h0⟩ | ⟨g, cap', cur, hv, hb, hg, hnc, hcm, hcs, htk⟩
  · omega
  · injection hv with hA _ _
    refine ⟨g, 0, hA, (Array.getElem?_eq_some_iff.1 hg).1, fun j hj => ?_⟩
    obtain ⟨a1, a2⟩ := optCells_at os j hj
    rw [cell_of_row w g _ cur _ _ hg, cell_of_row w g _ cur _ _ hg]
    rw [← htk, List.getElem?_take] at a1 a2
    split at a1
    · split at a2
      · simp only [Nat.zero_add]
        exact ⟨by simpa using a1, by simpa using a2⟩
      · cases a2
    · cases a1
theorem own_slice {w : World} {base : Nat} {v : Value} {n : Nat} {xs : List Value} {e : TypeId} {size : Nat} (h : w.ownsRow base e size v n xs) : ∃ A cap, v = .slice A n cap := by
  rcases h.2 with ⟨rfl, rfl⟩ | ⟨g, cap, cur, rfl, _⟩
  · exact ⟨_, _, rfl⟩
  · exact ⟨_, _, rfl⟩
def OptGet (s : ByteArray) (w : World) (e : Ending) (w' : World) : Prop :=
  ∃ A cap, e = .returned (.tuple #[.slice A (uL s).length cap, .int .i64 (uE s)]) ∧ w'.ownsRow w.heap.size 65 2 (.slice A (uL s).length cap) (uL s).length (optCells (uL s)) ∧ Below w.heap.size w w'
theorem optget_nil {s : ByteArray} {w w' : World} {x : Int} (hb : Below w.heap.size w w') (h : uE s = x ∧ uL s = []) : OptGet s w (.returned (.tuple #[.slice none 0 0, .int .i64 x])) w' := by
  unfold OptGet
  rw [h.1, h.2]
  exact ⟨none, 0, rfl, World.ownsRow_nil _ _ _ _, hb⟩
theorem optget_ok {s : ByteArray} {w w' : World} {v : Value} {l : List (Int × ByteArray)} (hb : Below w.heap.size w w') (h : uE s = 0 ∧ uL s = l) (ho : w'.ownsRow w.heap.size 65 2 v l.length (optCells l)) : OptGet s w (.returned (.tuple #[v, .int .i64 0])) w' := by
  unfold OptGet
  rw [h.1, h.2]
  obtain ⟨A, cap, rfl⟩ := own_slice ho
  exact ⟨A, cap, rfl, ho, hb⟩
end Go.Proofs.Ytckbbfdllflmjaa
