/- Options as bytes, in plain words: what is written, which error. No program in sight. -/
import Derived.Test.YtckbbfdllflmjaaOptIdx
namespace Go.Proofs.Ytckbbfdllflmjaa
open Go.RowKit
set_option linter.unusedVariables false
set_option linter.unusedSimpArgs false

def oText (o : Int × ByteArray) : ByteArray := strOfNums [o.1, 2 + (o.2.size : Int)] ++ o.2
def oJoin : List (Int × ByteArray) → ByteArray
  | [] => ⟨#[]⟩
  | o :: os => oText o ++ oJoin os
def oSum : List (Int × ByteArray) → Nat
  | [] => 0
  | o :: os => 2 + o.2.size + oSum os
def oLong : List (Int × ByteArray) → Nat → Bool
  | [], _ => false
  | o :: os, n => decide (253 < o.2.size ∨ 2048 < n + 2 + o.2.size) || oLong os (n + 2 + o.2.size)
def oBad (os : List (Int × ByteArray)) : Bool := os.any fun o => badK o.1
def oE (os : List (Int × ByteArray)) : Int := if oBad os then 400 else if oLong os 0 then 401 else 0
def oS (os : List (Int × ByteArray)) : ByteArray := if oE os = 0 then oJoin os else ⟨#[]⟩

theorem oText_size (o : Int × ByteArray) : (oText o).size = 2 + o.2.size := by unfold oText; rw [size_app, size_nums]; rfl
theorem oJoin_size : ∀ os, (oJoin os).size = oSum os
  | [] => rfl
  | o :: os => by rw [oJoin, size_app, oText_size, oJoin_size os, oSum]
theorem oJoin_app : ∀ a b, oJoin (a ++ b) = oJoin a ++ oJoin b
  | [], b => by rw [List.nil_append, oJoin, empty_app]
  | o :: a, b => by rw [List.cons_append, oJoin, oJoin, oJoin_app a b, app_assoc]
theorem oSum_app : ∀ a b, oSum (a ++ b) = oSum a + oSum b
  | [], b => by simp [oSum]
  | o :: a, b => by rw [List.cons_append, oSum, oSum, oSum_app a b]; omega
theorem oLong_app : ∀ a b n, oLong (a ++ b) n = (oLong a n || oLong b (n + oSum a))
  | [], b, n => by simp [oLong, oSum]
  | o :: a, b, n => by
    rw [List.cons_append, oLong, oLong, oLong_app a b, oSum, Bool.or_assoc]
    congr 3; omega
theorem oJoin_one (o : Int × ByteArray) : oJoin [o] = oText o := by rw [oJoin, oJoin, app_empty]
theorem take_snoc {os : List (Int × ByteArray)} {k : Nat} {o : Int × ByteArray} (h : os[k]? = some o) : os.take (k + 1) = os.take k ++ [o] := by
  have hk : k < os.length := (List.getElem?_eq_some_iff.1 h).1
  rw [List.take_succ_eq_append_getElem hk]
  congr 2
  rw [List.getElem?_eq_getElem hk] at h
  exact Option.some.inj h
theorem oJoin_snoc {os : List (Int × ByteArray)} {k : Nat} {o : Int × ByteArray} (h : os[k]? = some o) : oJoin (os.take (k + 1)) = oJoin (os.take k) ++ oText o := by
  rw [take_snoc h, oJoin_app, oJoin_one]
theorem oSum_snoc {os : List (Int × ByteArray)} {k : Nat} {o : Int × ByteArray} (h : os[k]? = some o) : oSum (os.take (k + 1)) = oSum (os.take k) + (2 + o.2.size) := by
  rw [take_snoc h, oSum_app]; simp [oSum]
theorem oLong_snoc {os : List (Int × ByteArray)} {k : Nat} {o : Int × ByteArray} (h : os[k]? = some o) : oLong (os.take (k + 1)) 0 = (oLong (os.take k) 0 || decide (253 < o.2.size ∨ 2048 < oSum (os.take k) + 2 + o.2.size)) := by
  rw [take_snoc h, oLong_app]; simp [oLong]
theorem oLong_take {os : List (Int × ByteArray)} {k : Nat} (h : oLong (os.take k) 0 = true) : oLong os 0 = true := by
  have e := oLong_app (os.take k) (os.drop k) 0
  rw [List.take_append_drop, h] at e
  exact e
theorem oLong_sum : ∀ (os : List (Int × ByteArray)) (n : Nat), oLong os n = false → n ≤ 2048 → n + oSum os ≤ 2048
  | [], n, _, h => by simpa [oSum] using h
  | o :: os, n, h, hn => by
    rw [oLong, Bool.or_eq_false_iff] at h
    have h1 := of_decide_eq_false h.1
    have := oLong_sum os _ h.2 (by omega)
    rw [oSum]; omega
theorem idx_bad (os : List (Int × ByteArray)) : decide (0 ≤ idxOf (fun x _ => badK x) os) = oBad os := by
  unfold oBad
  induction os with
  | nil => rfl
  | cons o os ih =>
    rw [List.any_cons, ← ih, idxOf]
    cases badK o.1
    · simp
      by_cases h : idxOf (fun x _ => badK x) os < 0
      · simp [h]
      · simp [h]; omega
    · simp
theorem badK_of {os : List (Int × ByteArray)} (h : oBad os = false) {k : Nat} {o : Int × ByteArray} (hk : os[k]? = some o) : 0 ≤ o.1 ∧ o.1 ≤ 255 := by
  unfold oBad at h
  rw [List.any_eq_false] at h
  have := h o (List.mem_of_getElem? hk)
  unfold badK at this
  simp at this; omega
def OptPut (os : List (Int × ByteArray)) (w : World) (e : Ending) (w' : World) : Prop :=
  e = .returned (.tuple #[.string (oS os), .int .i64 (oE os)]) ∧ Below w.heap.size w w'
theorem optput_bad {os : List (Int × ByteArray)} {w w' : World} (hb : Below w.heap.size w w') (h : oBad os = true) : OptPut os w (.returned (.tuple #[.string ⟨#[]⟩, .int .i64 400])) w' := by
  have e : oE os = 400 := by unfold oE; rw [h]; rfl
  exact ⟨by unfold oS; rw [e]; rfl, hb⟩
theorem optput_long {os : List (Int × ByteArray)} {w w' : World} (hb : Below w.heap.size w w') (h : oBad os = false) (h2 : oLong os 0 = true) : OptPut os w (.returned (.tuple #[.string ⟨#[]⟩, .int .i64 401])) w' := by
  have e : oE os = 401 := by unfold oE; rw [h, h2]; rfl
  exact ⟨by unfold oS; rw [e]; rfl, hb⟩
theorem optput_ok {os : List (Int × ByteArray)} {w w' : World} (hb : Below w.heap.size w w') (h : oBad os = false) (h2 : oLong os 0 = false) {s : ByteArray} (hs : s = oJoin os) : OptPut os w (.returned (.tuple #[.string s, .int .i64 0])) w' := by
  have e : oE os = 0 := by unfold oE; rw [h, h2]; rfl
  exact ⟨by unfold oS; rw [e, hs]; rfl, hb⟩
end Go.Proofs.Ytckbbfdllflmjaa
