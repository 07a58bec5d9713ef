/- Plain lemmas on byte strings: a byte by its place, strings by their bytes. No program in sight. -/
import Derived.WalkKit
import Derived.WalkSpells
import Derived.Lib.Hide
namespace Go.Proofs.Ytckbbfdllflmjaa
open Go.RowKit

/-- The byte of s at place i (0 beyond its end). -/
def byt (s : ByteArray) (i : Nat) : Int := ((s.data.toList.getD i 0).toNat : Int)

theorem byt_range (s : ByteArray) (i : Nat) : 0 ≤ byt s i ∧ byt s i ≤ 255 := by
  unfold byt; have := (s.data.toList.getD i 0).toNat_lt; omega
theorem getD_lt {α : Type} (l : List α) (i : Nat) (d : α) (h : i < l.length) : l.getD i d = l[i] := by
  rw [List.getD_eq_getElem?_getD, List.getElem?_eq_getElem h]; rfl
theorem byt_fold (s : ByteArray) (i : Nat) (h : i < s.size) : ((s[i]'h).toNat : Int) = byt s i := by
  unfold byt
  have h2 : i < s.data.toList.length := by simpa using h
  rw [getD_lt _ _ _ h2]; rfl
theorem size_len (s : ByteArray) : s.data.toList.length = s.size := by simp
theorem bytes_ext (a b : ByteArray) (hs : a.size = b.size) (h : ∀ i, i < a.size → byt a i = byt b i) : a = b := by
  apply ByteArray.ext
  apply Array.ext
  · simpa using hs
  · intro i h1 h2
    have e := h i (by simpa using h1)
    unfold byt at e
    have l1 : i < a.data.toList.length := by simpa using h1
    have l2 : i < b.data.toList.length := by simpa using h2
    rw [getD_lt _ _ _ l1, getD_lt _ _ _ l2] at e
    have e2 : (a.data.toList[i]).toNat = (b.data.toList[i]).toNat := by exact_mod_cast e
    have := UInt8.toNat_inj.1 e2
    simpa using this
theorem size_app (a b : ByteArray) : (a ++ b).size = a.size + b.size := by simp
theorem byt_app (a b : ByteArray) (i : Nat) : byt (a ++ b) i = if i < a.size then byt a i else byt b (i - a.size) := by
  unfold byt
  have e : (a ++ b).data.toList = a.data.toList ++ b.data.toList := by simp [ByteArray.data_append]
  rw [e]
  simp only [List.getD_eq_getElem?_getD]
  split
  · rw [List.getElem?_append_left (by simpa using ‹_›)]
  · rw [List.getElem?_append_right (by simp; omega)]; simp
theorem byt_app_l (a b : ByteArray) (i : Nat) (h : i < a.size) : byt (a ++ b) i = byt a i := by rw [byt_app, if_pos h]
theorem byt_app_r (a b : ByteArray) (i : Nat) (h : a.size ≤ i) : byt (a ++ b) i = byt b (i - a.size) := by rw [byt_app, if_neg (by omega)]
theorem size_ext (s : ByteArray) (a b : Nat) : (s.extract a b).size = min b s.size - a := by simp [ByteArray.size_extract]
theorem byt_ext (s : ByteArray) (a b i : Nat) (h : a + i < b) : byt (s.extract a b) i = byt s (a + i) := by
  unfold byt
  have e : (s.extract a b).data.toList = (s.data.toList.drop a).take (b - a) := by simp [ByteArray.data_extract]
  rw [e]
  simp only [List.getD_eq_getElem?_getD]
  rw [List.getElem?_take_of_lt (by omega), List.getElem?_drop]
theorem ext_ext (s : ByteArray) (a b c d : Nat) (h : a + d ≤ b) : (s.extract a b).extract c d = s.extract (a + c) (a + d) := by
  apply bytes_ext
  · simp only [size_ext]; omega
  · intro i hi
    simp only [size_ext] at hi
    rw [byt_ext _ _ _ _ (by omega), byt_ext _ _ _ _ (by omega), byt_ext _ _ _ _ (by omega)]
    congr 1; omega
theorem ext_all (s : ByteArray) (n : Nat) (h : s.size ≤ n) : s.extract 0 n = s := by
  apply bytes_ext
  · simp only [size_ext]; omega
  · intro i hi
    simp only [size_ext] at hi
    rw [byt_ext _ _ _ _ (by omega)]; congr 1; omega
theorem ext_none (s : ByteArray) (a b : Nat) (h : b ≤ a) : s.extract a b = ⟨#[]⟩ := by
  apply bytes_ext
  · simp only [size_ext]; show _ = 0; omega
  · intro i hi
    simp only [size_ext] at hi; omega
theorem ext_app_r (x y : ByteArray) (a b : Nat) (h : x.size ≤ a) : (x ++ y).extract a b = y.extract (a - x.size) (b - x.size) := by
  apply bytes_ext
  · simp only [size_ext, size_app]; omega
  · intro i hi
    simp only [size_ext, size_app] at hi
    rw [byt_ext _ _ _ _ (by omega), byt_app_r _ _ _ (by omega), byt_ext _ _ _ _ (by omega)]
    congr 1; omega
theorem ext_app_l (x y : ByteArray) (a b : Nat) (h : b ≤ x.size) : (x ++ y).extract a b = x.extract a b := by
  apply bytes_ext
  · simp only [size_ext, size_app]; omega
  · intro i hi
    simp only [size_ext, size_app] at hi
    rw [byt_ext _ _ _ _ (by omega), byt_app_l _ _ _ (by omega), byt_ext _ _ _ _ (by omega)]
theorem size_nums (xs : List Int) : (strOfNums xs).size = xs.length := strOfNums_size xs
theorem byt_nums (xs : List Int) (i : Nat) (h : i < xs.length) (h0 : 0 ≤ xs[i]) (h1 : xs[i] ≤ 255) : byt (strOfNums xs) i = xs[i] := by
  unfold byt
  rw [strOfNums_data]
  rw [getD_lt _ _ _ (by simpa using h)]
  simp only [List.getElem_map]
  rw [UInt8.toNat_ofNat_of_lt' (by simp; omega)]; omega
theorem empty_size : (⟨#[]⟩ : ByteArray).size = 0 := rfl
theorem eq_empty (v : ByteArray) (h : v.size = 0) : v = ⟨#[]⟩ := bytes_ext _ _ (by rw [h]; rfl) (fun i hi => by omega)
theorem empty_of (v : ByteArray) (h : v.size = 0) : v.toList.isEmpty = true := by
  have := eq_empty v h; subst this; exact congrArg List.isEmpty (ByteArray.toList_mk [])
theorem nonempty_of (v : ByteArray) (h : 0 < v.size) : v.toList.isEmpty = false := by
  cases hv : v.toList with
  | nil =>
    have : v.toList.length = v.size := by rw [ByteArray.toList_eq]; simp
    rw [hv] at this; simp at this; omega
  | cons a l => rfl
theorem app_empty (v : ByteArray) : v ++ ⟨#[]⟩ = v := by
  apply bytes_ext
  · rw [size_app, empty_size]; omega
  · intro i hi; rw [size_app, empty_size] at hi; exact byt_app_l _ _ _ (by omega)
theorem empty_app (v : ByteArray) : (⟨#[]⟩ : ByteArray) ++ v = v := by
  apply bytes_ext
  · rw [size_app, empty_size]; omega
  · intro i hi; exact byt_app_r _ _ _ (Nat.zero_le _)
theorem app_assoc (a b c : ByteArray) : (a ++ b) ++ c = a ++ (b ++ c) := by
  apply bytes_ext
  · simp only [size_app]; omega
  · intro i hi
    simp only [byt_app, size_app]
    repeat' split
    all_goals first | rfl | omega | (congr 1; omega)
/-- The high byte and the low byte of a number, put together. -/
theorem or_join (x y : Int) (hx : 0 ≤ x) (hx1 : x < 72057594037927936) (hx0 : x % 256 = 0) (hy : 0 ≤ y) (hy1 : y < 256) : bits .or .i64 x y = x + y :=
  bits_join .i64 63 (by decide) (fun n a b => by rw [IntKind.wrap_i64]; omega) 8 x y hx (by omega) (by omega) hy (by omega) (by omega)
theorem or_bytes (s t : ByteArray) (i j : Nat) : bits .or .i64 (byt s i * 256) (byt t j) = byt s i * 256 + byt t j := by
  have a := byt_range s i
  have b := byt_range t j
  exact or_join _ _ (by omega) (by omega) (by omega) (by omega) (by omega)
end Go.Proofs.Ytckbbfdllflmjaa
