/- Reports in plain words: twelve numbers as 48 bytes, and back. No program in sight but its strings. -/
import Derived.Test.YtppegmggcmjboaaIntView
import Derived.Test.YtppegmggcmjboaaMake
namespace Go.Proofs.Ytppegmggcmjboaa
open Go.RowKit
set_option linter.unusedVariables false
set_option linter.unusedSimpArgs false
def be4 (n : Int) : List Int := [n / 16777216, n / 65536 % 256, n / 256 % 256, n % 256]
def rBytes (ns : List Int) : List Int := ns.flatMap be4
def rBadN (n : Int) : Bool := decide (n < 0 ∨ 4294967295 < n)
def rBad (ns : List Int) : Bool := ns.any rBadN
def rE (ns : List Int) : Int := if ns.length = 12 ∧ rBad ns = false then 0 else 700
def rS (ns : List Int) : ByteArray := if rE ns = 0 then strOfNums (rBytes ns) else ⟨#[]⟩
theorem be4_len (n : Int) : (be4 n).length = 4 := rfl
theorem rBytes_len : ∀ ns, (rBytes ns).length = 4 * ns.length
  | [] => rfl
  | n :: ns => by show (be4 n ++ rBytes ns).length = _; rw [List.length_append, rBytes_len ns, be4_len, List.length_cons]; omega
theorem rBytes_app (a b : List Int) : rBytes (a ++ b) = rBytes a ++ rBytes b := by unfold rBytes; rw [List.flatMap_append]
theorem take_snoc {ns : List Int} {k : Nat} {n : Int} (h : ns[k]? = some n) : ns.take (k + 1) = ns.take k ++ [n] := by
  obtain ⟨hk, e⟩ := List.getElem?_eq_some_iff.1 h
  rw [List.take_succ_eq_append_getElem hk, e]
theorem rBytes_snoc {ns : List Int} {k : Nat} {n : Int} (h : ns[k]? = some n) : rBytes (ns.take (k + 1)) = rBytes (ns.take k) ++ be4 n := by
  rw [take_snoc h, rBytes_app]; simp [rBytes]
theorem rE_len {ns : List Int} (h : ¬ ns.length = 12) : rE ns = 700 := by unfold rE; rw [if_neg (fun x => h x.1)]
theorem rE_bad {ns : List Int} {k : Nat} {n : Int} (h : ns[k]? = some n) (hb : rBadN n = true) : rE ns = 700 := by
  unfold rE; rw [if_neg]
  rintro ⟨_, x⟩
  have : rBad ns = true := List.any_eq_true.2 ⟨n, List.mem_of_getElem? h, hb⟩
  rw [this] at x; cases x
theorem rE_ok {ns : List Int} (h : ns.length = 12) (hb : ∀ j n, j < 12 → ns[j]? = some n → rBadN n = false) : rE ns = 0 := by
  have hx : rBad ns = false := by
    unfold rBad
    rw [List.any_eq_false]
    intro n hn
    obtain ⟨j, hj, e⟩ := List.getElem_of_mem hn
    have := hb j n (by omega) (by rw [← e]; exact List.getElem?_eq_getElem hj)
    rw [this]; simp
  unfold rE; rw [if_pos ⟨h, hx⟩]
theorem rE_zero {ns : List Int} (h : rE ns = 0) : ns.length = 12 ∧ ∀ n ∈ ns, 0 ≤ n ∧ n ≤ 4294967295 := by
  unfold rE at h
  split at h
  · rename_i hx
    refine ⟨hx.1, fun n hn => ?_⟩
    have := List.any_eq_false.1 hx.2 n hn
    unfold rBadN at this
    simp at this; omega
  · cases h
def RepPut (ns : List Int) (w : World) (e : Ending) (w' : World) : Prop :=
  e = .returned (.tuple #[.string (rS ns), .int .i64 (rE ns)]) ∧ Below w.heap.size w w'
theorem repput_bad {ns : List Int} {w w' : World} (hb : Below w.heap.size w w') (h : rE ns = 700) : RepPut ns w (.returned (.tuple #[.string ⟨#[]⟩, .int .i64 700])) w' := by
  exact ⟨by unfold rS; rw [h]; rfl, hb⟩
theorem repput_ok {ns : List Int} {s : ByteArray} {w w' : World} (hb : Below w.heap.size w w') (h : rE ns = 0) (hs : s = strOfNums (rBytes ns)) : RepPut ns w (.returned (.tuple #[.string s, .int .i64 0])) w' := by
  exact ⟨by unfold rS; rw [h, hs]; rfl, hb⟩
def gV (s : ByteArray) (k : Nat) : Int := byt s (4 * k) * 16777216 + byt s (4 * k + 1) * 65536 + byt s (4 * k + 2) * 256 + byt s (4 * k + 3)
def gE (s : ByteArray) : Int := if s.size = 48 then 0 else 700
def gL (s : ByteArray) : List Int := if s.size = 48 then (List.range 12).map (gV s) else []
theorem gV_range (s : ByteArray) (k : Nat) : 0 ≤ gV s k ∧ gV s k ≤ 4294967295 := by
  have a := byt_range s (4 * k); have b := byt_range s (4 * k + 1); have c := byt_range s (4 * k + 2); have d := byt_range s (4 * k + 3)
  unfold gV; omega
theorem be4_gV (s : ByteArray) (k : Nat) : be4 (gV s k) = [byt s (4 * k), byt s (4 * k + 1), byt s (4 * k + 2), byt s (4 * k + 3)] := by
  have a := byt_range s (4 * k); have b := byt_range s (4 * k + 1); have c := byt_range s (4 * k + 2); have d := byt_range s (4 * k + 3)
  unfold be4 gV
  congr 1; omega
  congr 1; omega
  congr 1; omega
  congr 1; omega
theorem gL_len {s : ByteArray} (h : s.size = 48) : (gL s).length = 12 := by unfold gL; rw [if_pos h]; simp
theorem gL_le (s : ByteArray) : (gL s).length ≤ 12 := by unfold gL; split <;> simp
theorem bytes_flat (s : ByteArray) : ∀ n, ((List.range n).map (gV s)).flatMap be4 = (List.range (4 * n)).map (byt s)
  | 0 => rfl
  | n + 1 => by
    rw [List.range_succ, List.map_append, List.flatMap_append, bytes_flat s n]
    have e : 4 * (n + 1) = 4 * n + 1 + 1 + 1 + 1 := by omega
    rw [e, List.range_succ, List.range_succ, List.range_succ, List.range_succ]
    simp [be4_gV]
theorem str_of_bytes (s : ByteArray) : strOfNums ((List.range s.size).map (byt s)) = s := by
  apply bytes_ext
  · rw [size_nums]; simp
  · intro i hi
    rw [size_nums] at hi
    simp at hi
    have := byt_range s i
    rw [byt_nums _ _ (by simpa using hi) (by simp; omega) (by simp; omega)]
    simp
theorem rback2 {s : ByteArray} (h : s.size = 48) : rE (gL s) = 0 ∧ rS (gL s) = s := by
  have e : rE (gL s) = 0 := rE_ok (gL_len h) (fun j n hj hn => by
    unfold gL at hn; rw [if_pos h] at hn
    rw [List.getElem?_map] at hn
    cases hr : (List.range 12)[j]? with
    | none => rw [hr] at hn; cases hn
    | some k =>
      rw [hr] at hn
      obtain rfl := Option.some.inj hn
      have := gV_range s k
      unfold rBadN; exact decide_eq_false (by omega))
  refine ⟨e, ?_⟩
  unfold rS; rw [if_pos e]
  unfold rBytes gL; rw [if_pos h, bytes_flat]
  have : 4 * 12 = s.size := by omega
  rw [this]; exact str_of_bytes s
theorem gV_be4 (pre : List Int) (ns : List Int) (hn : ∀ n ∈ ns, 0 ≤ n ∧ n ≤ 4294967295) (k : Nat) (n : Int) (h : ns[k]? = some n) : gV (strOfNums (rBytes ns)) k = n := by
  have hm := hn n (List.mem_of_getElem? h)
  have hk := (List.getElem?_eq_some_iff.1 h).1
  have hl := rBytes_len ns
  have hsplit : rBytes ns = rBytes (ns.take k) ++ (be4 n ++ rBytes (ns.drop (k + 1))) := by
    have : ns = ns.take k ++ ([n] ++ ns.drop (k + 1)) := by
      rw [← List.append_assoc, ← take_snoc h, List.take_append_drop]
    conv => lhs; rw [this]
    rw [rBytes_app, rBytes_app]; simp [rBytes]
  have hlk : (rBytes (ns.take k)).length = 4 * k := by rw [rBytes_len, List.length_take]; omega
  have get : ∀ j (hj : j < 4), byt (strOfNums (rBytes ns)) (4 * k + j) = (be4 n)[j]'(by rw [be4_len]; exact hj) := by
    intro j hj
    have hx : (rBytes ns)[4 * k + j]'(by omega) = (be4 n)[j]'(by rw [be4_len]; exact hj) := by
      have : (rBytes ns)[4 * k + j]? = some ((be4 n)[j]'(by rw [be4_len]; exact hj)) := by
        rw [hsplit, List.getElem?_append_right (by omega), hlk, List.getElem?_append_left (by rw [be4_len]; omega)]
        have : 4 * k + j - 4 * k = j := by omega
        rw [this]
        exact List.getElem?_eq_getElem _
      rw [List.getElem?_eq_getElem (by omega)] at this
      exact Option.some.inj this
    have hr : 0 ≤ (be4 n)[j]'(by rw [be4_len]; exact hj) ∧ (be4 n)[j]'(by rw [be4_len]; exact hj) ≤ 255 := by
      have : j = 0 ∨ j = 1 ∨ j = 2 ∨ j = 3 := by omega
      rcases this with rfl | rfl | rfl | rfl <;> (simp [be4]; omega)
    rw [byt_nums _ _ (by omega) (by rw [hx]; exact hr.1) (by rw [hx]; exact hr.2), hx]
  have g0 := get 0 (by omega); have g1 := get 1 (by omega); have g2 := get 2 (by omega); have g3 := get 3 (by omega)
  simp only [Nat.add_zero] at g0
  unfold gV; rw [g0, g1, g2, g3]
  simp [be4]; omega
theorem rback1 {ns : List Int} (h : rE ns = 0) : (rS ns).size = 48 ∧ gL (rS ns) = ns := by
  obtain ⟨h1, h2⟩ := rE_zero h
  have e : rS ns = strOfNums (rBytes ns) := by unfold rS; rw [if_pos h]
  have hs : (rS ns).size = 48 := by rw [e, size_nums, rBytes_len]; omega
  refine ⟨hs, ?_⟩
  unfold gL; rw [if_pos hs, e]
  apply List.ext_getElem (by simp [h1])
  intro k a b
  simp only [List.getElem_map, List.getElem_range]
  exact gV_be4 [] ns h2 k _ (List.getElem?_eq_getElem b)
end Go.Proofs.Ytppegmggcmjboaa
