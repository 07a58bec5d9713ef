/- Plain facts on links and options: numbers written and read back; the options that a link asks by. No condition. -/
import Derived.Test.YtjmcgekegenobaaPolG
namespace Go.Proofs.Ytjmcgekegenobaa
open Go.RowKit
set_option linter.unusedVariables false
set_option linter.unusedSimpArgs false
theorem size_be2 (x : Int) : (be2 x).size = 2 := size_nums _
theorem size_be4 (x : Int) : (be4 x).size = 4 := size_nums _
theorem val_be2 {x : Int} (h0 : 0 ≤ x) (h1 : x < 65536) : val (be2 x) = x := by
  rw [val_be (by rw [size_be2]; omega), size_be2]
  have e0 : byt (be2 x) 0 = x / 256 := byt_nums [x / 256, x % 256] 0 (by simp) (by show 0 ≤ x / 256; omega) (by show x / 256 ≤ 255; omega)
  have e1 : byt (be2 x) 1 = x % 256 := byt_nums [x / 256, x % 256] 1 (by simp) (by show 0 ≤ x % 256; omega) (by show x % 256 ≤ 255; omega)
  show (0 * 256 + byt (be2 x) 0) * 256 + byt (be2 x) 1 = x
  rw [e0, e1]
  omega
theorem val_be4 {x : Int} (h0 : 0 ≤ x) (h1 : x < 4294967296) : val (be4 x) = x := by
  rw [val_be (by rw [size_be4]; omega), size_be4]
  have e0 : byt (be4 x) 0 = x / 16777216 := byt_nums [x / 16777216, x / 65536 % 256, x / 256 % 256, x % 256] 0 (by simp) (by show 0 ≤ x / 16777216; omega) (by show x / 16777216 ≤ 255; omega)
  have e1 : byt (be4 x) 1 = x / 65536 % 256 := byt_nums [x / 16777216, x / 65536 % 256, x / 256 % 256, x % 256] 1 (by simp) (by show 0 ≤ x / 65536 % 256; omega) (by show x / 65536 % 256 ≤ 255; omega)
  have e2 : byt (be4 x) 2 = x / 256 % 256 := byt_nums [x / 16777216, x / 65536 % 256, x / 256 % 256, x % 256] 2 (by simp) (by show 0 ≤ x / 256 % 256; omega) (by show x / 256 % 256 ≤ 255; omega)
  have e3 : byt (be4 x) 3 = x % 256 := byt_nums [x / 16777216, x / 65536 % 256, x / 256 % 256, x % 256] 3 (by simp) (by show 0 ≤ x % 256; omega) (by show x % 256 ≤ 255; omega)
  show (((0 * 256 + byt (be4 x) 0) * 256 + byt (be4 x) 1) * 256 + byt (be4 x) 2) * 256 + byt (be4 x) 3 = x
  rw [e0, e1, e2, e3]
  omega
theorem emptyB_size (d : ByteArray) : d.toList.isEmpty = decide (d.size = 0) := by
  have hl : d.toList.length = d.size := by rw [ByteArray.toList_eq]; simp
  cases h : d.toList with
  | nil => rw [h] at hl; simp at hl; rw [decide_eq_true hl.symm]; rfl
  | cons a l => rw [h] at hl; simp at hl; rw [decide_eq_false (by omega)]; rfl
theorem empty_eq {d : ByteArray} (h : d.size = 0) : d = ⟨#[]⟩ := by
  cases d with
  | mk a => cases a with
    | mk l => cases l with
      | nil => rfl
      | cons x l => simp [ByteArray.size] at h
theorem asks19 (l : Lk) : asksB l 19 = !decide (l.disc.size = 0) := by show (!l.disc.toList.isEmpty) = _; rw [emptyB_size]
/-- The kinds of a list are all different. -/
def Alone (os : List (Int × ByteArray)) : Prop := os.Pairwise fun a b => a.1 ≠ b.1
theorem idx_neg {q : Int} {os : List (Int × ByteArray)} (h : ∀ o ∈ os, o.1 ≠ q) : idxOf (fun x _ => x == q) os = -1 := idxOf_none _ _ fun j o ho => by
  have := h o (List.mem_of_getElem? ho)
  simpa using this
theorem idx_pos {q : Int} : ∀ {os : List (Int × ByteArray)} {j : Nat} {o : Int × ByteArray}, os[j]? = some o → o.1 = q → 0 ≤ idxOf (fun x _ => x == q) os
  | [], j, o, h, _ => by simp at h
  | x :: os, 0, o, h, hq => by
    simp at h; subst h
    rw [idxOf, if_pos (by simpa using hq)]
    omega
  | x :: os, k + 1, o, h, hq => by
    have ih := idx_pos (os := os) (j := k) (o := o) (by simpa using h) hq
    rw [idxOf]
    split
    · omega
    · split <;> omega
theorem alone_idx {os : List (Int × ByteArray)} (h : Alone os) {k : Nat} {o : Int × ByteArray} (ho : os[k]? = some o) : decide (0 ≤ idxOf (fun x _ => x == o.1) (os.take k)) = false := by
  rw [idx_neg]
  · rfl
  · intro o2 ho2
    obtain ⟨i, hi⟩ := List.getElem?_of_mem ho2
    have hik : i < k := by have := (List.getElem?_eq_some_iff.1 hi).1; simp at this; omega
    rw [List.getElem?_take_of_lt hik] at hi
    obtain ⟨hi1, hi2⟩ := List.getElem?_eq_some_iff.1 hi
    obtain ⟨hk1, hk2⟩ := List.getElem?_eq_some_iff.1 ho
    have := List.pairwise_iff_getElem.1 h i k hi1 hk1 hik
    rw [hi2, hk2] at this
    exact this
def bad0 (l : Lk) (o : Int × ByteArray) : Bool := !rightB o.1 o.2 || (o.1 == 18 && !l.short)
def nak0 (l : Lk) (o : Int × ByteArray) : List (Int × ByteArray) := if bad0 l o then [] else (bettO l o.1 o.2).toList
theorem bad_alone {l : Lk} {os : List (Int × ByteArray)} (h : Alone os) {k : Nat} {o : Int × ByteArray} (ho : os[k]? = some o) : isBadO l os k o = bad0 l o := by
  unfold isBadO bad0
  rw [alone_idx h ho, Bool.or_false]
theorem rej_alone {l : Lk} {os : List (Int × ByteArray)} (h : Alone os) : ∀ k, rejTo l os k = (os.take k).filter (bad0 l)
  | 0 => rfl
  | k + 1 => by
    rw [rejTo, rej_alone h k]
    unfold rejAt
    cases ho : os[k]? with
    | none =>
      have hk := List.getElem?_eq_none_iff.1 ho
      rw [List.take_of_length_le hk, List.take_of_length_le (by omega)]
      simp
    | some o =>
      dsimp only
      rw [bad_alone h ho]
      obtain ⟨hk, rfl⟩ := List.getElem?_eq_some_iff.1 ho
      rw [List.take_succ_eq_append_getElem hk, List.filter_append]
      congr 1
      cases hb : bad0 l os[k] <;> simp [hb]
theorem nak_alone {l : Lk} {os : List (Int × ByteArray)} (h : Alone os) : ∀ k, nakTo l os k = (os.take k).flatMap (nak0 l)
  | 0 => rfl
  | k + 1 => by
    rw [nakTo, nak_alone h k]
    unfold nakAt
    cases ho : os[k]? with
    | none =>
      have hk := List.getElem?_eq_none_iff.1 ho
      rw [List.take_of_length_le hk, List.take_of_length_le (by omega)]
      simp
    | some o =>
      dsimp only
      rw [bad_alone h ho]
      obtain ⟨hk, rfl⟩ := List.getElem?_eq_some_iff.1 ho
      rw [List.take_succ_eq_append_getElem hk, List.flatMap_append]
      congr 1
      simp [nak0]
theorem bad_none {os : List (Int × ByteArray)} (h : Alone os) (hr : ∀ o ∈ os, rightB o.1 o.2 = true) : ∀ n, anyBad os n = false := by
  intro n
  unfold anyBad
  rw [List.any_eq_false]
  intro k _
  unfold badAt
  cases ho : os[k]? with
  | none => simp
  | some o =>
    dsimp only
    rw [alone_idx h ho, hr o (List.mem_of_getElem? ho)]
    simp
/-- The part of what is asked for that one kind is. -/
def askP (l : Lk) (k : Nat) : List (Int × ByteArray) := if asksB l (kindAt k) then [(kindAt k, dataAt l k)] else []
theorem askL_eq (l : Lk) : askL l = askP l 0 ++ (askP l 1 ++ (askP l 2 ++ (askP l 3 ++ (askP l 4 ++ askP l 5)))) := by
  show (((((([] ++ askP l 0) ++ askP l 1) ++ askP l 2) ++ askP l 3) ++ askP l 4) ++ askP l 5) = _
  simp only [List.nil_append, List.append_assoc]
theorem askP_mem {l : Lk} {k : Nat} {o : Int × ByteArray} (h : o ∈ askP l k) : o = (kindAt k, dataAt l k) ∧ asksB l (kindAt k) = true := by
  unfold askP at h
  split at h
  · rename_i h2; exact ⟨List.mem_singleton.1 h, h2⟩
  · cases h
theorem askK_eq (l : Lk) (k : Nat) : askK l (k + 1) = askK l k ++ askP l k := rfl
theorem askK_mem {l : Lk} {o : Int × ByteArray} : ∀ {k : Nat}, o ∈ askK l k → ∃ j, j < k ∧ o = (kindAt j, dataAt l j) ∧ asksB l (kindAt j) = true
  | 0, h => by cases h
  | k + 1, h => by
    rw [askK_eq, List.mem_append] at h
    rcases h with h | h
    · obtain ⟨j, hj, h2⟩ := askK_mem h
      exact ⟨j, by omega, h2⟩
    · exact ⟨k, by omega, askP_mem h⟩
theorem kindAt_inj {i j : Nat} (hi : i < j) (hj : j < 6) : kindAt i ≠ kindAt j := by
  have h1 : i = 0 ∨ i = 1 ∨ i = 2 ∨ i = 3 ∨ i = 4 := by omega
  have h2 : j = 0 ∨ j = 1 ∨ j = 2 ∨ j = 3 ∨ j = 4 ∨ j = 5 := by omega
  rcases h1 with rfl | rfl | rfl | rfl | rfl <;> rcases h2 with rfl | rfl | rfl | rfl | rfl | rfl <;> first | omega | (unfold kindAt; decide)
theorem askK_alone (l : Lk) : ∀ k, k ≤ 6 → Alone (askK l k)
  | 0, _ => List.Pairwise.nil
  | k + 1, h => by
    rw [askK_eq]
    refine List.pairwise_append.2 ⟨askK_alone l k (by omega), ?_, ?_⟩
    · unfold askP
      split
      · exact List.pairwise_singleton _ _
      · exact List.Pairwise.nil
    · intro a ha b hb
      obtain ⟨j, hj, rfl, -⟩ := askK_mem ha
      obtain ⟨rfl, -⟩ := askP_mem hb
      exact kindAt_inj hj (by omega)
theorem ask_alone (l : Lk) : Alone (askL l) := askK_alone l 6 (Nat.le_refl _)
theorem ask_right {l : Lk} (h : mayB l = true) : ∀ o ∈ askL l, rightB o.1 o.2 = true := by
  intro o ho
  obtain ⟨j, hj, rfl, ha⟩ := askK_mem ho
  obtain ⟨-, -, -, hd, -⟩ := may_range h
  rcases (by omega : j = 0 ∨ j = 1 ∨ j = 2 ∨ j = 3 ∨ j = 4 ∨ j = 5) with rfl | rfl | rfl | rfl | rfl | rfl
  · show rightB 1 (be2 _) = true; unfold rightB; rw [size_be2]; rfl
  · show rightB 5 (be4 _) = true; unfold rightB; rw [size_be4]; rfl
  · show rightB 17 (be2 _) = true; unfold rightB; rw [size_be2]; rfl
  · rfl
  · have ha' : asksB l 19 = true := ha
    rw [asks19] at ha'
    have : l.disc.size ≠ 0 := by simpa using ha'
    show rightB 19 l.disc = true
    unfold rightB
    rw [show sizeK 19 = -1 from rfl, decide_eq_true (show 1 ≤ l.disc.size by omega), decide_eq_true hd]
    simp
  · show rightB 23 (be2 _) = true; unfold rightB; rw [size_be2]; rfl
theorem ask_fits {l : Lk} (h : mayB l = true) : FitsAll (askL l) := by
  intro k o ho
  have h1 := List.mem_of_getElem? ho
  have h2 := right_six (ask_right h o h1)
  obtain ⟨hk, hd⟩ := h2
  unfold six at hk
  omega
theorem Lk.ext' {a b : Lk} (h0 : a.mru = b.mru) (h1 : a.magic = b.magic) (h2 : a.mrru = b.mrru) (h3 : a.short = b.short) (h4 : a.disc = b.disc) (h5 : a.num = b.num) : a = b := by
  cases a; cases b; simp_all
theorem set_back {l : Lk} (h : mayB l = true) : setAll (askL l) = l := by
  obtain ⟨⟨a0, a1⟩, ⟨b0, b1⟩, ⟨c0, c1⟩, hd, ⟨d0, d1⟩⟩ := may_range h
  have e0 := val_be2 a0 a1
  have e1 := val_be4 b0 b1
  have e2 := val_be2 c0 c1
  have e5 := val_be2 d0 d1
  unfold setAll
  rw [askL_eq]
  simp only [List.foldl_append]
  have s0 : List.foldl (fun l o => setL l o.1 o.2) zeroL (askP l 0) = { zeroL with mru := l.mru } := by
    unfold askP
    rw [show asksB l (kindAt 0) = (l.mru != 0) from rfl]
    by_cases hz : l.mru = 0
    · rw [hz]; rfl
    · rw [show (l.mru != 0) = true by simpa using hz, if_pos rfl]
      show { zeroL with mru := val (be2 l.mru) } = _
      rw [e0]
  rw [s0]
  have s1 : ∀ m : Lk, m.magic = 0 → List.foldl (fun l o => setL l o.1 o.2) m (askP l 1) = { m with magic := l.magic } := by
    intro m hm
    unfold askP
    rw [show asksB l (kindAt 1) = (l.magic != 0) from rfl]
    by_cases hz : l.magic = 0
    · rw [hz]; cases m; simp_all
    · rw [show (l.magic != 0) = true by simpa using hz, if_pos rfl]
      show { m with magic := val (be4 l.magic) } = _
      rw [e1]
  rw [s1 _ rfl]
  have s2 : ∀ m : Lk, m.mrru = 0 → List.foldl (fun l o => setL l o.1 o.2) m (askP l 2) = { m with mrru := l.mrru } := by
    intro m hm
    unfold askP
    rw [show asksB l (kindAt 2) = (l.mrru != 0) from rfl]
    by_cases hz : l.mrru = 0
    · rw [hz]; cases m; simp_all
    · rw [show (l.mrru != 0) = true by simpa using hz, if_pos rfl]
      show { m with mrru := val (be2 l.mrru) } = _
      rw [e2]
  rw [s2 _ rfl]
  have s3 : ∀ m : Lk, m.short = false → List.foldl (fun l o => setL l o.1 o.2) m (askP l 3) = { m with short := l.short } := by
    intro m hm
    unfold askP
    rw [show asksB l (kindAt 3) = l.short from rfl]
    cases hz : l.short
    · cases m; simp_all
    · rfl
  rw [s3 _ rfl]
  have s4 : ∀ m : Lk, m.disc = ⟨#[]⟩ → List.foldl (fun l o => setL l o.1 o.2) m (askP l 4) = { m with disc := l.disc } := by
    intro m hm
    unfold askP
    rw [show asksB l (kindAt 4) = asksB l 19 from rfl, asks19]
    by_cases hz : l.disc.size = 0
    · rw [decide_eq_true hz, empty_eq hz]; cases m; simp_all
    · rw [decide_eq_false hz]; rfl
  rw [s4 _ rfl]
  have s5 : ∀ m : Lk, m.num = 0 → List.foldl (fun l o => setL l o.1 o.2) m (askP l 5) = { m with num := l.num } := by
    intro m hm
    unfold askP
    rw [show asksB l (kindAt 5) = (l.num != 0) from rfl]
    by_cases hz : l.num = 0
    · rw [hz]; cases m; simp_all
    · rw [show (l.num != 0) = true by simpa using hz, if_pos rfl]
      show { m with num := val (be2 l.num) } = _
      rw [e5]
  rw [s5 _ rfl]
end Go.Proofs.Ytjmcgekegenobaa
