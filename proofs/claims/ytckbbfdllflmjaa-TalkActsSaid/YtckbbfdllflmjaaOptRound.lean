/- Options as bytes and back, in plain words. No program in sight. -/
import Derived.Test.YtckbbfdllflmjaaOptRead
namespace Go.Proofs.Ytckbbfdllflmjaa
open Go.RowKit
set_option linter.unusedVariables false
set_option linter.unusedSimpArgs false
theorem oLong_each : ∀ (os : List (Int × ByteArray)) (n : Nat), oLong os n = false → ∀ o ∈ os, o.2.size ≤ 253
  | [], n, _, o, h => by simp at h
  | x :: os, n, h, o, ho => by
    rw [oLong, Bool.or_eq_false_iff] at h
    have h1 := of_decide_eq_false h.1
    rcases List.mem_cons.1 ho with rfl | ho
    · omega
    · exact oLong_each os _ h.2 o ho
theorem oLong_false : ∀ (os : List (Int × ByteArray)) (n : Nat), (∀ o ∈ os, o.2.size ≤ 253) → n + oSum os ≤ 2048 → oLong os n = false
  | [], n, _, _ => rfl
  | x :: os, n, h, hs => by
    rw [oSum] at hs
    have hx := h x (List.mem_cons_self ..)
    rw [oLong, oLong_false os _ (fun o ho => h o (List.mem_cons_of_mem _ ho)) (by omega), decide_eq_false (by omega)]; rfl
theorem oE_zero {os : List (Int × ByteArray)} (h : oE os = 0) : oBad os = false ∧ oLong os 0 = false := by
  unfold oE at h
  cases hb : oBad os
  · cases hl : oLong os 0
    · exact ⟨rfl, rfl⟩
    · rw [hb, hl] at h; cases h
  · rw [hb] at h; cases h
theorem oText_bytes (o : Int × ByteArray) (r : ByteArray) (h : 0 ≤ o.1 ∧ o.1 ≤ 255) (hd : o.2.size ≤ 253) :
    byt (oText o ++ r) 0 = o.1 ∧ byt (oText o ++ r) 1 = 2 + (o.2.size : Int) ∧ (oText o ++ r).extract 2 (2 + o.2.size) = o.2 ∧ (oText o ++ r).extract (2 + o.2.size) (oText o ++ r).size = r := by
  have hs := oText_size o
  refine ⟨?_, ?_, ?_, ?_⟩
  · rw [byt_app_l _ _ _ (by omega)]
    unfold oText
    rw [byt_app_l _ _ _ (by rw [size_nums]; simp), byt_nums _ _ (by simp) (by simp; omega) (by simp; omega)]; rfl
  · rw [byt_app_l _ _ _ (by omega)]
    unfold oText
    rw [byt_app_l _ _ _ (by rw [size_nums]; simp), byt_nums _ _ (by simp) (by simp; omega) (by simp; omega)]; rfl
  · rw [ext_app_l _ _ _ _ (by omega)]
    unfold oText
    rw [ext_app_r _ _ _ _ (by rw [size_nums]; simp), size_nums]
    exact ext_all _ _ (by simp)
  · rw [ext_app_r _ _ _ _ (by omega), size_app, hs]
    rw [Nat.sub_self]
    exact ext_all _ _ (by omega)
theorem uGo_join : ∀ (os : List (Int × ByteArray)) (f : Nat), (∀ o ∈ os, 0 ≤ o.1 ∧ o.1 ≤ 255 ∧ o.2.size ≤ 253) → (oJoin os).size ≤ f → uGo f (oJoin os) = some os
  | [], f, _, _ => uGo_end f _ rfl
  | o :: os, f, h, hf => by
    have ho := h o (List.mem_cons_self ..)
    rw [oJoin] at hf ⊢
    have hs : (oText o ++ oJoin os).size = 2 + o.2.size + (oJoin os).size := by rw [size_app, oText_size]
    obtain ⟨b0, b1, b2, b3⟩ := oText_bytes o (oJoin os) ⟨ho.1, ho.2.1⟩ ho.2.2
    cases f with
    | zero => omega
    | succ f =>
      have hn : uN (oText o ++ oJoin os) = 2 + o.2.size := by have := uN_eq (oText o ++ oJoin os); omega
      have hb : uBad (oText o ++ oJoin os) = false := by unfold uBad; exact decide_eq_false (by rw [b1]; omega)
      rw [uGo, if_neg (by omega), hb, if_neg (by simp), hn, b3, uGo_join os f (fun o' h' => h o' (List.mem_cons_of_mem _ h')) (by omega)]
      unfold uOne
      rw [hn, b0, b2]
      rfl
theorem back1 {os : List (Int × ByteArray)} (h : oE os = 0) : uE (oJoin os) = 0 ∧ uL (oJoin os) = os := by
  obtain ⟨h1, h2⟩ := oE_zero h
  have hs := oLong_sum os 0 h2 (by omega)
  have he := oLong_each os 0 h2
  have hk : ∀ o ∈ os, 0 ≤ o.1 ∧ o.1 ≤ 255 ∧ o.2.size ≤ 253 := by
    intro o ho
    obtain ⟨j, hj, e⟩ := List.getElem_of_mem ho
    have := badK_of h1 (k := j) (o := o) (by rw [List.getElem?_eq_getElem hj, e])
    exact ⟨this.1, this.2, he o ho⟩
  exact uRead_ok (by rw [oJoin_size]; omega) (uGo_join os _ hk (Nat.le_refl _))
theorem ext_split (s : ByteArray) (n : Nat) (h : n ≤ s.size) : s.extract 0 n ++ s.extract n s.size = s := by
  apply bytes_ext
  · rw [size_app, size_ext, size_ext]; omega
  · intro i hi
    rw [byt_app, size_ext]
    split
    · rw [byt_ext _ _ _ _ (by omega)]; congr 1; omega
    · rw [size_app, size_ext, size_ext] at hi
      rw [byt_ext _ _ _ _ (by omega)]; congr 1; omega
theorem uOne_text {s : ByteArray} (hb : uBad s = false) (h0 : 0 < s.size) : oText (uOne s) = s.extract 0 (uN s) ∧ (uOne s).2.size ≤ 253 ∧ 2 ≤ uN s ∧ uN s ≤ s.size := by
  unfold uBad at hb
  have hb2 := of_decide_eq_false hb
  have hn := uN_eq s
  have hr := byt_range s 1
  have h0r := byt_range s 0
  have hsz : (uOne s).2.size = uN s - 2 := by unfold uOne; rw [size_ext]; omega
  refine ⟨?_, by omega, by omega, by omega⟩
  apply bytes_ext
  · rw [oText_size, hsz, size_ext]; omega
  · intro i hi
    rw [oText_size, hsz] at hi
    rw [byt_ext _ _ _ _ (by omega)]
    unfold oText
    rw [byt_app, size_nums]
    split
    · rename_i hlt
      have hi2 : i = 0 ∨ i = 1 := by simp at hlt; omega
      rcases hi2 with rfl | rfl
      · rw [byt_nums _ _ (by simp) (by simp [uOne]; omega) (by simp [uOne]; omega)]; simp [uOne]
      · rw [byt_nums _ _ (by simp) (by simp; omega) (by simp; omega)]; simp; omega
    · rename_i hlt
      have hge : 2 ≤ i := by simpa using hlt
      unfold uOne
      show byt (s.extract 2 (uN s)) (i - 2) = byt s (0 + i)
      rw [byt_ext _ _ _ _ (by omega)]
      congr 1
      omega
theorem uGo_back : ∀ (f : Nat) (s : ByteArray) (l : List (Int × ByteArray)), s.size ≤ f → uGo f s = some l → oJoin l = s ∧ ∀ o ∈ l, 0 ≤ o.1 ∧ o.1 ≤ 255 ∧ o.2.size ≤ 253
  | 0, s, l, hf, h => by
    simp [uGo] at h; subst h
    exact ⟨(eq_empty s (by omega)).symm, fun o ho => by simp at ho⟩
  | f + 1, s, l, hf, h => by
    rw [uGo] at h
    by_cases h0 : s.size = 0
    · rw [if_pos h0] at h
      obtain rfl := Option.some.inj h
      exact ⟨(eq_empty s h0).symm, fun o ho => by simp at ho⟩
    · rw [if_neg h0] at h
      cases hb : uBad s
      · rw [hb, if_neg (by simp)] at h
        obtain ⟨t1, t2, t3, t4⟩ := uOne_text hb (by omega)
        cases hr : uGo f (s.extract (uN s) s.size) with
        | none => rw [hr] at h; cases h
        | some l' =>
          rw [hr] at h
          obtain rfl := Option.some.inj h
          obtain ⟨i1, i2⟩ := uGo_back f _ l' (by rw [size_ext]; omega) hr
          refine ⟨?_, fun o ho => ?_⟩
          · show oText (uOne s) ++ oJoin l' = s
            rw [i1, t1]; exact ext_split s _ t4
          · rcases List.mem_cons.1 ho with rfl | ho
            · have := byt_range s 0
              exact ⟨this.1, this.2, t2⟩
            · exact i2 o ho
      · rw [hb, if_pos rfl] at h; cases h
theorem uE_zero {s : ByteArray} (h : uE s = 0) : s.size ≤ 2048 ∧ uGo s.size s = some (uL s) := by
  unfold uE at h
  by_cases h1 : 2048 < s.size
  · rw [if_pos h1] at h; cases h
  · rw [if_neg h1] at h
    cases hr : uGo s.size s with
    | none => rw [hr] at h; cases h
    | some l => exact ⟨by omega, by unfold uL; rw [if_neg h1, hr]; rfl⟩
theorem uL_not {s : ByteArray} (h : ¬ uE s = 0) : uL s = [] := by
  unfold uE at h
  by_cases h1 : 2048 < s.size
  · unfold uL; rw [if_pos h1]
  · rw [if_neg h1] at h
    cases hr : uGo s.size s with
    | none => unfold uL; rw [if_neg h1, hr]; rfl
    | some l => rw [hr] at h; exact absurd rfl h
theorem back2 {s : ByteArray} (h : uE s = 0) : oE (uL s) = 0 ∧ oS (uL s) = s := by
  obtain ⟨h1, h2⟩ := uE_zero h
  obtain ⟨j, hk⟩ := uGo_back _ s _ (Nat.le_refl _) h2
  have hb : oBad (uL s) = false := by
    unfold oBad; rw [List.any_eq_false]
    intro o ho
    have := hk o ho
    unfold badK; simp; omega
  have hl : oLong (uL s) 0 = false := oLong_false _ _ (fun o ho => (hk o ho).2.2) (by rw [← oJoin_size, j]; omega)
  have e : oE (uL s) = 0 := by unfold oE; rw [hb, hl]; rfl
  exact ⟨e, by unfold oS; rw [if_pos e, j]⟩
theorem uL_len (s : ByteArray) : (uL s).length ≤ 2048 := by
  by_cases h : uE s = 0
  · obtain ⟨h1, h2⟩ := uE_zero h
    obtain ⟨j, _⟩ := uGo_back _ s _ (Nat.le_refl _) h2
    have hsum : ∀ l : List (Int × ByteArray), l.length ≤ oSum l := by
      intro l
      induction l with
      | nil => simp
      | cons o l ih => rw [oSum, List.length_cons]; omega
    have := hsum (uL s)
    rw [← oJoin_size, j] at this
    omega
  · rw [uL_not h]; simp
end Go.Proofs.Ytckbbfdllflmjaa
