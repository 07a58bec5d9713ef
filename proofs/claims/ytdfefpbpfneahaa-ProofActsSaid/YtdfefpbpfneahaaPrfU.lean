/- The round of the law ProofActs, in plain words: what a side keeps, and what it answers. No program in sight. -/
import Derived.Test.YtdfefpbpfneahaaPrfT
namespace Go.Proofs.Ytdfefpbpfneahaa
open Go.RowKit
set_option linter.unusedVariables false
set_option linter.unusedSimpArgs false
theorem inv_new (nm se ex : ByteArray) (tries : Int) (h : newB nm se ex tries = true) : Inv ⟨ex, ⟨#[]⟩, tries, false, false, nm, se, false, false⟩ := by
  unfold newB mayB at h
  simp only [Bool.and_eq_true, decide_eq_true_eq] at h
  obtain ⟨⟨⟨h1, h2⟩, h3⟩, h4⟩ := h
  exact ⟨by show false = !(⟨#[]⟩ : ByteArray).toList.isEmpty; rw [empty_of _ rfl]; rfl, by show (⟨#[]⟩ : ByteArray).size ≤ 255; decide, h3.2, h2.2, fun _ => h4⟩
theorem inv_st {s : PS} (h : Inv s) (c : ByteArray) : Inv (pSt s c) := by
  unfold pSt
  split
  · rename_i h0
    have hc : 1 ≤ c.size ∧ c.size ≤ 255 := by
      unfold pStE at h0
      split at h0
      · assumption
      · cases h0
    exact ⟨by rw [nonempty_of c (by omega)]; rfl, hc.2, h.ex, h.se, h.left⟩
  · exact h
theorem inv_ag {s : PS} (h : Inv s) : Inv (pAg s) := by
  unfold pAg
  split
  · exact h
  · split
    · exact ⟨h.st, h.ch, h.ex, h.se, fun e => by cases e⟩
    · rename_i h1 h2
      have hf : s.fl = false := by cases hf : s.fl <;> simp_all
      have := h.left hf
      exact ⟨h.st, h.ch, h.ex, h.se, fun _ => by show 1 ≤ s.left - 1 ∧ s.left - 1 ≤ 10; omega⟩
theorem inv_ju {s : PS} (h : Inv s) (i : Int) (v : ByteArray) : Inv (jS s i v) := by
  unfold jS
  split
  · exact h
  · split
    · exact ⟨h.st, h.ch, h.ex, h.se, fun e => by cases e⟩
    · exact ⟨h.st, h.ch, h.ex, h.se, h.left⟩
theorem inv_tk {s : PS} (h : Inv s) (c i : Int) (v n : ByteArray) : Inv (tS s c i v n) := by
  unfold tS
  split
  · split
    · exact h
    · split
      · exact inv_ju h i v
      · split
        · exact ⟨h.st, h.ch, h.ex, h.se, h.left⟩
        · exact ⟨h.st, h.ch, h.ex, h.se, fun e => by cases e⟩
  · exact h
theorem stV_form (s : PS) (c : ByteArray) : ∃ x y u v, pStV s c = chV x y u v := by
  unfold pStV; split
  · exact ⟨_, _, _, _, rfl⟩
  · exact ⟨_, _, _, _, rfl⟩
theorem agV_form (s : PS) : ∃ x y u v, pAgV s = chV x y u v := by
  unfold pAgV; split
  · exact ⟨_, _, _, _, rfl⟩
  · exact ⟨_, _, _, _, rfl⟩
theorem st_ch (s : PS) (c : ByteArray) : (pSt s c).ch = if pStE s c = 0 then c else s.ch := by
  unfold pSt; split <;> rfl
theorem ag_ch (s : PS) : (pAg s).ch = s.ch := by
  unfold pAg; split
  · rfl
  · split <;> rfl
theorem ju_ch (s : PS) (i : Int) (v : ByteArray) : (jS s i v).ch = s.ch := by
  unfold jS; split
  · rfl
  · split <;> rfl
theorem tk_ch (s : PS) (c i : Int) (v n : ByteArray) : (tS s c i v n).ch = s.ch := by
  unfold tS; split
  · split
    · rfl
    · split
      · exact ju_ch s i v
      · split <;> rfl
  · rfl
theorem jL_len (s : PS) (i : Int) (v : ByteArray) : (jL s i v).length ≤ 1 := by
  unfold jL; split
  · simp
  · split <;> simp
theorem tL_len (s : PS) (c i : Int) (v n : ByteArray) : (tL s c i v n).length ≤ 1 := by
  unfold tL; split
  · split
    · simp
    · split
      · exact jL_len s i v
      · simp
  · simp
end Go.Proofs.Ytdfefpbpfneahaa
