/- Plain facts on messages as bytes: what is written is read back; a message cut short is none. No program in sight. -/
import Derived.Test.YtieibgbomjlhcaaChapGetA
namespace Go.Proofs.Ytieibgbomjlhcaa
open Go.RowKit
set_option linter.unusedVariables false
set_option linter.unusedSimpArgs false

theorem fit_of {c i : Int} {v nm : ByteArray} (h : chE c i v nm = 0) : 1 ≤ c ∧ c ≤ 4 ∧ 0 ≤ i ∧ i ≤ 255 ∧ v.size ≤ 255 ∧ nm.size ≤ 253 ∧ (valB c = true → 0 < v.size) ∧ (valB c = false → v = ⟨#[]⟩) := by
  unfold chE at h
  by_cases hf : chFit c i v = true
  · rw [if_pos hf] at h
    by_cases hn : nm.size ≤ 253
    · unfold chFit at hf
      simp only [Bool.and_eq_true, decide_eq_true_eq, beq_iff_eq] at hf
      obtain ⟨⟨⟨⟨a, b⟩, d⟩, e⟩, g⟩ := hf
      unfold octB at d
      have d := of_decide_eq_true d
      refine ⟨a, b, d.1, d.2, g, hn, fun h1 => ?_, fun h1 => ?_⟩
      · rw [h1] at e
        by_cases h0 : 0 < v.size
        · exact h0
        · rw [empty_of v (by omega)] at e; cases e
      · rw [h1] at e
        by_cases h0 : 0 < v.size
        · rw [nonempty_of v h0] at e; cases e
        · exact eq_empty v (by omega)
    · rw [if_neg hn] at h; cases h
  · rw [if_neg hf] at h; cases h
theorem chS_not {c i : Int} {v nm : ByteArray} (h : ¬ chE c i v nm = 0) : chS c i v nm = ⟨#[]⟩ := by unfold chS; rw [if_neg h]
theorem chS_of {c i : Int} {v nm : ByteArray} (h : chE c i v nm = 0) : chS c i v nm = chText c i v nm := by unfold chS; rw [if_pos h]

theorem chap_read {t : ByteArray} {c i : Int} {v nm : ByteArray} (h : chE c i v nm = 0) (h0 : byt t 0 = c) (h1 : byt t 1 = i) (hn : gN t = 4 + (chBody c v nm).size) (hle : gN t ≤ t.size)
    (hv : valB c = true → byt t 4 = v.size ∧ t.extract 5 (5 + v.size) = v ∧ t.extract (5 + v.size) (gN t) = nm) (hnv : valB c = false → t.extract 4 (gN t) = nm) :
    gE t = 0 ∧ gCode t = c ∧ gId t = i ∧ gVal t = v ∧ gNm t = nm := by
  obtain ⟨f1, f2, f3, f4, f5, f6, f7, f8⟩ := fit_of h
  have hg := gV_eq t
  cases hc : valB c
  · have hb : (chBody c v nm).size = nm.size := by unfold chBody; rw [hc]; rfl
    have bad : gBad t = false := gBad_no (by rw [h0]; omega) (.inl (by rw [h0]; exact hc))
    have hfr : gFrom t = 4 := by unfold gFrom; rw [h0, hc]; rfl
    have e : gE t = 0 := by unfold gE; rw [bad, if_neg (by simp), if_neg (by omega)]
    refine ⟨e, ?_, ?_, ?_, ?_⟩
    · unfold gCode; rw [if_pos e]; exact h0
    · unfold gId; rw [if_pos e]; exact h1
    · unfold gVal; rw [h0, hc, f8 hc]; simp
    · unfold gNm; rw [if_pos e, hfr]; exact hnv hc
  · obtain ⟨v1, v2, v3⟩ := hv hc
    have hgv : gV t = v.size := by omega
    have hb : (chBody c v nm).size = 1 + v.size + nm.size := by unfold chBody; rw [hc, if_pos rfl, size_app, size_app, size_nums]; rfl
    have hv0 := f7 hc
    have bad : gBad t = false := gBad_no (by rw [h0]; omega) (.inr (by rw [hgv]; omega))
    have hfr : gFrom t = 5 + v.size := by unfold gFrom; rw [h0, hc, hgv]; rfl
    have e : gE t = 0 := by unfold gE; rw [bad, if_neg (by simp), if_neg (by omega)]
    refine ⟨e, ?_, ?_, ?_, ?_⟩
    · unfold gCode; rw [if_pos e]; exact h0
    · unfold gId; rw [if_pos e]; exact h1
    · unfold gVal; rw [h0, hc, hgv, if_pos ⟨e, rfl⟩]; exact v2
    · unfold gNm; rw [if_pos e, hfr]; exact v3

theorem body_le {c : Int} {v nm : ByteArray} (h1 : v.size ≤ 255) (h2 : nm.size ≤ 253) : (chBody c v nm).size ≤ 509 := by
  unfold chBody
  cases valB c
  · simp; omega
  · rw [if_pos rfl, size_app, size_app, size_nums]; simp; omega
theorem text_size (c i : Int) (v nm : ByteArray) : (chText c i v nm).size = 4 + (chBody c v nm).size := by
  unfold chText; rw [size_app, size_nums]; rfl
theorem text_bytes {c i : Int} {v nm : ByteArray} (h : chE c i v nm = 0) : byt (chText c i v nm) 0 = c ∧ byt (chText c i v nm) 1 = i ∧ byt (chText c i v nm) 2 * 256 + byt (chText c i v nm) 3 = 4 + ((chBody c v nm).size : Int) := by
  obtain ⟨f1, f2, f3, f4, f5, f6, f7, f8⟩ := fit_of h
  have hb := body_le (c := c) f5 f6
  unfold chText
  refine ⟨?_, ?_, ?_⟩
  · rw [byt_app_l _ _ _ (by rw [size_nums]; simp), byt_nums _ _ (by simp) (by simp; omega) (by simp; omega)]; rfl
  · rw [byt_app_l _ _ _ (by rw [size_nums]; simp), byt_nums _ _ (by simp) (by simp; omega) (by simp; omega)]; rfl
  · rw [byt_app_l _ _ _ (by rw [size_nums]; simp), byt_app_l _ _ _ (by rw [size_nums]; simp), byt_nums _ _ (by simp) (by simp; omega) (by simp; omega), byt_nums _ _ (by simp) (by simp; omega) (by simp; omega)]
    simp; omega
theorem text_ext (c i : Int) (v nm : ByteArray) (a b : Nat) : (chText c i v nm).extract (4 + a) (4 + b) = (chBody c v nm).extract a b := by
  unfold chText; rw [ext_app_r _ _ _ _ (by rw [size_nums]; simp), size_nums]; simp
theorem app_ext (a b m : ByteArray) (k l : Nat) (h : l ≤ a.size) : (a ++ m).extract k l = a.extract k l := ext_app_l _ _ _ _ h

theorem chap_back {c i : Int} {v nm : ByteArray} (more : ByteArray) (h : chE c i v nm = 0) :
    gE (chText c i v nm ++ more) = 0 ∧ gCode (chText c i v nm ++ more) = c ∧ gId (chText c i v nm ++ more) = i ∧ gVal (chText c i v nm ++ more) = v ∧ gNm (chText c i v nm ++ more) = nm := by
  obtain ⟨f1, f2, f3, f4, f5, f6, f7, f8⟩ := fit_of h
  have hb := body_le (c := c) f5 f6
  obtain ⟨b0, b1, b2⟩ := text_bytes h
  have hs := text_size c i v nm
  have hN : gN (chText c i v nm ++ more) = 4 + (chBody c v nm).size := by
    unfold gN
    rw [byt_app_l _ _ _ (by omega), byt_app_l _ _ _ (by omega), b2]; omega
  refine chap_read h ?_ ?_ hN ?_ ?_ ?_
  · rw [byt_app_l _ _ _ (by omega)]; exact b0
  · rw [byt_app_l _ _ _ (by omega)]; exact b1
  · rw [hN, size_app]; omega
  · intro hc
    have hbs : (chBody c v nm).size = 1 + v.size + nm.size := by unfold chBody; rw [hc, if_pos rfl, size_app, size_app, size_nums]; rfl
    have hbd : chBody c v nm = strOfNums [(v.size : Int)] ++ v ++ nm := by unfold chBody; rw [hc]; rfl
    refine ⟨?_, ?_, ?_⟩
    · rw [byt_app_l _ _ _ (by omega)]
      unfold chText
      rw [byt_app_r _ _ _ (by rw [size_nums]; simp), size_nums, hbd, app_assoc, byt_app_l _ _ _ (by rw [size_nums]; simp)]
      rw [byt_nums _ _ (by simp) (by simp) (by simp; omega)]; rfl
    · rw [ext_app_l _ _ _ _ (by omega), show 5 = 4 + 1 from rfl, show 4 + 1 + v.size = 4 + (1 + v.size) by omega, text_ext, hbd, ext_app_l _ _ _ _ (by rw [size_app, size_nums]; simp), ext_app_r _ _ _ _ (by rw [size_nums]; simp), size_nums]
      exact ext_all _ _ (by simp)
    · rw [hN, ext_app_l _ _ _ _ (by omega), show 5 + v.size = 4 + (1 + v.size) by omega, text_ext, hbd, ext_app_r _ _ _ _ (by rw [size_app, size_nums]; simp)]
      rw [size_app, size_nums, hbd.symm, hbs]
      simp only [List.length_cons, List.length_nil, Nat.zero_add, Nat.sub_self]
      exact ext_all _ _ (by omega)
  · intro hc
    have hbd : chBody c v nm = nm := by unfold chBody; rw [hc]; rfl
    rw [hN, ext_app_l _ _ _ _ (by omega), show (4 : Nat) = 4 + 0 from rfl, show 4 + 0 + (chBody c v nm).size = 4 + (chBody c v nm).size by omega, text_ext, hbd]
    exact ext_all _ _ (Nat.le_refl _)
theorem chap_back0 {c i : Int} {v nm : ByteArray} (h : chE c i v nm = 0) :
    gE (chText c i v nm) = 0 ∧ gCode (chText c i v nm) = c ∧ gId (chText c i v nm) = i ∧ gVal (chText c i v nm) = v ∧ gNm (chText c i v nm) = nm := by
  have := chap_back ⟨#[]⟩ h
  rwa [app_empty] at this

theorem chap_cut {c i : Int} {v nm : ByteArray} (h : chE c i v nm = 0) : gE ((chText c i v nm).extract 0 ((chText c i v nm).size - 1)) = 600 := by
  obtain ⟨f1, f2, f3, f4, f5, f6, f7, f8⟩ := fit_of h
  have hb := body_le (c := c) f5 f6
  obtain ⟨b0, b1, b2⟩ := text_bytes h
  have hs := text_size c i v nm
  have hu : ((chText c i v nm).extract 0 ((chText c i v nm).size - 1)).size = 3 + (chBody c v nm).size := by rw [size_ext]; omega
  have bad : gBad ((chText c i v nm).extract 0 ((chText c i v nm).size - 1)) = true := by
    by_cases h4 : (chBody c v nm).size = 0
    · exact gBad_yes (.inl (by omega))
    · refine gBad_yes (.inr (.inr (.inr (.inr ?_))))
      rw [hu]
      unfold gN
      rw [byt_ext _ _ _ _ (by omega), byt_ext _ _ _ _ (by omega), b2]; omega
  unfold gE; rw [bad]; rfl
end Go.Proofs.Ytieibgbomjlhcaa
