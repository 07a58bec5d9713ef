/- The walk of the law ReportForms: it returns true. No condition. -/
import Derived.Test.YtppegmggcmjboaaRepLaws
namespace Go.Proofs.Ytppegmggcmjboaa
open Go.RowKit
set_option linter.unusedVariables false
set_option linter.unusedSimpArgs false
attribute [local go_sem] conv1 conv1d conv1n conv1a conv1ad conv1an conv2 conv2d conv2n conv2a conv2ad conv2an conv4 conv4d conv4n conv4a conv4ad conv4an conv5 conv5d conv5n conv5a conv5ad conv5an size_nums byt_fold
def formList (k : Nat) (x : Int) : List Int := List.replicate (k - 1) 0 ++ (if k = 0 then [] else [x])
theorem form_len (k : Nat) (x : Int) : (formList k x).length = k := by unfold formList; split <;> simp <;> omega
theorem form_E (k : Nat) (x : Int) : rE (formList k x) = if k = 12 ∧ 0 ≤ x ∧ x ≤ 4294967295 then 0 else 700 := by
  by_cases h12 : k = 12
  · subst h12
    have e : formList 12 x = [0, 0, 0, 0, 0, 0, 0, 0, 0, 0, 0, x] := rfl
    by_cases hx : 0 ≤ x ∧ x ≤ 4294967295
    · rw [if_pos ⟨rfl, hx⟩]
      refine rE_ok (by rw [form_len]) (fun j n hj hn => ?_)
      have hm := List.mem_of_getElem? hn
      rw [e] at hm
      unfold rBadN
      refine decide_eq_false ?_
      simp at hm
      omega
    · rw [if_neg (fun h => hx h.2)]
      refine rE_bad (k := 11) (n := x) (by rw [e]; rfl) (by unfold rBadN; exact decide_eq_true (by omega))
  · rw [if_neg (fun h => h12 h.1)]
    exact rE_len (by rw [form_len]; exact h12)
def izero (k : Nat) : Array Value := madeCells #[.int .i64 0] k
theorem izero_list (k : Nat) : (izero k).toList = intCells (List.replicate k 0) := by unfold izero intCells; rw [toList_madeCells_one]; simp
theorem izero_get (k j : Nat) (h : j < k) : (izero k)[j]? = some (.int .i64 0) := by
  rw [← Array.getElem?_toList, izero_list]; simp [intCells, h]
theorem izero_set (k j : Nat) (x : Int) (h : j + 1 = k) : ((izero k).setIfInBounds j (.int .i64 x)).toList = intCells (formList k x) := by
  subst h
  rw [Array.toList_setIfInBounds, izero_list]
  unfold formList intCells
  rw [if_neg (by omega)]
  simp [List.replicate_succ', List.set_append]
theorem run_mki (k : Nat) (hk : k ≤ 1000) (w : World) : (Instr.makeSlice 22 (.int .i64 (k : Int)) (.int .i64 (k : Int))).run Try.prog w = .ok (.slice (some ⟨w.heap.size, 0, none⟩) k k) (w.alloc (.cells (izero k) 3)) := by
  obtain ⟨i0, hi, hz0, hz1, hz2⟩ := info_parts info_int
  have h := run_make (P := Try.prog) w 22 3 i0 (.int .i64 0) Try.underlying22 hi hz0 .i64 .i64 k k (by omega) (by omega) (by rw [hz2]; omega) (by omega)
  rw [hz1] at h
  simpa [Value.cells, izero] using h
set_option maxRecDepth 100000 in
set_option maxHeartbeats 1000000 in
theorem forms_a (many x size : Int) (w : World) (k q m g l : Nat) (E : Int) (hm : bits .and .i64 many 15 = (k : Int)) (hk : k < 16) (hq : bits .and .i64 size 15 = (q : Int)) (hq1 : q < 16) (hmq : 40 + (q : Int) = (m : Int)) (h0 : 0 < k)
    (he : rE (formList k x) = E) (hg : gE (zstr m) = g) (hgl : (gL (zstr m)).length = l) (hmg : (((m : Int) == 48) = true ∧ g = 0 ∧ l = 12) ∨ (((m : Int) == 48) = false ∧ g = 700 ∧ l = 0))
    (hc : (((k : Int) == 12) = true ∧ 0 ≤ x ∧ x ≤ 4294967295 ∧ E = 0) ∨ (((k : Int) == 12) = false ∧ E = 700) ∨ (((k : Int) == 12) = true ∧ x < 0 ∧ E = 700) ∨ (((k : Int) == 12) = true ∧ 0 ≤ x ∧ 4294967295 < x ∧ E = 700)) :
    Calls Try.prog 5 #[.int .i64 many, .int .i64 x, .int .i64 size] w fun e w' => e = .returned (.bool true) ∧ Below w.heap.size w w' := by
  have hmk := fun W => run_mki k (by omega) W
  have hmz := fun W => run_mk m (by omega) W
  have h1 : (0 : Int) < (k : Int) := by omega
  obtain ⟨j, hj⟩ : ∃ j : Nat, j + 1 = k := ⟨k - 1, by omega⟩
  have hj2 : (k : Int) - 1 = (j : Int) := by omega
  have hjk : (j : Int) < (k : Int) := by omega
  have hcell := izero_get k j (by omega)
  have HL := Lib.hid (izero_set k j x hj)
  have HE := Lib.hid he; have HG := Lib.hid hg; have HGL := Lib.hid hgl
  clear hj he hg hgl
  rcases hmg with ⟨m1, rfl, rfl⟩ | ⟨m1, rfl, rfl⟩
  all_goals
   rcases hc with ⟨c1, c2, c3, rfl⟩ | ⟨c1, rfl⟩ | ⟨c1, c2, rfl⟩ | ⟨c1, c2, c3, rfl⟩
   all_goals
    go_enter Try.func5, Try.ntmps5
    go_wp2_with (first | (go_at_call 11; refine (num_any _ _).mono ?_; rintro e w' ⟨rfl, rfl⟩))
    refine (awake_any _).mono ?_
    rintro e w1 ⟨rfl, hb1⟩
    have hz1 := hb1.size
    go_wp2_with (first | (go_at_call 11; refine (num_any _ _).mono ?_; rintro e w' ⟨rfl, rfl⟩))
    refine (repput_any _ _ _ (formList k x) _ (IntsAt.made_at w1 _ rfl _ _ _ k (form_len k x) HL.out) (by omega)).mono ?_
    rintro e w2 ⟨rfl, hb2⟩
    rw [HE.out]
    have hz2 := hb2.size
    simp at hz2
    have bel2 : Below w.heap.size w w2 := (hb1.alloc hz1 _).trans (hb2.mono (by simp; omega))
    have hconv := conv_z m w2 w2.heap.size m rfl
    go_wp2_with (first | (go_at_call 11; refine (num_any _ _).mono ?_; rintro e w' ⟨rfl, rfl⟩))
    refine (repget_any _ _).mono ?_
    rintro e w3 ⟨A3, cap3, rfl, hown3, hb3⟩
    rw [HG.out, HGL.out]
    clear hown3 hconv
    have hz3 := hb3.size
    simp at hz3
    go_wp2_with (first | (go_at_call 11; refine (num_any _ _).mono ?_; rintro e w' ⟨rfl, rfl⟩))
    go_ret
    exact ⟨by first | (simp; done) | (simp; omega), (bel2.alloc (by omega) _).trans (hb3.mono (by simp; omega))⟩
set_option maxRecDepth 100000 in
set_option maxHeartbeats 1000000 in
theorem forms_b (many x size : Int) (w : World) (q m g l : Nat) (hm : bits .and .i64 many 15 = 0) (hq : bits .and .i64 size 15 = (q : Int)) (hq1 : q < 16) (hmq : 40 + (q : Int) = (m : Int))
    (hg : gE (zstr m) = g) (hgl : (gL (zstr m)).length = l) (hmg : (((m : Int) == 48) = true ∧ g = 0 ∧ l = 12) ∨ (((m : Int) == 48) = false ∧ g = 700 ∧ l = 0)) :
    Calls Try.prog 5 #[.int .i64 many, .int .i64 x, .int .i64 size] w fun e w' => e = .returned (.bool true) ∧ Below w.heap.size w w' := by
  have hmk : ∀ W : World, (Instr.makeSlice 22 (.int .i64 0) (.int .i64 0)).run Try.prog W = .ok (.slice (some ⟨W.heap.size, 0, none⟩) 0 0) (W.alloc (.cells #[] 3)) := fun _ => by kernel_rfl
  have hmz := fun W => run_mk m (by omega) W
  have HE : Hid (rE [] = 700) := Lib.hid (by decide)
  have HG := Lib.hid hg; have HGL := Lib.hid hgl
  clear hg hgl
  rcases hmg with ⟨m1, rfl, rfl⟩ | ⟨m1, rfl, rfl⟩
  all_goals
    go_enter Try.func5, Try.ntmps5
    go_wp2_with (first | (go_at_call 11; refine (num_any _ _).mono ?_; rintro e w' ⟨rfl, rfl⟩))
    refine (awake_any _).mono ?_
    rintro e w1 ⟨rfl, hb1⟩
    have hz1 := hb1.size
    go_wp2_with (first | (go_at_call 11; refine (num_any _ _).mono ?_; rintro e w' ⟨rfl, rfl⟩))
    refine (repput_any _ _ _ [] _ (IntsAt.nil _ _) (by omega)).mono ?_
    rintro e w2 ⟨rfl, hb2⟩
    rw [HE.out]
    have hz2 := hb2.size
    simp at hz2
    have bel2 : Below w.heap.size w w2 := (hb1.alloc hz1 _).trans (hb2.mono (by simp; omega))
    have hconv := conv_z m w2 w2.heap.size m rfl
    go_wp2_with (first | (go_at_call 11; refine (num_any _ _).mono ?_; rintro e w' ⟨rfl, rfl⟩))
    refine (repget_any _ _).mono ?_
    rintro e w3 ⟨A3, cap3, rfl, hown3, hb3⟩
    rw [HG.out, HGL.out]
    clear hown3 hconv
    have hz3 := hb3.size
    simp at hz3
    go_wp2_with (first | (go_at_call 11; refine (num_any _ _).mono ?_; rintro e w' ⟨rfl, rfl⟩))
    go_ret
    exact ⟨by first | (simp; done) | (simp; omega), (bel2.alloc (by omega) _).trans (hb3.mono (by simp; omega))⟩
theorem reportForms_walk (many x size : Int) (k0 : (Lit.int .i64 many).wf = true) (k1 : (Lit.int .i64 x).wf = true) (k2 : (Lit.int .i64 size).wf = true) (w : World) :
    Calls Try.prog 5 #[.int .i64 many, .int .i64 x, .int .i64 size] w fun e w' => e = .returned (.bool true) ∧ Below w.heap.size w w' := by
  obtain ⟨k, hm, hk, _⟩ := mask_nat 4 (by decide) 15 (by decide) many
  obtain ⟨q, hq, hq1, _⟩ := mask_nat 4 (by decide) 15 (by decide) size
  have hmg : ∃ g l : Nat, gE (zstr (40 + q)) = g ∧ (gL (zstr (40 + q))).length = l ∧ (((((40 + q : Nat) : Int) == 48) = true ∧ g = 0 ∧ l = 12) ∨ ((((40 + q : Nat) : Int) == 48) = false ∧ g = 700 ∧ l = 0)) := by
    by_cases h : 40 + q = 48
    · exact ⟨0, 12, by unfold gE; rw [zstr_size, if_pos h]; rfl, gL_len (by rw [zstr_size]; exact h), .inl ⟨by rw [h]; rfl, rfl, rfl⟩⟩
    · exact ⟨700, 0, by unfold gE; rw [zstr_size, if_neg h]; rfl, by unfold gL; rw [zstr_size, if_neg h]; rfl, .inr ⟨by simp; omega, rfl, rfl⟩⟩
  obtain ⟨g, l, h1, h2, h3⟩ := hmg
  have hmq : 40 + (q : Int) = ((40 + q : Nat) : Int) := by omega
  rcases Nat.eq_zero_or_pos k with h0 | h0
  · subst h0
    exact forms_b many x size w q _ g l hm hq hq1 hmq h1 h2 h3
  · refine forms_a many x size w k q _ g l _ hm hk hq hq1 hmq h0 rfl h1 h2 h3 ?_
    rw [form_E]
    by_cases h12 : k = 12
    · have e : ((k : Int) == 12) = true := by rw [h12]; rfl
      by_cases x0 : 0 ≤ x
      · by_cases x1 : x ≤ 4294967295
        · exact .inl ⟨e, x0, x1, if_pos ⟨h12, x0, x1⟩⟩
        · exact .inr (.inr (.inr ⟨e, x0, by omega, if_neg (fun h => x1 h.2.2)⟩))
      · exact .inr (.inr (.inl ⟨e, by omega, if_neg (fun h => x0 h.2.1)⟩))
    · exact .inr (.inl ⟨by simp; omega, if_neg (fun h => h12 h.1)⟩)
end Go.Proofs.Ytppegmggcmjboaa
