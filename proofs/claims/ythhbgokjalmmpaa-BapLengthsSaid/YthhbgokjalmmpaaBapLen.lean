/- The datagrams of the law BapLengths, and its walk where the length is bad. No condition. -/
import Derived.Test.YthhbgokjalmmpaaBapAns
namespace Go.Proofs.Ythhbgokjalmmpaa
open Go.RowKit
set_option linter.unusedVariables false
set_option linter.unusedSimpArgs false
attribute [local go_sem] conv1 conv1d conv1n conv1a conv1ad conv1an conv2 conv2d conv2n conv2a conv2ad conv2an conv4 conv4d conv4n conv4a conv4ad conv4an conv5 conv5d conv5n conv5a conv5ad conv5an size_nums byt_fold
def lenT (c k : Nat) (d : ByteArray) : ByteArray := strOfNums [(c : Int), 3, 0, (k : Int)] ++ d
theorem len_facts (c k : Nat) (d : ByteArray) (hc : c ≤ 255) (hk : k ≤ 255) : byt (lenT c k d) 0 = c ∧ byt (lenT c k d) 1 = 3 ∧ gN (lenT c k d) = k ∧ (lenT c k d).size = 4 + d.size := by
  unfold lenT gN
  refine ⟨?_, ?_, ?_, ?_⟩
  · rw [byt_app_l _ _ _ (by rw [size_nums]; simp), byt_nums _ _ (by simp) (by simp) (by simp; omega)]; rfl
  · rw [byt_app_l _ _ _ (by rw [size_nums]; simp), byt_nums _ _ (by simp) (by simp) (by simp)]; rfl
  · rw [byt_app_l _ _ _ (by rw [size_nums]; simp), byt_app_l _ _ _ (by rw [size_nums]; simp), byt_nums _ _ (by simp) (by simp) (by simp), byt_nums _ _ (by simp) (by simp) (by simp; omega)]; simp
  · rw [size_app, size_nums]; rfl
theorem len_bad (c k : Nat) (d : ByteArray) (hc : c ≤ 255) (hk : k ≤ 255) (h : k < 4 ∨ d.size + 4 < k) :
    gE (lenT c k d) = 900 ∧ gC (lenT c k d) = 0 ∧ gI (lenT c k d) = 0 ∧ gA (lenT c k d) = 0 ∧ gL (lenT c k d) = [] := by
  obtain ⟨a, b, g, f⟩ := len_facts c k d hc hk
  have hl : 4 ≤ gLeast (lenT c k d) := by unfold gLeast; split <;> omega
  have e : gE (lenT c k d) = 900 := gE_bad (.inr (.inr (by rw [g, f]; omega)))
  have h0 : ¬ gE (lenT c k d) = 0 := by rw [e]; decide
  refine ⟨e, ?_, ?_, ?_, ?_⟩
  · unfold gC; rw [if_neg h0]
  · unfold gI; rw [if_neg h0]
  · unfold gA; rw [if_neg (fun x => h0 x.1)]
  · unfold gL; rw [if_neg h0]
theorem len_body (c k : Nat) (d : ByteArray) (hc : c ≤ 255) (hk : k ≤ 255) (h1 : 4 ≤ k) (hr : bResp (c : Int) = false) : gBody (lenT c k d) = d.extract 0 (k - 4) := by
  obtain ⟨a, b, g, f⟩ := len_facts c k d hc hk
  unfold gBody gLeast
  rw [a, g, hr]; unfold lenT
  show (strOfNums [(c : Int), 3, 0, (k : Int)] ++ d).extract 4 k = _
  rw [ext_app_r _ _ _ _ (by rw [size_nums]; simp), size_nums]; rfl
theorem len_ok (c k : Nat) (d : ByteArray) (hc : 1 ≤ c ∧ c ≤ 8) (hodd : ¬ c % 2 = 0) (hk : k ≤ 255) (h1 : 4 ≤ k) (h2 : k ≤ d.size + 4) :
    gE (lenT c k d) = gE (lenT c k (d.extract 0 (k - 4))) ∧ gC (lenT c k d) = gC (lenT c k (d.extract 0 (k - 4))) ∧ gI (lenT c k d) = gI (lenT c k (d.extract 0 (k - 4))) ∧ gA (lenT c k d) = gA (lenT c k (d.extract 0 (k - 4))) ∧ gL (lenT c k d) = gL (lenT c k (d.extract 0 (k - 4))) ∧
      (gE (lenT c k (d.extract 0 (k - 4))) = 0 ∨ gE (lenT c k (d.extract 0 (k - 4))) = 900) := by
  obtain ⟨a, b, g, f⟩ := len_facts c k d (by omega) hk
  obtain ⟨a', b', g', f'⟩ := len_facts c k (d.extract 0 (k - 4)) (by omega) hk
  have hs : (d.extract 0 (k - 4)).size = k - 4 := by rw [size_ext]; omega
  have hr : bResp (c : Int) = false := by rw [resp_nat c hc.1 hc.2, decide_eq_false hodd]
  have hb := len_body c k d (by omega) hk h1 hr
  have hb' := len_body c k (d.extract 0 (k - 4)) (by omega) hk h1 hr
  have hx := ext_all (d.extract 0 (k - 4)) (k - 4) (by omega)
  rw [hx] at hb'
  have hm : bMay (c : Int) 3 = true := by unfold bMay; exact decide_eq_true (by omega)
  have hl : gLeast (lenT c k d) = 4 := by unfold gLeast; rw [a, hr]; rfl
  have hl' : gLeast (lenT c k (d.extract 0 (k - 4))) = 4 := by unfold gLeast; rw [a', hr]; rfl
  have n1 : gBad (lenT c k d) = false := gBad_no (by omega) (by rw [a, b]; exact hm) (by rw [g, hl]; omega)
  have n2 : gBad (lenT c k (d.extract 0 (k - 4))) = false := gBad_no (by omega) (by rw [a', b']; exact hm) (by rw [g', hl']; omega)
  have e1 : gE (lenT c k d) = gE (lenT c k (d.extract 0 (k - 4))) := by unfold gE; rw [n1, n2, hb, hb', g, g']
  refine ⟨e1, ?_, ?_, ?_, ?_, ?_⟩
  · unfold gC; rw [e1, a, a']
  · unfold gI; rw [e1, b, b']
  · unfold gA; rw [a, a', hr]; simp
  · unfold gL; rw [e1, hb, hb']
  · unfold gE; rw [n2, g', if_neg (by simp), if_neg (by omega : ¬ 2048 < k)]
    by_cases h : uE (gBody (lenT c k (d.extract 0 (k - 4)))) = 400
    · rw [if_pos h]; exact .inr rfl
    · rw [if_neg h]; exact .inl rfl
set_option maxRecDepth 100000 in
set_option maxHeartbeats 1000000 in
theorem lengths_bad1 (code length : Int) (s d : ByteArray) (w : World) (m k : Nat) (hm : (IntKind.u64.wrap code).tmod 4 = (m : Int)) (hm1 : m < 4) (hk : bits .and .i64 length 63 = (k : Int)) (hk1 : k < 64)
    (c : Nat) (hc : 1 + 2 * (m : Int) = (c : Int)) (hs : (s.size ≤ 60 ∧ d = s) ∨ (60 < s.size ∧ s.extract 0 60 = d)) (hlen : d.size ≤ 60) (hf : ¬ (4 ≤ k ∧ k ≤ d.size + 4)) :
    Calls Try.prog 5 #[.int .i64 code, .int .i64 length, .string s] w fun e w' => e = .returned (.bool true) ∧ Below w.heap.size w w' := by
  have hT : strOfNums [(c : Int), 3, 0, (k : Int)] ++ d = lenT c k d := rfl
  have hc6 : c ≤ 7 := by omega
  have R := Lib.hid (len_bad c k d (by omega) (by omega) (by omega))
  rcases hs with ⟨hs, rfl⟩ | ⟨hs, hd⟩
  all_goals
    go_enter Try.func5, Try.ntmps5
    go_wp2_with (first | (go_at_call 8; refine (num_any _ _).mono ?_; rintro e w' ⟨rfl, rfl⟩))
    refine (awake_any _).mono ?_
    rintro e w1 ⟨rfl, hb1⟩
    have hz1 := hb1.size
    go_wp2_with (first | (go_at_call 8; refine (num_any _ _).mono ?_; rintro e w' ⟨rfl, rfl⟩))
    refine (bapget_any _ _).mono ?_
    rintro e w2 ⟨A2, cap2, rfl, hown2, hb2⟩
    rw [R.out.1, R.out.2.1, R.out.2.2.1, R.out.2.2.2.1, R.out.2.2.2.2]
    clear hown2
    have hz2 := hb2.size
    simp at hz2
    have bel2 : Below w.heap.size w w2 := (hb1.alloc hz1 _).trans (hb2.mono (by simp; omega))
    go_wp2_with (first | (go_at_call 8; refine (num_any _ _).mono ?_; rintro e w' ⟨rfl, rfl⟩))
    all_goals
      refine (sameb_any _ _ _ _ _ _ _ _ _ _ _ (OptsAt.nil _ _) (OptsAt.nil _ _) (by omega)).mono ?_
      rintro e w3 ⟨rfl, hb3⟩
      go_wp2_with (first | (go_at_call 8; refine (num_any _ _).mono ?_; rintro e w' ⟨rfl, rfl⟩))
      go_ret
      exact ⟨by simp, (bel2.alloc (by omega) _).trans (hb3.mono (by simp; omega))⟩
end Go.Proofs.Ythhbgokjalmmpaa
