/- The packets of the law ControlLengths, and its walk where the length is bad. No condition. -/
import Derived.Test.YtmonkjogonjflaaCtlBack
namespace Go.Proofs.Ytmonkjogonjflaa
open Go.RowKit
set_option linter.unusedVariables false
set_option linter.unusedSimpArgs false
attribute [local go_sem] conv1 conv1d conv1n conv1a conv1ad conv1an conv2 conv2d conv2n conv2a conv2ad conv2an conv4 conv4d conv4n conv4a conv4ad conv4an conv5 conv5d conv5n conv5a conv5ad conv5an size_nums byt_fold
def lenT (c k : Nat) (d : ByteArray) : ByteArray := strOfNums [(c : Int), 9, 0, (k : Int)] ++ d
theorem len_facts (c k : Nat) (d : ByteArray) (hc : c ≤ 255) (hk : k ≤ 255) : byt (lenT c k d) 0 = c ∧ byt (lenT c k d) 1 = 9 ∧ gN (lenT c k d) = k ∧ (lenT c k d).size = 4 + d.size := by
  unfold lenT gN
  refine ⟨?_, ?_, ?_, ?_⟩
  · rw [byt_app_l _ _ _ (by rw [size_nums]; simp), byt_nums _ _ (by simp) (by simp) (by simp; omega)]; rfl
  · rw [byt_app_l _ _ _ (by rw [size_nums]; simp), byt_nums _ _ (by simp) (by simp) (by simp)]; rfl
  · rw [byt_app_l _ _ _ (by rw [size_nums]; simp), byt_app_l _ _ _ (by rw [size_nums]; simp), byt_nums _ _ (by simp) (by simp) (by simp), byt_nums _ _ (by simp) (by simp) (by simp; omega)]; simp
  · rw [size_app, size_nums]; rfl
theorem len_bad (c k : Nat) (d : ByteArray) (hc : c ≤ 255) (hk : k ≤ 255) (h : k < 4 ∨ d.size + 4 < k) :
    kE (lenT c k d) = 501 ∧ kCode (lenT c k d) = 0 ∧ kId (lenT c k d) = 0 ∧ kL (lenT c k d) = [] ∧ kD (lenT c k d) = ⟨#[]⟩ := by
  obtain ⟨a, b, g, f⟩ := len_facts c k d hc hk
  have e : kE (lenT c k d) = 501 := kE_501 (by omega) (by rw [g, f]; omega)
  have h0 : ¬ kE (lenT c k d) = 0 := by rw [e]; decide
  refine ⟨e, ?_, ?_, ?_, ?_⟩
  · unfold kCode; rw [if_neg h0]
  · unfold kId; rw [if_neg h0]
  · unfold kL; rw [if_neg (fun x => h0 x.1)]
  · unfold kD; rw [if_neg (fun x => h0 x.1)]
theorem len_ok (c k : Nat) (d : ByteArray) (hc : c ≤ 255) (hc5 : 5 ≤ c) (hk : k ≤ 255) (h1 : 4 ≤ k) (h2 : k ≤ d.size + 4) :
    kE (lenT c k d) = 0 ∧ kCode (lenT c k d) = c ∧ kId (lenT c k d) = 9 ∧ kL (lenT c k d) = [] ∧ kD (lenT c k d) = d.extract 0 (k - 4) := by
  obtain ⟨a, b, g, f⟩ := len_facts c k d hc hk
  have hcf : confB (byt (lenT c k d) 0) = false := by rw [a]; unfold confB; exact decide_eq_false (by omega)
  have e : kE (lenT c k d) = 0 := kE_0 (by omega) (by rw [g, f]; omega) (by rw [g]; omega) (.inl hcf)
  refine ⟨e, ?_, ?_, ?_, ?_⟩
  · unfold kCode; rw [if_pos e]; exact a
  · unfold kId; rw [if_pos e]; exact b
  · unfold kL; rw [hcf]; simp
  · unfold kD; rw [if_pos ⟨e, hcf⟩]
    unfold kBody; rw [g]; unfold lenT
    rw [ext_app_r _ _ _ _ (by rw [size_nums]; simp), size_nums]
    congr 1
set_option maxRecDepth 100000 in
set_option maxHeartbeats 1000000 in
theorem lengths_bad1 (code length : Int) (s d : ByteArray) (w : World) (m k : Nat) (hm : bits .and .i64 code 63 = (m : Int)) (hm1 : m < 64) (hk : bits .and .i64 length 255 = (k : Int)) (hk1 : k < 256)
    (c : Nat) (hc : 5 + (m : Int) = (c : Int)) (hs : s.size ≤ 200) (hd : d = s) (hlen : d.size ≤ 200) (hf : ¬ (4 ≤ k ∧ k ≤ d.size + 4)) :
    Calls Try.prog 5 #[.int .i64 code, .int .i64 length, .string s] w fun e w' => e = .returned (.bool true) ∧ Below w.heap.size w w' := by
  have hT : strOfNums [(c : Int), 9, 0, (k : Int)] ++ d = lenT c k d := rfl
  have hc5 : 5 ≤ c := by omega
  have hc6 : c ≤ 68 := by omega
  have R := Lib.hid (len_bad c k d (by omega) (by omega) (by omega))
  subst hd
  go_enter Try.func5, Try.ntmps5
  go_wp2_with (first | (go_at_call 13; refine (num_any _ _).mono ?_; rintro e w' ⟨rfl, rfl⟩))
  refine (awake_any _).mono ?_
  rintro e w1 ⟨rfl, hb1⟩
  have hz1 := hb1.size
  go_wp2_with (first | (go_at_call 13; refine (num_any _ _).mono ?_; rintro e w' ⟨rfl, rfl⟩))
  refine (ctlget_any _ _).mono ?_
  rintro e w2 ⟨A2, cap2, rfl, hown2, hb2⟩
  rw [R.out.1, R.out.2.1, R.out.2.2.1, R.out.2.2.2.1, R.out.2.2.2.2]
  clear hown2
  have hz2 := hb2.size
  simp at hz2
  have bel2 : Below w.heap.size w w2 := (hb1.alloc hz1 _).trans (hb2.mono (by simp; omega))
  go_wp2_with (first | (go_at_call 13; refine (num_any _ _).mono ?_; rintro e w' ⟨rfl, rfl⟩))
  all_goals
    refine (samep_any _ _ _ _ _ _ _ _ _ _ _ (OptsAt.nil _ _) (OptsAt.nil _ _) (by omega)).mono ?_
    rintro e w3 ⟨rfl, hb3⟩
    go_wp2_with (first | (go_at_call 13; refine (num_any _ _).mono ?_; rintro e w' ⟨rfl, rfl⟩))
    go_ret
    exact ⟨by simp, (bel2.alloc (by omega) _).trans (hb3.mono (by simp; omega))⟩
set_option maxRecDepth 100000 in
set_option maxHeartbeats 1000000 in
theorem lengths_bad2 (code length : Int) (s d : ByteArray) (w : World) (m k : Nat) (hm : bits .and .i64 code 63 = (m : Int)) (hm1 : m < 64) (hk : bits .and .i64 length 255 = (k : Int)) (hk1 : k < 256)
    (c : Nat) (hc : 5 + (m : Int) = (c : Int)) (hs : 200 < s.size) (hd : s.extract 0 200 = d) (hlen : d.size ≤ 200) (hf : ¬ (4 ≤ k ∧ k ≤ d.size + 4)) :
    Calls Try.prog 5 #[.int .i64 code, .int .i64 length, .string s] w fun e w' => e = .returned (.bool true) ∧ Below w.heap.size w w' := by
  have hT : strOfNums [(c : Int), 9, 0, (k : Int)] ++ d = lenT c k d := rfl
  have hc5 : 5 ≤ c := by omega
  have hc6 : c ≤ 68 := by omega
  have R := Lib.hid (len_bad c k d (by omega) (by omega) (by omega))
  go_enter Try.func5, Try.ntmps5
  go_wp2_with (first | (go_at_call 13; refine (num_any _ _).mono ?_; rintro e w' ⟨rfl, rfl⟩))
  refine (awake_any _).mono ?_
  rintro e w1 ⟨rfl, hb1⟩
  have hz1 := hb1.size
  go_wp2_with (first | (go_at_call 13; refine (num_any _ _).mono ?_; rintro e w' ⟨rfl, rfl⟩))
  refine (ctlget_any _ _).mono ?_
  rintro e w2 ⟨A2, cap2, rfl, hown2, hb2⟩
  rw [R.out.1, R.out.2.1, R.out.2.2.1, R.out.2.2.2.1, R.out.2.2.2.2]
  clear hown2
  have hz2 := hb2.size
  simp at hz2
  have bel2 : Below w.heap.size w w2 := (hb1.alloc hz1 _).trans (hb2.mono (by simp; omega))
  go_wp2_with (first | (go_at_call 13; refine (num_any _ _).mono ?_; rintro e w' ⟨rfl, rfl⟩))
  all_goals
    refine (samep_any _ _ _ _ _ _ _ _ _ _ _ (OptsAt.nil _ _) (OptsAt.nil _ _) (by omega)).mono ?_
    rintro e w3 ⟨rfl, hb3⟩
    go_wp2_with (first | (go_at_call 13; refine (num_any _ _).mono ?_; rintro e w' ⟨rfl, rfl⟩))
    go_ret
    exact ⟨by simp, (bel2.alloc (by omega) _).trans (hb3.mono (by simp; omega))⟩
end Go.Proofs.Ytmonkjogonjflaa
