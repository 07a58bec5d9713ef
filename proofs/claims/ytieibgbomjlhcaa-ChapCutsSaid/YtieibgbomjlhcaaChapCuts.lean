/- The walk of the law ChapCuts: it returns true. No condition. -/
import Derived.Test.YtieibgbomjlhcaaChapLaws
import Derived.Test.YtieibgbomjlhcaaChapPlain
namespace Go.Proofs.Ytieibgbomjlhcaa
open Go.RowKit
set_option linter.unusedVariables false
set_option linter.unusedSimpArgs false
attribute [local go_sem] conv1 conv1d conv1n conv1a conv1ad conv1an conv2 conv2d conv2n conv2a conv2ad conv2an conv4 conv4d conv4n conv4a conv4ad conv4an conv5 conv5d conv5n conv5a conv5ad conv5an size_nums byt_fold
def cutT (k v : Nat) (d : ByteArray) : ByteArray := strOfNums [1, 5, 0, (k : Int), (v : Int)] ++ d
theorem cut_facts (k v : Nat) (d : ByteArray) (hk : k < 128) (hv : v < 64) : byt (cutT k v d) 0 = 1 ∧ byt (cutT k v d) 1 = 5 ∧ gN (cutT k v d) = k ∧ gV (cutT k v d) = v ∧ (cutT k v d).size = 5 + d.size := by
  unfold cutT gN gV
  refine ⟨?_, ?_, ?_, ?_, ?_⟩
  · rw [byt_app_l _ _ _ (by rw [size_nums]; simp), byt_nums _ _ (by simp) (by simp) (by simp)]; rfl
  · rw [byt_app_l _ _ _ (by rw [size_nums]; simp), byt_nums _ _ (by simp) (by simp) (by simp)]; rfl
  · rw [byt_app_l _ _ _ (by rw [size_nums]; simp), byt_app_l _ _ _ (by rw [size_nums]; simp), byt_nums _ _ (by simp) (by simp) (by simp), byt_nums _ _ (by simp) (by simp) (by simp; omega)]; simp
  · rw [byt_app_l _ _ _ (by rw [size_nums]; simp), byt_nums _ _ (by simp) (by simp) (by simp; omega)]; simp
  · rw [size_app, size_nums]; rfl
theorem cut_bad (k v : Nat) (d : ByteArray) (hk : k < 128) (hv : v < 64) (h : k < 5 ∨ d.size + 5 < k ∨ v = 0 ∨ k < v + 5) :
    gE (cutT k v d) = 600 ∧ gCode (cutT k v d) = 0 ∧ gId (cutT k v d) = 0 ∧ gVal (cutT k v d) = ⟨#[]⟩ ∧ gNm (cutT k v d) = ⟨#[]⟩ := by
  obtain ⟨a, b, c, e, f⟩ := cut_facts k v d hk hv
  have bad : gBad (cutT k v d) = true := by
    by_cases h2 : 5 + d.size < k
    · exact gBad_yes (.inr (.inr (.inr (.inr (by rw [c, f]; exact h2)))))
    · exact gBad_yes2 (by rw [a]; rfl) (by rw [c, e]; omega)
  have e6 : gE (cutT k v d) = 600 := by unfold gE; rw [bad]; rfl
  refine ⟨e6, ?_, ?_, ?_, ?_⟩
  · unfold gCode; rw [e6]; rfl
  · unfold gId; rw [e6]; rfl
  · unfold gVal; rw [e6]; simp
  · unfold gNm; rw [e6]; rfl
theorem cut_ok (k v : Nat) (d : ByteArray) (hk : k < 128) (hv : v < 64) (h1 : 5 ≤ k) (h2 : k ≤ d.size + 5) (h3 : 0 < v) (h4 : v + 5 ≤ k) :
    gE (cutT k v d) = 0 ∧ gCode (cutT k v d) = 1 ∧ gId (cutT k v d) = 5 ∧ gVal (cutT k v d) = d.extract 0 v ∧ gNm (cutT k v d) = d.extract v (k - 5) := by
  obtain ⟨a, b, c, e, f⟩ := cut_facts k v d hk hv
  have hval : valB (byt (cutT k v d) 0) = true := by rw [a]; rfl
  have bad : gBad (cutT k v d) = false := gBad_no (by rw [a, c, f]; omega) (.inr (by rw [c, e]; omega))
  have hfr : gFrom (cutT k v d) = 5 + v := by unfold gFrom; rw [hval, e]; rfl
  have e0 : gE (cutT k v d) = 0 := by unfold gE; rw [bad, if_neg (by simp), if_neg (by omega)]
  refine ⟨e0, ?_, ?_, ?_, ?_⟩
  · unfold gCode; rw [if_pos e0]; exact a
  · unfold gId; rw [if_pos e0]; exact b
  · unfold gVal; rw [if_pos ⟨e0, hval⟩, e]
    unfold cutT
    rw [ext_app_r _ _ _ _ (by rw [size_nums]; simp), size_nums]
    congr 1; simp
  · unfold gNm; rw [if_pos e0, hfr, c]
    unfold cutT
    rw [ext_app_r _ _ _ _ (by rw [size_nums]; simp), size_nums]
    congr 1; simp
set_option maxHeartbeats 1000000 in
theorem cuts_go (length size : Int) (s d : ByteArray) (w : World) (k v : Nat) (hk : bits .and .i64 length 127 = (k : Int)) (hk1 : k < 128) (hv : bits .and .i64 size 63 = (v : Int)) (hv1 : v < 64)
    (hd : (s.size ≤ 100 ∧ d = s) ∨ (100 < s.size ∧ d = s.extract 0 100)) (hlen : d.size ≤ 100) :
    Calls Try.prog 6 #[.int .i64 length, .int .i64 size, .string s] w fun e w' => e = .returned (.bool true) ∧ Below w.heap.size w w' := by
  have hT : strOfNums [1, 5, 0, (k : Int), (v : Int)] ++ d = cutT k v d := rfl
  by_cases hf : 5 ≤ k ∧ k ≤ d.size + 5 ∧ 0 < v ∧ v + 5 ≤ k
  · obtain ⟨h1, h2, h3, h4⟩ := hf
    obtain ⟨r1, r2, r3, r4, r5⟩ := cut_ok k v d hk1 hv1 h1 h2 h3 h4
    have hb : ((v : Int) == 0) = false := by simp; omega
    have x1 : IntKind.i64.wrap ((k : Int) - 5) = ((k - 5 : Nat) : Int) := by rw [IntWalk.i64_in _ (by omega)]; omega
    have X1 := Lib.hid x1; clear x1
    have x2 : (0 : Int) ≤ (v : Int) := by omega
    have x3 : (v : Int) ≤ ((k - 5 : Nat) : Int) := by omega
    have x6 : k - 5 ≤ 100 := by omega
    rcases hd with ⟨hn, rfl⟩ | ⟨hn, rfl⟩
    · have x4 : ((k - 5 : Nat) : Int) ≤ (d.size : Int) := by omega
      have x5 : (v : Int) ≤ (d.size : Int) := by omega
      go_enter Try.func6, Try.ntmps6
      (go_wp2_with (first | (go_at_call 12; refine (num_any _ _).mono ?_; rintro e w' ⟨rfl, rfl⟩)); refine (awake_any _).mono ?_; rintro e w1 ⟨rfl, hb1⟩; obtain ⟨hc1, hf1⟩ := bcell hb1; have hz1 := hb1.size; try simp at hz1)
      (go_wp2_with (first | (go_at_call 12; refine (num_any _ _).mono ?_; rintro e w' ⟨rfl, rfl⟩)); refine (get_any _ _).mono ?_; rintro e w2 ⟨rfl, hb2⟩; obtain ⟨hc2, hf2⟩ := bcell hb2; have hz2 := hb2.size; try simp at hz2)
      go_wp2_with (first | (go_at_call 12; refine (num_any _ _).mono ?_; rintro e w' ⟨rfl, rfl⟩))
      have x1 := X1.out
      go_quiet ((go_at_call 12; exact Calls.quiet_of_same ((num_any _ _).mono (fun e w' h => ⟨h.1, h.2.symm⟩))))
      go_wp2
      go_ret
      exact ⟨rfl, (by repeat' (first | (with_reducible exact Below.refl _ _) | (with_reducible apply Below.drew) | (with_reducible apply below_drewN) | (with_reducible apply Below.setCell) | (with_reducible apply Below.alloc) | (with_reducible refine below_step ?_ (by assumption) ?_) | omega | (simp; done) | (simp; omega)))⟩
    · have hsz : (s.extract 0 100).size = 100 := by rw [size_ext]; omega
      simp only [hsz] at h2
      have x4 : ((k - 5 : Nat) : Int) ≤ 100 := by omega
      have x5 : (v : Int) ≤ 100 := by omega
      go_enter Try.func6, Try.ntmps6
      (go_wp2_with (first | (go_at_call 12; refine (num_any _ _).mono ?_; rintro e w' ⟨rfl, rfl⟩)); refine (awake_any _).mono ?_; rintro e w1 ⟨rfl, hb1⟩; obtain ⟨hc1, hf1⟩ := bcell hb1; have hz1 := hb1.size; try simp at hz1)
      (go_wp2_with (first | (go_at_call 12; refine (num_any _ _).mono ?_; rintro e w' ⟨rfl, rfl⟩)); refine (get_any _ _).mono ?_; rintro e w2 ⟨rfl, hb2⟩; obtain ⟨hc2, hf2⟩ := bcell hb2; have hz2 := hb2.size; try simp at hz2)
      go_wp2_with (first | (go_at_call 12; refine (num_any _ _).mono ?_; rintro e w' ⟨rfl, rfl⟩))
      have x1 := X1.out
      go_quiet ((go_at_call 12; exact Calls.quiet_of_same ((num_any _ _).mono (fun e w' h => ⟨h.1, h.2.symm⟩))))
      go_wp2
      go_ret
      exact ⟨rfl, (by repeat' (first | (with_reducible exact Below.refl _ _) | (with_reducible apply Below.drew) | (with_reducible apply below_drewN) | (with_reducible apply Below.setCell) | (with_reducible apply Below.alloc) | (with_reducible refine below_step ?_ (by assumption) ?_) | omega | (simp; done) | (simp; omega)))⟩
  · have hf2 : k < 5 ∨ d.size + 5 < k ∨ v = 0 ∨ k < v + 5 := by omega
    obtain ⟨r1, r2, r3, r4, r5⟩ := cut_bad k v d hk1 hv1 hf2
    have hf3 : k < 5 ∨ (5 ≤ k ∧ d.size + 5 < k) ∨ (5 ≤ k ∧ k ≤ d.size + 5 ∧ v ≤ 0) ∨ (5 ≤ k ∧ k ≤ d.size + 5 ∧ 0 < v ∧ k < v + 5) := by omega
    clear hf hf2
    have hb : ((v : Int) == 0) = decide (v ≤ 0) := by
      by_cases h : v ≤ 0
      · rw [decide_eq_true h]; simp; omega
      · rw [decide_eq_false h]; simp; omega
    rcases hd with ⟨hn, rfl⟩ | ⟨hn, rfl⟩
    all_goals
      try simp only [show (s.extract 0 100).size = 100 from by rw [size_ext]; omega] at hf3
      rcases hf3 with f | ⟨f1, f2⟩ | ⟨f1, f2, f3⟩ | ⟨f1, f2, f3, f4⟩
      · clear hb
        go_enter Try.func6, Try.ntmps6
        (go_wp2_with (first | (go_at_call 12; refine (num_any _ _).mono ?_; rintro e w' ⟨rfl, rfl⟩)); refine (awake_any _).mono ?_; rintro e w1 ⟨rfl, hb1⟩; obtain ⟨hc1, hf1⟩ := bcell hb1; have hz1 := hb1.size; try simp at hz1)
        (go_wp2_with (first | (go_at_call 12; refine (num_any _ _).mono ?_; rintro e w' ⟨rfl, rfl⟩)); refine (get_any _ _).mono ?_; rintro e w2 ⟨rfl, hb2⟩; obtain ⟨hc2, hf2⟩ := bcell hb2; have hz2 := hb2.size; try simp at hz2)
        go_wp2_with (first | (go_at_call 12; refine (num_any _ _).mono ?_; rintro e w' ⟨rfl, rfl⟩))
        go_ret
        exact ⟨rfl, (by repeat' (first | (with_reducible exact Below.refl _ _) | (with_reducible apply Below.drew) | (with_reducible apply below_drewN) | (with_reducible apply Below.setCell) | (with_reducible apply Below.alloc) | (with_reducible refine below_step ?_ (by assumption) ?_) | omega | (simp; done) | (simp; omega)))⟩
      · clear hb
        go_enter Try.func6, Try.ntmps6
        (go_wp2_with (first | (go_at_call 12; refine (num_any _ _).mono ?_; rintro e w' ⟨rfl, rfl⟩)); refine (awake_any _).mono ?_; rintro e w1 ⟨rfl, hb1⟩; obtain ⟨hc1, hf1⟩ := bcell hb1; have hz1 := hb1.size; try simp at hz1)
        (go_wp2_with (first | (go_at_call 12; refine (num_any _ _).mono ?_; rintro e w' ⟨rfl, rfl⟩)); refine (get_any _ _).mono ?_; rintro e w2 ⟨rfl, hb2⟩; obtain ⟨hc2, hf2⟩ := bcell hb2; have hz2 := hb2.size; try simp at hz2)
        go_wp2_with (first | (go_at_call 12; refine (num_any _ _).mono ?_; rintro e w' ⟨rfl, rfl⟩))
        go_ret
        exact ⟨rfl, (by repeat' (first | (with_reducible exact Below.refl _ _) | (with_reducible apply Below.drew) | (with_reducible apply below_drewN) | (with_reducible apply Below.setCell) | (with_reducible apply Below.alloc) | (with_reducible refine below_step ?_ (by assumption) ?_) | omega | (simp; done) | (simp; omega)))⟩
      · rw [decide_eq_true f3] at hb
        go_enter Try.func6, Try.ntmps6
        (go_wp2_with (first | (go_at_call 12; refine (num_any _ _).mono ?_; rintro e w' ⟨rfl, rfl⟩)); refine (awake_any _).mono ?_; rintro e w1 ⟨rfl, hb1⟩; obtain ⟨hc1, hf1⟩ := bcell hb1; have hz1 := hb1.size; try simp at hz1)
        (go_wp2_with (first | (go_at_call 12; refine (num_any _ _).mono ?_; rintro e w' ⟨rfl, rfl⟩)); refine (get_any _ _).mono ?_; rintro e w2 ⟨rfl, hb2⟩; obtain ⟨hc2, hf2⟩ := bcell hb2; have hz2 := hb2.size; try simp at hz2)
        go_wp2_with (first | (go_at_call 12; refine (num_any _ _).mono ?_; rintro e w' ⟨rfl, rfl⟩))
        go_ret
        exact ⟨rfl, (by repeat' (first | (with_reducible exact Below.refl _ _) | (with_reducible apply Below.drew) | (with_reducible apply below_drewN) | (with_reducible apply Below.setCell) | (with_reducible apply Below.alloc) | (with_reducible refine below_step ?_ (by assumption) ?_) | omega | (simp; done) | (simp; omega)))⟩
      · rw [decide_eq_false (by omega)] at hb
        go_enter Try.func6, Try.ntmps6
        (go_wp2_with (first | (go_at_call 12; refine (num_any _ _).mono ?_; rintro e w' ⟨rfl, rfl⟩)); refine (awake_any _).mono ?_; rintro e w1 ⟨rfl, hb1⟩; obtain ⟨hc1, hf1⟩ := bcell hb1; have hz1 := hb1.size; try simp at hz1)
        (go_wp2_with (first | (go_at_call 12; refine (num_any _ _).mono ?_; rintro e w' ⟨rfl, rfl⟩)); refine (get_any _ _).mono ?_; rintro e w2 ⟨rfl, hb2⟩; obtain ⟨hc2, hf2⟩ := bcell hb2; have hz2 := hb2.size; try simp at hz2)
        go_wp2_with (first | (go_at_call 12; refine (num_any _ _).mono ?_; rintro e w' ⟨rfl, rfl⟩))
        go_ret
        exact ⟨rfl, (by repeat' (first | (with_reducible exact Below.refl _ _) | (with_reducible apply Below.drew) | (with_reducible apply below_drewN) | (with_reducible apply Below.setCell) | (with_reducible apply Below.alloc) | (with_reducible refine below_step ?_ (by assumption) ?_) | omega | (simp; done) | (simp; omega)))⟩
theorem chapCuts_walk (length size : Int) (s : ByteArray) (k0 : (Lit.int .i64 length).wf = true) (k1 : (Lit.int .i64 size).wf = true) (k2 : s.size ≤ 140737488351232) (w : World) :
    Calls Try.prog 6 #[.int .i64 length, .int .i64 size, .string s] w fun e w' => e = .returned (.bool true) ∧ Below w.heap.size w w' := by
  obtain ⟨k, hk, hk1, -⟩ := mask_nat 7 (by decide) 127 (by decide) length
  obtain ⟨v, hv, hv1, -⟩ := mask_nat 6 (by decide) 63 (by decide) size
  by_cases hn : s.size ≤ 100
  · exact cuts_go length size s s w k v hk (by omega) hv (by omega) (.inl ⟨hn, rfl⟩) hn
  · exact cuts_go length size s _ w k v hk (by omega) hv (by omega) (.inr ⟨by omega, rfl⟩) (by rw [size_ext]; omega)
end Go.Proofs.Ytieibgbomjlhcaa
