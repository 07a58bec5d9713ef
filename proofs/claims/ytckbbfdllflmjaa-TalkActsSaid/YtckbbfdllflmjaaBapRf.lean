/- The reference's Bap: which code. No condition but memory's own limits. -/
import Derived.Test.YtckbbfdllflmjaaBapPut
import Derived.Test.YtckbbfdllflmjaaOptRef
import Derived.Test.YtckbbfdllflmjaaTwo
import Derived.BigRegion
import Derived.Deep.RegionWith
namespace Go.Proofs.Ytckbbfdllflmjaa
open Go.RowKit
set_option linter.unusedVariables false
set_option linter.unusedSimpArgs false
attribute [local go_sem] conv1 conv1d conv1n conv1a conv1ad conv1an conv2 conv2d conv2n conv2a conv2ad conv2an conv4 conv4d conv4n conv4a conv4ad conv4an conv5 conv5d conv5n conv5a conv5ad conv5an size_nums byt_fold
attribute [local go_sem high] run_string_add_sum
def BapRf (c i a : Int) (os : List (Int × ByteArray)) (w : World) (e : Ending) (w' : World) : Prop :=
  ∃ s, e = .returned (.tuple #[.string s, .int .i64 (bE c i a os)]) ∧ Below w.heap.size w w'
theorem bapRf_900 {c i a : Int} {os : List (Int × ByteArray)} {w w' : World} (hb : Below w.heap.size w w') (h : bGood c i a os = false) : BapRf c i a os w (.returned (.tuple #[.string ⟨#[]⟩, .int .i64 900])) w' := ⟨_, by unfold bE; rw [h]; rfl, hb⟩
theorem par_bit (c : Int) (h : 1 ≤ c) : ∃ p : Int, bits .and .i64 c 1 = p ∧ (p == 0) = bResp c := by
  refine ⟨c % 2, i64_mask 1 (by decide) c, ?_⟩
  unfold bResp
  rw [Int.tmod_eq_emod_of_nonneg (by omega)]
  rfl
set_option maxRecDepth 100000 in
set_option maxHeartbeats 1000000 in
theorem rbap_a (c i a : Int) (A : Option Addr) (n cap : Nat) (os : List (Int × ByteArray)) (w : World) (h : c < 1 ∨ (1 ≤ c ∧ 8 < c) ∨ (1 ≤ c ∧ c ≤ 8 ∧ i < 0) ∨ (1 ≤ c ∧ c ≤ 8 ∧ 0 ≤ i ∧ 255 < i) ∨ (1 ≤ c ∧ c ≤ 8 ∧ 0 ≤ i ∧ i ≤ 255 ∧ a < 0) ∨ (1 ≤ c ∧ c ≤ 8 ∧ 0 ≤ i ∧ i ≤ 255 ∧ 0 ≤ a ∧ 255 < a)) :
    Calls Try.prog 34 #[.agg #[.int .i64 c, .int .i64 i, .int .i64 a, .slice A n cap]] w (BapRf c i a os w) := by
  have hg : bGood c i a os = false := by
    unfold bGood bMay
    rw [Bool.eq_false_iff]
    intro e
    simp only [Bool.and_eq_true, decide_eq_true_eq] at e
    omega
  have G := Lib.hid hg
  clear hg
  rcases h with h1 | ⟨h1, h2⟩ | ⟨h1, h2, h3⟩ | ⟨h1, h2, h3, h4⟩ | ⟨h1, h2, h3, h4, h5⟩ | ⟨h1, h2, h3, h4, h5, h6⟩
  all_goals
    go_enter Try.func34, Try.ntmps34
    go_wp2_with fail
    go_ret2
    exact bapRf_900 (by repeat' (first | (with_reducible exact Below.refl _ _) | (with_reducible apply Below.drew) | (with_reducible apply below_drewN) | (with_reducible apply Below.setCell) | (with_reducible apply Below.alloc) | (with_reducible refine below_step ?_ (by assumption) ?_) | omega | (simp; done) | (simp; omega))) G.out
theorem good_of {c i a : Int} {os : List (Int × ByteArray)} (h1 : 1 ≤ c) (h2 : c ≤ 8) (h3 : 0 ≤ i) (h4 : i ≤ 255) (h5 : 0 ≤ a) (h6 : a ≤ 255) (h7 : bResp c = true ∨ a = 0) (h8 : oE os = 0) : bGood c i a os = true := by
  unfold bGood bMay
  simp only [Bool.and_eq_true, Bool.or_eq_true, decide_eq_true_eq]
  exact ⟨⟨⟨⟨h1, h2, h3, h4⟩, h5, h6⟩, h7⟩, h8⟩
theorem bad_opts {c i a : Int} {os : List (Int × ByteArray)} (h8 : ¬ oE os = 0) : bGood c i a os = false := by
  unfold bGood
  rw [decide_eq_false h8, Bool.and_false]
set_option maxRecDepth 100000 in
set_option maxHeartbeats 1000000 in
theorem rbap_b (c i a : Int) (A : Option Addr) (n cap : Nat) (os : List (Int × ByteArray)) (w : World) (hv : OptsAt w A n os) (hn : n ≤ 9223372036854775807) (ho : ∀ o ∈ os, o.2.size ≤ 140737488351232) (h1 : 1 ≤ c) (h2 : c ≤ 8) (h3 : 0 ≤ i) (h4 : i ≤ 255) (h5 : 0 ≤ a) (h6 : a ≤ 255) (h7 : bResp c = false) (h8 : ¬ a = 0) :
    Calls Try.prog 34 #[.agg #[.int .i64 c, .int .i64 i, .int .i64 a, .slice A n cap]] w (BapRf c i a os w) := by
  have hg : bGood c i a os = false := by
    unfold bGood
    rw [h7, decide_eq_false h8]
    simp
  have G := Lib.hid hg
  obtain ⟨p, hp, hp2⟩ := par_bit c h1
  rw [h7] at hp2
  have ha : (a != 0) = true := by simpa using h8
  clear hg h7 hv h8
  go_enter Try.func34, Try.ntmps34
  go_wp2_with fail
  go_ret2
  exact bapRf_900 (by repeat' (first | (with_reducible exact Below.refl _ _) | (with_reducible apply Below.drew) | (with_reducible apply below_drewN) | (with_reducible apply Below.setCell) | (with_reducible apply Below.alloc) | (with_reducible refine below_step ?_ (by assumption) ?_) | omega | (simp; done) | (simp; omega))) G.out
set_option maxRecDepth 100000 in
set_option maxHeartbeats 1000000 in
theorem rbap_o (c i a : Int) (A : Option Addr) (n cap : Nat) (os : List (Int × ByteArray)) (w : World) (hv : OptsAt w A n os) (hn : n ≤ 9223372036854775807) (ho : ∀ o ∈ os, o.2.size ≤ 140737488351232) (h1 : 1 ≤ c) (h2 : c ≤ 8) (h3 : 0 ≤ i) (h4 : i ≤ 255) (h5 : 0 ≤ a) (h6 : a ≤ 255) (h7 : bResp c = true ∨ (bResp c = false ∧ a = 0)) (h8 : ¬ oE os = 0) :
    Calls Try.prog 34 #[.agg #[.int .i64 c, .int .i64 i, .int .i64 a, .slice A n cap]] w (BapRf c i a os w) := by
  have G := Lib.hid (bad_opts (c := c) (i := i) (a := a) h8)
  obtain ⟨p, hp, hp2⟩ := par_bit c h1
  have HV := Lib.hid (hv.keep ((Below.refl w.heap.size w).alloc (Nat.le_refl _) (.cells #[.int .i64 c, .int .i64 i, .int .i64 a, .slice A n cap] 34)))
  have hE : (oE os != 0) = true := by simpa using h8
  have HO := Lib.hid ho
  have HN := Lib.hid hn
  clear hv ho hn
  rcases h7 with h7 | ⟨h7, rfl⟩
  all_goals
    rw [h7] at hp2
    clear h7
    go_enter Try.func34, Try.ntmps34
    go_wp2_with fail
    refine (ropts_any A n cap os _ HV.out HN.out HO.out).mono ?_
    rintro e w1 ⟨rfl, hb1⟩
    go_wp2_with fail
    go_ret2
    exact bapRf_900 (by repeat' (first | (with_reducible exact Below.refl _ _) | (with_reducible apply Below.drew) | (with_reducible apply below_drewN) | (with_reducible apply Below.setCell) | (with_reducible apply Below.alloc) | (with_reducible refine below_step ?_ (by assumption) ?_) | omega | (simp; done) | (simp; omega))) G.out
end Go.Proofs.Ytckbbfdllflmjaa
