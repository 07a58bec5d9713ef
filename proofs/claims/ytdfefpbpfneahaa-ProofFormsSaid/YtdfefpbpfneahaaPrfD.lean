/- What all laws of chapter 16 ask first, and SameChaps where the messages are alike: each returns true. No condition. -/
import Derived.Test.YtdfefpbpfneahaaPrfC
namespace Go.Proofs.Ytdfefpbpfneahaa
open Go.RowKit
set_option linter.unusedVariables false
set_option linter.unusedSimpArgs false
attribute [local go_sem] conv1 conv1d conv1n conv1a conv1ad conv1an conv2 conv2d conv2n conv2a conv2ad conv2an conv4 conv4d conv4n conv4a conv4ad conv4an conv5 conv5d conv5n conv5a conv5ad conv5an size_nums byt_fold
set_option maxRecDepth 100000 in
set_option maxHeartbeats 1000000 in
theorem samec_any (A B : Option Addr) (n cap cap' : Nat) (l : List (Int × Int × ByteArray × ByteArray)) (w : World) (hv : ChapsAt w A n l) (hu : ChapsAt w B n l) (hn : n ≤ 1000000) :
    Calls Try.prog 13 #[.slice A n cap, .slice B n cap'] w fun e w' => e = .returned (.bool true) ∧ Below w.heap.size w w' := by
  have HV := Lib.hid hv; clear hv
  have HU := Lib.hid hu; clear hu
  go_enter Try.func13, Try.ntmps13
  go_wp2_with fail
  go_loopw [5] (fun i wr => ∃ k : Nat, i = .int .i64 k ∧ k ≤ n ∧ Below w.heap.size w wr) (fun i _ => n - (intOf i).toNat)
  case atStart => exact ⟨0, rfl, by omega, Below.refl _ _⟩
  case round =>
    obtain ⟨k, rfl, hkn, hbel⟩ := hrel
    by_cases hlt : k < n
    · obtain ⟨b, off, c, i, v, m, rfl, hb, ho, c1, c2, c3, c4⟩ := (HV.out.keep hbel).at_ k hlt
      obtain ⟨b', off', c', i', v', m', rfl, hb', ho', c1', c2', c3', c4'⟩ := (HU.out.keep hbel).at_ k hlt
      rw [ho] at ho'
      obtain ⟨rfl, rfl, rfl, rfl⟩ : c = c' ∧ i = i' ∧ v = v' ∧ m = m' := by simpa using ho'
      clear ho ho'
      have y1 : (k : Int) < (n : Int) := by omega
      go_wp2_with fail
      go_quiet (fail)
      go_wp2_with fail
      go_roundw
      case rel => exact ⟨k + 1, by go_num, by omega, below_drewN hbel _⟩
      case measure => simp [intOf]; omega
    · go_wp2_with fail
      go_ret
      exact ⟨rfl, hbel⟩

theorem chE_fine {c i : Int} {v n : ByteArray} (hc : c = 1 ∨ c = 2) (hi : 0 ≤ i ∧ i ≤ 255) (hv : 1 ≤ v.size ∧ v.size ≤ 255) (hn : n.size ≤ 253) : chE c i v n = 0 := by
  have h : chFit c i v = true := by
    refine chFit_yes (by omega) (by omega) (by unfold octB; exact decide_eq_true hi) ?_ (by omega)
    rw [nonempty_of v (by omega)]
    rcases hc with rfl | rfl <;> rfl
  unfold chE; rw [h, if_pos rfl, if_pos hn]
def tMe : ByteArray := ⟨#[109, 101]⟩
def tAbc : ByteArray := ⟨#[97, 98, 99]⟩
def tMine : ByteArray := ⟨#[109, 105, 110, 101]⟩
def tIts : ByteArray := ⟨#[105, 116, 115]⟩
def aw0 : PS := ⟨tIts, ⟨#[]⟩, 3, false, false, tMe, tMine, false, false⟩
def aw1 : PS := ⟨tIts, tAbc, 3, true, false, tMe, tMine, false, false⟩
def aw2 : PS := ⟨tIts, tAbc, 3, true, true, tMe, tMine, false, false⟩
theorem tk1 {s : PS} {i : Int} {v n : ByteArray} (h : chE 1 i v n = 0) (hf : s.fl = false) : tL s 1 i v n = [(2, i, md5 (chapT i s.se v), s.nm)] ∧ tE 1 i v n = 0 ∧ tS s 1 i v n = s := by
  refine ⟨?_, ?_, ?_⟩
  · unfold tL; rw [if_pos ⟨h, hf⟩, if_pos rfl]
  · unfold tE; rw [if_pos h]
  · unfold tS; rw [if_pos ⟨h, hf⟩, if_pos rfl]
theorem tk2 {s : PS} {i : Int} {v n : ByteArray} (h : chE 2 i v n = 0) (hf : s.fl = false) : tL s 2 i v n = jL s i v ∧ tE 2 i v n = 0 ∧ tS s 2 i v n = jS s i v := by
  refine ⟨?_, ?_, ?_⟩
  · unfold tL; rw [if_pos ⟨h, hf⟩, if_neg (by decide), if_pos rfl]
  · unfold tE; rw [if_pos h]
  · unfold tS; rw [if_pos ⟨h, hf⟩, if_neg (by decide), if_pos rfl]
theorem aw_take : tL aw1 2 1 (md5 (chapT 1 tIts tAbc)) ⟨#[120]⟩ = [(3, 1, ⟨#[]⟩, tOk)] ∧ tE 2 1 (md5 (chapT 1 tIts tAbc)) ⟨#[120]⟩ = 0 ∧ tS aw1 2 1 (md5 (chapT 1 tIts tAbc)) ⟨#[120]⟩ = aw2 := by
  have h := chE_fine (c := 2) (i := 1) (v := md5 (chapT 1 tIts tAbc)) (n := ⟨#[120]⟩) (.inr rfl) (by omega) (by rw [md5_size]; omega) (by decide)
  obtain ⟨h1, h2, h3⟩ := tk2 (s := aw1) h rfl
  rw [h1, h2, h3]
  refine ⟨?_, rfl, ?_⟩
  · unfold jL; simp [aw1]
  · unfold jS; simp [aw1, aw2]
set_option maxRecDepth 100000 in
set_option maxHeartbeats 1000000 in
theorem awake_any (w : World) : Calls Try.prog 8 #[] w fun e w' => e = .returned (.bool true) ∧ Below w.heap.size w w' := by
  go_enter Try.func8, Try.ntmps8
  go_wp2_with (first | (go_at_call 12; refine (num_any _ _).mono ?_; rintro e w' ⟨rfl, rfl⟩))
  refine (pnew_ok tMe tMine tIts 3 _ (by decide +kernel)).mono ?_
  rintro e w1 ⟨rfl, hp1, hb1⟩
  have hz1 : w.heap.size < w1.heap.size := Blk.lt hp1
  have HP1 := Lib.hid hp1; clear hp1
  go_wp2_with (first | (go_at_call 12; refine (num_any _ _).mono ?_; rintro e w' ⟨rfl, rfl⟩))
  refine (start_any w.heap.size aw0 tAbc _ HP1.out).mono ?_
  rintro e w2 ⟨rfl, hp2, hg2⟩
  have hb2 := below_gr hb1 hg2 (by omega) (Nat.le_refl _)
  have hz2 := hg2.size
  have ev : pStV aw0 tAbc = chV 1 1 tAbc tMe ∧ pStE aw0 tAbc = 0 ∧ pSt aw0 tAbc = aw1 := by
    have h : pStE aw0 tAbc = 0 := by decide +kernel
    refine ⟨by unfold pStV; rw [if_pos h]; rfl, h, by unfold pSt; rw [if_pos h]; rfl⟩
  rw [ev.1, ev.2.1]
  rw [ev.2.2] at hp2
  have HP2 := Lib.hid hp2; clear hp2 ev
  unfold chV
  have hc3 := Blk.new w2 33 (chC 1 1 tAbc tMe)
  have HC3 := Lib.hid hc3; clear hc3
  go_wp2_with (first | (go_at_call 12; refine (num_any _ _).mono ?_; rintro e w' ⟨rfl, rfl⟩))
  refine (rchap_any 1 tIts tAbc _ (by decide) (by decide)).mono ?_
  rintro e w3 ⟨rfl, hb3⟩
  have hz3 := hb3.size
  simp at hz3
  have bel3 : Below w.heap.size w w3 := below_step (hb2.alloc hb2.size _) hb3 (by simp; omega)
  have hp3 : PAt w3 w.heap.size aw1 := Blk.keep (Blk.alloc HP2.out _) hb3
  have hc3 : Blk w3 w2.heap.size 33 (chC 1 1 tAbc tMe) := Blk.keep HC3.out hb3
  have HP3 := Lib.hid hp3; have HC3 := Lib.hid hc3; clear hp3 hc3
  obtain ⟨D, hD⟩ : ∃ D, md5 (chapT 1 tIts tAbc) = D := ⟨_, rfl⟩
  have at1 := aw_take
  rw [hD] at at1 ⊢
  have AT := Lib.hid at1; clear at1
  go_wp2_with (first | (go_at_call 12; refine (num_any _ _).mono ?_; rintro e w' ⟨rfl, rfl⟩))
  refine (take_any w.heap.size aw1 2 1 D ⟨#[120]⟩ _ HP3.out (by decide) (by decide) (by decide)).mono ?_
  rintro e w4 ⟨⟨A4, cap4, rfl, hl4, hA4⟩, hp4, hg4⟩
  rw [AT.out.1] at hl4 ⊢
  rw [AT.out.2.1]
  rw [AT.out.2.2] at hp4
  have hz4 := hg4.size
  have bel4 := below_gr bel3 hg4 (by omega) (Nat.le_refl _)
  have hc4 : Blk w4 w2.heap.size 33 (chC 1 1 tAbc tMe) := Blk.grown HC3.out hg4 (by simp; omega)
  have HP4 := Lib.hid hp4; have HL4 := Lib.hid hl4; have HC4 := Lib.hid hc4; clear hp4 hl4 hc4
  go_wp2_with (first | (go_at_call 12; refine (num_any _ _).mono ?_; rintro e w' ⟨rfl, rfl⟩))
  refine (start_any w.heap.size aw2 tAbc _ HP4.out).mono ?_
  rintro e w5 ⟨rfl, hp5, hg5⟩
  have hz5 := hg5.size
  have bel5 := below_gr bel4 hg5 (by omega) (Nat.le_refl _)
  have hc5 : Blk w5 w2.heap.size 33 (chC 1 1 tAbc tMe) := Blk.grown HC4.out hg5 (by simp; omega)
  have hl5 : ChapsAt w5 A4 1 [(3, 1, ⟨#[]⟩, tOk)] := HL4.out.grown hg5 (hA4.ne (by omega))
  have ev : pStV aw2 tAbc = chV 0 0 ⟨#[]⟩ ⟨#[]⟩ ∧ pStE aw2 tAbc = 1601 ∧ pSt aw2 tAbc = aw2 := by
    have h : pStE aw2 tAbc = 1601 := by decide +kernel
    refine ⟨by unfold pStV; rw [if_neg (by rw [h]; decide)], h, by unfold pSt; rw [if_neg (by rw [h]; decide)]⟩
  rw [ev.1, ev.2.1]
  rw [ev.2.2] at hp5
  unfold chV
  have HP5 := Lib.hid hp5; have HL5 := Lib.hid hl5; have HC5 := Lib.hid hc5; clear hp5 hl5 hc5 ev
  go_wp2_with (first | (go_at_call 12; refine (num_any _ _).mono ?_; rintro e w' ⟨rfl, rfl⟩))
  refine (pnew_bad tMe ⟨#[]⟩ tIts 3 _ (by decide +kernel)).mono ?_
  rintro e w6 ⟨rfl, rfl⟩
  obtain ⟨k0, k1, k2, k3⟩ := chC_cells HC5.out
  change _ = some (Value.string ⟨#[97, 98, 99]⟩) at k2
  change _ = some (Value.string ⟨#[109, 101]⟩) at k3
  have hlt5 := HC5.out.lt
  go_wp2_with (first | (go_at_call 12; refine (num_any _ _).mono ?_; rintro e w' ⟨rfl, rfl⟩))
  refine (samec_any _ _ 1 _ _ [(3, 1, ⟨#[]⟩, tOk)] _ ((HL5.out.keep ((Below.refl _ _).alloc (Nat.le_refl _) _)).keep ((Below.refl _ _).alloc (Nat.le_refl _) _)) (ChapsAt.new_at _ _ (by simp) _ _ _ _) (by omega)).mono ?_
  rintro e w7 ⟨rfl, hb7⟩
  have hp7 : PAt w7 w.heap.size aw2 := Blk.keep (Blk.alloc (Blk.alloc HP5.out _) _) hb7
  have bel7 : Below w.heap.size w w7 := below_step ((bel5.alloc bel5.size _).alloc (by have := bel5.size; simp; omega) _) hb7 (by have := bel5.size; simp; omega)
  have HP7 := Lib.hid hp7; clear hp7
  go_wp2_with (first | (go_at_call 12; refine (num_any _ _).mono ?_; rintro e w' ⟨rfl, rfl⟩) | (go_at_call 15; refine (proved_any _ aw2 _ HP7.out).mono ?_; rintro e w' ⟨rfl, rfl⟩) | (go_at_call 16; refine (taken_any _ aw2 _ HP7.out).mono ?_; rintro e w' ⟨rfl, rfl⟩) | (go_at_call 17; refine (failed_any _ aw2 _ HP7.out).mono ?_; rintro e w' ⟨rfl, rfl⟩))
  go_ret
  exact ⟨rfl, bel7⟩
end Go.Proofs.Ytdfefpbpfneahaa
