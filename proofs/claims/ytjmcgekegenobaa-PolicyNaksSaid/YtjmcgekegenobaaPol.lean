/- What package policy says of links and options, in plain Lean words; the small contracts: unit, size, right, May, number, value. No condition. -/
import Derived.Test.YtjmcgekegenobaaOptSame
import Derived.Test.YtjmcgekegenobaaOptFind
import Derived.Test.YtjmcgekegenobaaBlk
import Derived.Test.YtjmcgekegenobaaCells
import Derived.Test.YtjmcgekegenobaaStill
import Derived.Deep.RegionHeld3
namespace Go.Proofs.Ytjmcgekegenobaa
open Go.RowKit
set_option linter.unusedVariables false
set_option linter.unusedSimpArgs false
attribute [local go_sem] conv1 conv1d conv1n conv1a conv1ad conv1an conv2 conv2d conv2n conv2a conv2ad conv2an conv4 conv4d conv4n conv4a conv4ad conv4an conv5 conv5d conv5n conv5a conv5ad conv5an size_nums byt_fold
structure Lk where
  mru : Int
  magic : Int
  mrru : Int
  short : Bool
  disc : ByteArray
  num : Int
def lkV (l : Lk) : Value := .agg #[.int .i64 l.mru, .int .i64 l.magic, .int .i64 l.mrru, .bool l.short, .string l.disc, .int .i64 l.num]
def lkC (l : Lk) : Array Value := #[.int .i64 l.mru, .int .i64 l.magic, .int .i64 l.mrru, .bool l.short, .string l.disc, .int .i64 l.num]
def unitB (x : Int) : Bool := decide (128 ≤ x) && decide (x ≤ 1500)
def mayB (l : Lk) : Bool := (decide (l.mru = 0) || unitB l.mru) && (decide (l.mrru = 0) || unitB l.mrru) && decide (0 ≤ l.magic) && decide (l.magic ≤ 4294967295) && decide (l.disc.size ≤ 20) && decide (0 ≤ l.num) && decide (l.num ≤ 65535)
def sizeK (k : Int) : Int := if k = 1 ∨ k = 17 ∨ k = 23 then 2 else if k = 5 then 4 else if k = 18 then 0 else if k = 19 then -1 else -2
def rightB (k : Int) (d : ByteArray) : Bool := decide (sizeK k = (d.size : Int)) || (decide (sizeK k = -1) && decide (1 ≤ d.size) && decide (d.size ≤ 20))
/-- The number that the first n bytes are. -/
def beV (s : ByteArray) : Nat → Int
  | 0 => 0
  | n + 1 => beV s n * 256 + byt s n
theorem beV_range (s : ByteArray) : ∀ n : Nat, n ≤ 4 → 0 ≤ beV s n ∧ beV s n < 256 ^ n
  | 0, _ => by simp [beV]
  | n + 1, h => by
    have ih := beV_range s n (by omega)
    have hb := byt_range s n
    have e : (256 : Int) ^ (n + 1) = 256 ^ n * 256 := by rw [Int.pow_succ]
    rw [beV, e]
    constructor
    · omega
    · have : beV s n + 1 ≤ 256 ^ n := by omega
      have := Int.mul_le_mul_of_nonneg_right this (by omega : (0 : Int) ≤ 256)
      omega
def be2 (x : Int) : ByteArray := strOfNums [x / 256, x % 256]
def be4 (x : Int) : ByteArray := strOfNums [x / 16777216, x / 65536 % 256, x / 256 % 256, x % 256]
theorem unit_any (x : Int) (w : World) : Calls Try.prog 30 #[.int .i64 x] w fun e w' => e = .returned (.bool (unitB x)) ∧ w = w' := by
  by_cases h1 : 128 ≤ x <;> by_cases h2 : x ≤ 1500
  all_goals
    go_enter Try.func30, Try.ntmps30
    go_wp2
    go_ret
    exact ⟨by simp [unitB, h1, h2], rfl⟩
theorem size_any (k : Int) (w : World) : Calls Try.prog 22 #[.int .i64 k] w fun e w' => e = .returned (.int .i64 (sizeK k)) ∧ w = w' := by
  by_cases h1 : k = 1
  · subst h1
    go_enter Try.func22, Try.ntmps22
    go_wp2
    go_ret
    exact ⟨rfl, rfl⟩
  by_cases h2 : k = 17
  · subst h2
    go_enter Try.func22, Try.ntmps22
    go_wp2
    go_ret
    exact ⟨rfl, rfl⟩
  by_cases h3 : k = 23
  · subst h3
    go_enter Try.func22, Try.ntmps22
    go_wp2
    go_ret
    exact ⟨rfl, rfl⟩
  by_cases h4 : k = 5
  · subst h4
    go_enter Try.func22, Try.ntmps22
    go_wp2
    go_ret
    exact ⟨rfl, rfl⟩
  by_cases h5 : k = 18
  · subst h5
    go_enter Try.func22, Try.ntmps22
    go_wp2
    go_ret
    exact ⟨rfl, rfl⟩
  by_cases h6 : k = 19
  · subst h6
    go_enter Try.func22, Try.ntmps22
    go_wp2
    go_ret
    exact ⟨rfl, rfl⟩
  have e1 : (k == 1) = false := by simpa using h1
  have e2 : (k == 17) = false := by simpa using h2
  have e3 : (k == 23) = false := by simpa using h3
  have e4 : (k == 5) = false := by simpa using h4
  have e5 : (k == 18) = false := by simpa using h5
  have e6 : (k == 19) = false := by simpa using h6
  have hs : sizeK k = -2 := by unfold sizeK; rw [if_neg (by omega), if_neg h4, if_neg h5, if_neg h6]
  rw [hs]
  clear h1 h2 h3 h4 h5 h6 hs
  go_enter Try.func22, Try.ntmps22
  go_wp2
  go_ret
  exact ⟨rfl, rfl⟩
/-- The number that a text is, as it is reckoned. -/
def valV (s : ByteArray) : Nat → Int
  | 0 => 0
  | n + 1 => bits .or .i64 (wrap64 (valV s n * 256)) (byt s n)
theorem valV_be (s : ByteArray) : ∀ n : Nat, n ≤ 4 → valV s n = beV s n
  | 0, _ => rfl
  | k + 1, h => by
    have hr := beV_range s k (by omega)
    have hb := byt_range s k
    have hp : (256 : Int) ^ k ≤ 16777216 := by rcases (by omega : k = 0 ∨ k = 1 ∨ k = 2 ∨ k = 3) with rfl | rfl | rfl | rfl <;> decide
    rw [valV, beV, valV_be s k (by omega)]
    have hw : wrap64 (beV s k * 256) = beV s k * 256 := IntWalk.wrap64_in _ (by omega)
    rw [hw]
    exact or_join _ _ (by omega) (by omega) (by omega) (by omega) (by omega)
def val (s : ByteArray) : Int := valV s s.size
theorem val_be {s : ByteArray} (h : s.size ≤ 4) : val s = beV s s.size := valV_be s _ h
set_option maxHeartbeats 1000000 in
theorem value_any (s : ByteArray) (w : World) (hz : s.size ≤ 140737488351232) : Calls Try.prog 33 #[.string s] w fun e w' => e = .returned (.int .i64 (val s)) ∧ w = w' := by
  go_enter Try.func33, Try.ntmps33
  go_wp2_with fail
  go_loopw [3, 7] (fun x i wr => ∃ (k : Nat), i = .int .i64 k ∧ x = .int .i64 (valV s k) ∧ k ≤ s.size ∧ w = wr) (fun _ i _ => s.size - (intOf i).toNat)
  case atStart => exact ⟨0, rfl, rfl, by omega, rfl⟩
  case round =>
    obtain ⟨k, rfl, rfl, hk, rfl⟩ := hrel
    by_cases hlt : k < s.size
    · have hb := byt_range s k
      go_wp2_with fail
      go_roundw
      case rel => exact ⟨k + 1, by go_num, rfl, by omega, trivial⟩
      case measure => simp [intOf]; omega
    · obtain rfl : k = s.size := by omega
      go_wp2_with fail
      go_ret
      exact ⟨rfl, rfl⟩
theorem right_any (k : Int) (d : ByteArray) (w : World) : Calls Try.prog 23 #[.agg #[.int .i64 k, .string d]] w fun e w' => e = .returned (.bool (rightB k d)) ∧ Below w.heap.size w w' := by
  obtain ⟨q, hq⟩ : ∃ q, sizeK k = q := ⟨_, rfl⟩
  have hr : rightB k d = (decide (q = (d.size : Int)) || (decide (q = -1) && decide (1 ≤ d.size) && decide (d.size ≤ 20))) := by unfold rightB; rw [hq]
  rw [hr]
  by_cases h1 : q = (d.size : Int)
  · have e1 : (q == (d.size : Int)) = true := by simpa using h1
    go_enter Try.func23, Try.ntmps23
    go_wp2_with fail
    refine (size_any _ _).mono ?_
    rintro e w' ⟨rfl, rfl⟩
    rw [hq]
    go_wp2_with fail
    go_ret
    exact ⟨by simp [h1], (by repeat' (first | (with_reducible exact Below.refl _ _) | (with_reducible apply Below.drew) | (with_reducible apply below_drewN) | (with_reducible apply Below.setCell) | (with_reducible apply Below.alloc) | (with_reducible refine below_step ?_ (by assumption) ?_) | omega | (simp; done) | (simp; omega)))⟩
  · have e1 : (q == (d.size : Int)) = false := by simpa using h1
    have d1 : decide (q = (d.size : Int)) = false := decide_eq_false h1
    have a3 : decide (1 ≤ d.size) = decide (1 ≤ (d.size : Int)) := decide_eq_decide.2 (by omega)
    have a4 : decide (d.size ≤ 20) = decide ((d.size : Int) ≤ 20) := decide_eq_decide.2 (by omega)
    rw [d1, a3, a4]
    clear h1 d1 a3 a4
    by_cases h2 : q = -1
    · have e2 : (q == -1) = true := by simpa using h2
      have d2 : decide (q = -1) = true := decide_eq_true h2
      rw [d2]
      clear h2 d2
      cases h3 : decide (1 ≤ (d.size : Int)) <;> cases h4 : decide ((d.size : Int) ≤ 20)
      all_goals
        go_enter Try.func23, Try.ntmps23
        go_wp2_with fail
        refine (size_any _ _).mono ?_
        rintro e w' ⟨rfl, rfl⟩
        rw [hq]
        go_wp2_with fail
        go_ret
        exact ⟨by first | rfl | (simp [*]), (by repeat' (first | (with_reducible exact Below.refl _ _) | (with_reducible apply Below.drew) | (with_reducible apply below_drewN) | (with_reducible apply Below.setCell) | (with_reducible apply Below.alloc) | (with_reducible refine below_step ?_ (by assumption) ?_) | omega | (simp; done) | (simp; omega)))⟩
    · have e2 : (q == -1) = false := by simpa using h2
      have d2 : decide (q = -1) = false := decide_eq_false h2
      rw [d2]
      clear h2 d2
      go_enter Try.func23, Try.ntmps23
      go_wp2_with fail
      refine (size_any _ _).mono ?_
      rintro e w' ⟨rfl, rfl⟩
      rw [hq]
      go_wp2_with fail
      go_ret
      exact ⟨by first | rfl | simp [*], (by repeat' (first | (with_reducible exact Below.refl _ _) | (with_reducible apply Below.drew) | (with_reducible apply below_drewN) | (with_reducible apply Below.setCell) | (with_reducible apply Below.alloc) | (with_reducible refine below_step ?_ (by assumption) ?_) | omega | (simp; done) | (simp; omega)))⟩
set_option maxHeartbeats 2000000 in
theorem may_any (l : Lk) (w : World) : Calls Try.prog 17 #[lkV l] w fun e w' => e = .returned (.bool (mayB l)) ∧ Below w.heap.size w w' := by
  obtain ⟨mru, magic, mrru, short, disc, num⟩ := l
  unfold lkV mayB
  show Calls _ _ #[.agg #[.int .i64 mru, .int .i64 magic, .int .i64 mrru, .bool short, .string disc, .int .i64 num]] w _
  obtain ⟨p, hp⟩ : ∃ p, unitB mru = p := ⟨_, rfl⟩
  obtain ⟨q, hq⟩ : ∃ q, unitB mrru = q := ⟨_, rfl⟩
  show Calls _ _ _ _ fun e w' => e = .returned (.bool ((decide (mru = 0) || unitB mru) && (decide (mrru = 0) || unitB mrru) && decide (0 ≤ magic) && decide (magic ≤ 4294967295) && decide (disc.size ≤ 20) && decide (0 ≤ num) && decide (num ≤ 65535))) ∧ _
  rw [hp, hq]
  have e1 : (mru == 0) = decide (mru = 0) := rfl
  have e2 : (mrru == 0) = decide (mrru = 0) := rfl
  cases p <;> cases q
  all_goals
    go_enter Try.func17, Try.ntmps17
    go_wp2_with (first | (go_at_call 30; refine (unit_any _ _).mono ?_; rintro e w' ⟨rfl, rfl⟩; first | rw [hp] | rw [hq]))
    all_goals
      go_ret
      exact ⟨by simp_all <;> omega, (by repeat' (first | (with_reducible exact Below.refl _ _) | (with_reducible apply Below.drew) | (with_reducible apply below_drewN) | (with_reducible apply Below.setCell) | (with_reducible apply Below.alloc) | (with_reducible refine below_step ?_ (by assumption) ?_) | omega | (simp; done) | (simp; omega)))⟩
end Go.Proofs.Ytjmcgekegenobaa
