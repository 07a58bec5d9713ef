/- The contract of bapmsg.Get: which datagram or error. No condition. -/
import Derived.Test.YthhbgokjalmmpaaBapPut
import Derived.Test.YthhbgokjalmmpaaOptGet
import Derived.Test.YthhbgokjalmmpaaCells
import Derived.BigRegion
namespace Go.Proofs.Ythhbgokjalmmpaa
open Go.RowKit
set_option linter.unusedVariables false
set_option linter.unusedSimpArgs false
attribute [local go_sem] conv1 conv1d conv1n conv1a conv1ad conv1an conv2 conv2d conv2n conv2a conv2ad conv2an conv4 conv4d conv4n conv4a conv4ad conv4an conv5 conv5d conv5n conv5a conv5ad conv5an size_nums byt_fold
def gLeast (s : ByteArray) : Nat := if bResp (byt s 0) then 5 else 4
def gBad (s : ByteArray) : Bool := decide (s.size < 4) || !(bMay (byt s 0) (byt s 1)) || decide (gN s < gLeast s ∨ s.size < gN s)
def gBody (s : ByteArray) : ByteArray := s.extract (gLeast s) (gN s)
def gE (s : ByteArray) : Int := if gBad s then 900 else if uE (gBody s) = 400 then 900 else if 2048 < gN s then 901 else 0
def gC (s : ByteArray) : Int := if gE s = 0 then byt s 0 else 0
def gI (s : ByteArray) : Int := if gE s = 0 then byt s 1 else 0
def gA (s : ByteArray) : Int := if gE s = 0 ∧ bResp (byt s 0) = true then byt s 4 else 0
def gL (s : ByteArray) : List (Int × ByteArray) := if gE s = 0 then uL (gBody s) else []
def BapGet (s : ByteArray) (w : World) (e : Ending) (w' : World) : Prop :=
  ∃ A cap, e = .returned (.tuple #[.agg #[.int .i64 (gC s), .int .i64 (gI s), .int .i64 (gA s), .slice A (gL s).length cap], .int .i64 (gE s)]) ∧
    w'.ownsRow w.heap.size 39 2 (.slice A (gL s).length cap) (gL s).length (optCells (gL s)) ∧ Below w.heap.size w w'
theorem bapget_bad {s : ByteArray} {x : Int} {w w' : World} (hb : Below w.heap.size w w') (h : gE s = x) (hx : ¬ x = 0) :
    BapGet s w (.returned (.tuple #[.agg #[.int .i64 0, .int .i64 0, .int .i64 0, .slice none 0 0], .int .i64 x])) w' := by
  have h0 : ¬ gE s = 0 := by rw [h]; exact hx
  have hl : gL s = [] := by unfold gL; rw [if_neg h0]
  have hd : gA s = 0 := by unfold gA; rw [if_neg (fun e => h0 e.1)]
  have hc : gC s = 0 := by unfold gC; rw [if_neg h0]
  have hi : gI s = 0 := by unfold gI; rw [if_neg h0]
  unfold BapGet
  rw [hl, hd, hc, hi, h]
  exact ⟨none, 0, rfl, World.ownsRow_nil _ _ _ _, hb⟩
theorem bapget_ok {s : ByteArray} {a : Int} {A : Option Addr} {cap : Nat} {w w' : World} (hb : Below w.heap.size w w') (h : gE s = 0) (ha : a = if bResp (byt s 0) then byt s 4 else 0)
    (ho : w'.ownsRow w.heap.size 39 2 (.slice A (uL (gBody s)).length cap) (uL (gBody s)).length (optCells (uL (gBody s)))) :
    BapGet s w (.returned (.tuple #[.agg #[.int .i64 (byt s 0), .int .i64 (byt s 1), .int .i64 a, .slice A (uL (gBody s)).length cap], .int .i64 0])) w' := by
  have hl : gL s = uL (gBody s) := by unfold gL; rw [if_pos h]
  have hd : gA s = a := by unfold gA; rw [ha, h]; cases bResp (byt s 0) <;> simp
  have h1 : gC s = byt s 0 := by unfold gC; rw [if_pos h]
  have h2 : gI s = byt s 1 := by unfold gI; rw [if_pos h]
  unfold BapGet
  rw [hl, hd, h1, h2, h]
  exact ⟨A, cap, rfl, ho, hb⟩
theorem gE_bad {s : ByteArray} (h : s.size < 4 ∨ bMay (byt s 0) (byt s 1) = false ∨ gN s < gLeast s ∨ s.size < gN s) : gE s = 900 := by
  have : gBad s = true := by
    unfold gBad
    rcases h with h | h | h | h
    · simp [h]
    · simp [h]
    · simp [h]
    · simp [h]
  unfold gE; rw [this]; rfl
theorem gE_form {s : ByteArray} (h : uE (gBody s) = 400) : gE s = 900 := by
  unfold gE
  cases gBad s
  · rw [if_neg (by simp), if_pos h]
  · rfl
theorem gBad_no {s : ByteArray} (h1 : ¬ s.size < 4) (h2 : bMay (byt s 0) (byt s 1) = true) (h3 : ¬ (gN s < gLeast s ∨ s.size < gN s)) : gBad s = false := by
  unfold gBad; rw [h2]; simp [h1]; omega
theorem gE_long {s : ByteArray} (h : gBad s = false) (h1 : ¬ uE (gBody s) = 400) (h2 : 2048 < gN s) : gE s = 901 := by
  unfold gE; rw [h, if_neg (by simp), if_neg h1, if_pos h2]
theorem gE_ok {s : ByteArray} (h : gBad s = false) (h1 : ¬ uE (gBody s) = 400) (h2 : ¬ 2048 < gN s) : gE s = 0 := by
  unfold gE; rw [h, if_neg (by simp), if_neg h1, if_neg h2]
set_option maxHeartbeats 1000000 in
theorem bapget_short (s : ByteArray) (w : World) (h4 : ¬ 4 ≤ s.size) : Calls Try.prog 9 #[.string s] w (BapGet s w) := by
  go_enter Try.func9, Try.ntmps9
  go_wp2
  refine bodyPost_ret (v := .tuple #[.agg #[.int .i64 0, .int .i64 0, .int .i64 0, .slice none 0 0], .int .i64 900]) (by simp [results, Try.results9, go_sem]) rfl ?_
  exact bapget_bad (by repeat' (first | (with_reducible exact Below.refl _ _) | (with_reducible apply Below.drew) | (with_reducible apply below_drewN) | (with_reducible apply Below.setCell) | (with_reducible apply Below.alloc) | (with_reducible refine below_step ?_ (by assumption) ?_) | omega | (simp; done) | (simp; omega))) (gE_bad (.inl (by omega))) (by decide)
set_option maxRecDepth 100000 in
set_option maxHeartbeats 1000000 in
theorem bapget_len (s : ByteArray) (w : World) (h4 : 4 ≤ s.size) (n : Nat) (hn : byt s 2 * 256 + byt s 3 = (n : Int)) (HN : Hid (gN s = n)) (hw : (bMay (byt s 0) (byt s 1) = false) ∨ (bMay (byt s 0) (byt s 1) = true ∧ (n < gLeast s ∨ s.size < n))) : Calls Try.prog 9 #[.string s] w (BapGet s w) := by
  obtain ⟨a0, a1⟩ := byt_range s 0
  obtain ⟨b0, b1⟩ := byt_range s 1
  obtain ⟨c0, c1⟩ := byt_range s 2
  obtain ⟨d0, d1⟩ := byt_range s 3
  have h40 : 0 < s.size := by omega
  have h41 : 1 < s.size := by omega
  have h42 : 2 < s.size := by omega
  have h43 : 3 < s.size := by omega
  have hor := or_bytes s s 2 3
  have HE : Hid (gE s = 900) := by
    refine Lib.hid (gE_bad (.inr ?_))
    rcases hw with hw | ⟨_, hw⟩
    · exact .inl hw
    · rw [HN.out]; exact .inr hw
  cases hr : bResp (byt s 0)
  · have hl : gLeast s = 4 := by unfold gLeast; rw [hr]; rfl
    rw [hl] at hw
    clear hl
    rcases hw with hw | ⟨hw, hw2⟩
    all_goals
      go_enter Try.func9, Try.ntmps9
      go_wp2_with fail
      go_region
      go_wp2_with fail
      go_quiet (fail)
      go_wp2_with (first | (go_at_call 12; refine (may_any _ _ _).mono ?_; rintro e w' ⟨rfl, rfl⟩) | (go_at_call 13; refine (resp_any _ _ _).mono ?_; rintro e w' ⟨rfl, rfl⟩))
      all_goals
        refine bodyPost_ret (v := .tuple #[.agg #[.int .i64 0, .int .i64 0, .int .i64 0, .slice none 0 0], .int .i64 900]) (by simp [results, Try.results9, go_sem]) rfl ?_
        exact bapget_bad (by repeat' (first | (with_reducible exact Below.refl _ _) | (with_reducible apply Below.drew) | (with_reducible apply below_drewN) | (with_reducible apply Below.setCell) | (with_reducible apply Below.alloc) | (with_reducible refine below_step ?_ (by assumption) ?_) | omega | (simp; done) | (simp; omega))) HE.out (by decide)
  · have hl : gLeast s = 5 := by unfold gLeast; rw [hr]; rfl
    rw [hl] at hw
    clear hl
    rcases hw with hw | ⟨hw, hw2⟩
    all_goals
      go_enter Try.func9, Try.ntmps9
      go_wp2_with fail
      go_region
      go_wp2_with fail
      go_quiet (fail)
      go_wp2_with (first | (go_at_call 12; refine (may_any _ _ _).mono ?_; rintro e w' ⟨rfl, rfl⟩) | (go_at_call 13; refine (resp_any _ _ _).mono ?_; rintro e w' ⟨rfl, rfl⟩))
      all_goals
        refine bodyPost_ret (v := .tuple #[.agg #[.int .i64 0, .int .i64 0, .int .i64 0, .slice none 0 0], .int .i64 900]) (by simp [results, Try.results9, go_sem]) rfl ?_
        exact bapget_bad (by repeat' (first | (with_reducible exact Below.refl _ _) | (with_reducible apply Below.drew) | (with_reducible apply below_drewN) | (with_reducible apply Below.setCell) | (with_reducible apply Below.alloc) | (with_reducible refine below_step ?_ (by assumption) ?_) | omega | (simp; done) | (simp; omega))) HE.out (by decide)
theorem own_base {w : World} {b b' n : Nat} {e : TypeId} {size : Nat} {v : Value} {xs : List Value} (h : w.ownsRow b e size v n xs) (hb : b' ≤ b) : w.ownsRow b' e size v n xs := by
  refine ⟨h.1, ?_⟩
  rcases h.2 with h | ⟨g, cap, cur, rfl, hg, r⟩
  · exact .inl h
  · exact .inr ⟨g, cap, cur, rfl, by omega, r⟩
end Go.Proofs.Ythhbgokjalmmpaa
