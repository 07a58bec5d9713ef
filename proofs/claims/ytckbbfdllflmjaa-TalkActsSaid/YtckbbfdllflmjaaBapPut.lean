/- The contract of bapmsg.Put: which text or error. No condition but memory's own limits. -/
import Derived.Test.YtckbbfdllflmjaaOptPut
import Derived.Test.YtckbbfdllflmjaaOptRound
import Derived.Test.YtckbbfdllflmjaaHead
namespace Go.Proofs.Ytckbbfdllflmjaa
open Go.RowKit
set_option linter.unusedVariables false
set_option linter.unusedSimpArgs false
attribute [local go_sem] conv1 conv1d conv1n conv1a conv1ad conv1an conv2 conv2d conv2n conv2a conv2ad conv2an conv4 conv4d conv4n conv4a conv4ad conv4an conv5 conv5d conv5n conv5a conv5ad conv5an size_nums byt_fold
def bMay (c i : Int) : Bool := decide (1 ≤ c ∧ c ≤ 8 ∧ 0 ≤ i ∧ i ≤ 255)
def bResp (c : Int) : Bool := decide (c.tmod 2 = 0)
theorem may_yes {c i : Int} (h : bMay c i = true) : 1 ≤ c ∧ c ≤ 8 ∧ 0 ≤ i ∧ i ≤ 255 := of_decide_eq_true h
theorem may_any (c i : Int) (w : World) : Calls Try.prog 40 #[.agg #[.int .i64 c, .int .i64 i]] w fun e w' => e = .returned (.bool (bMay c i)) ∧ w.alloc (.cells #[.int .i64 c, .int .i64 i] 81) = w' := by
  by_cases h1 : 1 ≤ c
  · by_cases h2 : c ≤ 8
    · by_cases h3 : 0 ≤ i
      · by_cases h4 : i ≤ 255
        all_goals
          go_enter Try.func40, Try.ntmps40
          go_wp2
          go_ret
          exact ⟨by congr 2; unfold bMay; simp; omega, rfl⟩
      · go_enter Try.func40, Try.ntmps40
        go_wp2
        go_ret
        exact ⟨by congr 2; unfold bMay; simp; omega, rfl⟩
    · go_enter Try.func40, Try.ntmps40
      go_wp2
      go_ret
      exact ⟨by congr 2; unfold bMay; simp; omega, rfl⟩
  · go_enter Try.func40, Try.ntmps40
    go_wp2
    go_ret
    exact ⟨by congr 2; unfold bMay; simp; omega, rfl⟩
theorem resp_any (c i : Int) (w : World) : Calls Try.prog 41 #[.agg #[.int .i64 c, .int .i64 i]] w fun e w' => e = .returned (.bool (bResp c)) ∧ w.alloc (.cells #[.int .i64 c, .int .i64 i] 81) = w' := by
  by_cases h : c.tmod 2 = 0
  all_goals
    go_enter Try.func41, Try.ntmps41
    go_wp2
    go_ret
    exact ⟨by unfold bResp; simp [h], rfl⟩
def bBody (c a : Int) (os : List (Int × ByteArray)) : ByteArray := if bResp c then strOfNums [a] ++ oJoin os else oJoin os
def bGood (c i a : Int) (os : List (Int × ByteArray)) : Bool := bMay c i && decide (0 ≤ a ∧ a ≤ 255) && (bResp c || decide (a = 0)) && decide (oE os = 0)
def bE (c i a : Int) (os : List (Int × ByteArray)) : Int := if bGood c i a os then (if 2044 < (bBody c a os).size then 901 else 0) else 900
def bS (c i a : Int) (os : List (Int × ByteArray)) : ByteArray := if bE c i a os = 0 then headed c i (bBody c a os) else ⟨#[]⟩
def BapPut (c i a : Int) (os : List (Int × ByteArray)) (w : World) (e : Ending) (w' : World) : Prop :=
  e = .returned (.tuple #[.string (bS c i a os), .int .i64 (bE c i a os)]) ∧ Below w.heap.size w w'
theorem bapput_900 {c i a : Int} {os : List (Int × ByteArray)} {w w' : World} (hb : Below w.heap.size w w') (h : bGood c i a os = false) : BapPut c i a os w (.returned (.tuple #[.string ⟨#[]⟩, .int .i64 900])) w' := by
  have e : bE c i a os = 900 := by unfold bE; rw [h]; rfl
  exact ⟨by unfold bS; rw [e]; rfl, hb⟩
theorem bapput_901 {c i a : Int} {os : List (Int × ByteArray)} {w w' : World} (hb : Below w.heap.size w w') (h : bGood c i a os = true) (h3 : 2044 < (bBody c a os).size) : BapPut c i a os w (.returned (.tuple #[.string ⟨#[]⟩, .int .i64 901])) w' := by
  have e : bE c i a os = 901 := by unfold bE; rw [h, if_pos h3]; rfl
  exact ⟨by unfold bS; rw [e]; rfl, hb⟩
theorem bapput_ok {c i a : Int} {os : List (Int × ByteArray)} {s : ByteArray} {w w' : World} (hb : Below w.heap.size w w') (h : bGood c i a os = true) (h3 : ¬ 2044 < (bBody c a os).size) (hs : s = headed c i (bBody c a os)) : BapPut c i a os w (.returned (.tuple #[.string s, .int .i64 0])) w' := by
  have e : bE c i a os = 0 := by unfold bE; rw [h, if_neg h3]; rfl
  exact ⟨by unfold bS; rw [e, hs]; rfl, hb⟩
theorem oS_size (os : List (Int × ByteArray)) : (oS os).size ≤ 2048 := by
  unfold oS
  by_cases h : oE os = 0
  · rw [if_pos h, oJoin_size]
    have := oLong_sum os 0 (oE_zero h).2 (by omega)
    omega
  · rw [if_neg h]; decide
set_option maxRecDepth 100000 in
set_option maxHeartbeats 1000000 in
theorem bapput_bad (c i a : Int) (A : Option Addr) (n cap : Nat) (os : List (Int × ByteArray)) (w : World) (hv : OptsAt w A n os) (hn : n ≤ 9223372036854775807) (hg : bGood c i a os = false)
    (h : bMay c i = false ∨ (bMay c i = true ∧ a < 0) ∨ (bMay c i = true ∧ 0 ≤ a ∧ 255 < a) ∨ (bMay c i = true ∧ 0 ≤ a ∧ a ≤ 255 ∧ bResp c = false ∧ (a != 0) = true) ∨ (bMay c i = true ∧ 0 ≤ a ∧ a ≤ 255 ∧ bResp c = true ∧ (oE os != 0) = true) ∨ (bMay c i = true ∧ 0 ≤ a ∧ a ≤ 255 ∧ bResp c = false ∧ (a != 0) = false ∧ (oE os != 0) = true)) :
    Calls Try.prog 31 #[.agg #[.int .i64 c, .int .i64 i, .int .i64 a, .slice A n cap]] w (BapPut c i a os w) := by
  have HG := Lib.hid hg; clear hg
  have HV := Lib.hid hv; clear hv
  rcases h with h1 | ⟨h1, h2⟩ | ⟨h1, h2, h3⟩ | ⟨h1, h2, h3, h4, h5⟩ | ⟨h1, h2, h3, h4, h5⟩ | ⟨h1, h2, h3, h4, h5, h6⟩
  all_goals
    go_enter Try.func31, Try.ntmps31
    go_wp2_with fail
    refine (optput_any A n cap os _ ((HV.out.keep ((Below.refl _ _).alloc (Nat.le_refl _) _)).keep ((Below.refl _ _).alloc (Nat.le_refl _) _)) hn).mono ?_
    rintro e w1 ⟨rfl, hb1⟩
    obtain ⟨hc1, hf1⟩ := bcell hb1
    have hz1 := hb1.size
    simp at hz1
    have z1 : w.heap.size < w1.heap.size := by omega
    have z2 : w.heap.size + 1 < w1.heap.size := by omega
    have bel : Below w.heap.size w w1 := (((Below.refl _ _).alloc (Nat.le_refl _) _).alloc (by simp) _).trans (hb1.mono (by simp; omega))
    go_wp2_with (first | (go_at_call 40; refine (may_any _ _ _).mono ?_; rintro e w' ⟨rfl, rfl⟩) | (go_at_call 41; refine (resp_any _ _ _).mono ?_; rintro e w' ⟨rfl, rfl⟩))
    go_ret2
    exact bapput_900 (by repeat' (first | (with_reducible exact bel) | (with_reducible refine Below.setCell ?_ (Nat.le_refl _) _) | (with_reducible apply Below.setCell) | (with_reducible apply Below.alloc) | (with_reducible apply Below.drew) | (with_reducible apply below_drewN) | (exact Nat.le_refl _) | omega | (simp; done) | (simp; omega))) HG.out
set_option maxRecDepth 100000 in
set_option maxHeartbeats 1000000 in
theorem bapput_req (c i a : Int) (A : Option Addr) (n cap : Nat) (os : List (Int × ByteArray)) (w : World) (hv : OptsAt w A n os) (hn : n ≤ 9223372036854775807) (hg : bGood c i a os = true)
    (h1 : bMay c i = true) (ha : (a != 0) = false) (h4 : bResp c = false) (h5 : (oE os != 0) = false) (B : ByteArray) (hB : oS os = B) (hB2 : bBody c a os = B) :
    Calls Try.prog 31 #[.agg #[.int .i64 c, .int .i64 i, .int .i64 a, .slice A n cap]] w (BapPut c i a os w) := by
  have HG := Lib.hid hg; clear hg
  have HV := Lib.hid hv; clear hv
  have HB2 := Lib.hid hB2; clear hB2
  obtain ⟨c0, c1, i0, i1⟩ := may_yes h1
  obtain rfl : a = 0 := by simpa using ha
  have q0 : c % 256 = c := by omega
  have q1 : i % 256 = i := by omega
  have hos : B.size ≤ 2048 := by rw [← hB]; exact oS_size os
  go_enter Try.func31, Try.ntmps31
  go_wp2_with fail
  refine (optput_any A n cap os _ ((HV.out.keep ((Below.refl _ _).alloc (Nat.le_refl _) _)).keep ((Below.refl _ _).alloc (Nat.le_refl _) _)) hn).mono ?_
  rintro e w1 ⟨rfl, hb1⟩
  rw [hB]
  obtain ⟨hc1, hf1⟩ := bcell hb1
  have hz1 := hb1.size
  simp at hz1
  have z1 : w.heap.size < w1.heap.size := by omega
  have z2 : w.heap.size + 1 < w1.heap.size := by omega
  have bel : Below w.heap.size w w1 := (((Below.refl _ _).alloc (Nat.le_refl _) _).alloc (by simp) _).trans (hb1.mono (by simp; omega))
  go_wp2_with (first | (go_at_call 40; refine (may_any _ _ _).mono ?_; rintro e w' ⟨rfl, rfl⟩) | (go_at_call 41; refine (resp_any _ _ _).mono ?_; rintro e w' ⟨rfl, rfl⟩))
  · go_ret2
    exact bapput_901 (by repeat' (first | (with_reducible exact bel) | (with_reducible refine Below.setCell ?_ (Nat.le_refl _) _) | (with_reducible apply Below.setCell) | (with_reducible apply Below.alloc) | (with_reducible apply Below.drew) | (with_reducible apply below_drewN) | (exact Nat.le_refl _) | omega | (simp; done) | (simp; omega))) HG.out (by rw [HB2.out]; omega)
  · go_ret2
    exact bapput_ok (by repeat' (first | (with_reducible exact bel) | (with_reducible refine Below.setCell ?_ (Nat.le_refl _) _) | (with_reducible apply Below.setCell) | (with_reducible apply Below.alloc) | (with_reducible apply Below.drew) | (with_reducible apply below_drewN) | (exact Nat.le_refl _) | omega | (simp; done) | (simp; omega))) HG.out (by rw [HB2.out]; omega) (by rw [HB2.out]; rfl)
set_option maxRecDepth 100000 in
set_option maxHeartbeats 1000000 in
theorem bapput_resp (c i a : Int) (A : Option Addr) (n cap : Nat) (os : List (Int × ByteArray)) (w : World) (hv : OptsAt w A n os) (hn : n ≤ 9223372036854775807) (hg : bGood c i a os = true)
    (h1 : bMay c i = true) (a0 : 0 ≤ a) (a1 : a ≤ 255) (h4 : bResp c = true) (h5 : (oE os != 0) = false) (B : ByteArray) (hB : strOfNums [a] ++ oS os = B) (hB2 : bBody c a os = B) :
    Calls Try.prog 31 #[.agg #[.int .i64 c, .int .i64 i, .int .i64 a, .slice A n cap]] w (BapPut c i a os w) := by
  have HG := Lib.hid hg; clear hg
  have HV := Lib.hid hv; clear hv
  have HB2 := Lib.hid hB2; clear hB2
  obtain ⟨c0, c1, i0, i1⟩ := may_yes h1
  have q0 : c % 256 = c := by omega
  have q1 : i % 256 = i := by omega
  have q2 : a % 256 = a := by omega
  have hos := oS_size os
  have hBs : 1 + (oS os).size = B.size := by rw [← hB, size_app, size_nums]; rfl
  have hBt : B.size ≤ 2049 := by omega
  go_enter Try.func31, Try.ntmps31
  go_wp2_with fail
  refine (optput_any A n cap os _ ((HV.out.keep ((Below.refl _ _).alloc (Nat.le_refl _) _)).keep ((Below.refl _ _).alloc (Nat.le_refl _) _)) hn).mono ?_
  rintro e w1 ⟨rfl, hb1⟩
  obtain ⟨hc1, hf1⟩ := bcell hb1
  have hz1 := hb1.size
  simp at hz1
  have z1 : w.heap.size < w1.heap.size := by omega
  have z2 : w.heap.size + 1 < w1.heap.size := by omega
  have y1 : w.heap.size < w1.heap.size + 1 := by omega
  have y2 : w.heap.size < w1.heap.size + 2 := by omega
  have y3 : w.heap.size < w1.heap.size + 1 + 1 := by omega
  have y4 : w.heap.size + 1 < w1.heap.size + 1 + 1 + 1 := by omega
  have y5 : w.heap.size + 1 < w1.heap.size + 3 := by omega
  have bel : Below w.heap.size w w1 := (((Below.refl _ _).alloc (Nat.le_refl _) _).alloc (by simp) _).trans (hb1.mono (by simp; omega))
  go_wp2_with (first | (go_at_call 40; refine (may_any _ _ _).mono ?_; rintro e w' ⟨rfl, rfl⟩) | (go_at_call 41; refine (resp_any _ _ _).mono ?_; rintro e w' ⟨rfl, rfl⟩))
  · go_ret2
    exact bapput_901 (by repeat' (first | (with_reducible exact bel) | (with_reducible refine Below.setCell ?_ (Nat.le_refl _) _) | (with_reducible apply Below.setCell) | (with_reducible apply Below.alloc) | (with_reducible apply Below.drew) | (with_reducible apply below_drewN) | (exact Nat.le_refl _) | omega | (simp; done) | (simp; omega))) HG.out (by rw [HB2.out]; omega)
  · go_ret2
    exact bapput_ok (by repeat' (first | (with_reducible exact bel) | (with_reducible refine Below.setCell ?_ (Nat.le_refl _) _) | (with_reducible apply Below.setCell) | (with_reducible apply Below.alloc) | (with_reducible apply Below.drew) | (with_reducible apply below_drewN) | (exact Nat.le_refl _) | omega | (simp; done) | (simp; omega))) HG.out (by rw [HB2.out]; omega) (by rw [HB2.out]; rfl)
theorem bapput_any (c i a : Int) (A : Option Addr) (n cap : Nat) (os : List (Int × ByteArray)) (w : World) (hv : OptsAt w A n os) (hn : n ≤ 9223372036854775807) :
    Calls Try.prog 31 #[.agg #[.int .i64 c, .int .i64 i, .int .i64 a, .slice A n cap]] w (BapPut c i a os w) := by
  cases h1 : bMay c i
  · exact bapput_bad c i a A n cap os w hv hn (by unfold bGood; rw [h1]; rfl) (.inl h1)
  by_cases a0 : 0 ≤ a
  case neg => exact bapput_bad c i a A n cap os w hv hn (by unfold bGood; rw [h1]; simp; omega) (.inr (.inl ⟨h1, by omega⟩))
  by_cases a1 : a ≤ 255
  case neg => exact bapput_bad c i a A n cap os w hv hn (by unfold bGood; rw [h1]; simp; omega) (.inr (.inr (.inl ⟨h1, a0, by omega⟩)))
  cases h4 : bResp c
  · by_cases hz : a = 0
    · by_cases h5 : oE os = 0
      · have e : oS os = oJoin os := by unfold oS; rw [if_pos h5]
        exact bapput_req c i a A n cap os w hv hn (by unfold bGood; rw [h1, h4]; simp [a0, a1, hz, h5]) h1 (by simpa using hz) h4 (by simpa using h5) (oJoin os) e (by unfold bBody; rw [h4]; rfl)
      · exact bapput_bad c i a A n cap os w hv hn (by unfold bGood; simp [h5]) (.inr (.inr (.inr (.inr (.inr ⟨h1, a0, a1, h4, by simpa using hz, by simpa using h5⟩)))))
    · exact bapput_bad c i a A n cap os w hv hn (by unfold bGood; simp [h4, hz]) (.inr (.inr (.inr (.inl ⟨h1, a0, a1, h4, by simpa using hz⟩))))
  · by_cases h5 : oE os = 0
    · have e : oS os = oJoin os := by unfold oS; rw [if_pos h5]
      exact bapput_resp c i a A n cap os w hv hn (by unfold bGood; rw [h1, h4]; simp [a0, a1, h5]) h1 a0 a1 h4 (by simpa using h5) (strOfNums [a] ++ oJoin os) (by rw [e]) (by unfold bBody; rw [h4]; rfl)
    · exact bapput_bad c i a A n cap os w hv hn (by unfold bGood; simp [h5]) (.inr (.inr (.inr (.inr (.inl ⟨h1, a0, a1, h4, by simpa using h5⟩)))))
end Go.Proofs.Ytckbbfdllflmjaa
