/- The contract of control.Put: which text or error. No condition but memory's own limits. -/
import Derived.Test.YtmonkjogonjflaaOptPut
import Derived.Test.YtmonkjogonjflaaOptRound
import Derived.Test.YtmonkjogonjflaaHead
namespace Go.Proofs.Ytmonkjogonjflaa
open Go.RowKit
set_option linter.unusedVariables false
set_option linter.unusedSimpArgs false
attribute [local go_sem] conv1 conv1d conv1n conv1a conv1ad conv1an conv2 conv2d conv2n conv2a conv2ad conv2an conv4 conv4d conv4n conv4a conv4ad conv4an conv5 conv5d conv5n conv5a conv5ad conv5an size_nums byt_fold
def confB (c : Int) : Bool := decide (1 ≤ c ∧ c ≤ 4)
def cBody (c : Int) (os : List (Int × ByteArray)) (d : ByteArray) : ByteArray := if confB c then oJoin os else d
def cBad (c : Int) (os : List (Int × ByteArray)) (d : ByteArray) : Bool := if confB c then decide (¬ oE os = 0 ∨ 0 < d.size) else decide (0 < os.length)
def cE (c i : Int) (os : List (Int × ByteArray)) (d : ByteArray) : Int :=
  if octB c && octB i then (if cBad c os d then 502 else if 2044 < (cBody c os d).size then 503 else 0) else 501
def cS (c i : Int) (os : List (Int × ByteArray)) (d : ByteArray) : ByteArray := if cE c i os d = 0 then headed c i (cBody c os d) else ⟨#[]⟩
def CtlPut (c i : Int) (os : List (Int × ByteArray)) (d : ByteArray) (w : World) (e : Ending) (w' : World) : Prop :=
  e = .returned (.tuple #[.string (cS c i os d), .int .i64 (cE c i os d)]) ∧ Below w.heap.size w w'
theorem ctlput_501 {c i : Int} {os : List (Int × ByteArray)} {d : ByteArray} {w w' : World} (hb : Below w.heap.size w w') (h : octB c = false ∨ octB i = false) : CtlPut c i os d w (.returned (.tuple #[.string ⟨#[]⟩, .int .i64 501])) w' := by
  have e : cE c i os d = 501 := by unfold cE; rcases h with h | h <;> rw [h] <;> simp
  exact ⟨by unfold cS; rw [e]; rfl, hb⟩
theorem ctlput_502 {c i : Int} {os : List (Int × ByteArray)} {d : ByteArray} {w w' : World} (hb : Below w.heap.size w w') (h1 : octB c = true) (h2 : octB i = true) (h : cBad c os d = true) : CtlPut c i os d w (.returned (.tuple #[.string ⟨#[]⟩, .int .i64 502])) w' := by
  have e : cE c i os d = 502 := by unfold cE; rw [h1, h2, h]; rfl
  exact ⟨by unfold cS; rw [e]; rfl, hb⟩
theorem ctlput_503 {c i : Int} {os : List (Int × ByteArray)} {d : ByteArray} {w w' : World} (hb : Below w.heap.size w w') (h1 : octB c = true) (h2 : octB i = true) (h : cBad c os d = false) (h3 : 2044 < (cBody c os d).size) : CtlPut c i os d w (.returned (.tuple #[.string ⟨#[]⟩, .int .i64 503])) w' := by
  have e : cE c i os d = 503 := by unfold cE; rw [h1, h2, h, if_pos h3]; rfl
  exact ⟨by unfold cS; rw [e]; rfl, hb⟩
theorem ctlput_ok {c i : Int} {os : List (Int × ByteArray)} {d s : ByteArray} {w w' : World} (hb : Below w.heap.size w w') (h1 : octB c = true) (h2 : octB i = true) (h : cBad c os d = false) (h3 : ¬ 2044 < (cBody c os d).size) (hs : s = headed c i (cBody c os d)) : CtlPut c i os d w (.returned (.tuple #[.string s, .int .i64 0])) w' := by
  have e : cE c i os d = 0 := by unfold cE; rw [h1, h2, h, if_neg h3]; rfl
  exact ⟨by unfold cS; rw [e, hs]; rfl, hb⟩

theorem conf_any (c : Int) (w : World) : Calls Try.prog 21 #[.int .i64 c] w fun e w' => e = .returned (.bool (confB c)) ∧ w = w' := by
  by_cases h1 : 1 ≤ c
  · by_cases h2 : c ≤ 4
    all_goals
      go_enter Try.func21, Try.ntmps21
      go_wp2
      go_ret
      exact ⟨by congr 2; unfold confB; simp; omega, rfl⟩
  · go_enter Try.func21, Try.ntmps21
    go_wp2
    go_ret
    exact ⟨by congr 2; unfold confB; simp; omega, rfl⟩
theorem octet_any (x : Int) (w : World) : Calls Try.prog 22 #[.int .i64 x] w fun e w' => e = .returned (.bool (octB x)) ∧ w = w' := by
  by_cases h1 : 0 ≤ x
  · by_cases h2 : x ≤ 255
    all_goals
      go_enter Try.func22, Try.ntmps22
      go_wp2
      go_ret
      exact ⟨by congr 2; unfold octB; simp; omega, rfl⟩
  · go_enter Try.func22, Try.ntmps22
    go_wp2
    go_ret
    exact ⟨by congr 2; unfold octB; simp; omega, rfl⟩
theorem oS_size (os : List (Int × ByteArray)) : (oS os).size ≤ 2048 := by
  unfold oS
  by_cases h : oE os = 0
  · rw [if_pos h, oJoin_size]
    have := oLong_sum os 0 (oE_zero h).2 (by omega)
    omega
  · rw [if_neg h]; decide
set_option maxHeartbeats 1000000 in
theorem ctlput_a (c i : Int) (A : Option Addr) (n cap : Nat) (os : List (Int × ByteArray)) (d : ByteArray) (w : World) (hv : OptsAt w A n os) (hn : n ≤ 9223372036854775807) (hd : d.size ≤ 140737488351232) (h1 : octB c = false ∨ (octB c = true ∧ octB i = false)) :
    Calls Try.prog 9 #[.agg #[.int .i64 c, .int .i64 i, .slice A n cap, .string d]] w (CtlPut c i os d w) := by
  rcases h1 with h1 | ⟨h1, h2⟩
  all_goals
    have HV := Lib.hid hv; clear hv
    go_enter Try.func9, Try.ntmps9
    go_wp2_with fail
    refine (optput_any A n cap os _ (HV.out.keep ((Below.refl _ _).alloc (Nat.le_refl _) _)) hn).mono ?_
    rintro e w1 ⟨rfl, hb1⟩
    obtain ⟨hc1, hf1⟩ := bcell hb1
    have hz1 := hb1.size
    simp at hz1
    have z1 : w.heap.size < w1.heap.size := by omega
    have bel : Below w.heap.size w w1 := ((Below.refl _ _).alloc (Nat.le_refl _) _).trans (hb1.mono (by simp))
    go_wp2_with (first | (go_at_call 21; refine (conf_any _ _).mono ?_; rintro e w' ⟨rfl, rfl⟩) | (go_at_call 22; refine (octet_any _ _).mono ?_; rintro e w' ⟨rfl, rfl⟩))
    go_ret2
    first
      | exact ctlput_501 bel (.inl h1)
      | exact ctlput_501 bel (.inr h2)
theorem bad_nz {c : Int} {os : List (Int × ByteArray)} {d : ByteArray} (h : ¬ oE os = 0) : cBad c os d = true := by
  unfold cBad
  cases confB c
  · have : 0 < os.length := by
      rcases Nat.eq_zero_or_pos os.length with h0 | h0
      · have : os = [] := List.eq_nil_of_length_eq_zero h0
        subst this
        exact absurd (by decide) h
      · exact h0
    simp; omega
  · simp [h]
set_option maxHeartbeats 1000000 in
theorem ctlput_b (c i : Int) (A : Option Addr) (n cap : Nat) (os : List (Int × ByteArray)) (d : ByteArray) (w : World) (hv : OptsAt w A n os) (hn : n ≤ 9223372036854775807) (hd : d.size ≤ 140737488351232) (h1 : octB c = true) (h2 : octB i = true) (h : ¬ oE os = 0 ∨ (oE os = 0 ∧ confB c = false ∧ 0 < n) ∨ (oE os = 0 ∧ confB c = true ∧ 0 < d.size)) :
    Calls Try.prog 9 #[.agg #[.int .i64 c, .int .i64 i, .slice A n cap, .string d]] w (CtlPut c i os d w) := by
  have hlen := hv.1
  have hbad : cBad c os d = true := by
    rcases h with h | ⟨_, h3, h4⟩ | ⟨_, h3, h4⟩
    · exact bad_nz h
    · unfold cBad; rw [h3]; simp; omega
    · unfold cBad; rw [h3]; simp; omega
  have HBAD := Lib.hid hbad; clear hbad hlen
  rcases h with h | ⟨h3, h4, h5⟩ | ⟨h3, h4, h5⟩
  · have q1 : (oE os == 0) = false := by simpa using h
    have q2 : (oE os != 0) = true := by simpa using h
    have HV := Lib.hid hv; clear hv
    go_enter Try.func9, Try.ntmps9
    go_wp2_with fail
    refine (optput_any A n cap os _ (HV.out.keep ((Below.refl _ _).alloc (Nat.le_refl _) _)) hn).mono ?_
    rintro e w1 ⟨rfl, hb1⟩
    obtain ⟨hc1, hf1⟩ := bcell hb1
    have hz1 := hb1.size
    simp at hz1
    have z1 : w.heap.size < w1.heap.size := by omega
    have bel : Below w.heap.size w w1 := ((Below.refl _ _).alloc (Nat.le_refl _) _).trans (hb1.mono (by simp))
    go_wp2_with (first | (go_at_call 21; refine (conf_any _ _).mono ?_; rintro e w' ⟨rfl, rfl⟩) | (go_at_call 22; refine (octet_any _ _).mono ?_; rintro e w' ⟨rfl, rfl⟩))
    go_ret2
    exact ctlput_502 bel h1 h2 HBAD.out
  · have q1 : decide ((0 : Int) < (n : Int)) = true := by simp; omega
    have HV := Lib.hid hv; clear hv
    go_enter Try.func9, Try.ntmps9
    go_wp2_with fail
    refine (optput_any A n cap os _ (HV.out.keep ((Below.refl _ _).alloc (Nat.le_refl _) _)) hn).mono ?_
    rintro e w1 ⟨rfl, hb1⟩
    obtain ⟨hc1, hf1⟩ := bcell hb1
    have hz1 := hb1.size
    simp at hz1
    have z1 : w.heap.size < w1.heap.size := by omega
    have bel : Below w.heap.size w w1 := ((Below.refl _ _).alloc (Nat.le_refl _) _).trans (hb1.mono (by simp))
    go_wp2_with (first | (go_at_call 21; refine (conf_any _ _).mono ?_; rintro e w' ⟨rfl, rfl⟩) | (go_at_call 22; refine (octet_any _ _).mono ?_; rintro e w' ⟨rfl, rfl⟩))
    go_ret2
    exact ctlput_502 bel h1 h2 HBAD.out
  · have q1 : d.toList.isEmpty = false := nonempty_of d h5
    have HV := Lib.hid hv; clear hv
    go_enter Try.func9, Try.ntmps9
    go_wp2_with fail
    refine (optput_any A n cap os _ (HV.out.keep ((Below.refl _ _).alloc (Nat.le_refl _) _)) hn).mono ?_
    rintro e w1 ⟨rfl, hb1⟩
    obtain ⟨hc1, hf1⟩ := bcell hb1
    have hz1 := hb1.size
    simp at hz1
    have z1 : w.heap.size < w1.heap.size := by omega
    have bel : Below w.heap.size w w1 := ((Below.refl _ _).alloc (Nat.le_refl _) _).trans (hb1.mono (by simp))
    go_wp2_with (first | (go_at_call 21; refine (conf_any _ _).mono ?_; rintro e w' ⟨rfl, rfl⟩) | (go_at_call 22; refine (octet_any _ _).mono ?_; rintro e w' ⟨rfl, rfl⟩))
    go_ret2
    exact ctlput_502 bel h1 h2 HBAD.out
theorem headed_eq (c i : Int) (B : ByteArray) (h1 : 0 ≤ c ∧ c ≤ 255) (h2 : 0 ≤ i ∧ i ≤ 255) : strOfNums [c, i, (4 + (B.size : Int)) / 256, (4 + (B.size : Int)) % 256] ++ B = headed c i B := rfl
set_option maxRecDepth 100000 in
set_option maxHeartbeats 1000000 in
theorem ctlput_c (c i : Int) (A : Option Addr) (n cap : Nat) (os : List (Int × ByteArray)) (d : ByteArray) (w : World) (hv : OptsAt w A n os) (hn : n ≤ 9223372036854775807) (hd : d.size ≤ 140737488351232) (h1 : octB c = true) (h2 : octB i = true) (h3 : oE os = 0) (B : ByteArray) (hB : oS os ++ d = B) (hB2 : cBody c os d = B) (h4 : (confB c = false ∧ n = 0) ∨ (confB c = true ∧ d.size = 0)) :
    Calls Try.prog 9 #[.agg #[.int .i64 c, .int .i64 i, .slice A n cap, .string d]] w (CtlPut c i os d w) := by
  have hlen := hv.1
  have hbad : cBad c os d = false := by
    rcases h4 with ⟨h4, h5⟩ | ⟨h4, h5⟩
    · unfold cBad; rw [h4]; exact decide_eq_false (by omega)
    · unfold cBad; rw [h4]; exact decide_eq_false (by rintro (h | h); exact h h3; omega)
  have HBAD := Lib.hid hbad; clear hbad hlen
  have HB2 := Lib.hid hB2; clear hB2
  obtain ⟨c0, c1⟩ := oct_yes h1
  obtain ⟨i0, i1⟩ := oct_yes h2
  have hos := oS_size os
  have hsz : B.size ≤ 140737488355328 := by rw [← hB, size_app]; omega
  have hso : (oS os).size + d.size ≤ 140737488355328 := by omega
  have q0 : c % 256 = c := by omega
  have q1 : i % 256 = i := by omega
  have hBs : (oS os).size + d.size = B.size := by rw [← hB, size_app]
  rcases h4 with ⟨h4, h5⟩ | ⟨h4, h5⟩
  · have hn0 : n ≤ 0 := by omega
    clear h5
    have HV := Lib.hid hv; clear hv
    go_enter Try.func9, Try.ntmps9
    go_wp2_with fail
    refine (optput_any A n cap os _ (HV.out.keep ((Below.refl _ _).alloc (Nat.le_refl _) _)) hn).mono ?_
    rintro e w1 ⟨rfl, hb1⟩
    obtain ⟨hc1, hf1⟩ := bcell hb1
    have hz1 := hb1.size
    simp at hz1
    have z1 : w.heap.size < w1.heap.size := by omega
    have bel : Below w.heap.size w w1 := ((Below.refl _ _).alloc (Nat.le_refl _) _).trans (hb1.mono (by simp))
    go_wp2_with (first | (go_at_call 21; refine (conf_any _ _).mono ?_; rintro e w' ⟨rfl, rfl⟩) | (go_at_call 22; refine (octet_any _ _).mono ?_; rintro e w' ⟨rfl, rfl⟩))
    · go_ret2
      exact ctlput_503 bel h1 h2 HBAD.out (by rw [HB2.out]; omega)
    · go_ret2
      exact ctlput_ok (bel.alloc (by omega) _) h1 h2 HBAD.out (by rw [HB2.out]; omega) (by rw [HB2.out]; rfl)
  · have q2 : d.toList.isEmpty = true := empty_of d h5
    clear h5
    have HV := Lib.hid hv; clear hv
    go_enter Try.func9, Try.ntmps9
    go_wp2_with fail
    refine (optput_any A n cap os _ (HV.out.keep ((Below.refl _ _).alloc (Nat.le_refl _) _)) hn).mono ?_
    rintro e w1 ⟨rfl, hb1⟩
    obtain ⟨hc1, hf1⟩ := bcell hb1
    have hz1 := hb1.size
    simp at hz1
    have z1 : w.heap.size < w1.heap.size := by omega
    have bel : Below w.heap.size w w1 := ((Below.refl _ _).alloc (Nat.le_refl _) _).trans (hb1.mono (by simp))
    go_wp2_with (first | (go_at_call 21; refine (conf_any _ _).mono ?_; rintro e w' ⟨rfl, rfl⟩) | (go_at_call 22; refine (octet_any _ _).mono ?_; rintro e w' ⟨rfl, rfl⟩))
    · go_ret2
      exact ctlput_503 bel h1 h2 HBAD.out (by rw [HB2.out]; omega)
    · go_ret2
      exact ctlput_ok (bel.alloc (by omega) _) h1 h2 HBAD.out (by rw [HB2.out]; omega) (by rw [HB2.out]; rfl)
theorem ctlput_any (c i : Int) (A : Option Addr) (n cap : Nat) (os : List (Int × ByteArray)) (d : ByteArray) (w : World) (hv : OptsAt w A n os) (hn : n ≤ 9223372036854775807) (hd : d.size ≤ 140737488351232) :
    Calls Try.prog 9 #[.agg #[.int .i64 c, .int .i64 i, .slice A n cap, .string d]] w (CtlPut c i os d w) := by
  cases h1 : octB c
  · exact ctlput_a c i A n cap os d w hv hn hd (.inl h1)
  · cases h2 : octB i
    · exact ctlput_a c i A n cap os d w hv hn hd (.inr ⟨h1, h2⟩)
    · by_cases he : oE os = 0
      · cases hc : confB c
        · by_cases hn0 : n = 0
          · have hos : os = [] := List.eq_nil_of_length_eq_zero (by rw [hv.1]; exact hn0)
            have e : oS os = ⟨#[]⟩ := by subst hos; decide +kernel
            exact ctlput_c c i A n cap os d w hv hn hd h1 h2 he d (by rw [e, empty_app]) (by unfold cBody; rw [hc]; rfl) (.inl ⟨hc, hn0⟩)
          · exact ctlput_b c i A n cap os d w hv hn hd h1 h2 (.inr (.inl ⟨he, hc, by omega⟩))
        · by_cases hd0 : d.size = 0
          · have e : oS os = oJoin os := by unfold oS; rw [if_pos he]
            exact ctlput_c c i A n cap os d w hv hn hd h1 h2 he (oJoin os) (by rw [e, eq_empty d hd0, app_empty]) (by unfold cBody; rw [hc]; rfl) (.inr ⟨hc, hd0⟩)
          · exact ctlput_b c i A n cap os d w hv hn hd h1 h2 (.inr (.inr ⟨he, hc, by omega⟩))
      · exact ctlput_b c i A n cap os d w hv hn hd h1 h2 (.inl he)
end Go.Proofs.Ytmonkjogonjflaa
