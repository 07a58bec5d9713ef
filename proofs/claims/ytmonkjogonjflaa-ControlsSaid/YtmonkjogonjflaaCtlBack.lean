/- Packets as bytes and back; the walk of the law ControlBack: it returns true. No condition but memory's own limits. -/
import Derived.Test.YtmonkjogonjflaaCtlLaws
namespace Go.Proofs.Ytmonkjogonjflaa
open Go.RowKit
set_option linter.unusedVariables false
set_option linter.unusedSimpArgs false
attribute [local go_sem] conv1 conv1d conv1n conv1a conv1ad conv1an conv2 conv2d conv2n conv2a conv2ad conv2an conv4 conv4d conv4n conv4a conv4ad conv4an conv5 conv5d conv5n conv5a conv5ad conv5an size_nums byt_fold
theorem conf_oct {c : Int} (h : confB c = true) : 1 ≤ c ∧ c ≤ 4 := by unfold confB at h; exact of_decide_eq_true h
theorem ctl_zero {c i : Int} {os : List (Int × ByteArray)} {d : ByteArray} (h : cE c i os d = 0) : octB c = true ∧ octB i = true ∧ cBad c os d = false ∧ (cBody c os d).size ≤ 2044 ∧ cS c i os d = headed c i (cBody c os d) := by
  have h0 := h
  unfold cE at h
  cases h1 : octB c
  · rw [h1] at h; simp at h
  · cases h2 : octB i
    · rw [h1, h2] at h; simp at h
    · rw [h1, h2] at h
      cases h3 : cBad c os d
      · rw [h3] at h
        by_cases h4 : 2044 < (cBody c os d).size
        · simp [h4] at h
        · exact ⟨rfl, rfl, rfl, by omega, by unfold cS; rw [if_pos h0]⟩
      · rw [h3] at h; simp at h
theorem ctl_back {c i : Int} {os : List (Int × ByteArray)} {d : ByteArray} (more : ByteArray) (h : cE c i os d = 0) :
    kE (headed c i (cBody c os d) ++ more) = 0 ∧ kCode (headed c i (cBody c os d) ++ more) = c ∧ kId (headed c i (cBody c os d) ++ more) = i ∧ kL (headed c i (cBody c os d) ++ more) = os ∧ kD (headed c i (cBody c os d) ++ more) = d := by
  obtain ⟨h1, h2, h3, h4, _⟩ := ctl_zero h
  obtain ⟨b0, b1, b2, b3⟩ := headed_bytes (oct_yes h1) (oct_yes h2) (B := cBody c os d) (by omega) more
  have hs : (headed c i (cBody c os d) ++ more).size = 4 + (cBody c os d).size + more.size := by rw [size_app, headed_size]
  have hkb : kBody (headed c i (cBody c os d) ++ more) = cBody c os d := by unfold kBody; rw [b2]; exact b3
  cases hc : confB c
  · have hos : os = [] := by
      unfold cBad at h3; rw [hc] at h3
      have := of_decide_eq_false h3
      exact List.eq_nil_of_length_eq_zero (by omega)
    have hbd : cBody c os d = d := by unfold cBody; rw [hc]; rfl
    have e : kE (headed c i (cBody c os d) ++ more) = 0 := kE_0 (by omega) (by rw [b2]; omega) (by rw [b2]; omega) (.inl (by rw [b0]; exact hc))
    refine ⟨e, ?_, ?_, ?_, ?_⟩
    · unfold kCode; rw [if_pos e]; exact b0
    · unfold kId; rw [if_pos e]; exact b1
    · unfold kL; rw [b0, hc, hos]; simp
    · unfold kD; rw [if_pos ⟨e, by rw [b0]; exact hc⟩, hkb]; exact hbd
  · have hbd : cBody c os d = oJoin os := by unfold cBody; rw [hc]; rfl
    unfold cBad at h3
    rw [hc] at h3
    have h5 := of_decide_eq_false h3
    have ho : oE os = 0 := by
      by_cases h : oE os = 0
      · exact h
      · exact absurd (Or.inl h) h5
    have hd : d = ⟨#[]⟩ := eq_empty d (by
      rcases Nat.eq_zero_or_pos d.size with h | h
      · exact h
      · exact absurd (Or.inr h) h5)
    obtain ⟨u1, u2⟩ := back1 ho
    have e : kE (headed c i (cBody c os d) ++ more) = 0 := kE_0 (by omega) (by rw [b2]; omega) (by rw [b2]; omega) (.inr (by rw [hkb, hbd]; exact u1))
    refine ⟨e, ?_, ?_, ?_, ?_⟩
    · unfold kCode; rw [if_pos e]; exact b0
    · unfold kId; rw [if_pos e]; exact b1
    · unfold kL; rw [if_pos ⟨e, by rw [b0]; exact hc⟩, hkb, hbd]; exact u2
    · unfold kD; rw [b0, hc, hd]; simp
theorem ctl_cut {c i : Int} {os : List (Int × ByteArray)} {d : ByteArray} (h : cE c i os d = 0) : ¬ kE ((headed c i (cBody c os d)).extract 0 ((headed c i (cBody c os d)).size - 1)) = 0 := by
  obtain ⟨h1, h2, h3, h4, _⟩ := ctl_zero h
  obtain ⟨g1, g2⟩ := headed_cut (c := c) (i := i) (B := cBody c os d) (by omega)
  by_cases h0 : (cBody c os d).size = 0
  · rw [kE_500 (by omega)]; decide
  · rw [kE_501 (by omega) (.inr (by rw [g1, g2 (by omega)]; omega))]; decide
set_option maxRecDepth 100000 in
set_option maxHeartbeats 1000000 in
theorem controlBack_no (c i : Int) (A : Option Addr) (n cap : Nat) (os : List (Int × ByteArray)) (d more : ByteArray) (hn : n * 24 ≤ 140737488351232) (hd : d.size ≤ 140737488351232) (h : ¬ cE c i os d = 0) (w : World) (hv : OptsAt w A n os) :
    Calls Try.prog 4 #[.agg #[.int .i64 c, .int .i64 i, .slice A n cap, .string d], .string more] w fun e w' => e = .returned (.bool true) ∧ Below w.heap.size w w' := by
  have HV := Lib.hid hv; clear hv
  have hs : cS c i os d = ⟨#[]⟩ := by unfold cS; rw [if_neg h]
  have hb : (cE c i os d == 0) = false := by simpa using h
  clear h
  go_enter Try.func4, Try.ntmps4
  go_wp2_with (first | (go_at_call 13; refine (num_any _ _).mono ?_; rintro e w' ⟨rfl, rfl⟩))
  refine (awake_any _).mono ?_
  rintro e w1 ⟨rfl, hb1⟩
  have hz1 := hb1.size
  simp at hz1
  have BP := (Box.new w w.heap.size rfl #[.int .i64 c, .int .i64 i, .slice A n cap, .string d] 24).keep hb1
  have bel1 : Below w.heap.size w w1 := ((Below.refl _ _).alloc (Nat.le_refl _) _).trans (hb1.mono (by simp))
  have p0 := BP.2 0 _ rfl
  have p1 := BP.2 1 _ rfl
  have p2 := BP.2 2 _ rfl
  have p3 := BP.2 3 _ rfl
  clear BP
  go_wp2_with (first | (go_at_call 13; refine (num_any _ _).mono ?_; rintro e w' ⟨rfl, rfl⟩))
  refine (ctlput_any c i A n cap os d _ (HV.out.keep bel1) (by omega) hd).mono ?_
  rintro e w2 ⟨rfl, hb2⟩
  go_wp2_with (first | (go_at_call 13; refine (num_any _ _).mono ?_; rintro e w' ⟨rfl, rfl⟩))
  go_ret
  exact ⟨by simp, below_step bel1 hb2 (by omega)⟩
set_option maxRecDepth 100000 in
set_option maxHeartbeats 1000000 in
theorem controlBack_yes (c i : Int) (A : Option Addr) (n cap : Nat) (os : List (Int × ByteArray)) (d more : ByteArray) (hn : n * 24 ≤ 140737488351232) (hd : d.size ≤ 140737488351232) (hm : more.size ≤ 140737488351232) (h : cE c i os d = 0) (w : World) (hv : OptsAt w A n os) :
    Calls Try.prog 4 #[.agg #[.int .i64 c, .int .i64 i, .slice A n cap, .string d], .string more] w fun e w' => e = .returned (.bool true) ∧ Below w.heap.size w w' := by
  have HV := Lib.hid hv; clear hv
  obtain ⟨h1, h2, h3, h4, hs⟩ := ctl_zero h
  have hb := ctl_back more h
  have hcut := ctl_cut h
  have hS : (headed c i (cBody c os d)).size = 4 + (cBody c os d).size := headed_size _ _ _
  obtain ⟨T, hT⟩ : ∃ T, headed c i (cBody c os d) = T := ⟨_, rfl⟩
  rw [hT] at hb hcut hS hs
  have HB := Lib.hid hb
  have H := Lib.hid h; have HS := Lib.hid hs
  have k1 : (kE (T.extract 0 (T.size - 1)) == 0) = false := by simpa using hcut
  have k2 : (kE (T.extract 0 (T.size - 1)) != 0) = true := by simpa using hcut
  have t1 : 1 ≤ T.size := by omega
  have t2 : T.size ≤ 2048 := by omega
  clear hb hcut hS h1 h2 h3 h4 h hs hT
  go_enter Try.func4, Try.ntmps4
  go_wp2_with (first | (go_at_call 13; refine (num_any _ _).mono ?_; rintro e w' ⟨rfl, rfl⟩))
  refine (awake_any _).mono ?_
  rintro e w1 ⟨rfl, hb1⟩
  have hz1 := hb1.size
  simp at hz1
  have BP := (Box.new w w.heap.size rfl #[.int .i64 c, .int .i64 i, .slice A n cap, .string d] 24).keep hb1
  have bel1 : Below w.heap.size w w1 := ((Below.refl _ _).alloc (Nat.le_refl _) _).trans (hb1.mono (by simp))
  have p0 := BP.2 0 _ rfl
  have p1 := BP.2 1 _ rfl
  have p2 := BP.2 2 _ rfl
  have p3 := BP.2 3 _ rfl
  have BP1 := Lib.hid BP
  clear BP
  go_wp2_with (first | (go_at_call 13; refine (num_any _ _).mono ?_; rintro e w' ⟨rfl, rfl⟩))
  refine (ctlput_any c i A n cap os d _ (HV.out.keep bel1) (by omega) hd).mono ?_
  rintro e w2 ⟨rfl, hb2⟩
  rw [H.out, HS.out]
  have hz2 := hb2.size
  have bel2 := below_step bel1 hb2 (by omega)
  have BP2 := Lib.hid (BP1.out.keep hb2)
  clear p0 p1 p2 p3
  go_wp2_with (first | (go_at_call 13; refine (num_any _ _).mono ?_; rintro e w' ⟨rfl, rfl⟩))
  refine (ctlget_any _ _).mono ?_
  rintro e w3 ⟨A3, cap3, rfl, hown3, hb3⟩
  rw [HB.out.1, HB.out.2.1, HB.out.2.2.1, HB.out.2.2.2.1, HB.out.2.2.2.2]
  rw [HB.out.2.2.2.1] at hown3
  have hz3 := hb3.size
  have bel3 := below_step bel2 hb3 (by omega)
  have BP3 := Lib.hid (BP2.out.keep hb3)
  have HV3 := Lib.hid (OptsAt.own hown3); clear hown3
  have hlen := HV.out.1
  have HLEN := Lib.hid hlen; clear hlen
  have BQ3 := Lib.hid (Box.new w3 w3.heap.size rfl #[.int .i64 c, .int .i64 i, .slice A3 os.length cap3, .string d] 24)
  go_wp2_with (first | (go_at_call 13; refine (num_any _ _).mono ?_; rintro e w' ⟨rfl, rfl⟩))
  refine (ctlget_any _ _).mono ?_
  rintro e w4 ⟨A4, cap4, rfl, hown4, hb4⟩
  clear hown4
  have hz4 := hb4.size
  simp at hz4
  have bel4 : Below w.heap.size w w4 := (bel3.alloc (by omega) _).trans (hb4.mono (by simp; omega))
  have BP4 := (BP3.out.alloc _).keep hb4
  have BQ4 := BQ3.out.keep hb4
  have p0 := BP4.2 0 _ rfl
  have p1 := BP4.2 1 _ rfl
  have p2 := BP4.2 2 _ rfl
  have p3 := BP4.2 3 _ rfl
  have q0 := BQ4.2 0 _ rfl
  have q1 := BQ4.2 1 _ rfl
  have q2 := BQ4.2 2 _ rfl
  have q3 := BQ4.2 3 _ rfl
  clear BP4 BQ4
  have zz1 : w.heap.size < w4.heap.size := by omega
  have zz2 : w3.heap.size < w4.heap.size := by omega
  go_wp2_with (first | (go_at_call 13; refine (num_any _ _).mono ?_; rintro e w' ⟨rfl, rfl⟩))
  refine (samep_any c i d _ _ _ _ _ _ os _ (((HV3.out.keep ((Below.refl _ _).alloc (Nat.le_refl _) _)).keep hb4).keep ((Below.refl _ _).alloc (Nat.le_refl _) _)) ((HV.out.keep bel4).keep ((Below.refl _ _).alloc (Nat.le_refl _) _)) (by have := HLEN.out; omega)).mono ?_
  rintro e w5 ⟨rfl, hb5⟩
  go_wp2_with (first | (go_at_call 13; refine (num_any _ _).mono ?_; rintro e w' ⟨rfl, rfl⟩))
  go_ret
  exact ⟨by simp, (bel4.alloc (by omega) _).trans (hb5.mono (by simp; omega))⟩
theorem controlBack_walk (c i : Int) (A : Option Addr) (n cap : Nat) (os : List (Int × ByteArray)) (d more : ByteArray) (k0 : (Lit.int .i64 c).wf = true) (k1 : (Lit.int .i64 i).wf = true) (hnil : A = none → n = 0 ∧ cap = 0) (hcap : n ≤ cap) (hz : n * 24 ≤ 140737488351232 ∧ ∀ o ∈ os, o.2.size ≤ 140737488351232) (hd : d.size ≤ 140737488351232) (hm : more.size ≤ 140737488351232) (w : World) (hv : OptsAt w A n os) :
    Calls Try.prog 4 #[.agg #[.int .i64 c, .int .i64 i, .slice A n cap, .string d], .string more] w fun e w' => e = .returned (.bool true) ∧ Below w.heap.size w w' := by
  by_cases h : cE c i os d = 0
  · exact controlBack_yes c i A n cap os d more hz.1 hd hm h w hv
  · exact controlBack_no c i A n cap os d more hz.1 hd h w hv
end Go.Proofs.Ytmonkjogonjflaa
