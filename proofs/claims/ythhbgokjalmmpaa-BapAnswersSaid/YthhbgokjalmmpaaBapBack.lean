/- Datagrams as bytes and back; the walk of the law BapBack: it returns true. No condition but memory's own limits. -/
import Derived.Test.YthhbgokjalmmpaaBapLaws
namespace Go.Proofs.Ythhbgokjalmmpaa
open Go.RowKit
set_option linter.unusedVariables false
set_option linter.unusedSimpArgs false
attribute [local go_sem] conv1 conv1d conv1n conv1a conv1ad conv1an conv2 conv2d conv2n conv2a conv2ad conv2an conv4 conv4d conv4n conv4a conv4ad conv4an conv5 conv5d conv5n conv5a conv5ad conv5an size_nums byt_fold
theorem bap_zero {c i a : Int} {os : List (Int × ByteArray)} (h : bE c i a os = 0) : bMay c i = true ∧ (0 ≤ a ∧ a ≤ 255) ∧ (bResp c = false → a = 0) ∧ oE os = 0 ∧ (bBody c a os).size ≤ 2044 ∧ bS c i a os = headed c i (bBody c a os) := by
  have h0 := h
  unfold bE at h
  cases hg : bGood c i a os
  · rw [hg] at h; simp at h
  · rw [hg] at h
    by_cases h4 : 2044 < (bBody c a os).size
    · simp [h4] at h
    · unfold bGood at hg
      simp only [Bool.and_eq_true, Bool.or_eq_true, decide_eq_true_eq] at hg
      obtain ⟨⟨⟨g1, g2⟩, g3⟩, g4⟩ := hg
      exact ⟨g1, g2, fun hr => by rw [hr] at g3; simpa using g3, g4, by omega, by unfold bS; rw [if_pos h0]⟩
theorem resp_size {c a : Int} {os : List (Int × ByteArray)} (h : bResp c = true) : (bBody c a os).size = 1 + (oJoin os).size := by
  unfold bBody; rw [h]; show (strOfNums [a] ++ oJoin os).size = _; rw [size_app, size_nums]; rfl
theorem bap_back {c i a : Int} {os : List (Int × ByteArray)} (more : ByteArray) (h : bE c i a os = 0) :
    gE (headed c i (bBody c a os) ++ more) = 0 ∧ gC (headed c i (bBody c a os) ++ more) = c ∧ gI (headed c i (bBody c a os) ++ more) = i ∧ gA (headed c i (bBody c a os) ++ more) = a ∧ gL (headed c i (bBody c a os) ++ more) = os := by
  obtain ⟨h1, h2, h3, h4, h5, _⟩ := bap_zero h
  obtain ⟨c0, c1, i0, i1⟩ := may_yes h1
  obtain ⟨b0, b1, b2, b3⟩ := headed_bytes (c := c) (i := i) (by omega) ⟨i0, i1⟩ (B := bBody c a os) (by omega) more
  have hs : (headed c i (bBody c a os) ++ more).size = 4 + (bBody c a os).size + more.size := by rw [size_app, headed_size]
  obtain ⟨u1, u2⟩ := back1 h4
  generalize hT : headed c i (bBody c a os) ++ more = T at *
  have hgb : gBody T = oJoin os ∧ gLeast T ≤ 4 + (bBody c a os).size ∧ (bResp c = true → byt T 4 = a) := by
    unfold gBody gLeast
    rw [b0, b2]
    cases hr : bResp c
    · have hb : bBody c a os = oJoin os := by unfold bBody; rw [hr]; rfl
      refine ⟨?_, by simp, by simp⟩
      show T.extract 4 (4 + (bBody c a os).size) = oJoin os
      rw [b3, hb]
    · have hb : bBody c a os = strOfNums [a] ++ oJoin os := by unfold bBody; rw [hr]; rfl
      have hz := resp_size (a := a) (os := os) hr
      refine ⟨?_, by simp; omega, fun _ => ?_⟩
      · show T.extract 5 (4 + (bBody c a os).size) = oJoin os
        have e : T.extract 5 (4 + (bBody c a os).size) = (T.extract 4 (4 + (bBody c a os).size)).extract 1 (bBody c a os).size := by
          rw [ext_ext _ _ _ _ _ (by omega)]
        rw [e, b3, hb, ext_app_r _ _ _ _ (by rw [size_nums]; simp), size_nums]
        exact ext_all _ _ (by rw [size_app, size_nums]; simp)
      · have e : byt T 4 = byt (T.extract 4 (4 + (bBody c a os).size)) 0 := by rw [byt_ext _ _ _ _ (by omega)]
        rw [e, b3, hb, byt_app_l _ _ _ (by rw [size_nums]; simp), byt_nums _ _ (by simp) (by simp; omega) (by simp; omega)]
        rfl
  obtain ⟨g1, g2, g3⟩ := hgb
  have hbad : gBad T = false := gBad_no (by omega) (by rw [b0, b1]; exact h1) (by rw [b2]; omega)
  have e : gE T = 0 := gE_ok hbad (by rw [g1, u1]; decide) (by rw [b2]; omega)
  refine ⟨e, ?_, ?_, ?_, ?_⟩
  · unfold gC; rw [if_pos e]; exact b0
  · unfold gI; rw [if_pos e]; exact b1
  · unfold gA
    rw [b0]
    cases hr : bResp c
    · rw [if_neg (by simp)]; exact (h3 hr).symm
    · rw [if_pos ⟨e, rfl⟩]; exact g3 hr
  · unfold gL; rw [if_pos e, g1]; exact u2
theorem bap_cut {c i a : Int} {os : List (Int × ByteArray)} (h : bE c i a os = 0) : gE ((headed c i (bBody c a os)).extract 0 ((headed c i (bBody c a os)).size - 1)) = 900 := by
  obtain ⟨h1, h2, h3, h4, h5, _⟩ := bap_zero h
  obtain ⟨g1, g2⟩ := headed_cut (c := c) (i := i) (B := bBody c a os) (by omega)
  by_cases h0 : (bBody c a os).size = 0
  · exact gE_bad (.inl (by omega))
  · exact gE_bad (.inr (.inr (.inr (by rw [g2 (by omega), g1]; omega))))
set_option maxRecDepth 100000 in
set_option maxHeartbeats 1000000 in
theorem bapBack_no (c i a : Int) (A : Option Addr) (n cap : Nat) (os : List (Int × ByteArray)) (more : ByteArray) (hn : n * 24 ≤ 140737488351232) (h : ¬ bE c i a os = 0) (w : World) (hv : OptsAt w A n os) :
    Calls Try.prog 3 #[.agg #[.int .i64 c, .int .i64 i, .int .i64 a, .slice A n cap], .string more] w fun e w' => e = .returned (.bool true) ∧ Below w.heap.size w w' := by
  have HV := Lib.hid hv; clear hv
  have hs : bS c i a os = ⟨#[]⟩ := by unfold bS; rw [if_neg h]
  have hb : (bE c i a os == 0) = false := by simpa using h
  have hb' : (bE c i a os != 0) = true := by simpa using h
  clear h
  go_enter Try.func3, Try.ntmps3
  go_wp2_with (first | (go_at_call 8; refine (num_any _ _).mono ?_; rintro e w' ⟨rfl, rfl⟩))
  refine (awake_any _).mono ?_
  rintro e w1 ⟨rfl, hb1⟩
  have hz1 := hb1.size
  simp at hz1
  have BP := (Box.new w w.heap.size rfl #[.int .i64 c, .int .i64 i, .int .i64 a, .slice A n cap] 24).keep hb1
  have bel1 : Below w.heap.size w w1 := ((Below.refl _ _).alloc (Nat.le_refl _) _).trans (hb1.mono (by simp))
  have p0 := BP.2 0 _ rfl
  have p1 := BP.2 1 _ rfl
  have p2 := BP.2 2 _ rfl
  have p3 := BP.2 3 _ rfl
  clear BP
  go_wp2_with (first | (go_at_call 8; refine (num_any _ _).mono ?_; rintro e w' ⟨rfl, rfl⟩))
  refine (bapput_any c i a A n cap os _ (HV.out.keep bel1) (by omega)).mono ?_
  rintro e w2 ⟨rfl, hb2⟩
  go_wp2_with (first | (go_at_call 8; refine (num_any _ _).mono ?_; rintro e w' ⟨rfl, rfl⟩))
  go_ret
  exact ⟨by simp, below_step bel1 hb2 (by omega)⟩
set_option maxRecDepth 100000 in
set_option maxHeartbeats 1000000 in
theorem bapBack_yes (c i a : Int) (A : Option Addr) (n cap : Nat) (os : List (Int × ByteArray)) (more : ByteArray) (hn : n * 24 ≤ 140737488351232) (hm : more.size ≤ 140737488351232) (h : bE c i a os = 0) (w : World) (hv : OptsAt w A n os) :
    Calls Try.prog 3 #[.agg #[.int .i64 c, .int .i64 i, .int .i64 a, .slice A n cap], .string more] w fun e w' => e = .returned (.bool true) ∧ Below w.heap.size w w' := by
  have HV := Lib.hid hv; clear hv
  obtain ⟨h1, h2, h3, h4, h5, hs⟩ := bap_zero h
  have hb := bap_back more h
  have hcut := bap_cut h
  have hS : (headed c i (bBody c a os)).size = 4 + (bBody c a os).size := headed_size _ _ _
  obtain ⟨T, hT⟩ : ∃ T, headed c i (bBody c a os) = T := ⟨_, rfl⟩
  rw [hT] at hb hcut hS hs
  have HB := Lib.hid hb
  have H := Lib.hid h; have HS := Lib.hid hs; have HC := Lib.hid hcut
  have t1 : 1 ≤ T.size := by omega
  have t2 : T.size ≤ 2048 := by omega
  clear hb hcut hS h1 h2 h3 h4 h5 h hs hT
  go_enter Try.func3, Try.ntmps3
  go_wp2_with (first | (go_at_call 8; refine (num_any _ _).mono ?_; rintro e w' ⟨rfl, rfl⟩))
  refine (awake_any _).mono ?_
  rintro e w1 ⟨rfl, hb1⟩
  have hz1 := hb1.size
  simp at hz1
  have BP := (Box.new w w.heap.size rfl #[.int .i64 c, .int .i64 i, .int .i64 a, .slice A n cap] 24).keep hb1
  have bel1 : Below w.heap.size w w1 := ((Below.refl _ _).alloc (Nat.le_refl _) _).trans (hb1.mono (by simp))
  have p0 := BP.2 0 _ rfl
  have p1 := BP.2 1 _ rfl
  have p2 := BP.2 2 _ rfl
  have p3 := BP.2 3 _ rfl
  have BP1 := Lib.hid BP
  clear BP
  go_wp2_with (first | (go_at_call 8; refine (num_any _ _).mono ?_; rintro e w' ⟨rfl, rfl⟩))
  refine (bapput_any c i a A n cap os _ (HV.out.keep bel1) (by omega)).mono ?_
  rintro e w2 ⟨rfl, hb2⟩
  rw [H.out, HS.out]
  have hz2 := hb2.size
  have bel2 := below_step bel1 hb2 (by omega)
  have BP2 := Lib.hid (BP1.out.keep hb2)
  clear p0 p1 p2 p3
  go_wp2_with (first | (go_at_call 8; refine (num_any _ _).mono ?_; rintro e w' ⟨rfl, rfl⟩))
  refine (bapget_any _ _).mono ?_
  rintro e w3 ⟨A3, cap3, rfl, hown3, hb3⟩
  rw [HB.out.1, HB.out.2.1, HB.out.2.2.1, HB.out.2.2.2.1, HB.out.2.2.2.2]
  rw [HB.out.2.2.2.2] at hown3
  have hz3 := hb3.size
  have bel3 := below_step bel2 hb3 (by omega)
  have BP3 := Lib.hid (BP2.out.keep hb3)
  have HV3 := Lib.hid (OptsAt.own hown3); clear hown3
  have hlen := HV.out.1
  have HLEN := Lib.hid hlen; clear hlen
  have BQ3 := Lib.hid (Box.new w3 w3.heap.size rfl #[.int .i64 c, .int .i64 i, .int .i64 a, .slice A3 os.length cap3] 24)
  go_wp2_with (first | (go_at_call 8; refine (num_any _ _).mono ?_; rintro e w' ⟨rfl, rfl⟩))
  refine (bapget_any _ _).mono ?_
  rintro e w4 ⟨A4, cap4, rfl, hown4, hb4⟩
  rw [HC.out]
  clear hown4
  have hz4 := hb4.size
  simp at hz4
  have bel4 : Below w.heap.size w w4 := (bel3.alloc (by omega) _).trans (hb4.mono (by simp; omega))
  have BP4 := (BP3.out.alloc _).keep hb4
  have BQ4 := BQ3.out.keep hb4
  have p0 := BP4.2 0 _ rfl
  have p1 := BP4.2 1 _ rfl
  have p2 := BP4.2 2 _ rfl
  have p3 := BP4.2 3 _ rfl
  have q0 := BQ4.2 0 _ rfl
  have q1 := BQ4.2 1 _ rfl
  have q2 := BQ4.2 2 _ rfl
  have q3 := BQ4.2 3 _ rfl
  clear BP4 BQ4
  have zz1 : w.heap.size < w4.heap.size := by omega
  have zz2 : w3.heap.size < w4.heap.size := by omega
  go_wp2_with (first | (go_at_call 8; refine (num_any _ _).mono ?_; rintro e w' ⟨rfl, rfl⟩))
  refine (sameb_any c i a _ _ _ _ _ _ os _ (((HV3.out.keep ((Below.refl _ _).alloc (Nat.le_refl _) _)).keep hb4).keep ((Below.refl _ _).alloc (Nat.le_refl _) _)) ((HV.out.keep bel4).keep ((Below.refl _ _).alloc (Nat.le_refl _) _)) (by have := HLEN.out; omega)).mono ?_
  rintro e w5 ⟨rfl, hb5⟩
  go_wp2_with (first | (go_at_call 8; refine (num_any _ _).mono ?_; rintro e w' ⟨rfl, rfl⟩))
  go_ret
  exact ⟨by simp, (bel4.alloc (by omega) _).trans (hb5.mono (by simp; omega))⟩
theorem bapBack_walk (c i a : Int) (A : Option Addr) (n cap : Nat) (os : List (Int × ByteArray)) (more : ByteArray) (k0 : (Lit.int .i64 c).wf = true) (k1 : (Lit.int .i64 i).wf = true) (k2 : (Lit.int .i64 a).wf = true) (hnil : A = none → n = 0 ∧ cap = 0) (hcap : n ≤ cap) (hz : n * 24 ≤ 140737488351232 ∧ ∀ o ∈ os, o.2.size ≤ 140737488351232) (hm : more.size ≤ 140737488351232) (w : World) (hv : OptsAt w A n os) :
    Calls Try.prog 3 #[.agg #[.int .i64 c, .int .i64 i, .int .i64 a, .slice A n cap], .string more] w fun e w' => e = .returned (.bool true) ∧ Below w.heap.size w w' := by
  by_cases h : bE c i a os = 0
  · exact bapBack_yes c i a A n cap os more hz.1 hm h w hv
  · exact bapBack_no c i a A n cap os more hz.1 h w hv
end Go.Proofs.Ythhbgokjalmmpaa
