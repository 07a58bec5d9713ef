/- The walk of the law ControlCodes: it returns true. No condition but memory's own limits. -/
import Derived.Test.YtmonkjogonjflaaCtlKinds
import Derived.Test.YtmonkjogonjflaaCells
namespace Go.Proofs.Ytmonkjogonjflaa
open Go.RowKit
set_option linter.unusedVariables false
set_option linter.unusedSimpArgs false
attribute [local go_sem] conv1 conv1d conv1n conv1a conv1ad conv1an conv2 conv2d conv2n conv2a conv2ad conv2an conv4 conv4d conv4n conv4a conv4ad conv4an conv5 conv5d conv5n conv5a conv5ad conv5an size_nums byt_fold
theorem OptsAt.set_ {w : World} {A : Option Addr} {n : Nat} {os : List (Int × ByteArray)} (h : OptsAt w A n os) {p : Addr} (hne : ∀ b off, A = some ⟨b, off, none⟩ → b ≠ p.block) (u : Value) : OptsAt (w.setCell p u) A n os := by
  refine ⟨h.1, fun hn => ?_⟩
  obtain ⟨b, off, e, hlt, hc⟩ := h.2 hn
  have hx := hne b off e
  refine ⟨b, off, e, by simpa using hlt, fun j hj => ?_⟩
  obtain ⟨h1, h2⟩ := hc j hj
  exact ⟨(World.cell?_setCell_other w p _ u (fun e => hx (by rw [e]))).trans h1, (World.cell?_setCell_other w p _ u (fun e => hx (by rw [e]))).trans h2⟩
theorem Box.of4 {w : World} {b : Nat} {v0 v1 v2 v3 : Value} (h0 : w.cell? ⟨b, 0, none⟩ = some v0) (h1 : w.cell? ⟨b, 1, none⟩ = some v1) (h2 : w.cell? ⟨b, 2, none⟩ = some v2) (h3 : w.cell? ⟨b, 3, none⟩ = some v3) : Box w b [v0, v1, v2, v3] := by
  refine ⟨cell_lt h0, fun j v hj => ?_⟩
  have : j < 4 := by have := (List.getElem?_eq_some_iff.1 hj).1; simpa using this
  have : j = 0 ∨ j = 1 ∨ j = 2 ∨ j = 3 := by omega
  rcases this with rfl | rfl | rfl | rfl <;> (injection hj with hj; subst hj; assumption)
theorem oct_no_big {c : Int} (h : c < 0 ∨ 255 < c) : octB c = false := by unfold octB; exact decide_eq_false (by omega)
theorem cE_501 {c i : Int} {os : List (Int × ByteArray)} {d : ByteArray} (h : octB c = false ∨ octB i = false) : cE c i os d = 501 := by unfold cE; rcases h with h | h <;> rw [h] <;> simp
theorem codes_data (c i : Nat) (d : ByteArray) (hc : c < 256) (hi : i < 256) (h : c < 1 ∨ 4 < c) (hd : d.size ≤ 100) : cE c i [] d = 0 ∧ cS c i [] d = headed c i d ∧ cBody c [] d = d := by
  have hcf : confB (c : Int) = false := by unfold confB; exact decide_eq_false (by omega)
  have b1 : cBad (c : Int) [] d = false := by unfold cBad; rw [hcf]; have hq : ¬ 0 < ([] : List (Int × ByteArray)).length := (by decide); exact decide_eq_false hq
  have y1 : cBody (c : Int) [] d = d := by unfold cBody; rw [hcf]; rfl
  obtain ⟨e1, e2⟩ := cE_mk (c := c) (i := i) (oct_nat hc) (oct_nat hi) b1 (by rw [y1]; omega)
  rw [y1] at e2
  exact ⟨e1, e2, y1⟩
theorem codes_opts (c i : Nat) (d : ByteArray) (hc : c < 256) (hi : i < 256) (h : 1 ≤ c ∧ c ≤ 4) (hd : d.size ≤ 100) : cE c i [(3, d)] ⟨#[]⟩ = 0 ∧ cS c i [(3, d)] ⟨#[]⟩ = headed c i (oText (3, d)) ∧ cBody c [(3, d)] ⟨#[]⟩ = oText (3, d) := by
  have hcf : confB (c : Int) = true := by unfold confB; exact decide_eq_true (by omega)
  have he : oE [(3, d)] = 0 := by
    have h1 : oBad [(3, d)] = false := rfl
    have h2 : oLong [(3, d)] 0 = false := oLong_false _ _ (by simp; omega) (by simp [oSum]; omega)
    unfold oE; rw [h1, h2]; rfl
  have b1 : cBad (c : Int) [(3, d)] ⟨#[]⟩ = false := by unfold cBad; rw [hcf, he]; have hq : ¬ (¬ (0 : Int) = 0 ∨ 0 < (⟨#[]⟩ : ByteArray).size) := (by decide); exact decide_eq_false hq
  have y1 : cBody (c : Int) [(3, d)] ⟨#[]⟩ = oText (3, d) := by unfold cBody; rw [hcf]; exact oJoin_one _
  have hz := oText_size (3, d)
  obtain ⟨e1, e2⟩ := cE_mk (c := c) (i := i) (oct_nat hc) (oct_nat hi) b1 (by rw [y1, hz]; show 2 + d.size ≤ 2044; omega)
  rw [y1] at e2
  exact ⟨e1, e2, y1⟩
set_option maxRecDepth 100000 in
set_option maxHeartbeats 1000000 in
theorem codes_a (code id : Int) (s d : ByteArray) (c i : Nat) (w : World) (hm : bits .and .i64 code 255 = (c : Int)) (hc : c < 256) (hi : bits .and .i64 id 255 = (i : Int)) (hi1 : i < 256)
    (hs : (s.size ≤ 100 ∧ d = s) ∨ (100 < s.size ∧ s.extract 0 100 = d)) (hlen : d.size ≤ 100) (hk : c < 1 ∨ 4 < c) :
    Calls Try.prog 7 #[.int .i64 code, .int .i64 id, .string s] w fun e w' => e = .returned (.bool true) ∧ Below w.heap.size w w' := by
  obtain ⟨e1, e2, e3⟩ := codes_data c i d hc hi1 hk hlen
  have hb := ctl_back ⟨#[]⟩ e1
  rw [app_empty, e3] at hb
  have E1 := Lib.hid e1; have E2 := Lib.hid e2; have HB := Lib.hid hb
  have B1 := Lib.hid (cE_501 (c := 256 + (c : Int)) (i := 1) (os := []) (d := ⟨#[]⟩) (.inl (oct_no_big (by omega))))
  have B2 := Lib.hid (cE_501 (c := 9) (i := -1 - (i : Int)) (os := []) (d := ⟨#[]⟩) (.inr (oct_no_big (by omega))))
  clear e1 e2 e3 hb
  rcases hs with ⟨hs, rfl⟩ | ⟨hs, hd⟩
  all_goals
    rcases hk with hk | hk
    all_goals
      go_enter Try.func7, Try.ntmps7
      go_wp2_with (first | (go_at_call 13; refine (num_any _ _).mono ?_; rintro e w' ⟨rfl, rfl⟩))
      refine (awake_any _).mono ?_
      rintro e w1 ⟨rfl, hb1⟩
      have hz1 := hb1.size
      have BP1 := Lib.hid (Box.new w1 w1.heap.size rfl #[.int .i64 c, .int .i64 i, .slice none 0 0, .string d] 24)
      go_wp2_with (first | (go_at_call 13; refine (num_any _ _).mono ?_; rintro e w' ⟨rfl, rfl⟩))
      refine (ctlput_any c i none 0 0 [] d _ (OptsAt.nil _ _) (by omega) (by omega)).mono ?_
      rintro e w2 ⟨rfl, hb2⟩
      rw [E1.out, E2.out]
      have hz2 := hb2.size
      simp at hz2
      have bel2 : Below w.heap.size w w2 := (hb1.alloc hz1 _).trans (hb2.mono (by simp; omega))
      have BP2 := Lib.hid (BP1.out.keep hb2)
      go_wp2_with (first | (go_at_call 13; refine (num_any _ _).mono ?_; rintro e w' ⟨rfl, rfl⟩))
      refine (ctlget_any _ _).mono ?_
      rintro e w3 ⟨A3, cap3, rfl, hown3, hb3⟩
      rw [HB.out.1, HB.out.2.1, HB.out.2.2.1, HB.out.2.2.2.1, HB.out.2.2.2.2]
      clear hown3
      have hz3 := hb3.size
      have bel3 := below_step bel2 hb3 (by omega)
      have BP3 := Lib.hid (BP2.out.keep hb3)
      have BQ3 := Lib.hid (Box.new w3 w3.heap.size rfl #[.int .i64 c, .int .i64 i, .slice A3 0 cap3, .string d] 24)
      go_wp2_with (first | (go_at_call 13; refine (num_any _ _).mono ?_; rintro e w' ⟨rfl, rfl⟩))
      refine (ctlput_any _ _ none 0 0 [] ⟨#[]⟩ _ (OptsAt.nil _ _) (by omega) (by decide)).mono ?_
      rintro e w4 ⟨rfl, hb4⟩
      rw [B1.out]
      have hz4 := hb4.size
      simp at hz4
      have bel4 : Below w.heap.size w w4 := (bel3.alloc (by omega) _).trans (hb4.mono (by simp; omega))
      have BP4 := Lib.hid ((BP3.out.alloc _).keep hb4)
      have BQ4 := Lib.hid (BQ3.out.keep hb4)
      go_wp2_with (first | (go_at_call 13; refine (num_any _ _).mono ?_; rintro e w' ⟨rfl, rfl⟩))
      refine (ctlput_any _ _ none 0 0 [] ⟨#[]⟩ _ (OptsAt.nil _ _) (by omega) (by decide)).mono ?_
      rintro e w5 ⟨rfl, hb5⟩
      rw [B2.out]
      have hz5 := hb5.size
      have bel5 := below_step bel4 hb5 (by omega)
      have BP5 := BP4.out.keep hb5
      have BQ5 := BQ4.out.keep hb5
      have p0 := BP5.2 0 _ rfl
      have p1 := BP5.2 1 _ rfl
      have p2 := BP5.2 2 _ rfl
      have p3 := BP5.2 3 _ rfl
      have q0 := BQ5.2 0 _ rfl
      have q1 := BQ5.2 1 _ rfl
      have q2 := BQ5.2 2 _ rfl
      have q3 := BQ5.2 3 _ rfl
      clear BP5 BQ5
      go_wp2_with (first | (go_at_call 13; refine (num_any _ _).mono ?_; rintro e w' ⟨rfl, rfl⟩))
      refine (samep_any c i d _ _ _ _ _ _ [] _ (OptsAt.nil _ _) (OptsAt.nil _ _) (by omega)).mono ?_
      rintro e w6 ⟨rfl, hb6⟩
      go_wp2_with (first | (go_at_call 13; refine (num_any _ _).mono ?_; rintro e w' ⟨rfl, rfl⟩))
      go_ret
      exact ⟨by simp, below_step bel5 hb6 (by omega)⟩
set_option maxRecDepth 100000 in
set_option maxHeartbeats 1000000 in
theorem codes_b (code id : Int) (s d : ByteArray) (c i : Nat) (w : World) (hm : bits .and .i64 code 255 = (c : Int)) (hc : c < 256) (hi : bits .and .i64 id 255 = (i : Int)) (hi1 : i < 256)
    (hs : (s.size ≤ 100 ∧ d = s) ∨ (100 < s.size ∧ s.extract 0 100 = d)) (hlen : d.size ≤ 100) (hk1 : 1 ≤ c) (hk4 : c ≤ 4) :
    Calls Try.prog 7 #[.int .i64 code, .int .i64 id, .string s] w fun e w' => e = .returned (.bool true) ∧ Below w.heap.size w w' := by
  obtain ⟨e1, e2, e3⟩ := codes_opts c i d hc hi1 ⟨hk1, hk4⟩ hlen
  have hb := ctl_back ⟨#[]⟩ e1
  rw [app_empty, e3] at hb
  have E1 := Lib.hid e1; have E2 := Lib.hid e2; have HB := Lib.hid hb
  have B1 := Lib.hid (cE_501 (c := 256 + (c : Int)) (i := 1) (os := []) (d := ⟨#[]⟩) (.inl (oct_no_big (by omega))))
  have B2 := Lib.hid (cE_501 (c := 9) (i := -1 - (i : Int)) (os := []) (d := ⟨#[]⟩) (.inr (oct_no_big (by omega))))
  clear e1 e2 e3 hb
  rcases hs with ⟨hs, rfl⟩ | ⟨hs, hd⟩
  all_goals
    go_enter Try.func7, Try.ntmps7
    go_wp2_with (first | (go_at_call 13; refine (num_any _ _).mono ?_; rintro e w' ⟨rfl, rfl⟩))
    refine (awake_any _).mono ?_
    rintro e w1 ⟨rfl, hb1⟩
    have hz1 := hb1.size
    have HV1 := Lib.hid (OptsAt.made_at (w1.alloc (.cells #[.int .i64 c, .int .i64 i, .slice (some ⟨w1.heap.size + 1, 0, none⟩) 1 1, .string ⟨#[]⟩] 24)) (w1.heap.size + 1) (by simp) [(3, d)] #[.int .i64 3, .string d] 46 1 rfl rfl)
    have BP1 := Lib.hid ((Box.new w1 w1.heap.size rfl #[.int .i64 c, .int .i64 i, .slice (some ⟨w1.heap.size + 1, 0, none⟩) 1 1, .string ⟨#[]⟩] 24).alloc (.cells #[.int .i64 3, .string d] 46))
    go_wp2_with (first | (go_at_call 13; refine (num_any _ _).mono ?_; rintro e w' ⟨rfl, rfl⟩))
    refine (ctlput_any c i _ 1 1 [(3, d)] ⟨#[]⟩ _ HV1.out (by omega) (by decide)).mono ?_
    rintro e w2 ⟨rfl, hb2⟩
    rw [E1.out, E2.out]
    have hz2 := hb2.size
    simp at hz2
    have BP2 := Lib.hid (BP1.out.keep hb2)
    have HV2 := Lib.hid (HV1.out.keep hb2)
    have bel2 : Below w.heap.size w w2 := by
      refine below_step ?_ hb2 (by simp; omega)
      exact ((hb1.alloc hz1 _).alloc (by simp; omega) _)
    go_wp2_with (first | (go_at_call 13; refine (num_any _ _).mono ?_; rintro e w' ⟨rfl, rfl⟩))
    refine (ctlget_any _ _).mono ?_
    rintro e w3 ⟨A3, cap3, rfl, hown3, hb3⟩
    rw [HB.out.1, HB.out.2.1, HB.out.2.2.1, HB.out.2.2.2.1, HB.out.2.2.2.2]
    rw [HB.out.2.2.2.1] at hown3
    have HV3 := Lib.hid (OptsAt.own hown3)
    clear hown3
    have hz3 := hb3.size
    have bel3 := below_step bel2 hb3 (by omega)
    have BP3 := Lib.hid (BP2.out.keep hb3)
    have BQ3 := Lib.hid (Box.new w3 w3.heap.size rfl #[.int .i64 c, .int .i64 i, .slice A3 1 cap3, .string ⟨#[]⟩] 24)
    go_wp2_with (first | (go_at_call 13; refine (num_any _ _).mono ?_; rintro e w' ⟨rfl, rfl⟩))
    refine (ctlput_any _ _ none 0 0 [] ⟨#[]⟩ _ (OptsAt.nil _ _) (by omega) (by decide)).mono ?_
    rintro e w4 ⟨rfl, hb4⟩
    rw [B1.out]
    have hz4 := hb4.size
    simp at hz4
    have bel4 : Below w.heap.size w w4 := (bel3.alloc (by omega) _).trans (hb4.mono (by simp; omega))
    have BP4 := Lib.hid ((BP3.out.alloc _).keep hb4)
    have BQ4 := Lib.hid (BQ3.out.keep hb4)
    go_wp2_with (first | (go_at_call 13; refine (num_any _ _).mono ?_; rintro e w' ⟨rfl, rfl⟩))
    refine (ctlput_any _ _ none 0 0 [] ⟨#[]⟩ _ (OptsAt.nil _ _) (by omega) (by decide)).mono ?_
    rintro e w5 ⟨rfl, hb5⟩
    rw [B2.out]
    have hz5 := hb5.size
    have bel5 := below_step bel4 hb5 (by omega)
    have BP5 := BP4.out.keep hb5
    have BQ5 := BQ4.out.keep hb5
    have p0 := BP5.2 0 _ rfl
    have p1 := BP5.2 1 _ rfl
    have p2 := BP5.2 2 _ rfl
    have p3 := BP5.2 3 _ rfl
    have q0 := BQ5.2 0 _ rfl
    have q1 := BQ5.2 1 _ rfl
    have q2 := BQ5.2 2 _ rfl
    have q3 := BQ5.2 3 _ rfl
    clear BP5 BQ5
    go_wp2_with (first | (go_at_call 13; refine (num_any _ _).mono ?_; rintro e w' ⟨rfl, rfl⟩))
    refine (samep_any c i ⟨#[]⟩ _ _ _ _ _ _ [(3, d)] _ (((HV3.out.keep ((Below.refl _ _).alloc (Nat.le_refl _) _)).keep hb4).keep hb5) ((((HV2.out.keep hb3).keep ((Below.refl _ _).alloc (Nat.le_refl _) _)).keep hb4).keep hb5) (by simp)).mono ?_
    rintro e w6 ⟨rfl, hb6⟩
    go_wp2_with (first | (go_at_call 13; refine (num_any _ _).mono ?_; rintro e w' ⟨rfl, rfl⟩))
    go_ret
    exact ⟨by simp, below_step bel5 hb6 (by omega)⟩
theorem controlCodes_walk (code id : Int) (s : ByteArray) (k0 : (Lit.int .i64 code).wf = true) (k1 : (Lit.int .i64 id).wf = true) (hs : s.size ≤ 140737488351232) (w : World) :
    Calls Try.prog 7 #[.int .i64 code, .int .i64 id, .string s] w fun e w' => e = .returned (.bool true) ∧ Below w.heap.size w w' := by
  obtain ⟨c, hm, hc, _⟩ := mask_nat 8 (by decide) 255 (by decide) code
  obtain ⟨i, hi, hi1, _⟩ := mask_nat 8 (by decide) 255 (by decide) id
  have hd : ∃ d : ByteArray, ((s.size ≤ 100 ∧ d = s) ∨ (100 < s.size ∧ s.extract 0 100 = d)) ∧ d.size ≤ 100 := by
    by_cases h : 100 < s.size
    · exact ⟨_, .inr ⟨h, rfl⟩, by rw [size_ext]; omega⟩
    · exact ⟨s, .inl ⟨by omega, rfl⟩, by omega⟩
  obtain ⟨d, h1, h2⟩ := hd
  by_cases hk : 1 ≤ c ∧ c ≤ 4
  · exact codes_b code id s d c i w hm hc hi hi1 h1 h2 hk.1 hk.2
  · exact codes_a code id s d c i w hm hc hi hi1 h1 h2 (by omega)
end Go.Proofs.Ytmonkjogonjflaa
