/- The walk of the law ControlKinds: it returns true. No condition but memory's own limits. -/
import Derived.Test.YtmonkjogonjflaaCtlBack
import Derived.Test.YtmonkjogonjflaaOptRef
namespace Go.Proofs.Ytmonkjogonjflaa
open Go.RowKit
set_option linter.unusedVariables false
set_option linter.unusedSimpArgs false
attribute [local go_sem] conv1 conv1d conv1n conv1a conv1ad conv1an conv2 conv2d conv2n conv2a conv2ad conv2an conv4 conv4d conv4n conv4a conv4ad conv4an conv5 conv5d conv5n conv5a conv5ad conv5an size_nums byt_fold
theorem headed_tail (c i : Int) (B : ByteArray) : (headed c i B).extract 4 (headed c i B).size = B := by
  unfold headed
  rw [ext_app_r _ _ _ _ (by rw [size_nums]; simp), size_nums]
  exact ext_all _ _ (by rw [size_app, size_nums]; simp)
/-- What the two writings give. -/
structure KindsAre (c n : Nat) (T s1 s2 : ByteArray) (x1 x2 : Int) : Prop where
  conf : 1 ≤ c → c ≤ 4 → x1 = 0 ∧ s1.extract 4 s1.size = T ∧ 4 ≤ s1.size ∧ s1.size ≤ 2048 ∧ (T.size = 0 → x2 = 0) ∧ (0 < T.size → x2 = 502)
  other : (c < 1 ∨ 4 < c) → x2 = 0 ∧ s2.extract 4 s2.size = T ∧ 4 ≤ s2.size ∧ s2.size ≤ 2048 ∧ (n = 0 → x1 = 0) ∧ (0 < n → x1 = 502)
theorem oct_nat {c : Nat} (h : c < 256) : octB (c : Int) = true := by unfold octB; exact decide_eq_true (by omega)
theorem cE_mk {c i : Int} {os : List (Int × ByteArray)} {d : ByteArray} (h1 : octB c = true) (h2 : octB i = true) (h3 : cBad c os d = false) (h4 : (cBody c os d).size ≤ 2044) : cE c i os d = 0 ∧ cS c i os d = headed c i (cBody c os d) := by
  have e : cE c i os d = 0 := by unfold cE; rw [h1, h2, h3, if_neg (by omega : ¬ 2044 < _)]; rfl
  exact ⟨e, by unfold cS; rw [if_pos e]⟩
theorem cE_bad {c i : Int} {os : List (Int × ByteArray)} {d : ByteArray} (h1 : octB c = true) (h2 : octB i = true) (h3 : cBad c os d = true) : cE c i os d = 502 := by
  unfold cE; rw [h1, h2, h3]; rfl
theorem kinds_are (c i n : Nat) (os : List (Int × ByteArray)) (hc : c < 256) (hi : i < 256) (hl : os.length = n) (he : oE os = 0) (hT : (oS os).size + 4 ≤ 2048) :
    KindsAre c n (oS os) (cS c i os ⟨#[]⟩) (cS c i [] (oS os)) (cE c i os ⟨#[]⟩) (cE c i [] (oS os)) := by
  have o1 := oct_nat hc
  have o2 := oct_nat hi
  have hj : oS os = oJoin os := by unfold oS; rw [if_pos he]
  refine ⟨fun h1 h4 => ?_, fun h => ?_⟩
  · have hcf : confB (c : Int) = true := by unfold confB; exact decide_eq_true (by omega)
    have b1 : cBad (c : Int) os ⟨#[]⟩ = false := by unfold cBad; rw [hcf, he]; have hq : ¬ (¬ (0 : Int) = 0 ∨ 0 < (⟨#[]⟩ : ByteArray).size) := (by decide); exact decide_eq_false hq
    have y1 : cBody (c : Int) os ⟨#[]⟩ = oS os := by unfold cBody; rw [hcf, hj]; rfl
    obtain ⟨e1, e2⟩ := cE_mk (c := c) (i := i) o1 o2 b1 (by rw [y1]; omega)
    rw [y1] at e2
    have hs := headed_size c i (oS os)
    refine ⟨e1, by rw [e2]; exact headed_tail _ _ _, by rw [e2]; omega, by rw [e2]; omega, fun h0 => ?_, fun h0 => ?_⟩
    · have b2 : cBad (c : Int) [] (oS os) = false := by unfold cBad; rw [hcf]; exact decide_eq_false (by rintro (h | h); exact h (by decide); omega)
      have y2 : cBody (c : Int) [] (oS os) = ⟨#[]⟩ := by unfold cBody; rw [hcf]; rfl
      exact (cE_mk o1 o2 b2 (by rw [y2]; decide)).1
    · have b2 : cBad (c : Int) [] (oS os) = true := by unfold cBad; rw [hcf]; exact decide_eq_true (.inr h0)
      exact cE_bad o1 o2 b2
  · have hcf : confB (c : Int) = false := by unfold confB; exact decide_eq_false (by omega)
    have b1 : cBad (c : Int) [] (oS os) = false := by unfold cBad; rw [hcf]; have hq : ¬ 0 < ([] : List (Int × ByteArray)).length := (by decide); exact decide_eq_false hq
    have y1 : cBody (c : Int) [] (oS os) = oS os := by unfold cBody; rw [hcf]; rfl
    obtain ⟨e1, e2⟩ := cE_mk (c := c) (i := i) o1 o2 b1 (by rw [y1]; omega)
    rw [y1] at e2
    have hs := headed_size c i (oS os)
    refine ⟨e1, by rw [e2]; exact headed_tail _ _ _, by rw [e2]; omega, by rw [e2]; omega, fun h0 => ?_, fun h0 => ?_⟩
    · have hos : os = [] := List.eq_nil_of_length_eq_zero (by omega)
      have b2 : cBad (c : Int) os ⟨#[]⟩ = false := by unfold cBad; rw [hcf, hos]; decide
      have y2 : cBody (c : Int) os ⟨#[]⟩ = ⟨#[]⟩ := by unfold cBody; rw [hcf]; rfl
      exact (cE_mk o1 o2 b2 (by rw [y2]; decide)).1
    · have b2 : cBad (c : Int) os ⟨#[]⟩ = true := by unfold cBad; rw [hcf]; exact decide_eq_true (by omega)
      exact cE_bad o1 o2 b2
set_option maxRecDepth 100000 in
set_option maxHeartbeats 1000000 in
theorem kinds_out (code id : Int) (A : Option Addr) (n cap c i : Nat) (os : List (Int × ByteArray)) (w : World) (hv : OptsAt w A n os) (hn : n ≤ 9223372036854775807) (hd : ∀ o ∈ os, o.2.size ≤ 140737488351232)
    (hm : bits .and .i64 code 255 = (c : Int)) (hi : bits .and .i64 id 255 = (i : Int)) (h : ¬ oE os = 0 ∨ 2048 < (oS os).size + 4) :
    Calls Try.prog 6 #[.int .i64 code, .int .i64 id, .slice A n cap] w fun e w' => e = .returned (.bool true) ∧ Below w.heap.size w w' := by
  have HV := Lib.hid hv; clear hv
  have HD := Lib.hid hd; clear hd
  have hsz := oS_size os
  obtain ⟨T, hT⟩ : ∃ T, oS os = T := ⟨_, rfl⟩
  obtain ⟨x, hx⟩ : ∃ x, oE os = x := ⟨_, rfl⟩
  rw [hT] at hsz h
  rw [hx] at h
  have HT := Lib.hid hT; have HX := Lib.hid hx
  clear hT hx
  have hk : ((x != 0) = true) ∨ ((x != 0) = false ∧ 2044 < T.size) := by
    by_cases h0 : x = 0
    · exact .inr ⟨by simpa using h0, by omega⟩
    · exact .inl (by simpa using h0)
  clear h
  rcases hk with h | ⟨h, h1⟩
  all_goals
    go_enter Try.func6, Try.ntmps6
    go_wp2_with (first | (go_at_call 13; refine (num_any _ _).mono ?_; rintro e w' ⟨rfl, rfl⟩))
    refine (awake_any _).mono ?_
    rintro e w1 ⟨rfl, hb1⟩
    have hz1 := hb1.size
    go_wp2_with (first | (go_at_call 13; refine (num_any _ _).mono ?_; rintro e w' ⟨rfl, rfl⟩))
    refine (ropts_any A n cap os _ (HV.out.keep hb1) hn HD.out).mono ?_
    rintro e w2 ⟨rfl, hb2⟩
    rw [HT.out, HX.out]
    go_wp2_with (first | (go_at_call 13; refine (num_any _ _).mono ?_; rintro e w' ⟨rfl, rfl⟩))
    go_ret
    exact ⟨rfl, below_step hb1 hb2 hz1⟩
set_option maxRecDepth 100000 in
set_option maxHeartbeats 1000000 in
theorem kinds_in (code id : Int) (A : Option Addr) (n cap c i : Nat) (os : List (Int × ByteArray)) (w : World) (hv : OptsAt w A n os) (hn : n ≤ 9223372036854775807) (hd : ∀ o ∈ os, o.2.size ≤ 140737488351232)
    (hm : bits .and .i64 code 255 = (c : Int)) (hc : c < 256) (hi : bits .and .i64 id 255 = (i : Int)) (hi1 : i < 256) (h0 : oE os = 0) (hT0 : (oS os).size + 4 ≤ 2048) :
    Calls Try.prog 6 #[.int .i64 code, .int .i64 id, .slice A n cap] w fun e w' => e = .returned (.bool true) ∧ Below w.heap.size w w' := by
  have hl := hv.1
  have K := kinds_are c i n os hc hi1 hl h0 hT0
  obtain ⟨T, hT⟩ : ∃ T, oS os = T := ⟨_, rfl⟩
  obtain ⟨s1, hs1⟩ : ∃ s1, cS c i os ⟨#[]⟩ = s1 := ⟨_, rfl⟩
  obtain ⟨s2, hs2⟩ : ∃ s2, cS c i [] (oS os) = s2 := ⟨_, rfl⟩
  obtain ⟨x1, hx1⟩ : ∃ x1, cE c i os ⟨#[]⟩ = x1 := ⟨_, rfl⟩
  obtain ⟨x2, hx2⟩ : ∃ x2, cE c i [] (oS os) = x2 := ⟨_, rfl⟩
  rw [hs1, hs2, hx1, hx2, hT] at K
  rw [hT] at hT0 hs2 hx2
  have HV := Lib.hid hv; have HD := Lib.hid hd; have H0 := Lib.hid h0; have HT := Lib.hid hT; have HS1 := Lib.hid hs1; have HS2 := Lib.hid hs2; have HX1 := Lib.hid hx1; have HX2 := Lib.hid hx2
  clear hv hd h0 hT hs1 hs2 hx1 hx2 hl
  have hk : (1 ≤ c ∧ c ≤ 4 ∧ x1 = 0 ∧ s1.extract 4 s1.size = T ∧ 4 ≤ s1.size ∧ s1.size ≤ 2048 ∧ T.toList.isEmpty = true ∧ x2 = 0) ∨
      (1 ≤ c ∧ c ≤ 4 ∧ x1 = 0 ∧ s1.extract 4 s1.size = T ∧ 4 ≤ s1.size ∧ s1.size ≤ 2048 ∧ T.toList.isEmpty = false ∧ x2 = 502) ∨
      ((c < 1 ∨ 4 < c) ∧ x2 = 0 ∧ s2.extract 4 s2.size = T ∧ 4 ≤ s2.size ∧ s2.size ≤ 2048 ∧ ((n : Int) == 0) = true ∧ x1 = 0) ∨
      ((c < 1 ∨ 4 < c) ∧ x2 = 0 ∧ s2.extract 4 s2.size = T ∧ 4 ≤ s2.size ∧ s2.size ≤ 2048 ∧ ((n : Int) == 0) = false ∧ x1 = 502) := by
    by_cases hcf : 1 ≤ c ∧ c ≤ 4
    · obtain ⟨a, b, c1, d, e, f⟩ := K.conf hcf.1 hcf.2
      rcases Nat.eq_zero_or_pos T.size with g | g
      · exact .inl ⟨hcf.1, hcf.2, a, b, c1, d, empty_of T g, e g⟩
      · exact .inr (.inl ⟨hcf.1, hcf.2, a, b, c1, d, nonempty_of T g, f g⟩)
    · obtain ⟨a, b, c1, d, e, f⟩ := K.other (by omega)
      rcases Nat.eq_zero_or_pos n with g | g
      · exact .inr (.inr (.inl ⟨by omega, a, b, c1, d, by simpa using g, e g⟩))
      · exact .inr (.inr (.inr ⟨by omega, a, b, c1, d, by simp; omega, f g⟩))
  clear K
  rcases hk with ⟨k1, k2, rfl, k3, k4, k5, k6, rfl⟩ | ⟨k1, k2, rfl, k3, k4, k5, k6, rfl⟩ | ⟨k1 | k1, rfl, k3, k4, k5, k6, rfl⟩ | ⟨k1 | k1, rfl, k3, k4, k5, k6, rfl⟩
  all_goals
    go_enter Try.func6, Try.ntmps6
    go_wp2_with (first | (go_at_call 13; refine (num_any _ _).mono ?_; rintro e w' ⟨rfl, rfl⟩))
    refine (awake_any _).mono ?_
    rintro e w1 ⟨rfl, hb1⟩
    have hz1 := hb1.size
    go_wp2_with (first | (go_at_call 13; refine (num_any _ _).mono ?_; rintro e w' ⟨rfl, rfl⟩))
    refine (ropts_any A n cap os _ (HV.out.keep hb1) hn HD.out).mono ?_
    rintro e w2 ⟨rfl, hb2⟩
    rw [HT.out, H0.out]
    have bel2 := below_step hb1 hb2 hz1
    have hz2 := hb2.size
    go_wp2_with (first | (go_at_call 13; refine (num_any _ _).mono ?_; rintro e w' ⟨rfl, rfl⟩))
    refine (ctlput_any c i A n cap os ⟨#[]⟩ _ (HV.out.keep bel2) hn (by decide)).mono ?_
    rintro e w3 ⟨rfl, hb3⟩
    rw [HS1.out, HX1.out]
    have bel3 := below_step bel2 hb3 (by omega)
    have hz3 := hb3.size
    go_wp2_with (first | (go_at_call 13; refine (num_any _ _).mono ?_; rintro e w' ⟨rfl, rfl⟩))
    refine (ctlput_any c i none 0 0 [] T _ (OptsAt.nil _ _) (by omega) (by omega)).mono ?_
    rintro e w4 ⟨rfl, hb4⟩
    rw [HS2.out, HX2.out]
    have bel4 := below_step bel3 hb4 (by omega)
    go_wp2_with (first | (go_at_call 13; refine (num_any _ _).mono ?_; rintro e w' ⟨rfl, rfl⟩))
    go_ret
    exact ⟨by simp, bel4⟩
theorem controlKinds_walk (code id : Int) (A : Option Addr) (n cap : Nat) (os : List (Int × ByteArray)) (k0 : (Lit.int .i64 code).wf = true) (k1 : (Lit.int .i64 id).wf = true) (hnil : A = none → n = 0 ∧ cap = 0) (hcap : n ≤ cap) (hz : n * 24 ≤ 140737488351232 ∧ ∀ o ∈ os, o.2.size ≤ 140737488351232) (w : World) (hv : OptsAt w A n os) :
    Calls Try.prog 6 #[.int .i64 code, .int .i64 id, .slice A n cap] w fun e w' => e = .returned (.bool true) ∧ Below w.heap.size w w' := by
  obtain ⟨c, hm, hc, _⟩ := mask_nat 8 (by decide) 255 (by decide) code
  obtain ⟨i, hi, hi1, _⟩ := mask_nat 8 (by decide) 255 (by decide) id
  by_cases h : oE os = 0 ∧ (oS os).size + 4 ≤ 2048
  · exact kinds_in code id A n cap c i os w hv (by omega) hz.2 hm hc hi hi1 h.1 h.2
  · exact kinds_out code id A n cap c i os w hv (by omega) hz.2 hm hi (by by_cases h0 : oE os = 0; right; omega; exact .inl h0)
end Go.Proofs.Ytmonkjogonjflaa
