/- The walk of the law TalkAnswers. No condition. -/
import Derived.Test.YtckbbfdllflmjaaTalkJ
namespace Go.Proofs.Ytckbbfdllflmjaa
open Go.RowKit
set_option linter.unusedVariables false
set_option linter.unusedSimpArgs false
attribute [local go_sem] conv1 conv1d conv1n conv1a conv1ad conv1an conv2 conv2d conv2n conv2a conv2ad conv2an conv4 conv4d conv4n conv4a conv4ad conv4an conv5 conv5d conv5n conv5a conv5ad conv5an size_nums byt_fold
def anO : List (Int × ByteArray) := [(23, ⟨#[0, 5]⟩)]
theorem bE_an {c i : Int} (hc : 1 ≤ c ∧ c ≤ 8) (hi : 0 ≤ i ∧ i ≤ 255) : bE c i 0 anO = 0 := by
  have h1 : bMay c i = true := by unfold bMay; exact decide_eq_true (by omega)
  have h2 : bGood c i 0 anO = true := by
    unfold bGood
    have e : oE anO = 0 := by decide +kernel
    rw [h1, e]; simp
  have h3 : (bBody c 0 anO).size ≤ 2044 := by
    unfold bBody
    have e : (oJoin anO).size = 4 := by decide +kernel
    split
    · rw [size_app, size_nums, e]; simp
    · omega
  unfold bE; rw [h2, if_pos rfl, if_neg (by omega)]
theorem an_t1 {c I t : Int} {f yes : Bool} (hr : reqB c = true) (hb : bE c I 0 anO = 0) : tkL (ts0 f t) c I 0 anO yes = [(c + 1, I, ansI yes, anO)] ∧ tkE c I 0 anO = 0 ∧ tkS (ts0 f t) c I 0 anO = ts0 f t := by
  have h : crs (ts0 f t) c = false := rfl
  have ha : tReqA (ts0 f t) c yes = ansI yes := by unfold tReqA; rw [h]; rfl
  have hs : tReqS (ts0 f t) c = ts0 f t := by unfold tReqS; rw [h]; rfl
  exact ⟨by unfold tkL; rw [if_pos hb, if_pos hr, ha], by unfold tkE; rw [if_pos hb], by unfold tkS; rw [if_pos hb, if_pos hr, hs]⟩
theorem an_t2 {I t : Int} {f yes : Bool} (hb : bE 7 I 0 anO = 0) : tkL (ts0 f t) 7 I 0 anO yes = [(8, I, 0, [])] ∧ tkE 7 I 0 anO = 0 ∧ tkS (ts0 f t) 7 I 0 anO = ts0 f t :=
  ⟨by unfold tkL; rw [if_pos hb]; rfl, by unfold tkE; rw [if_pos hb], by unfold tkS; rw [if_pos hb]; rfl⟩
set_option maxRecDepth 100000 in
set_option maxHeartbeats 8000000 in
theorem answers_walk (code id : Int) (yes : Bool) (h1 : (Lit.int .i64 code).wf = true) (h2 : (Lit.int .i64 id).wf = true) (w : World) : Calls Try.prog 7 #[.int .i64 code, .int .i64 id, .bool yes] w fun e w' => e = .returned (.bool true) ∧ Below w.heap.size w w' := by
  have hu2 : 0 ≤ IntKind.u64.wrap code := by rw [IntKind.wrap_u64]; omega
  have hq : (IntKind.u64.wrap code).tmod 3 = 0 ∨ (IntKind.u64.wrap code).tmod 3 = 1 ∨ (IntKind.u64.wrap code).tmod 3 = 2 := by rw [Int.tmod_eq_emod_of_nonneg hu2]; omega
  obtain ⟨I, hI, hI1, hI3⟩ := mask_nat 8 (by decide) 255 (by decide) id
  have hI4 : id % 256 = (I : Int) := by rw [hI3]; rfl
  have hI2 : I < 256 := hI1
  clear hI3 hI1
  rcases hq with hq | hq | hq
  · have B1 := Lib.hid (bE_an (c := 1) (i := (I : Int)) (by omega) (by omega))
    have B2 := Lib.hid (bE_an (c := 7) (i := (I : Int)) (by omega) (by omega))
    have K1 := Lib.hid (an_t1 (t := 5) (f := false) (yes := yes) (by decide) B1.out)
    have K2 := Lib.hid (an_t2 (t := 5) (f := false) (yes := yes) B2.out)
    go_enter Try.func7, Try.ntmps7
    go_wp2_with (first | (go_at_call 12; refine (num_any _ _).mono ?_; rintro e w' ⟨rfl, rfl⟩))
    refine (awake_any _).mono ?_
    rintro e w0 ⟨rfl, hb0⟩
    have hz0 := hb0.size
    obtain ⟨X, hXd⟩ : ∃ X : Nat → Prop, X = fun b => b = w0.heap.size + 1 := ⟨_, rfl⟩
    have hX : X (w0.heap.size + 1) := by rw [hXd]
    have hXl : ∀ W : World, w0.heap.size + 1 < W.heap.size → ∀ b, X b → b < W.heap.size := fun W hW b hb => by rw [hXd] at hb; omega
    have hXn : ∀ b, b ≠ w0.heap.size + 1 → ¬ X b := fun b hb hx => by rw [hXd] at hx; exact hb hx
    clear hXd
    go_wp2_with (first | (go_at_call 12; refine (num_any _ _).mono ?_; rintro e w' ⟨rfl, rfl⟩))
    refine (tnew_at false 5 _ (by decide) X (w0.heap.size + 1) (by simp)).mono ?_
    rintro e w1 ⟨rfl, ht1, hb1⟩
    have hz1 : w0.heap.size + 1 < w1.heap.size := ht1.lt
    have bel1 : Below w.heap.size w w1 := below_step (hb0.alloc hz0 _) hb1 (by simp; omega)
    have HT1 := Lib.hid ht1; clear ht1
    have hlo : Lies (w1.alloc (.cells #[.int .i64 23, .string ⟨#[0, 5]⟩] 65)) X (some ⟨w1.heap.size, 0, none⟩) 1 1 anO := ⟨OptsAt.made_at _ _ rfl anO _ _ 1 rfl rfl, by decide, fun h => by (cases h), fun a ha => by (cases ha; exact ⟨by simp, hXn _ (by show w1.heap.size ≠ _; omega)⟩)⟩
    have HLO := Lib.hid hlo; clear hlo
    cases yes
    · go_wp2_with (first | (go_at_call 12; refine (num_any _ _).mono ?_; rintro e w' ⟨rfl, rfl⟩))
      refine (ttake_any X (w0.heap.size + 1) (ts0 false 5) 1 I 0 _ 1 1 anO _ _ (TAt.alloc HT1.out _) hX (hXl _ (by simp; omega)) (by show (0 : Int) ≤ 0 ∧ (0 : Int) ≤ 8; omega) HLO.out).mono ?_
      rintro e w2 ⟨v2, rfl, hl2, hg2⟩
      rw [K1.out.2.1]
      rw [K1.out.1, K1.out.2.2] at hl2
      obtain ⟨b2, R2, n2, rc2, rfl, ho2, ht2⟩ := hl2.one
      have hz2 := hg2.size
      simp at hz2
      have bel2 : Below w.heap.size w w2 := below_gr (bel1.alloc bel1.size _) hg2 (by have := bel1.size; simp; omega) (by omega)
      have hlo2 := HLO.out.grown hg2 hX
      have HT2 := Lib.hid (ht2.mono (fun b _ hb => (.inl hb : OwnR X b2 R2 b))); have HO2 := Lib.hid ho2; have HL2 := Lib.hid hlo2; clear ht2 hl2 ho2 hlo2
      go_wp2_with (first | (go_at_call 12; refine (num_any _ _).mono ?_; rintro e w' ⟨rfl, rfl⟩))
      refine (ttake_any X (w0.heap.size + 1) (ts0 false 5) 7 I 0 _ 1 1 anO _ _ HT2.out hX (hXl _ (by omega)) (by show (0 : Int) ≤ 0 ∧ (0 : Int) ≤ 8; omega) HL2.out).mono ?_
      rintro e w3 ⟨v3, rfl, hl3, hg3⟩
      rw [K2.out.2.1]
      rw [K2.out.1, K2.out.2.2] at hl3
      obtain ⟨b3, R3, n3, rc3, rfl, ho3, ht3⟩ := hl3.one
      have hz3 := hg3.size
      have bel3 : Below w.heap.size w w3 := below_gr bel2 hg3 (by omega) (by omega)
      have ho23 := HO2.out.grown hg3 (by simp; omega)
      have hlo3 := HL2.out.grown hg3 hX
      have HT3 := Lib.hid (ht3.mono (fun b _ hb => (.inl hb : OwnR X b3 R3 b))); have HO3 := Lib.hid ho3; have HO23 := Lib.hid ho23; have HL3 := Lib.hid hlo3; clear ht3 hl3 ho3 ho23 hlo3
      go_wp2_with (first | (go_at_call 12; refine (num_any _ _).mono ?_; rintro e w' ⟨rfl, rfl⟩))
      have hx2 : Blk w3 b2 34 #[.int .i64 (1 + 1), .int .i64 I, .int .i64 (ansI false), .slice R2 n2 rc2] := HO23.out.2.1
      have hn2 : n2 = 1 := HO23.out.2.2.1.2.1.symm
      have hn3 : n3 = 0 := HO3.out.2.2.1.2.1.symm
      refine (samebs_one 2 I 1 b2 _ R2 _ n2 1 rc2 1 anO _ (Blk.alloc hx2 _) (Blk.new _ _ _) ((HO23.out.2.2.1.optsAt).keep ((Below.refl _ _).alloc (Nat.le_refl _) _)) (HL3.out.1.keep ((Below.refl _ _).alloc (Nat.le_refl _) _)) (by omega) 1 1).mono ?_
      rintro e w4 ⟨rfl, hb4⟩
      have hz4 := hb4.size
      simp at hz4
      have bel4 : Below w.heap.size w w4 := below_step (bel3.alloc bel3.size _) hb4 (by have := bel3.size; simp; omega)
      have ht4 := (HT3.out.alloc (.cells #[.int .i64 2, .int .i64 I, .int .i64 1, .slice (some ⟨w1.heap.size, 0, none⟩) 1 1] 34)).keep hb4
      have ho4 := (HO3.out.keep ((Below.refl _ _).alloc (Nat.le_refl _) (.cells #[.int .i64 2, .int .i64 I, .int .i64 1, .slice (some ⟨w1.heap.size, 0, none⟩) 1 1] 34))).keep hb4
      have HT4 := Lib.hid ht4; have HO4 := Lib.hid ho4; clear ht4 ho4 hx2
      go_wp2_with (first | (go_at_call 12; refine (num_any _ _).mono ?_; rintro e w' ⟨rfl, rfl⟩))
      refine (samebs_one 8 I 0 b3 _ R3 none n3 0 rc3 0 [] _ (Blk.alloc HO4.out.2.1 _) (Blk.new _ _ _) ((HO4.out.2.2.1.optsAt).keep ((Below.refl _ _).alloc (Nat.le_refl _) _)) (OptsAt.nil _ _) (by omega) 1 1).mono ?_
      rintro e w5 ⟨rfl, hb5⟩
      have bel5 : Below w.heap.size w w5 := below_step (bel4.alloc bel4.size _) hb5 (by have := bel4.size; simp; omega)
      have ht5 := (HT4.out.alloc (.cells #[.int .i64 8, .int .i64 I, .int .i64 0, .slice none 0 0] 34)).keep hb5
      have HT5 := Lib.hid ht5; clear ht5
      have p1 : decide (0 < (ts0 false 5).left) = false := rfl
      go_wp2_with (first | (go_at_call 12; refine (num_any _ _).mono ?_; rintro e w' ⟨rfl, rfl⟩) | (go_at_call 26; refine (pending_any X _ (ts0 false 5) _ HT5.out).mono ?_; rintro e w' ⟨rfl, rfl⟩))
      refine (last_any X (w0.heap.size + 1) (ts0 false 5) _ HT5.out).mono ?_
      rintro e w6 ⟨R6, rn6, rc6, rfl, hm6, hb6⟩
      obtain rfl : rn6 = 0 := hm6.2.1.symm
      have bel6 := below_step bel5 hb6 bel5.size
      go_wp2_with (first | (go_at_call 12; refine (num_any _ _).mono ?_; rintro e w' ⟨rfl, rfl⟩))
      refine (sameb_any 0 0 0 R6 none 0 0 rc6 0 [] _ (OptsAt.nil _ _) (OptsAt.nil _ _) (by omega)).mono ?_
      rintro e w7 ⟨rfl, hb7⟩
      have bel7 := below_step bel6 hb7 bel6.size
      go_wp2_with (first | (go_at_call 12; refine (num_any _ _).mono ?_; rintro e w' ⟨rfl, rfl⟩))
      go_ret
      exact ⟨rfl, bel7⟩
    · go_wp2_with (first | (go_at_call 12; refine (num_any _ _).mono ?_; rintro e w' ⟨rfl, rfl⟩))
      refine (ttake_any X (w0.heap.size + 1) (ts0 false 5) 1 I 0 _ 1 1 anO _ _ (TAt.alloc HT1.out _) hX (hXl _ (by simp; omega)) (by show (0 : Int) ≤ 0 ∧ (0 : Int) ≤ 8; omega) HLO.out).mono ?_
      rintro e w2 ⟨v2, rfl, hl2, hg2⟩
      rw [K1.out.2.1]
      rw [K1.out.1, K1.out.2.2] at hl2
      obtain ⟨b2, R2, n2, rc2, rfl, ho2, ht2⟩ := hl2.one
      have hz2 := hg2.size
      simp at hz2
      have bel2 : Below w.heap.size w w2 := below_gr (bel1.alloc bel1.size _) hg2 (by have := bel1.size; simp; omega) (by omega)
      have hlo2 := HLO.out.grown hg2 hX
      have HT2 := Lib.hid (ht2.mono (fun b _ hb => (.inl hb : OwnR X b2 R2 b))); have HO2 := Lib.hid ho2; have HL2 := Lib.hid hlo2; clear ht2 hl2 ho2 hlo2
      go_wp2_with (first | (go_at_call 12; refine (num_any _ _).mono ?_; rintro e w' ⟨rfl, rfl⟩))
      refine (ttake_any X (w0.heap.size + 1) (ts0 false 5) 7 I 0 _ 1 1 anO _ _ HT2.out hX (hXl _ (by omega)) (by show (0 : Int) ≤ 0 ∧ (0 : Int) ≤ 8; omega) HL2.out).mono ?_
      rintro e w3 ⟨v3, rfl, hl3, hg3⟩
      rw [K2.out.2.1]
      rw [K2.out.1, K2.out.2.2] at hl3
      obtain ⟨b3, R3, n3, rc3, rfl, ho3, ht3⟩ := hl3.one
      have hz3 := hg3.size
      have bel3 : Below w.heap.size w w3 := below_gr bel2 hg3 (by omega) (by omega)
      have ho23 := HO2.out.grown hg3 (by simp; omega)
      have hlo3 := HL2.out.grown hg3 hX
      have HT3 := Lib.hid (ht3.mono (fun b _ hb => (.inl hb : OwnR X b3 R3 b))); have HO3 := Lib.hid ho3; have HO23 := Lib.hid ho23; have HL3 := Lib.hid hlo3; clear ht3 hl3 ho3 ho23 hlo3
      go_wp2_with (first | (go_at_call 12; refine (num_any _ _).mono ?_; rintro e w' ⟨rfl, rfl⟩))
      have hx2 : Blk w3 b2 34 #[.int .i64 (1 + 1), .int .i64 I, .int .i64 (ansI true), .slice R2 n2 rc2] := HO23.out.2.1
      have hn2 : n2 = 1 := HO23.out.2.2.1.2.1.symm
      have hn3 : n3 = 0 := HO3.out.2.2.1.2.1.symm
      refine (samebs_one 2 I 0 b2 _ R2 _ n2 1 rc2 1 anO _ (Blk.alloc hx2 _) (Blk.new _ _ _) ((HO23.out.2.2.1.optsAt).keep ((Below.refl _ _).alloc (Nat.le_refl _) _)) (HL3.out.1.keep ((Below.refl _ _).alloc (Nat.le_refl _) _)) (by omega) 1 1).mono ?_
      rintro e w4 ⟨rfl, hb4⟩
      have hz4 := hb4.size
      simp at hz4
      have bel4 : Below w.heap.size w w4 := below_step (bel3.alloc bel3.size _) hb4 (by have := bel3.size; simp; omega)
      have ht4 := (HT3.out.alloc (.cells #[.int .i64 2, .int .i64 I, .int .i64 0, .slice (some ⟨w1.heap.size, 0, none⟩) 1 1] 34)).keep hb4
      have ho4 := (HO3.out.keep ((Below.refl _ _).alloc (Nat.le_refl _) (.cells #[.int .i64 2, .int .i64 I, .int .i64 0, .slice (some ⟨w1.heap.size, 0, none⟩) 1 1] 34))).keep hb4
      have HT4 := Lib.hid ht4; have HO4 := Lib.hid ho4; clear ht4 ho4 hx2
      go_wp2_with (first | (go_at_call 12; refine (num_any _ _).mono ?_; rintro e w' ⟨rfl, rfl⟩))
      refine (samebs_one 8 I 0 b3 _ R3 none n3 0 rc3 0 [] _ (Blk.alloc HO4.out.2.1 _) (Blk.new _ _ _) ((HO4.out.2.2.1.optsAt).keep ((Below.refl _ _).alloc (Nat.le_refl _) _)) (OptsAt.nil _ _) (by omega) 1 1).mono ?_
      rintro e w5 ⟨rfl, hb5⟩
      have bel5 : Below w.heap.size w w5 := below_step (bel4.alloc bel4.size _) hb5 (by have := bel4.size; simp; omega)
      have ht5 := (HT4.out.alloc (.cells #[.int .i64 8, .int .i64 I, .int .i64 0, .slice none 0 0] 34)).keep hb5
      have HT5 := Lib.hid ht5; clear ht5
      have p1 : decide (0 < (ts0 false 5).left) = false := rfl
      go_wp2_with (first | (go_at_call 12; refine (num_any _ _).mono ?_; rintro e w' ⟨rfl, rfl⟩) | (go_at_call 26; refine (pending_any X _ (ts0 false 5) _ HT5.out).mono ?_; rintro e w' ⟨rfl, rfl⟩))
      refine (last_any X (w0.heap.size + 1) (ts0 false 5) _ HT5.out).mono ?_
      rintro e w6 ⟨R6, rn6, rc6, rfl, hm6, hb6⟩
      obtain rfl : rn6 = 0 := hm6.2.1.symm
      have bel6 := below_step bel5 hb6 bel5.size
      go_wp2_with (first | (go_at_call 12; refine (num_any _ _).mono ?_; rintro e w' ⟨rfl, rfl⟩))
      refine (sameb_any 0 0 0 R6 none 0 0 rc6 0 [] _ (OptsAt.nil _ _) (OptsAt.nil _ _) (by omega)).mono ?_
      rintro e w7 ⟨rfl, hb7⟩
      have bel7 := below_step bel6 hb7 bel6.size
      go_wp2_with (first | (go_at_call 12; refine (num_any _ _).mono ?_; rintro e w' ⟨rfl, rfl⟩))
      go_ret
      exact ⟨rfl, bel7⟩
  · have B1 := Lib.hid (bE_an (c := 3) (i := (I : Int)) (by omega) (by omega))
    have B2 := Lib.hid (bE_an (c := 7) (i := (I : Int)) (by omega) (by omega))
    have K1 := Lib.hid (an_t1 (t := 5) (f := false) (yes := yes) (by decide) B1.out)
    have K2 := Lib.hid (an_t2 (t := 5) (f := false) (yes := yes) B2.out)
    go_enter Try.func7, Try.ntmps7
    go_wp2_with (first | (go_at_call 12; refine (num_any _ _).mono ?_; rintro e w' ⟨rfl, rfl⟩))
    refine (awake_any _).mono ?_
    rintro e w0 ⟨rfl, hb0⟩
    have hz0 := hb0.size
    obtain ⟨X, hXd⟩ : ∃ X : Nat → Prop, X = fun b => b = w0.heap.size + 1 := ⟨_, rfl⟩
    have hX : X (w0.heap.size + 1) := by rw [hXd]
    have hXl : ∀ W : World, w0.heap.size + 1 < W.heap.size → ∀ b, X b → b < W.heap.size := fun W hW b hb => by rw [hXd] at hb; omega
    have hXn : ∀ b, b ≠ w0.heap.size + 1 → ¬ X b := fun b hb hx => by rw [hXd] at hx; exact hb hx
    clear hXd
    go_wp2_with (first | (go_at_call 12; refine (num_any _ _).mono ?_; rintro e w' ⟨rfl, rfl⟩))
    refine (tnew_at false 5 _ (by decide) X (w0.heap.size + 1) (by simp)).mono ?_
    rintro e w1 ⟨rfl, ht1, hb1⟩
    have hz1 : w0.heap.size + 1 < w1.heap.size := ht1.lt
    have bel1 : Below w.heap.size w w1 := below_step (hb0.alloc hz0 _) hb1 (by simp; omega)
    have HT1 := Lib.hid ht1; clear ht1
    have hlo : Lies (w1.alloc (.cells #[.int .i64 23, .string ⟨#[0, 5]⟩] 65)) X (some ⟨w1.heap.size, 0, none⟩) 1 1 anO := ⟨OptsAt.made_at _ _ rfl anO _ _ 1 rfl rfl, by decide, fun h => by (cases h), fun a ha => by (cases ha; exact ⟨by simp, hXn _ (by show w1.heap.size ≠ _; omega)⟩)⟩
    have HLO := Lib.hid hlo; clear hlo
    cases yes
    · go_wp2_with (first | (go_at_call 12; refine (num_any _ _).mono ?_; rintro e w' ⟨rfl, rfl⟩))
      refine (ttake_any X (w0.heap.size + 1) (ts0 false 5) 3 I 0 _ 1 1 anO _ _ (TAt.alloc HT1.out _) hX (hXl _ (by simp; omega)) (by show (0 : Int) ≤ 0 ∧ (0 : Int) ≤ 8; omega) HLO.out).mono ?_
      rintro e w2 ⟨v2, rfl, hl2, hg2⟩
      rw [K1.out.2.1]
      rw [K1.out.1, K1.out.2.2] at hl2
      obtain ⟨b2, R2, n2, rc2, rfl, ho2, ht2⟩ := hl2.one
      have hz2 := hg2.size
      simp at hz2
      have bel2 : Below w.heap.size w w2 := below_gr (bel1.alloc bel1.size _) hg2 (by have := bel1.size; simp; omega) (by omega)
      have hlo2 := HLO.out.grown hg2 hX
      have HT2 := Lib.hid (ht2.mono (fun b _ hb => (.inl hb : OwnR X b2 R2 b))); have HO2 := Lib.hid ho2; have HL2 := Lib.hid hlo2; clear ht2 hl2 ho2 hlo2
      go_wp2_with (first | (go_at_call 12; refine (num_any _ _).mono ?_; rintro e w' ⟨rfl, rfl⟩))
      refine (ttake_any X (w0.heap.size + 1) (ts0 false 5) 7 I 0 _ 1 1 anO _ _ HT2.out hX (hXl _ (by omega)) (by show (0 : Int) ≤ 0 ∧ (0 : Int) ≤ 8; omega) HL2.out).mono ?_
      rintro e w3 ⟨v3, rfl, hl3, hg3⟩
      rw [K2.out.2.1]
      rw [K2.out.1, K2.out.2.2] at hl3
      obtain ⟨b3, R3, n3, rc3, rfl, ho3, ht3⟩ := hl3.one
      have hz3 := hg3.size
      have bel3 : Below w.heap.size w w3 := below_gr bel2 hg3 (by omega) (by omega)
      have ho23 := HO2.out.grown hg3 (by simp; omega)
      have hlo3 := HL2.out.grown hg3 hX
      have HT3 := Lib.hid (ht3.mono (fun b _ hb => (.inl hb : OwnR X b3 R3 b))); have HO3 := Lib.hid ho3; have HO23 := Lib.hid ho23; have HL3 := Lib.hid hlo3; clear ht3 hl3 ho3 ho23 hlo3
      go_wp2_with (first | (go_at_call 12; refine (num_any _ _).mono ?_; rintro e w' ⟨rfl, rfl⟩))
      have hx2 : Blk w3 b2 34 #[.int .i64 (3 + 1), .int .i64 I, .int .i64 (ansI false), .slice R2 n2 rc2] := HO23.out.2.1
      have hn2 : n2 = 1 := HO23.out.2.2.1.2.1.symm
      have hn3 : n3 = 0 := HO3.out.2.2.1.2.1.symm
      refine (samebs_one 4 I 1 b2 _ R2 _ n2 1 rc2 1 anO _ (Blk.alloc hx2 _) (Blk.new _ _ _) ((HO23.out.2.2.1.optsAt).keep ((Below.refl _ _).alloc (Nat.le_refl _) _)) (HL3.out.1.keep ((Below.refl _ _).alloc (Nat.le_refl _) _)) (by omega) 1 1).mono ?_
      rintro e w4 ⟨rfl, hb4⟩
      have hz4 := hb4.size
      simp at hz4
      have bel4 : Below w.heap.size w w4 := below_step (bel3.alloc bel3.size _) hb4 (by have := bel3.size; simp; omega)
      have ht4 := (HT3.out.alloc (.cells #[.int .i64 4, .int .i64 I, .int .i64 1, .slice (some ⟨w1.heap.size, 0, none⟩) 1 1] 34)).keep hb4
      have ho4 := (HO3.out.keep ((Below.refl _ _).alloc (Nat.le_refl _) (.cells #[.int .i64 4, .int .i64 I, .int .i64 1, .slice (some ⟨w1.heap.size, 0, none⟩) 1 1] 34))).keep hb4
      have HT4 := Lib.hid ht4; have HO4 := Lib.hid ho4; clear ht4 ho4 hx2
      go_wp2_with (first | (go_at_call 12; refine (num_any _ _).mono ?_; rintro e w' ⟨rfl, rfl⟩))
      refine (samebs_one 8 I 0 b3 _ R3 none n3 0 rc3 0 [] _ (Blk.alloc HO4.out.2.1 _) (Blk.new _ _ _) ((HO4.out.2.2.1.optsAt).keep ((Below.refl _ _).alloc (Nat.le_refl _) _)) (OptsAt.nil _ _) (by omega) 1 1).mono ?_
      rintro e w5 ⟨rfl, hb5⟩
      have bel5 : Below w.heap.size w w5 := below_step (bel4.alloc bel4.size _) hb5 (by have := bel4.size; simp; omega)
      have ht5 := (HT4.out.alloc (.cells #[.int .i64 8, .int .i64 I, .int .i64 0, .slice none 0 0] 34)).keep hb5
      have HT5 := Lib.hid ht5; clear ht5
      have p1 : decide (0 < (ts0 false 5).left) = false := rfl
      go_wp2_with (first | (go_at_call 12; refine (num_any _ _).mono ?_; rintro e w' ⟨rfl, rfl⟩) | (go_at_call 26; refine (pending_any X _ (ts0 false 5) _ HT5.out).mono ?_; rintro e w' ⟨rfl, rfl⟩))
      refine (last_any X (w0.heap.size + 1) (ts0 false 5) _ HT5.out).mono ?_
      rintro e w6 ⟨R6, rn6, rc6, rfl, hm6, hb6⟩
      obtain rfl : rn6 = 0 := hm6.2.1.symm
      have bel6 := below_step bel5 hb6 bel5.size
      go_wp2_with (first | (go_at_call 12; refine (num_any _ _).mono ?_; rintro e w' ⟨rfl, rfl⟩))
      refine (sameb_any 0 0 0 R6 none 0 0 rc6 0 [] _ (OptsAt.nil _ _) (OptsAt.nil _ _) (by omega)).mono ?_
      rintro e w7 ⟨rfl, hb7⟩
      have bel7 := below_step bel6 hb7 bel6.size
      go_wp2_with (first | (go_at_call 12; refine (num_any _ _).mono ?_; rintro e w' ⟨rfl, rfl⟩))
      go_ret
      exact ⟨rfl, bel7⟩
    · go_wp2_with (first | (go_at_call 12; refine (num_any _ _).mono ?_; rintro e w' ⟨rfl, rfl⟩))
      refine (ttake_any X (w0.heap.size + 1) (ts0 false 5) 3 I 0 _ 1 1 anO _ _ (TAt.alloc HT1.out _) hX (hXl _ (by simp; omega)) (by show (0 : Int) ≤ 0 ∧ (0 : Int) ≤ 8; omega) HLO.out).mono ?_
      rintro e w2 ⟨v2, rfl, hl2, hg2⟩
      rw [K1.out.2.1]
      rw [K1.out.1, K1.out.2.2] at hl2
      obtain ⟨b2, R2, n2, rc2, rfl, ho2, ht2⟩ := hl2.one
      have hz2 := hg2.size
      simp at hz2
      have bel2 : Below w.heap.size w w2 := below_gr (bel1.alloc bel1.size _) hg2 (by have := bel1.size; simp; omega) (by omega)
      have hlo2 := HLO.out.grown hg2 hX
      have HT2 := Lib.hid (ht2.mono (fun b _ hb => (.inl hb : OwnR X b2 R2 b))); have HO2 := Lib.hid ho2; have HL2 := Lib.hid hlo2; clear ht2 hl2 ho2 hlo2
      go_wp2_with (first | (go_at_call 12; refine (num_any _ _).mono ?_; rintro e w' ⟨rfl, rfl⟩))
      refine (ttake_any X (w0.heap.size + 1) (ts0 false 5) 7 I 0 _ 1 1 anO _ _ HT2.out hX (hXl _ (by omega)) (by show (0 : Int) ≤ 0 ∧ (0 : Int) ≤ 8; omega) HL2.out).mono ?_
      rintro e w3 ⟨v3, rfl, hl3, hg3⟩
      rw [K2.out.2.1]
      rw [K2.out.1, K2.out.2.2] at hl3
      obtain ⟨b3, R3, n3, rc3, rfl, ho3, ht3⟩ := hl3.one
      have hz3 := hg3.size
      have bel3 : Below w.heap.size w w3 := below_gr bel2 hg3 (by omega) (by omega)
      have ho23 := HO2.out.grown hg3 (by simp; omega)
      have hlo3 := HL2.out.grown hg3 hX
      have HT3 := Lib.hid (ht3.mono (fun b _ hb => (.inl hb : OwnR X b3 R3 b))); have HO3 := Lib.hid ho3; have HO23 := Lib.hid ho23; have HL3 := Lib.hid hlo3; clear ht3 hl3 ho3 ho23 hlo3
      go_wp2_with (first | (go_at_call 12; refine (num_any _ _).mono ?_; rintro e w' ⟨rfl, rfl⟩))
      have hx2 : Blk w3 b2 34 #[.int .i64 (3 + 1), .int .i64 I, .int .i64 (ansI true), .slice R2 n2 rc2] := HO23.out.2.1
      have hn2 : n2 = 1 := HO23.out.2.2.1.2.1.symm
      have hn3 : n3 = 0 := HO3.out.2.2.1.2.1.symm
      refine (samebs_one 4 I 0 b2 _ R2 _ n2 1 rc2 1 anO _ (Blk.alloc hx2 _) (Blk.new _ _ _) ((HO23.out.2.2.1.optsAt).keep ((Below.refl _ _).alloc (Nat.le_refl _) _)) (HL3.out.1.keep ((Below.refl _ _).alloc (Nat.le_refl _) _)) (by omega) 1 1).mono ?_
      rintro e w4 ⟨rfl, hb4⟩
      have hz4 := hb4.size
      simp at hz4
      have bel4 : Below w.heap.size w w4 := below_step (bel3.alloc bel3.size _) hb4 (by have := bel3.size; simp; omega)
      have ht4 := (HT3.out.alloc (.cells #[.int .i64 4, .int .i64 I, .int .i64 0, .slice (some ⟨w1.heap.size, 0, none⟩) 1 1] 34)).keep hb4
      have ho4 := (HO3.out.keep ((Below.refl _ _).alloc (Nat.le_refl _) (.cells #[.int .i64 4, .int .i64 I, .int .i64 0, .slice (some ⟨w1.heap.size, 0, none⟩) 1 1] 34))).keep hb4
      have HT4 := Lib.hid ht4; have HO4 := Lib.hid ho4; clear ht4 ho4 hx2
      go_wp2_with (first | (go_at_call 12; refine (num_any _ _).mono ?_; rintro e w' ⟨rfl, rfl⟩))
      refine (samebs_one 8 I 0 b3 _ R3 none n3 0 rc3 0 [] _ (Blk.alloc HO4.out.2.1 _) (Blk.new _ _ _) ((HO4.out.2.2.1.optsAt).keep ((Below.refl _ _).alloc (Nat.le_refl _) _)) (OptsAt.nil _ _) (by omega) 1 1).mono ?_
      rintro e w5 ⟨rfl, hb5⟩
      have bel5 : Below w.heap.size w w5 := below_step (bel4.alloc bel4.size _) hb5 (by have := bel4.size; simp; omega)
      have ht5 := (HT4.out.alloc (.cells #[.int .i64 8, .int .i64 I, .int .i64 0, .slice none 0 0] 34)).keep hb5
      have HT5 := Lib.hid ht5; clear ht5
      have p1 : decide (0 < (ts0 false 5).left) = false := rfl
      go_wp2_with (first | (go_at_call 12; refine (num_any _ _).mono ?_; rintro e w' ⟨rfl, rfl⟩) | (go_at_call 26; refine (pending_any X _ (ts0 false 5) _ HT5.out).mono ?_; rintro e w' ⟨rfl, rfl⟩))
      refine (last_any X (w0.heap.size + 1) (ts0 false 5) _ HT5.out).mono ?_
      rintro e w6 ⟨R6, rn6, rc6, rfl, hm6, hb6⟩
      obtain rfl : rn6 = 0 := hm6.2.1.symm
      have bel6 := below_step bel5 hb6 bel5.size
      go_wp2_with (first | (go_at_call 12; refine (num_any _ _).mono ?_; rintro e w' ⟨rfl, rfl⟩))
      refine (sameb_any 0 0 0 R6 none 0 0 rc6 0 [] _ (OptsAt.nil _ _) (OptsAt.nil _ _) (by omega)).mono ?_
      rintro e w7 ⟨rfl, hb7⟩
      have bel7 := below_step bel6 hb7 bel6.size
      go_wp2_with (first | (go_at_call 12; refine (num_any _ _).mono ?_; rintro e w' ⟨rfl, rfl⟩))
      go_ret
      exact ⟨rfl, bel7⟩
  · have B1 := Lib.hid (bE_an (c := 5) (i := (I : Int)) (by omega) (by omega))
    have B2 := Lib.hid (bE_an (c := 7) (i := (I : Int)) (by omega) (by omega))
    have K1 := Lib.hid (an_t1 (t := 5) (f := false) (yes := yes) (by decide) B1.out)
    have K2 := Lib.hid (an_t2 (t := 5) (f := false) (yes := yes) B2.out)
    go_enter Try.func7, Try.ntmps7
    go_wp2_with (first | (go_at_call 12; refine (num_any _ _).mono ?_; rintro e w' ⟨rfl, rfl⟩))
    refine (awake_any _).mono ?_
    rintro e w0 ⟨rfl, hb0⟩
    have hz0 := hb0.size
    obtain ⟨X, hXd⟩ : ∃ X : Nat → Prop, X = fun b => b = w0.heap.size + 1 := ⟨_, rfl⟩
    have hX : X (w0.heap.size + 1) := by rw [hXd]
    have hXl : ∀ W : World, w0.heap.size + 1 < W.heap.size → ∀ b, X b → b < W.heap.size := fun W hW b hb => by rw [hXd] at hb; omega
    have hXn : ∀ b, b ≠ w0.heap.size + 1 → ¬ X b := fun b hb hx => by rw [hXd] at hx; exact hb hx
    clear hXd
    go_wp2_with (first | (go_at_call 12; refine (num_any _ _).mono ?_; rintro e w' ⟨rfl, rfl⟩))
    refine (tnew_at false 5 _ (by decide) X (w0.heap.size + 1) (by simp)).mono ?_
    rintro e w1 ⟨rfl, ht1, hb1⟩
    have hz1 : w0.heap.size + 1 < w1.heap.size := ht1.lt
    have bel1 : Below w.heap.size w w1 := below_step (hb0.alloc hz0 _) hb1 (by simp; omega)
    have HT1 := Lib.hid ht1; clear ht1
    have hlo : Lies (w1.alloc (.cells #[.int .i64 23, .string ⟨#[0, 5]⟩] 65)) X (some ⟨w1.heap.size, 0, none⟩) 1 1 anO := ⟨OptsAt.made_at _ _ rfl anO _ _ 1 rfl rfl, by decide, fun h => by (cases h), fun a ha => by (cases ha; exact ⟨by simp, hXn _ (by show w1.heap.size ≠ _; omega)⟩)⟩
    have HLO := Lib.hid hlo; clear hlo
    cases yes
    · go_wp2_with (first | (go_at_call 12; refine (num_any _ _).mono ?_; rintro e w' ⟨rfl, rfl⟩))
      refine (ttake_any X (w0.heap.size + 1) (ts0 false 5) 5 I 0 _ 1 1 anO _ _ (TAt.alloc HT1.out _) hX (hXl _ (by simp; omega)) (by show (0 : Int) ≤ 0 ∧ (0 : Int) ≤ 8; omega) HLO.out).mono ?_
      rintro e w2 ⟨v2, rfl, hl2, hg2⟩
      rw [K1.out.2.1]
      rw [K1.out.1, K1.out.2.2] at hl2
      obtain ⟨b2, R2, n2, rc2, rfl, ho2, ht2⟩ := hl2.one
      have hz2 := hg2.size
      simp at hz2
      have bel2 : Below w.heap.size w w2 := below_gr (bel1.alloc bel1.size _) hg2 (by have := bel1.size; simp; omega) (by omega)
      have hlo2 := HLO.out.grown hg2 hX
      have HT2 := Lib.hid (ht2.mono (fun b _ hb => (.inl hb : OwnR X b2 R2 b))); have HO2 := Lib.hid ho2; have HL2 := Lib.hid hlo2; clear ht2 hl2 ho2 hlo2
      go_wp2_with (first | (go_at_call 12; refine (num_any _ _).mono ?_; rintro e w' ⟨rfl, rfl⟩))
      refine (ttake_any X (w0.heap.size + 1) (ts0 false 5) 7 I 0 _ 1 1 anO _ _ HT2.out hX (hXl _ (by omega)) (by show (0 : Int) ≤ 0 ∧ (0 : Int) ≤ 8; omega) HL2.out).mono ?_
      rintro e w3 ⟨v3, rfl, hl3, hg3⟩
      rw [K2.out.2.1]
      rw [K2.out.1, K2.out.2.2] at hl3
      obtain ⟨b3, R3, n3, rc3, rfl, ho3, ht3⟩ := hl3.one
      have hz3 := hg3.size
      have bel3 : Below w.heap.size w w3 := below_gr bel2 hg3 (by omega) (by omega)
      have ho23 := HO2.out.grown hg3 (by simp; omega)
      have hlo3 := HL2.out.grown hg3 hX
      have HT3 := Lib.hid (ht3.mono (fun b _ hb => (.inl hb : OwnR X b3 R3 b))); have HO3 := Lib.hid ho3; have HO23 := Lib.hid ho23; have HL3 := Lib.hid hlo3; clear ht3 hl3 ho3 ho23 hlo3
      go_wp2_with (first | (go_at_call 12; refine (num_any _ _).mono ?_; rintro e w' ⟨rfl, rfl⟩))
      have hx2 : Blk w3 b2 34 #[.int .i64 (5 + 1), .int .i64 I, .int .i64 (ansI false), .slice R2 n2 rc2] := HO23.out.2.1
      have hn2 : n2 = 1 := HO23.out.2.2.1.2.1.symm
      have hn3 : n3 = 0 := HO3.out.2.2.1.2.1.symm
      refine (samebs_one 6 I 1 b2 _ R2 _ n2 1 rc2 1 anO _ (Blk.alloc hx2 _) (Blk.new _ _ _) ((HO23.out.2.2.1.optsAt).keep ((Below.refl _ _).alloc (Nat.le_refl _) _)) (HL3.out.1.keep ((Below.refl _ _).alloc (Nat.le_refl _) _)) (by omega) 1 1).mono ?_
      rintro e w4 ⟨rfl, hb4⟩
      have hz4 := hb4.size
      simp at hz4
      have bel4 : Below w.heap.size w w4 := below_step (bel3.alloc bel3.size _) hb4 (by have := bel3.size; simp; omega)
      have ht4 := (HT3.out.alloc (.cells #[.int .i64 6, .int .i64 I, .int .i64 1, .slice (some ⟨w1.heap.size, 0, none⟩) 1 1] 34)).keep hb4
      have ho4 := (HO3.out.keep ((Below.refl _ _).alloc (Nat.le_refl _) (.cells #[.int .i64 6, .int .i64 I, .int .i64 1, .slice (some ⟨w1.heap.size, 0, none⟩) 1 1] 34))).keep hb4
      have HT4 := Lib.hid ht4; have HO4 := Lib.hid ho4; clear ht4 ho4 hx2
      go_wp2_with (first | (go_at_call 12; refine (num_any _ _).mono ?_; rintro e w' ⟨rfl, rfl⟩))
      refine (samebs_one 8 I 0 b3 _ R3 none n3 0 rc3 0 [] _ (Blk.alloc HO4.out.2.1 _) (Blk.new _ _ _) ((HO4.out.2.2.1.optsAt).keep ((Below.refl _ _).alloc (Nat.le_refl _) _)) (OptsAt.nil _ _) (by omega) 1 1).mono ?_
      rintro e w5 ⟨rfl, hb5⟩
      have bel5 : Below w.heap.size w w5 := below_step (bel4.alloc bel4.size _) hb5 (by have := bel4.size; simp; omega)
      have ht5 := (HT4.out.alloc (.cells #[.int .i64 8, .int .i64 I, .int .i64 0, .slice none 0 0] 34)).keep hb5
      have HT5 := Lib.hid ht5; clear ht5
      have p1 : decide (0 < (ts0 false 5).left) = false := rfl
      go_wp2_with (first | (go_at_call 12; refine (num_any _ _).mono ?_; rintro e w' ⟨rfl, rfl⟩) | (go_at_call 26; refine (pending_any X _ (ts0 false 5) _ HT5.out).mono ?_; rintro e w' ⟨rfl, rfl⟩))
      refine (last_any X (w0.heap.size + 1) (ts0 false 5) _ HT5.out).mono ?_
      rintro e w6 ⟨R6, rn6, rc6, rfl, hm6, hb6⟩
      obtain rfl : rn6 = 0 := hm6.2.1.symm
      have bel6 := below_step bel5 hb6 bel5.size
      go_wp2_with (first | (go_at_call 12; refine (num_any _ _).mono ?_; rintro e w' ⟨rfl, rfl⟩))
      refine (sameb_any 0 0 0 R6 none 0 0 rc6 0 [] _ (OptsAt.nil _ _) (OptsAt.nil _ _) (by omega)).mono ?_
      rintro e w7 ⟨rfl, hb7⟩
      have bel7 := below_step bel6 hb7 bel6.size
      go_wp2_with (first | (go_at_call 12; refine (num_any _ _).mono ?_; rintro e w' ⟨rfl, rfl⟩))
      go_ret
      exact ⟨rfl, bel7⟩
    · go_wp2_with (first | (go_at_call 12; refine (num_any _ _).mono ?_; rintro e w' ⟨rfl, rfl⟩))
      refine (ttake_any X (w0.heap.size + 1) (ts0 false 5) 5 I 0 _ 1 1 anO _ _ (TAt.alloc HT1.out _) hX (hXl _ (by simp; omega)) (by show (0 : Int) ≤ 0 ∧ (0 : Int) ≤ 8; omega) HLO.out).mono ?_
      rintro e w2 ⟨v2, rfl, hl2, hg2⟩
      rw [K1.out.2.1]
      rw [K1.out.1, K1.out.2.2] at hl2
      obtain ⟨b2, R2, n2, rc2, rfl, ho2, ht2⟩ := hl2.one
      have hz2 := hg2.size
      simp at hz2
      have bel2 : Below w.heap.size w w2 := below_gr (bel1.alloc bel1.size _) hg2 (by have := bel1.size; simp; omega) (by omega)
      have hlo2 := HLO.out.grown hg2 hX
      have HT2 := Lib.hid (ht2.mono (fun b _ hb => (.inl hb : OwnR X b2 R2 b))); have HO2 := Lib.hid ho2; have HL2 := Lib.hid hlo2; clear ht2 hl2 ho2 hlo2
      go_wp2_with (first | (go_at_call 12; refine (num_any _ _).mono ?_; rintro e w' ⟨rfl, rfl⟩))
      refine (ttake_any X (w0.heap.size + 1) (ts0 false 5) 7 I 0 _ 1 1 anO _ _ HT2.out hX (hXl _ (by omega)) (by show (0 : Int) ≤ 0 ∧ (0 : Int) ≤ 8; omega) HL2.out).mono ?_
      rintro e w3 ⟨v3, rfl, hl3, hg3⟩
      rw [K2.out.2.1]
      rw [K2.out.1, K2.out.2.2] at hl3
      obtain ⟨b3, R3, n3, rc3, rfl, ho3, ht3⟩ := hl3.one
      have hz3 := hg3.size
      have bel3 : Below w.heap.size w w3 := below_gr bel2 hg3 (by omega) (by omega)
      have ho23 := HO2.out.grown hg3 (by simp; omega)
      have hlo3 := HL2.out.grown hg3 hX
      have HT3 := Lib.hid (ht3.mono (fun b _ hb => (.inl hb : OwnR X b3 R3 b))); have HO3 := Lib.hid ho3; have HO23 := Lib.hid ho23; have HL3 := Lib.hid hlo3; clear ht3 hl3 ho3 ho23 hlo3
      go_wp2_with (first | (go_at_call 12; refine (num_any _ _).mono ?_; rintro e w' ⟨rfl, rfl⟩))
      have hx2 : Blk w3 b2 34 #[.int .i64 (5 + 1), .int .i64 I, .int .i64 (ansI true), .slice R2 n2 rc2] := HO23.out.2.1
      have hn2 : n2 = 1 := HO23.out.2.2.1.2.1.symm
      have hn3 : n3 = 0 := HO3.out.2.2.1.2.1.symm
      refine (samebs_one 6 I 0 b2 _ R2 _ n2 1 rc2 1 anO _ (Blk.alloc hx2 _) (Blk.new _ _ _) ((HO23.out.2.2.1.optsAt).keep ((Below.refl _ _).alloc (Nat.le_refl _) _)) (HL3.out.1.keep ((Below.refl _ _).alloc (Nat.le_refl _) _)) (by omega) 1 1).mono ?_
      rintro e w4 ⟨rfl, hb4⟩
      have hz4 := hb4.size
      simp at hz4
      have bel4 : Below w.heap.size w w4 := below_step (bel3.alloc bel3.size _) hb4 (by have := bel3.size; simp; omega)
      have ht4 := (HT3.out.alloc (.cells #[.int .i64 6, .int .i64 I, .int .i64 0, .slice (some ⟨w1.heap.size, 0, none⟩) 1 1] 34)).keep hb4
      have ho4 := (HO3.out.keep ((Below.refl _ _).alloc (Nat.le_refl _) (.cells #[.int .i64 6, .int .i64 I, .int .i64 0, .slice (some ⟨w1.heap.size, 0, none⟩) 1 1] 34))).keep hb4
      have HT4 := Lib.hid ht4; have HO4 := Lib.hid ho4; clear ht4 ho4 hx2
      go_wp2_with (first | (go_at_call 12; refine (num_any _ _).mono ?_; rintro e w' ⟨rfl, rfl⟩))
      refine (samebs_one 8 I 0 b3 _ R3 none n3 0 rc3 0 [] _ (Blk.alloc HO4.out.2.1 _) (Blk.new _ _ _) ((HO4.out.2.2.1.optsAt).keep ((Below.refl _ _).alloc (Nat.le_refl _) _)) (OptsAt.nil _ _) (by omega) 1 1).mono ?_
      rintro e w5 ⟨rfl, hb5⟩
      have bel5 : Below w.heap.size w w5 := below_step (bel4.alloc bel4.size _) hb5 (by have := bel4.size; simp; omega)
      have ht5 := (HT4.out.alloc (.cells #[.int .i64 8, .int .i64 I, .int .i64 0, .slice none 0 0] 34)).keep hb5
      have HT5 := Lib.hid ht5; clear ht5
      have p1 : decide (0 < (ts0 false 5).left) = false := rfl
      go_wp2_with (first | (go_at_call 12; refine (num_any _ _).mono ?_; rintro e w' ⟨rfl, rfl⟩) | (go_at_call 26; refine (pending_any X _ (ts0 false 5) _ HT5.out).mono ?_; rintro e w' ⟨rfl, rfl⟩))
      refine (last_any X (w0.heap.size + 1) (ts0 false 5) _ HT5.out).mono ?_
      rintro e w6 ⟨R6, rn6, rc6, rfl, hm6, hb6⟩
      obtain rfl : rn6 = 0 := hm6.2.1.symm
      have bel6 := below_step bel5 hb6 bel5.size
      go_wp2_with (first | (go_at_call 12; refine (num_any _ _).mono ?_; rintro e w' ⟨rfl, rfl⟩))
      refine (sameb_any 0 0 0 R6 none 0 0 rc6 0 [] _ (OptsAt.nil _ _) (OptsAt.nil _ _) (by omega)).mono ?_
      rintro e w7 ⟨rfl, hb7⟩
      have bel7 := below_step bel6 hb7 bel6.size
      go_wp2_with (first | (go_at_call 12; refine (num_any _ _).mono ?_; rintro e w' ⟨rfl, rfl⟩))
      go_ret
      exact ⟨rfl, bel7⟩
end Go.Proofs.Ytckbbfdllflmjaa
