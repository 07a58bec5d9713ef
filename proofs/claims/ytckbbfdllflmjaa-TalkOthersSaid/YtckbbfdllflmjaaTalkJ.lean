/- The walk of the law TalkStatus. No condition. -/
import Derived.Test.YtckbbfdllflmjaaTalkI
namespace Go.Proofs.Ytckbbfdllflmjaa
open Go.RowKit
set_option linter.unusedVariables false
set_option linter.unusedSimpArgs false
attribute [local go_sem] conv1 conv1d conv1n conv1a conv1ad conv1an conv2 conv2d conv2n conv2a conv2ad conv2an conv4 conv4d conv4n conv4a conv4ad conv4an conv5 conv5d conv5n conv5a conv5ad conv5an size_nums byt_fold
theorem tnew_at (fav : Bool) (tries : Int) (w : World) (h : tnewB tries = true) (X : Nat → Prop) (g : Nat) (hg : g = w.heap.size) : Calls Try.prog 10 #[.bool fav, .int .i64 tries] w fun e w' => e = .returned (.tuple #[.pointer (some ⟨g, 0, none⟩), .int .i64 0]) ∧ TAt w' X g (ts0 fav tries) ∧ Below w.heap.size w w' := by
  subst hg; exact tnew_ok fav tries w h X
def stEnd (t : Int) (f : Bool) : TS := ⟨7, 1, 0, [], 0, f, t, 1, 8, 1, 0, []⟩
theorem st_t1 {c I t : Int} {f yes : Bool} (hr : reqB c = true) (hb : bE c I 0 [] = 0) : tkL (trS 7 4 t f) c I 0 [] yes = [(c + 1, I, ansI yes, [])] ∧ tkE c I 0 [] = 0 ∧ tkS (trS 7 4 t f) c I 0 [] = trS 7 4 t f := by
  have h : crs (trS 7 4 t f) c = false := rfl
  have ha : tReqA (trS 7 4 t f) c yes = ansI yes := by unfold tReqA; rw [h]; rfl
  have hs : tReqS (trS 7 4 t f) c = trS 7 4 t f := by unfold tReqS; rw [h]; rfl
  exact ⟨by unfold tkL; rw [if_pos hb, if_pos hr, ha], by unfold tkE; rw [if_pos hb], by unfold tkS; rw [if_pos hb, if_pos hr, hs]⟩
theorem st_t2 (t : Int) (f : Bool) : tkL (trS 7 4 t f) 8 1 0 [] false = [] ∧ tkE 8 1 0 [] = 0 ∧ tkS (trS 7 4 t f) 8 1 0 [] = stEnd t f := by
  have hb : bE 8 1 0 [] = 0 := by decide +kernel
  exact ⟨by unfold tkL; rw [if_pos hb]; rfl, by unfold tkE; rw [if_pos hb], by unfold tkS; rw [if_pos hb]; rfl⟩
set_option maxRecDepth 100000 in
set_option maxHeartbeats 8000000 in
theorem status_walk (fav : Bool) (code : Int) (yes : Bool) (id : Int) (h1 : (Lit.int .i64 code).wf = true) (h2 : (Lit.int .i64 id).wf = true) (w : World) : Calls Try.prog 9 #[.bool fav, .int .i64 code, .bool yes, .int .i64 id] w fun e w' => e = .returned (.bool true) ∧ Below w.heap.size w w' := by
  have hu2 : 0 ≤ IntKind.u64.wrap code := by rw [IntKind.wrap_u64]; omega
  have hq : (IntKind.u64.wrap code).tmod 3 = 0 ∨ (IntKind.u64.wrap code).tmod 3 = 1 ∨ (IntKind.u64.wrap code).tmod 3 = 2 := by rw [Int.tmod_eq_emod_of_nonneg hu2]; omega
  obtain ⟨I, hI, hI1, hI3⟩ := mask_nat 8 (by decide) 255 (by decide) id
  have hI4 : id % 256 = (I : Int) := by rw [hI3]; rfl
  have hI2 : I < 256 := hI1
  clear hI3 hI1
  rcases hq with hq | hq | hq
  · have B1 := Lib.hid (bE_nil (c := 1) (i := (I : Int)) (a := 0) (by omega) (by omega) (by omega) (.inr rfl))
    have K1 := Lib.hid (tr_ask (c := 7) (t := 4) (f := fav) (by decide) (by omega))
    have K2 := Lib.hid (st_t1 (t := 4) (f := fav) (yes := yes) (by decide) B1.out)
    have K3 := Lib.hid (st_t2 4 fav)
    go_enter Try.func9, Try.ntmps9
    go_wp2_with (first | (go_at_call 12; refine (num_any _ _).mono ?_; rintro e w' ⟨rfl, rfl⟩))
    refine (awake_any _).mono ?_
    rintro e w0 ⟨rfl, hb0⟩
    have hz0 := hb0.size
    obtain ⟨X, hXd⟩ : ∃ X : Nat → Prop, X = fun b => b = w0.heap.size + 1 := ⟨_, rfl⟩
    have hX : X (w0.heap.size + 1) := by rw [hXd]
    have hXl : ∀ W : World, w0.heap.size + 1 < W.heap.size → ∀ b, X b → b < W.heap.size := fun W hW b hb => by rw [hXd] at hb; omega
    clear hXd
    go_wp2_with (first | (go_at_call 12; refine (num_any _ _).mono ?_; rintro e w' ⟨rfl, rfl⟩))
    refine (tnew_at fav 4 _ (by decide) X (w0.heap.size + 1) (by simp)).mono ?_
    rintro e w1 ⟨rfl, ht1, hb1⟩
    have hz1 : w0.heap.size + 1 < w1.heap.size := ht1.lt
    have bel1 : Below w.heap.size w w1 := below_step (hb0.alloc hz0 _) hb1 (by simp; omega)
    have HT1 := Lib.hid ht1; clear ht1
    go_wp2_with (first | (go_at_call 12; refine (num_any _ _).mono ?_; rintro e w' ⟨rfl, rfl⟩))
    refine (task_any X (w0.heap.size + 1) (ts0 fav 4) 7 none 0 0 [] _ HT1.out hX (hXl _ hz1) (by show (0 : Int) ≤ 0 ∧ (0 : Int) ≤ 255; omega) (OptsAt.nil _ _) (by decide) (fun _ => ⟨rfl, rfl⟩)).mono ?_
    rintro e w2 ⟨R2, rn2, rc2, rfl, hm2, ht2, hg2⟩
    rw [K1.out.1, K1.out.2.1]
    rw [K1.out.2.2] at ht2
    have hz2 := hg2.size
    have bel2 : Below w.heap.size w w2 := below_gr bel1 hg2 (by omega) (by omega)
    have hc2 := Blk.new w2 34 #[.int .i64 7, .int .i64 1, .int .i64 0, .slice R2 rn2 rc2]
    have HT2 := Lib.hid (ht2.mono (fun b _ hb => (.inl hb : OwnX X R2 b))); have HC2 := Lib.hid hc2; clear ht2 hm2 hc2
    go_wp2_with (first | (go_at_call 12; refine (num_any _ _).mono ?_; rintro e w' ⟨rfl, rfl⟩))
    refine (ttake_any X (w0.heap.size + 1) (trS 7 4 4 fav) 1 I 0 none 0 0 [] yes _ (TAt.alloc HT2.out _) hX (hXl _ (by simp; omega)) (by show (0 : Int) ≤ 7 ∧ (7 : Int) ≤ 8; omega) (Lies.nil _ _)).mono ?_
    rintro e w3 ⟨v3, rfl, hl3, hg3⟩
    rw [K2.out.2.1]
    rw [K2.out.1, K2.out.2.2] at hl3
    obtain ⟨b3, R3, n3, rc3, rfl, ho3, ht3⟩ := hl3.one
    have hz3 := hg3.size
    simp at hz3
    have bel3 : Below w.heap.size w w3 := below_gr (bel2.alloc bel2.size _) hg3 (by have := bel2.size; simp; omega) (by omega)
    have hc3 : Blk w3 w2.heap.size 34 #[.int .i64 7, .int .i64 1, .int .i64 0, .slice R2 rn2 rc2] := HC2.out.grown hg3 (by simp; omega)
    have k1 : w3.cell? ⟨w2.heap.size, 1, none⟩ = some (.int .i64 1) := hc3.cell 1
    have hzz : w2.heap.size < w3.heap.size := by omega
    have HT3 := Lib.hid (ht3.mono (fun b _ hb => (.inl hb : OwnR X b3 R3 b))); have HO3 := Lib.hid ho3; clear ht3 hl3 hc3 ho3
    have p1 : decide (0 < (trS 7 4 4 fav).left) = true := rfl
    cases yes
    all_goals
      go_wp2_with (first | (go_at_call 12; refine (num_any _ _).mono ?_; rintro e w' ⟨rfl, rfl⟩) | (go_at_call 26; refine (pending_any X _ (trS 7 4 4 fav) _ HT3.out).mono ?_; rintro e w' ⟨rfl, rfl⟩))
      refine (ttake_any X (w0.heap.size + 1) (trS 7 4 4 fav) 8 1 0 none 0 0 [] false _ HT3.out hX (hXl _ (by omega)) (by show (0 : Int) ≤ 7 ∧ (7 : Int) ≤ 8; omega) (Lies.nil _ _)).mono ?_
      rintro e w4 ⟨v4, rfl, hl4, hg4⟩
      rw [K3.out.2.1]
      rw [K3.out.1, K3.out.2.2] at hl4
      obtain ⟨rfl, ht4⟩ := hl4.none
      have hz4 := hg4.size
      have bel4 : Below w.heap.size w w4 := below_gr bel3 hg4 (by omega) (by omega)
      have ho4 := (HO3.out.grown hg4 (by simp; omega)).2.1
      have d2 : w4.cell? ⟨b3, 2, none⟩ = some (.int .i64 _) := ho4.cell 2
      have hlb := ho4.lt
      have HT4 := Lib.hid ht4; clear ht4 hl4 ho4
      have p2 : decide (0 < (stEnd 4 fav).left) = false := rfl
      simp only [ansI] at d2
      go_wp2_with (first | (go_at_call 12; refine (num_any _ _).mono ?_; rintro e w' ⟨rfl, rfl⟩) | (go_at_call 26; refine (pending_any X _ (stEnd 4 fav) _ HT4.out).mono ?_; rintro e w' ⟨rfl, rfl⟩))
      go_ret
      exact ⟨rfl, bel4⟩
  · have B1 := Lib.hid (bE_nil (c := 3) (i := (I : Int)) (a := 0) (by omega) (by omega) (by omega) (.inr rfl))
    have K1 := Lib.hid (tr_ask (c := 7) (t := 4) (f := fav) (by decide) (by omega))
    have K2 := Lib.hid (st_t1 (t := 4) (f := fav) (yes := yes) (by decide) B1.out)
    have K3 := Lib.hid (st_t2 4 fav)
    go_enter Try.func9, Try.ntmps9
    go_wp2_with (first | (go_at_call 12; refine (num_any _ _).mono ?_; rintro e w' ⟨rfl, rfl⟩))
    refine (awake_any _).mono ?_
    rintro e w0 ⟨rfl, hb0⟩
    have hz0 := hb0.size
    obtain ⟨X, hXd⟩ : ∃ X : Nat → Prop, X = fun b => b = w0.heap.size + 1 := ⟨_, rfl⟩
    have hX : X (w0.heap.size + 1) := by rw [hXd]
    have hXl : ∀ W : World, w0.heap.size + 1 < W.heap.size → ∀ b, X b → b < W.heap.size := fun W hW b hb => by rw [hXd] at hb; omega
    clear hXd
    go_wp2_with (first | (go_at_call 12; refine (num_any _ _).mono ?_; rintro e w' ⟨rfl, rfl⟩))
    refine (tnew_at fav 4 _ (by decide) X (w0.heap.size + 1) (by simp)).mono ?_
    rintro e w1 ⟨rfl, ht1, hb1⟩
    have hz1 : w0.heap.size + 1 < w1.heap.size := ht1.lt
    have bel1 : Below w.heap.size w w1 := below_step (hb0.alloc hz0 _) hb1 (by simp; omega)
    have HT1 := Lib.hid ht1; clear ht1
    go_wp2_with (first | (go_at_call 12; refine (num_any _ _).mono ?_; rintro e w' ⟨rfl, rfl⟩))
    refine (task_any X (w0.heap.size + 1) (ts0 fav 4) 7 none 0 0 [] _ HT1.out hX (hXl _ hz1) (by show (0 : Int) ≤ 0 ∧ (0 : Int) ≤ 255; omega) (OptsAt.nil _ _) (by decide) (fun _ => ⟨rfl, rfl⟩)).mono ?_
    rintro e w2 ⟨R2, rn2, rc2, rfl, hm2, ht2, hg2⟩
    rw [K1.out.1, K1.out.2.1]
    rw [K1.out.2.2] at ht2
    have hz2 := hg2.size
    have bel2 : Below w.heap.size w w2 := below_gr bel1 hg2 (by omega) (by omega)
    have hc2 := Blk.new w2 34 #[.int .i64 7, .int .i64 1, .int .i64 0, .slice R2 rn2 rc2]
    have HT2 := Lib.hid (ht2.mono (fun b _ hb => (.inl hb : OwnX X R2 b))); have HC2 := Lib.hid hc2; clear ht2 hm2 hc2
    go_wp2_with (first | (go_at_call 12; refine (num_any _ _).mono ?_; rintro e w' ⟨rfl, rfl⟩))
    refine (ttake_any X (w0.heap.size + 1) (trS 7 4 4 fav) 3 I 0 none 0 0 [] yes _ (TAt.alloc HT2.out _) hX (hXl _ (by simp; omega)) (by show (0 : Int) ≤ 7 ∧ (7 : Int) ≤ 8; omega) (Lies.nil _ _)).mono ?_
    rintro e w3 ⟨v3, rfl, hl3, hg3⟩
    rw [K2.out.2.1]
    rw [K2.out.1, K2.out.2.2] at hl3
    obtain ⟨b3, R3, n3, rc3, rfl, ho3, ht3⟩ := hl3.one
    have hz3 := hg3.size
    simp at hz3
    have bel3 : Below w.heap.size w w3 := below_gr (bel2.alloc bel2.size _) hg3 (by have := bel2.size; simp; omega) (by omega)
    have hc3 : Blk w3 w2.heap.size 34 #[.int .i64 7, .int .i64 1, .int .i64 0, .slice R2 rn2 rc2] := HC2.out.grown hg3 (by simp; omega)
    have k1 : w3.cell? ⟨w2.heap.size, 1, none⟩ = some (.int .i64 1) := hc3.cell 1
    have hzz : w2.heap.size < w3.heap.size := by omega
    have HT3 := Lib.hid (ht3.mono (fun b _ hb => (.inl hb : OwnR X b3 R3 b))); have HO3 := Lib.hid ho3; clear ht3 hl3 hc3 ho3
    have p1 : decide (0 < (trS 7 4 4 fav).left) = true := rfl
    cases yes
    all_goals
      go_wp2_with (first | (go_at_call 12; refine (num_any _ _).mono ?_; rintro e w' ⟨rfl, rfl⟩) | (go_at_call 26; refine (pending_any X _ (trS 7 4 4 fav) _ HT3.out).mono ?_; rintro e w' ⟨rfl, rfl⟩))
      refine (ttake_any X (w0.heap.size + 1) (trS 7 4 4 fav) 8 1 0 none 0 0 [] false _ HT3.out hX (hXl _ (by omega)) (by show (0 : Int) ≤ 7 ∧ (7 : Int) ≤ 8; omega) (Lies.nil _ _)).mono ?_
      rintro e w4 ⟨v4, rfl, hl4, hg4⟩
      rw [K3.out.2.1]
      rw [K3.out.1, K3.out.2.2] at hl4
      obtain ⟨rfl, ht4⟩ := hl4.none
      have hz4 := hg4.size
      have bel4 : Below w.heap.size w w4 := below_gr bel3 hg4 (by omega) (by omega)
      have ho4 := (HO3.out.grown hg4 (by simp; omega)).2.1
      have d2 : w4.cell? ⟨b3, 2, none⟩ = some (.int .i64 _) := ho4.cell 2
      have hlb := ho4.lt
      have HT4 := Lib.hid ht4; clear ht4 hl4 ho4
      have p2 : decide (0 < (stEnd 4 fav).left) = false := rfl
      simp only [ansI] at d2
      go_wp2_with (first | (go_at_call 12; refine (num_any _ _).mono ?_; rintro e w' ⟨rfl, rfl⟩) | (go_at_call 26; refine (pending_any X _ (stEnd 4 fav) _ HT4.out).mono ?_; rintro e w' ⟨rfl, rfl⟩))
      go_ret
      exact ⟨rfl, bel4⟩
  · have B1 := Lib.hid (bE_nil (c := 5) (i := (I : Int)) (a := 0) (by omega) (by omega) (by omega) (.inr rfl))
    have K1 := Lib.hid (tr_ask (c := 7) (t := 4) (f := fav) (by decide) (by omega))
    have K2 := Lib.hid (st_t1 (t := 4) (f := fav) (yes := yes) (by decide) B1.out)
    have K3 := Lib.hid (st_t2 4 fav)
    go_enter Try.func9, Try.ntmps9
    go_wp2_with (first | (go_at_call 12; refine (num_any _ _).mono ?_; rintro e w' ⟨rfl, rfl⟩))
    refine (awake_any _).mono ?_
    rintro e w0 ⟨rfl, hb0⟩
    have hz0 := hb0.size
    obtain ⟨X, hXd⟩ : ∃ X : Nat → Prop, X = fun b => b = w0.heap.size + 1 := ⟨_, rfl⟩
    have hX : X (w0.heap.size + 1) := by rw [hXd]
    have hXl : ∀ W : World, w0.heap.size + 1 < W.heap.size → ∀ b, X b → b < W.heap.size := fun W hW b hb => by rw [hXd] at hb; omega
    clear hXd
    go_wp2_with (first | (go_at_call 12; refine (num_any _ _).mono ?_; rintro e w' ⟨rfl, rfl⟩))
    refine (tnew_at fav 4 _ (by decide) X (w0.heap.size + 1) (by simp)).mono ?_
    rintro e w1 ⟨rfl, ht1, hb1⟩
    have hz1 : w0.heap.size + 1 < w1.heap.size := ht1.lt
    have bel1 : Below w.heap.size w w1 := below_step (hb0.alloc hz0 _) hb1 (by simp; omega)
    have HT1 := Lib.hid ht1; clear ht1
    go_wp2_with (first | (go_at_call 12; refine (num_any _ _).mono ?_; rintro e w' ⟨rfl, rfl⟩))
    refine (task_any X (w0.heap.size + 1) (ts0 fav 4) 7 none 0 0 [] _ HT1.out hX (hXl _ hz1) (by show (0 : Int) ≤ 0 ∧ (0 : Int) ≤ 255; omega) (OptsAt.nil _ _) (by decide) (fun _ => ⟨rfl, rfl⟩)).mono ?_
    rintro e w2 ⟨R2, rn2, rc2, rfl, hm2, ht2, hg2⟩
    rw [K1.out.1, K1.out.2.1]
    rw [K1.out.2.2] at ht2
    have hz2 := hg2.size
    have bel2 : Below w.heap.size w w2 := below_gr bel1 hg2 (by omega) (by omega)
    have hc2 := Blk.new w2 34 #[.int .i64 7, .int .i64 1, .int .i64 0, .slice R2 rn2 rc2]
    have HT2 := Lib.hid (ht2.mono (fun b _ hb => (.inl hb : OwnX X R2 b))); have HC2 := Lib.hid hc2; clear ht2 hm2 hc2
    go_wp2_with (first | (go_at_call 12; refine (num_any _ _).mono ?_; rintro e w' ⟨rfl, rfl⟩))
    refine (ttake_any X (w0.heap.size + 1) (trS 7 4 4 fav) 5 I 0 none 0 0 [] yes _ (TAt.alloc HT2.out _) hX (hXl _ (by simp; omega)) (by show (0 : Int) ≤ 7 ∧ (7 : Int) ≤ 8; omega) (Lies.nil _ _)).mono ?_
    rintro e w3 ⟨v3, rfl, hl3, hg3⟩
    rw [K2.out.2.1]
    rw [K2.out.1, K2.out.2.2] at hl3
    obtain ⟨b3, R3, n3, rc3, rfl, ho3, ht3⟩ := hl3.one
    have hz3 := hg3.size
    simp at hz3
    have bel3 : Below w.heap.size w w3 := below_gr (bel2.alloc bel2.size _) hg3 (by have := bel2.size; simp; omega) (by omega)
    have hc3 : Blk w3 w2.heap.size 34 #[.int .i64 7, .int .i64 1, .int .i64 0, .slice R2 rn2 rc2] := HC2.out.grown hg3 (by simp; omega)
    have k1 : w3.cell? ⟨w2.heap.size, 1, none⟩ = some (.int .i64 1) := hc3.cell 1
    have hzz : w2.heap.size < w3.heap.size := by omega
    have HT3 := Lib.hid (ht3.mono (fun b _ hb => (.inl hb : OwnR X b3 R3 b))); have HO3 := Lib.hid ho3; clear ht3 hl3 hc3 ho3
    have p1 : decide (0 < (trS 7 4 4 fav).left) = true := rfl
    cases yes
    all_goals
      go_wp2_with (first | (go_at_call 12; refine (num_any _ _).mono ?_; rintro e w' ⟨rfl, rfl⟩) | (go_at_call 26; refine (pending_any X _ (trS 7 4 4 fav) _ HT3.out).mono ?_; rintro e w' ⟨rfl, rfl⟩))
      refine (ttake_any X (w0.heap.size + 1) (trS 7 4 4 fav) 8 1 0 none 0 0 [] false _ HT3.out hX (hXl _ (by omega)) (by show (0 : Int) ≤ 7 ∧ (7 : Int) ≤ 8; omega) (Lies.nil _ _)).mono ?_
      rintro e w4 ⟨v4, rfl, hl4, hg4⟩
      rw [K3.out.2.1]
      rw [K3.out.1, K3.out.2.2] at hl4
      obtain ⟨rfl, ht4⟩ := hl4.none
      have hz4 := hg4.size
      have bel4 : Below w.heap.size w w4 := below_gr bel3 hg4 (by omega) (by omega)
      have ho4 := (HO3.out.grown hg4 (by simp; omega)).2.1
      have d2 : w4.cell? ⟨b3, 2, none⟩ = some (.int .i64 _) := ho4.cell 2
      have hlb := ho4.lt
      have HT4 := Lib.hid ht4; clear ht4 hl4 ho4
      have p2 : decide (0 < (stEnd 4 fav).left) = false := rfl
      simp only [ansI] at d2
      go_wp2_with (first | (go_at_call 12; refine (num_any _ _).mono ?_; rintro e w' ⟨rfl, rfl⟩) | (go_at_call 26; refine (pending_any X _ (stEnd 4 fav) _ HT4.out).mono ?_; rintro e w' ⟨rfl, rfl⟩))
      go_ret
      exact ⟨rfl, bel4⟩
end Go.Proofs.Ytckbbfdllflmjaa
