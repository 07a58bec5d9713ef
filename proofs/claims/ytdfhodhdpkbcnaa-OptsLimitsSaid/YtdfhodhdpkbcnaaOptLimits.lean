/- The walk of the law OptsLimits: it returns true. No condition. -/
import Derived.Test.YtdfhodhdpkbcnaaOptLaws
namespace Go.Proofs.Ytdfhodhdpkbcnaa
open Go.RowKit
set_option linter.unusedVariables false
set_option linter.unusedSimpArgs false
attribute [local go_sem] conv1 conv1d conv1n conv1a conv1ad conv1an conv2 conv2d conv2n conv2a conv2ad conv2an conv4 conv4d conv4n conv4a conv4ad conv4an conv5 conv5d conv5n conv5a conv5ad conv5an size_nums byt_fold
attribute [local go_sem] conv_z zstr_size
theorem one_bad {kind : Int} {d : ByteArray} (h : kind < 0 ∨ 255 < kind) : oE [(kind, d)] = 400 ∧ oS [(kind, d)] = ⟨#[]⟩ := by
  have e : oE [(kind, d)] = 400 := by
    have hb : oBad [(kind, d)] = true := by unfold oBad badK; simp; omega
    unfold oE; rw [hb]; rfl
  exact ⟨e, by unfold oS; rw [e]; rfl⟩
theorem one_fine {kind : Int} {d : ByteArray} (h : 0 ≤ kind ∧ kind ≤ 255) (h2 : d.size ≤ 253) : oE [(kind, d)] = 0 := by
  have hb : oBad [(kind, d)] = false := by unfold oBad badK; simp; omega
  have hl : oLong [(kind, d)] 0 = false := by simp [oLong]; omega
  unfold oE; rw [hb, hl]; rfl
theorem one_long {kind : Int} {d : ByteArray} (h : 0 ≤ kind ∧ kind ≤ 255) (h2 : 253 < d.size) : oE [(kind, d)] = 401 := by
  have hb : oBad [(kind, d)] = false := by unfold oBad badK; simp; omega
  have hl : oLong [(kind, d)] 0 = true := by simp [oLong]; omega
  unfold oE; rw [hb, hl]; rfl
theorem OptsAt.made_at (w : World) (b : Nat) (hb : b = w.heap.size) (os : List (Int × ByteArray)) (cs : Array Value) (t : TypeId) (n : Nat) (hn : os.length = n) (h : cs.toList = optCells os) : OptsAt (w.alloc (.cells cs t)) (some ⟨b, 0, none⟩) n os := by
  subst hb; exact OptsAt.made w os cs t n hn h
set_option maxRecDepth 100000 in
set_option maxHeartbeats 1000000 in
theorem limits_go (kind many : Int) (w : World) (k : Nat) (hk : bits .and .i64 many 3 = (k : Int)) (hk1 : k < 4) (K : Nat) (hK : 251 + (k : Int) = (K : Int)) (x : Int)
    (hx : oE [(kind, zstr K)] = x) (hc : (kind < 0 ∧ x = 400) ∨ (255 < kind ∧ x = 400) ∨ (0 ≤ kind ∧ kind ≤ 255 ∧ K ≤ 253 ∧ x = 0) ∨ (0 ≤ kind ∧ kind ≤ 255 ∧ 253 < K ∧ x = 401)) (hs : x = 400 → oS [(kind, zstr K)] = ⟨#[]⟩) :
    Calls Try.prog 5 #[.int .i64 kind, .int .i64 many] w fun e w' => e = .returned (.bool true) ∧ Below w.heap.size w w' := by
  have b1 : oE [] = 0 := by decide
  have b2 : oS [] = ⟨#[]⟩ := by decide +kernel
  have hmk := run_mk K (by omega)
  have HX := Lib.hid hx; clear hx
  have HS := Lib.hid hs; clear hs
  rcases hc with ⟨h1, rfl⟩ | ⟨h1, rfl⟩ | ⟨h1, h2, h3, rfl⟩ | ⟨h1, h2, h3, rfl⟩
  · go_enter Try.func5, Try.ntmps5
    (go_wp2_with (first | (go_at_call 12; refine (num_any _ _).mono ?_; rintro e w' ⟨rfl, rfl⟩)); refine (awake_any _).mono ?_; rintro e w1 ⟨rfl, hb1⟩; obtain ⟨hc1, hf1⟩ := bcell hb1; have hz1 := hb1.size; try simp at hz1)
    go_wp2_with (first | (go_at_call 12; refine (num_any _ _).mono ?_; rintro e w' ⟨rfl, rfl⟩))
    refine (optput_any _ _ _ [(kind, zstr K)] _ (OptsAt.made_at (w1.alloc (.cells (zcells K) 5)) (w1.heap.size + 1) (by simp) [(kind, zstr K)] #[.int .i64 kind, .string (zstr K)] 34 1 rfl rfl) (by simp)).mono ?_
    rintro e w2 ⟨rfl, hb2⟩
    rw [HX.out, HS.out trivial]
    have hz2 := hb2.size
    simp at hz2
    go_wp2_with (first | (go_at_call 12; refine (num_any _ _).mono ?_; rintro e w' ⟨rfl, rfl⟩))
    refine (optput_any _ _ _ [] _ (OptsAt.nil _ _) (by simp)).mono ?_
    rintro e w3 ⟨rfl, hb3⟩
    rw [b1, b2]
    have hz3 := hb3.size
    go_wp2_with (first | (go_at_call 12; refine (num_any _ _).mono ?_; rintro e w' ⟨rfl, rfl⟩))
    go_ret
    exact ⟨rfl, (by repeat' (first | (with_reducible exact Below.refl _ _) | (with_reducible apply Below.drew) | (with_reducible apply below_drewN) | (with_reducible apply Below.setCell) | (with_reducible apply Below.alloc) | (with_reducible refine below_step ?_ (by assumption) ?_) | omega | (simp; done) | (simp; omega)))⟩
  · go_enter Try.func5, Try.ntmps5
    (go_wp2_with (first | (go_at_call 12; refine (num_any _ _).mono ?_; rintro e w' ⟨rfl, rfl⟩)); refine (awake_any _).mono ?_; rintro e w1 ⟨rfl, hb1⟩; obtain ⟨hc1, hf1⟩ := bcell hb1; have hz1 := hb1.size; try simp at hz1)
    go_wp2_with (first | (go_at_call 12; refine (num_any _ _).mono ?_; rintro e w' ⟨rfl, rfl⟩))
    refine (optput_any _ _ _ [(kind, zstr K)] _ (OptsAt.made_at (w1.alloc (.cells (zcells K) 5)) (w1.heap.size + 1) (by simp) [(kind, zstr K)] #[.int .i64 kind, .string (zstr K)] 34 1 rfl rfl) (by simp)).mono ?_
    rintro e w2 ⟨rfl, hb2⟩
    rw [HX.out, HS.out trivial]
    have hz2 := hb2.size
    simp at hz2
    go_wp2_with (first | (go_at_call 12; refine (num_any _ _).mono ?_; rintro e w' ⟨rfl, rfl⟩))
    refine (optput_any _ _ _ [] _ (OptsAt.nil _ _) (by simp)).mono ?_
    rintro e w3 ⟨rfl, hb3⟩
    rw [b1, b2]
    have hz3 := hb3.size
    go_wp2_with (first | (go_at_call 12; refine (num_any _ _).mono ?_; rintro e w' ⟨rfl, rfl⟩))
    go_ret
    exact ⟨rfl, (by repeat' (first | (with_reducible exact Below.refl _ _) | (with_reducible apply Below.drew) | (with_reducible apply below_drewN) | (with_reducible apply Below.setCell) | (with_reducible apply Below.alloc) | (with_reducible refine below_step ?_ (by assumption) ?_) | omega | (simp; done) | (simp; omega)))⟩
  all_goals
    go_enter Try.func5, Try.ntmps5
    (go_wp2_with (first | (go_at_call 12; refine (num_any _ _).mono ?_; rintro e w' ⟨rfl, rfl⟩)); refine (awake_any _).mono ?_; rintro e w1 ⟨rfl, hb1⟩; obtain ⟨hc1, hf1⟩ := bcell hb1; have hz1 := hb1.size; try simp at hz1)
    go_wp2_with (first | (go_at_call 12; refine (num_any _ _).mono ?_; rintro e w' ⟨rfl, rfl⟩))
    refine (optput_any _ _ _ [(kind, zstr K)] _ (OptsAt.made_at (w1.alloc (.cells (zcells K) 5)) (w1.heap.size + 1) (by simp) [(kind, zstr K)] #[.int .i64 kind, .string (zstr K)] 34 1 rfl rfl) (by simp)).mono ?_
    rintro e w2 ⟨rfl, hb2⟩
    rw [HX.out]
    generalize oS [(kind, zstr K)] = S
    have hz2 := hb2.size
    simp at hz2
    go_wp2_with (first | (go_at_call 12; refine (num_any _ _).mono ?_; rintro e w' ⟨rfl, rfl⟩))
    refine (optput_any _ _ _ [] _ (OptsAt.nil _ _) (by simp)).mono ?_
    rintro e w3 ⟨rfl, hb3⟩
    rw [b1, b2]
    have hz3 := hb3.size
    go_wp2_with (first | (go_at_call 12; refine (num_any _ _).mono ?_; rintro e w' ⟨rfl, rfl⟩))
    go_ret
    exact ⟨by first | (simp; done) | (simp; omega), (by repeat' (first | (with_reducible exact Below.refl _ _) | (with_reducible apply Below.drew) | (with_reducible apply below_drewN) | (with_reducible apply Below.setCell) | (with_reducible apply Below.alloc) | (with_reducible refine below_step ?_ (by assumption) ?_) | omega | (simp; done) | (simp; omega)))⟩
theorem optsLimits_walk (kind many : Int) (k0 : (Lit.int .i64 kind).wf = true) (k1 : (Lit.int .i64 many).wf = true) (w : World) :
    Calls Try.prog 5 #[.int .i64 kind, .int .i64 many] w fun e w' => e = .returned (.bool true) ∧ Below w.heap.size w w' := by
  obtain ⟨k, hk, hk1, -⟩ := mask_nat 2 (by decide) 3 (by decide) many
  have hz := zstr_size (251 + k)
  by_cases h : kind < 0 ∨ 255 < kind
  · obtain ⟨e1, e2⟩ := one_bad (d := zstr (251 + k)) h
    exact limits_go kind many w k hk (by omega) (251 + k) (by omega) 400 e1 (by rcases h with h | h; exact .inl ⟨h, rfl⟩; exact .inr (.inl ⟨h, rfl⟩)) (fun _ => e2)
  · by_cases h2 : 251 + k ≤ 253
    · exact limits_go kind many w k hk (by omega) (251 + k) (by omega) 0 (one_fine (by omega) (by omega)) (.inr (.inr (.inl ⟨by omega, by omega, h2, rfl⟩))) (fun h => by cases h)
    · exact limits_go kind many w k hk (by omega) (251 + k) (by omega) 401 (one_long (by omega) (by omega)) (.inr (.inr (.inr ⟨by omega, by omega, by omega, rfl⟩))) (fun h => by cases h)
end Go.Proofs.Ytdfhodhdpkbcnaa
