/- What all laws of chapter 22 ask first: it returns true. No condition. -/
import Derived.Test.YtckbbfdllflmjaaTalkF
import Derived.Test.YtckbbfdllflmjaaBapSame
namespace Go.Proofs.Ytckbbfdllflmjaa
open Go.RowKit
set_option linter.unusedVariables false
set_option linter.unusedSimpArgs false
attribute [local go_sem] conv1 conv1d conv1n conv1a conv1ad conv1an conv2 conv2d conv2n conv2a conv2ad conv2an conv4 conv4d conv4n conv4a conv4ad conv4an conv5 conv5d conv5n conv5a conv5ad conv5an size_nums byt_fold
theorem Blk.new_at (w : World) (b : Nat) (hb : b = w.heap.size) (t : TypeId) (cs : Array Value) : Blk (w.alloc (.cells cs t)) b t cs := by subst hb; exact Blk.new w t cs
theorem One.grown {w w1 w2 : World} {b g : Nat} {c i a : Int} {R : Option Addr} {n rc : Nat} {os : List (Int × ByteArray)} (h : One w w1 b c i a R n rc os) (hg : w1.grownBy w2 (some g)) (hgw : g < w.heap.size) : One w w2 b c i a R n rc os :=
  ⟨h.1, h.2.1.grown hg (fun e => by have := Option.some.inj e; have := h.1; omega), h.2.2.1.grown hg (fun r hr => by have := (h.2.2.1.new r hr).1; omega), h.2.2.2⟩
theorem One.keep {w w1 w2 : World} {b : Nat} {c i a : Int} {R : Option Addr} {n rc : Nat} {os : List (Int × ByteArray)} (h : One w w1 b c i a R n rc os) (hb : Below w1.heap.size w1 w2) : One w w2 b c i a R n rc os :=
  ⟨h.1, h.2.1.keep hb, h.2.2.1.keep hb, h.2.2.2⟩
def awO : List (Int × ByteArray) := [(1, ⟨#[120]⟩)]
def aw1 : TS := ⟨1, 1, 0, awO, 3, true, 3, 1, 0, 0, 0, []⟩
def aw2 : TS := ⟨1, 1, 0, awO, 0, true, 3, 1, 2, 1, 0, []⟩
theorem aw_ask : tAskR (ts0 true 3) 1 awO = (1, 1, 0, awO) ∧ tAskE (ts0 true 3) 1 awO = 0 ∧ tAsk (ts0 true 3) 1 awO = aw1 := by
  have h : tAskE (ts0 true 3) 1 awO = 0 := by decide +kernel
  exact ⟨by unfold tAskR; rw [if_pos h]; rfl, h, by unfold tAsk; rw [if_pos h]; rfl⟩
theorem aw_busy : tAskR aw1 5 [] = (0, 0, 0, []) ∧ tAskE aw1 5 [] = 2201 ∧ tAsk aw1 5 [] = aw1 := by
  have h : tAskE aw1 5 [] = 2201 := by decide +kernel
  exact ⟨by unfold tAskR; rw [if_neg (by rw [h]; decide)], h, by unfold tAsk; rw [if_neg (by rw [h]; decide)]⟩
theorem aw_t1 : tkL aw1 1 9 0 [] true = [(2, 9, 1, [])] ∧ tkE 1 9 0 [] = 0 ∧ tkS aw1 1 9 0 [] = aw1 := by
  have h : bE 1 9 0 [] = 0 := by decide +kernel
  exact ⟨by unfold tkL; rw [if_pos h]; rfl, by unfold tkE; rw [if_pos h], by unfold tkS; rw [if_pos h]; rfl⟩
theorem aw_t2 : tkL aw1 2 1 0 [] false = [] ∧ tkE 2 1 0 [] = 0 ∧ tkS aw1 2 1 0 [] = aw2 := by
  have h : bE 2 1 0 [] = 0 := by decide +kernel
  exact ⟨by unfold tkL; rw [if_pos h]; rfl, by unfold tkE; rw [if_pos h], by unfold tkS; rw [if_pos h]; rfl⟩
theorem aw_ag : tAgR aw2 = (0, 0, 0, []) ∧ tAgE aw2 = 2202 ∧ tAg aw2 = aw2 :=
  ⟨by unfold tAgR; rw [if_pos (.inl rfl)], by unfold tAgE; rw [if_pos (.inl rfl)], by unfold tAg; rw [if_pos (show aw2.left = 0 from rfl)]⟩
theorem field0 (x y z : Int) (R : Option Addr) (n c : Nat) (W : World) : (Instr.field 34 (.agg #[.int .i64 x, .int .i64 y, .int .i64 z, .slice R n c]) 0).run Try.prog W = .ok (.int .i64 x) W := by kernel_rfl
theorem num_any' (x : Int) (w : World) : Calls Try.prog 12 #[.int .i64 x] w fun e w' => e = .returned (.int .i64 x) ∧ w = w' := num_any x w
theorem ListB.one {w w' : World} {X : Nat → Prop} {g : Nat} {S : TS} {v : Value} {c i a : Int} {os : List (Int × ByteArray)} (h : ListB w w' X g S v [(c, i, a, os)]) : ∃ b R n rc, v = .slice (some ⟨b, 0, none⟩) 1 1 ∧ One w w' b c i a R n rc os ∧ TAt w' (OwnR X b R) g S := by
  rcases h with ⟨h, _⟩ | ⟨c', i', a', os', b, R, n, rc, h, hv, h1, h2⟩
  · cases h
  · injection h with h _
    injection h with e1 h; injection h with e2 h; injection h with e3 e4
    subst e1 e2 e3 e4
    exact ⟨b, R, n, rc, hv, h1, h2⟩
theorem ListB.none {w w' : World} {X : Nat → Prop} {g : Nat} {S : TS} {v : Value} (h : ListB w w' X g S v []) : v = .slice none 0 0 ∧ TAt w' X g S := by
  rcases h with ⟨_, hv, ht⟩ | ⟨c', i', a', os', b, R, n, rc, h, _⟩
  · exact ⟨hv, ht⟩
  · cases h
set_option maxRecDepth 100000 in
set_option maxHeartbeats 4000000 in
theorem awake_any (w : World) : Calls Try.prog 13 #[] w fun e w' => e = .returned (.bool true) ∧ Below w.heap.size w w' := by
  obtain ⟨X, hXd⟩ : ∃ X : Nat → Prop, X = fun b => b = w.heap.size := ⟨_, rfl⟩
  have hX : X w.heap.size := by rw [hXd]
  have hXl : ∀ W : World, w.heap.size < W.heap.size → ∀ b, X b → b < W.heap.size := fun W hW b hb => by rw [hXd] at hb; omega
  clear hXd
  have K1 := Lib.hid aw_ask; have K2 := Lib.hid aw_busy; have K3 := Lib.hid aw_t1; have K4 := Lib.hid aw_t2; have K5 := Lib.hid aw_ag
  go_enter Try.func13, Try.ntmps13
  go_wp2_with (first | (go_at_call 12; refine (num_any _ _).mono ?_; rintro e w' ⟨rfl, rfl⟩))
  refine (tnew_ok true 3 _ (by decide) X).mono ?_
  rintro e w1 ⟨rfl, ht1, hb1⟩
  have hz1 : w.heap.size < w1.heap.size := ht1.lt
  have HT1 := Lib.hid ht1; clear ht1
  go_wp2_with (first | (go_at_call 12; refine (num_any _ _).mono ?_; rintro e w' ⟨rfl, rfl⟩))
  refine (task_any X w.heap.size (ts0 true 3) 1 _ 1 1 awO _ (TAt.alloc HT1.out _) hX (hXl _ (by simp; omega)) (by decide) (OptsAt.made_at _ _ rfl awO _ _ 1 rfl rfl) (by decide) (fun h => by cases h)).mono ?_
  rintro e w2 ⟨R, rn, rc, rfl, hm2, ht2, hg2⟩
  rw [K1.out.1, K1.out.2.1]
  rw [K1.out.2.2] at ht2
  have hz2 := hg2.size
  simp at hz2
  have hrn : rn = 1 := by have := hm2.2.1; rw [K1.out.1] at this; exact this.symm
  subst hrn
  have bel2 : Below w.heap.size w w2 := below_gr (hb1.alloc hb1.size _) hg2 (by simp; omega) (Nat.le_refl _)
  have hc2 := Blk.new w2 34 #[.int .i64 1, .int .i64 1, .int .i64 0, .slice R 1 rc]
  have HT2 := Lib.hid (ht2.mono (fun b _ hb => (.inl hb : OwnX X R b))); have HC2 := Lib.hid hc2; clear ht2 hm2 hc2
  go_wp2_with (first | (go_at_call 12; refine (num_any _ _).mono ?_; rintro e w' ⟨rfl, rfl⟩))
  refine (task_any X w.heap.size aw1 5 none 0 0 [] _ (TAt.alloc HT2.out _) hX (hXl _ (by simp; omega)) (by decide) (OptsAt.nil _ _) (by decide) (fun _ => ⟨rfl, rfl⟩)).mono ?_
  rintro e w3 ⟨R3, rn3, rc3, rfl, hm3, ht3, hg3⟩
  rw [K2.out.1, K2.out.2.1]
  rw [K2.out.2.2] at ht3
  have hz3 := hg3.size
  simp at hz3
  have bel3 : Below w.heap.size w w3 := below_gr (bel2.alloc bel2.size _) hg3 (by simp; omega) (Nat.le_refl _)
  have hc3 : Blk w3 w2.heap.size 34 _ := HC2.out.grown hg3 (by simp; omega)
  have HT3 := Lib.hid (ht3.mono (fun b _ hb => (.inl hb : OwnX X R3 b))); have HC3 := Lib.hid hc3; clear ht3 hm3 hc3
  go_wp2_with (first | (go_at_call 12; refine (num_any _ _).mono ?_; rintro e w' ⟨rfl, rfl⟩))
  refine (ttake_any X w.heap.size aw1 1 9 0 none 0 0 [] true _ (TAt.alloc HT3.out _) hX (hXl _ (by simp; omega)) (by decide) (Lies.nil _ _)).mono ?_
  rintro e w4 ⟨v4, rfl, hl4, hg4⟩
  rw [K3.out.2.1]
  rw [K3.out.1, K3.out.2.2] at hl4
  obtain ⟨b4, R4, n4, rc4, rfl, ho4, ht4⟩ := hl4.one
  have hz4 := hg4.size
  simp at hz4
  have bel4 : Below w.heap.size w w4 := below_gr (bel3.alloc bel3.size _) hg4 (by simp; omega) (Nat.le_refl _)
  have hc4 : Blk w4 w2.heap.size 34 _ := (HC3.out.alloc _).grown hg4 (by simp; omega)
  have HT4 := Lib.hid (ht4.mono (fun b _ hb => (.inl hb : OwnR X b4 R4 b))); have HC4 := Lib.hid hc4; have HO4 := Lib.hid ho4; clear ht4 hl4 hc4 ho4
  go_wp2_with (first | (go_at_call 12; refine (num_any _ _).mono ?_; rintro e w' ⟨rfl, rfl⟩))
  refine (ttake_any X w.heap.size aw1 2 1 0 none 0 0 [] false _ HT4.out hX (hXl _ (by omega)) (by decide) (Lies.nil _ _)).mono ?_
  rintro e w5 ⟨v5, rfl, hl5, hg5⟩
  rw [K4.out.2.1]
  rw [K4.out.1, K4.out.2.2] at hl5
  obtain ⟨rfl, ht5⟩ := hl5.none
  have hz5 := hg5.size
  have bel5 : Below w.heap.size w w5 := below_gr bel4 hg5 (by omega) (Nat.le_refl _)
  have hc5 : Blk w5 w2.heap.size 34 _ := HC4.out.grown hg5 (by simp; omega)
  have ho5 := HO4.out.grown hg5 (by simp; omega)
  have HT5 := Lib.hid ht5; have HC5 := Lib.hid hc5; have HO5 := Lib.hid ho5; clear ht5 hl5 hc5 ho5
  go_wp2_with (first | (go_at_call 12; refine (num_any _ _).mono ?_; rintro e w' ⟨rfl, rfl⟩))
  refine (tagain_any X w.heap.size aw2 _ HT5.out hX (by decide)).mono ?_
  rintro e w6 ⟨R6, rn6, rc6, rfl, hm6, ht6, hg6⟩
  rw [K5.out.1, K5.out.2.1]
  rw [K5.out.2.2] at ht6
  have hz6 := hg6.size
  have bel6 : Below w.heap.size w w6 := below_gr bel5 hg6 (by omega) (Nat.le_refl _)
  have hc6 : Blk w6 w2.heap.size 34 #[.int .i64 1, .int .i64 1, .int .i64 0, .slice R 1 rc] := HC5.out.grown hg6 (by simp; omega)
  have ho6 := HO5.out.grown hg6 (by simp; omega)
  have k0 : w6.cell? ⟨w2.heap.size, 0, none⟩ = some (.int .i64 1) := hc6.cell 0
  have k1 : w6.cell? ⟨w2.heap.size, 1, none⟩ = some (.int .i64 1) := hc6.cell 1
  have k3 : w6.cell? ⟨w2.heap.size, 3, none⟩ = some (.slice R 1 rc) := hc6.cell 3
  have hzz : w2.heap.size < w6.heap.size := by omega
  have HT6 := Lib.hid (ht6.mono (fun b _ hb => (.inl hb : OwnX X R6 b))); have HO6 := Lib.hid ho6; clear ht6 hm6 hc6 ho6
  go_wp2_with (first | (go_at_call 12; refine (num_any _ _).mono ?_; rintro e w' ⟨rfl, rfl⟩))
  refine (samebs_one 2 9 1 b4 _ R4 none n4 0 rc4 0 [] _ ((HO6.out.2.1.alloc _).alloc _) (Blk.new_at _ _ (by simp) _ _) (((HO6.out.2.2.1.optsAt).keep ((Below.refl _ _).alloc (Nat.le_refl _) _)).keep ((Below.refl _ _).alloc (Nat.le_refl _) _)) (OptsAt.nil _ _) (by have := HO6.out.2.2.1.2.2; omega) 1 1).mono ?_
  rintro e w7 ⟨rfl, hb7⟩
  have ht7 : TAt w7 X w.heap.size aw2 := ((HT6.out.alloc _).alloc _).keep hb7
  have hz7 := hb7.size
  simp at hz7
  have bel7 : Below w.heap.size w w7 := below_step ((bel6.alloc bel6.size _).alloc (by have := bel6.size; simp; omega) _) hb7 (by have := bel6.size; simp; omega)
  have HT7 := Lib.hid ht7; clear ht7
  have p1 : decide (0 < aw2.left) = false := by decide
  have p2 : aw2.lc = 2 := rfl
  go_wp2_with (first | (go_at_call 12; refine (num_any _ _).mono ?_; rintro e w' ⟨rfl, rfl⟩) | (go_at_call 26; refine (pending_any X _ aw2 _ HT7.out).mono ?_; rintro e w' ⟨rfl, rfl⟩))
  refine (last_any X w.heap.size aw2 _ HT7.out).mono ?_
  rintro e w8 ⟨R8, rn8, rc8, rfl, hm8, hb8⟩
  rw [p2]
  have hfd := field0 2 aw2.li aw2.la R8 rn8 rc8
  have bel8 := below_step bel7 hb8 bel7.size
  go_wp2_with (first | (go_at_call 12; refine (num_any _ _).mono ?_; rintro e w' ⟨rfl, rfl⟩))
  go_ret
  exact ⟨rfl, bel8⟩
end Go.Proofs.Ytckbbfdllflmjaa
