/- The walk of the law TalkOthers. No condition. -/
import Derived.Test.YtckbbfdllflmjaaTalkM
import Derived.Deep.RegionHeld3
namespace Go.Proofs.Ytckbbfdllflmjaa
open Go.RowKit
set_option linter.unusedVariables false
set_option linter.unusedSimpArgs false
attribute [local go_sem] conv1 conv1d conv1n conv1a conv1ad conv1an conv2 conv2d conv2n conv2a conv2ad conv2an conv4 conv4d conv4n conv4a conv4ad conv4an conv5 conv5d conv5n conv5a conv5ad conv5an size_nums byt_fold
theorem OptsAt.take {w : World} {A : Option Addr} {n : Nat} {os : List (Int × ByteArray)} (h : OptsAt w A n os) (k : Nat) (hk : k ≤ n) : OptsAt w A k (os.take k) := by
  have hl : (os.take k).length = k := by rw [List.length_take, h.1]; omega
  exact OptsAt.head (m := n - k) (ps := os.drop k) (by rw [List.take_append_drop, show k + (n - k) = n by omega]; exact h) hl
theorem cod4_cell {w : World} {b q : Nat} (h : Blk w b 3 #[.int .i64 1, .int .i64 3, .int .i64 5, .int .i64 7]) (hq : q < 4) : w.cell? ⟨b, q, none⟩ = some (.int .i64 (1 + 2 * (q : Int))) := by
  refine (h.cell q).trans ?_
  have : q = 0 ∨ q = 1 ∨ q = 2 ∨ q = 3 := by omega
  rcases this with rfl | rfl | rfl | rfl <;> rfl
theorem odd_even {c : Int} (hc : c = 1 ∨ c = 3 ∨ c = 5 ∨ c = 7) : askB c = true ∧ reqB (c + 1) = false ∧ ¬ c + 1 = 7 ∧ bResp (c + 1) = true := by
  rcases hc with rfl | rfl | rfl | rfl <;> decide
/-- A response that is not the pending exchange's turns nothing. -/
theorem ot_no {c d I : Int} {yes : Bool} (hd : d = 1 ∨ d = 3 ∨ d = 5 ∨ d = 7) (hI : 0 ≤ I ∧ I ≤ 255) (hn : d ≠ c ∨ I ≠ 1) : tkL (trS c 5 5 true) (d + 1) I 0 [] yes = [] ∧ tkE (d + 1) I 0 [] = 0 ∧ tkS (trS c 5 5 true) (d + 1) I 0 [] = trS c 5 5 true := by
  obtain ⟨-, hr, h7, hp⟩ := odd_even hd
  have hb : bE (d + 1) I 0 [] = 0 := bE_nil (by omega) hI (by omega) (.inl hp)
  refine ⟨by unfold tkL; rw [if_pos hb, hr, if_neg (by decide), if_neg h7], by unfold tkE; rw [if_pos hb], ?_⟩
  unfold tkS
  rw [if_pos hb, hr, if_neg (by decide), if_neg h7]
  have : endB (trS c 5 5 true) (d + 1) I = false := by
    unfold endB
    show (decide (0 < (5 : Int)) && decide (d + 1 = c + 1) && decide (I = 1)) = false
    rcases hn with h | h
    · rw [decide_eq_false (show ¬ d + 1 = c + 1 by omega)]; simp
    · rw [decide_eq_false h]; simp
  rw [this, if_neg (by decide)]
def otS (c a : Int) (os : List (Int × ByteArray)) : TS := ⟨c, 1, 0, [], 0, true, 5, 1, c + 1, 1, a, os⟩
theorem bE_some {c a : Int} {os : List (Int × ByteArray)} (hc : 1 ≤ c ∧ c ≤ 8) (hp : bResp c = true) (ha : 0 ≤ a ∧ a ≤ 255) (he : oE os = 0) (hz : (oJoin os).size ≤ 2000) : bE c 1 a os = 0 := by
  have h1 : bMay c 1 = true := by unfold bMay; exact decide_eq_true (by omega)
  have h2 : bGood c 1 a os = true := by
    unfold bGood
    rw [h1, decide_eq_true ha, he, hp]; rfl
  have h3 : (bBody c a os).size ≤ 2044 := by
    unfold bBody
    have e : (strOfNums [a] ++ oJoin os).size = 1 + (oJoin os).size := by rw [size_app, size_nums]; rfl
    split <;> omega
  unfold bE; rw [h2, if_pos rfl, if_neg (by omega)]
theorem oE_one {kind : Int} {data : ByteArray} (h1 : 0 ≤ kind) (h2 : kind < 256) (h3 : data.size ≤ 253) : oE [(kind, data)] = 0 ∧ (oJoin [(kind, data)]).size ≤ 2000 := by
  constructor
  · have e1 : oBad [(kind, data)] = false := by
      unfold oBad badK
      simp
      omega
    have e2 : oLong [(kind, data)] 0 = false := by
      unfold oLong oLong
      rw [decide_eq_false (show ¬ (253 < data.size ∨ 2048 < 0 + 2 + data.size) by omega)]; rfl
    unfold oE
    rw [e1, e2]; rfl
  · rw [oJoin_size]
    show 2 + data.size + 0 ≤ 2000
    omega
theorem oE_none : oE [] = 0 ∧ (oJoin []).size ≤ 2000 := by
  constructor
  · decide +kernel
  · rw [oJoin_size]; decide
/-- The right response ends the exchange and is kept. -/
theorem ot_yes {c a : Int} {os : List (Int × ByteArray)} (hc : c = 1 ∨ c = 3 ∨ c = 5 ∨ c = 7) (ha : 0 ≤ a ∧ a ≤ 255) (he : oE os = 0) (hz : (oJoin os).size ≤ 2000) : tkL (trS c 5 5 true) (c + 1) 1 a os false = [] ∧ tkE (c + 1) 1 a os = 0 ∧ tkS (trS c 5 5 true) (c + 1) 1 a os = otS c a os := by
  obtain ⟨-, hr, h7, hp⟩ := odd_even hc
  have hb : bE (c + 1) 1 a os = 0 := bE_some (by omega) hp ha he hz
  refine ⟨by unfold tkL; rw [if_pos hb, hr, if_neg (by decide), if_neg h7], by unfold tkE; rw [if_pos hb], ?_⟩
  unfold tkS
  rw [if_pos hb, hr, if_neg (by decide), if_neg h7]
  have : endB (trS c 5 5 true) (c + 1) 1 = true := by unfold endB; simp [trS]
  rw [this]; rfl
def otT (c a : Int) (os : List (Int × ByteArray)) : TS := ⟨c, 2, 0, [], 5, true, 5, 2, c + 1, 1, a, os⟩
theorem ot_again {c a : Int} {os : List (Int × ByteArray)} (hc : c = 1 ∨ c = 3 ∨ c = 5 ∨ c = 7) : tAskR (otS c a os) c [] = (c, 2, 0, []) ∧ tAskE (otS c a os) c [] = 0 ∧ tAsk (otS c a os) c [] = otT c a os :=
  ask_ok (s := otS c a os) (os := []) (odd_even hc).1 (bE_nil (by omega) (by show 0 ≤ ((1 : Int) + 1) % 256 ∧ ((1 : Int) + 1) % 256 ≤ 255; omega) (by omega) (.inr rfl)) (by show ¬ (0 : Int) < 0; omega)
theorem keepR {A W u : World} {x : Nat} {v0 v1 v2 v3 : Value} (hx : x < A.heap.size) (h : Below A.heap.size A W ∧ W.cell? ⟨x, 0, none⟩ = some v0 ∧ W.cell? ⟨x, 1, none⟩ = some v1 ∧ W.cell? ⟨x, 2, none⟩ = some v2 ∧ W.cell? ⟨x, 3, none⟩ = some v3) (hb : Below W.heap.size W u) : Below A.heap.size A u ∧ u.cell? ⟨x, 0, none⟩ = some v0 ∧ u.cell? ⟨x, 1, none⟩ = some v1 ∧ u.cell? ⟨x, 2, none⟩ = some v2 ∧ u.cell? ⟨x, 3, none⟩ = some v3 := by
  obtain ⟨h0, h1, h2, h3, h4⟩ := h
  have hl : x < W.heap.size := Nat.lt_of_lt_of_le hx h0.size
  exact ⟨below_step h0 hb h0.size, (hb.cell (p := ⟨x, 0, none⟩) hl).trans h1, (hb.cell (p := ⟨x, 1, none⟩) hl).trans h2, (hb.cell (p := ⟨x, 2, none⟩) hl).trans h3, (hb.cell (p := ⟨x, 3, none⟩) hl).trans h4⟩
set_option maxRecDepth 100000 in
set_option maxHeartbeats 8000000 in
theorem others_walk (code id answer : Int) (A : Option Addr) (n cap : Nat) (os : List (Int × ByteArray)) (k0 : (Lit.int .i64 code).wf = true) (k1 : (Lit.int .i64 id).wf = true) (k2 : (Lit.int .i64 answer).wf = true) (hnil : A = none → n = 0 ∧ cap = 0) (hcap : n ≤ cap) (hz : n * 24 ≤ 140737488351232 ∧ ∀ o ∈ os, o.2.size ≤ 140737488351232) (w : World) (hv : OptsAt w A n os) : Calls Try.prog 6 #[.int .i64 code, .int .i64 id, .int .i64 answer, .slice A n cap] w fun e w' => e = .returned (.bool true) ∧ Below w.heap.size w w' := by
  have hu : 0 ≤ IntKind.u64.wrap code ∧ IntKind.u64.wrap code < 18446744073709551616 := by rw [IntKind.wrap_u64]; omega
  have hu2 : 0 ≤ IntKind.u64.wrap id ∧ IntKind.u64.wrap id < 18446744073709551616 := by rw [IntKind.wrap_u64]; omega
  obtain ⟨U, hU⟩ : ∃ U, IntKind.u64.wrap code = U := ⟨_, rfl⟩
  rw [hU] at hu
  obtain ⟨q, hq, hq3⟩ : ∃ q : Nat, U.tmod 4 = (q : Int) ∧ q < 4 := ⟨(U % 4).toNat, by rw [Int.tmod_eq_emod_of_nonneg hu.1]; omega, by omega⟩
  obtain ⟨r, hr, hr3, hqr⟩ : ∃ r : Nat, (IntKind.u64.wrap (U + 1)).tmod 4 = (r : Int) ∧ r < 4 ∧ r ≠ q := by
    have e : U % 4 = (q : Int) := by rw [← hq, Int.tmod_eq_emod_of_nonneg hu.1]
    have h0 : 0 ≤ IntKind.u64.wrap (U + 1) := by rw [IntKind.wrap_u64]; omega
    refine ⟨((IntKind.u64.wrap (U + 1)) % 4).toNat, by rw [Int.tmod_eq_emod_of_nonneg h0]; omega, by omega, ?_⟩
    rw [IntKind.wrap_u64]; omega
  obtain ⟨m, hm, hm8⟩ : ∃ m : Nat, (IntKind.u64.wrap id).tmod 255 = (m : Int) ∧ m < 255 := ⟨((IntKind.u64.wrap id) % 255).toNat, by rw [Int.tmod_eq_emod_of_nonneg hu2.1]; omega, by omega⟩
  clear hu hu2
  have hwm : IntKind.i64.wrap (m : Int) = m := IntWalk.i64_in _ (by omega)
  have hws : IntKind.i64.wrap (2 + (m : Int)) = 2 + (m : Int) := IntWalk.i64_in _ (by omega)
  obtain ⟨I, hI⟩ : ∃ I : Int, bits .and .i64 (2 + (m : Int)) 255 = I := ⟨_, rfl⟩
  have hI2 : 0 ≤ I ∧ I ≤ 255 ∧ I ≠ 1 := by
    have h := i64_mask 8 (by decide) (2 + (m : Int))
    rw [← hI]
    have h' : bits .and .i64 (2 + (m : Int)) 255 = (2 + (m : Int)) % 256 := by simpa using h
    rw [h']; omega
  obtain ⟨a, ha, ha1, ha3⟩ := mask_nat 2 (by decide) 3 (by decide) answer
  have ha2 : a < 4 := ha1
  clear ha3 ha1
  have hq4 : (q : Int) < 4 := by omega
  have hr4 : (r : Int) < 4 := by omega
  obtain ⟨c, hc⟩ : ∃ c : Int, c = 1 + 2 * (q : Int) := ⟨_, rfl⟩
  obtain ⟨d, hd⟩ : ∃ d : Int, d = 1 + 2 * (r : Int) := ⟨_, rfl⟩
  have hc5 : c = 1 ∨ c = 3 ∨ c = 5 ∨ c = 7 := by omega
  have hd5 : d = 1 ∨ d = 3 ∨ d = 5 ∨ d = 7 := by omega
  have hdc : d ≠ c := by omega
  have hc8 : 1 ≤ c ∧ c ≤ 8 := by omega
  have hd8 : 1 ≤ d ∧ d ≤ 8 := by omega
  have hwc : IntKind.i64.wrap (c + 1) = c + 1 := IntWalk.i64_in _ (by omega)
  have hwd : IntKind.i64.wrap (d + 1) = d + 1 := IntWalk.i64_in _ (by omega)
  have HC := Lib.hid hc; have HD := Lib.hid hd; have HC5 := Lib.hid hc5; have HV := Lib.hid hv; have HZ := Lib.hid hz; have HI := Lib.hid hI2; have HNIL := Lib.hid hnil
  have KA := Lib.hid (tr_ask (c := c) (t := 5) (f := true) (odd_even hc5).1 hc8)
  have K1 := Lib.hid (ot_no (c := c) (d := c) (I := I) (yes := true) hc5 (by omega) (.inr hI2.2.2))
  have K2 := Lib.hid (ot_no (c := c) (d := d) (I := 1) (yes := true) hd5 (by omega) (.inl hdc))
  clear hc hd hc5 hd5 hv hz hI2 hnil
  go_enter Try.func6, Try.ntmps6
  go_wp2_with (first | (go_at_call 12; refine (num_any _ _).mono ?_; rintro e w' ⟨rfl, rfl⟩))
  refine (awake_any _).mono ?_
  rintro e w0 ⟨rfl, hb0⟩
  have hz0 := hb0.size
  have hcod := Blk.new w0 3 #[.int .i64 1, .int .i64 3, .int .i64 5, .int .i64 7]
  have kq : (w0.alloc (.cells #[.int .i64 1, .int .i64 3, .int .i64 5, .int .i64 7] 3)).cell? ⟨w0.heap.size, q, none⟩ = some (.int .i64 c) := by rw [HC.out]; exact cod4_cell hcod hq3
  have HCOD := Lib.hid hcod; clear hcod
  go_wp2_with (first | (go_at_call 12; refine (num_any _ _).mono ?_; rintro e w' ⟨rfl, rfl⟩))
  obtain ⟨ga, hga⟩ : ∃ ga, ga = w0.heap.size + 1 := ⟨_, rfl⟩
  have GA := Lib.hid hga
  have hga1 : w0.heap.size + 1 ≤ ga := by omega
  clear hga
  obtain ⟨X, hXd⟩ : ∃ X : Nat → Prop, X = fun b => b = ga := ⟨_, rfl⟩
  have hXa : X ga := by rw [hXd]
  have hXl : ∀ W : World, ga < W.heap.size → ∀ b, X b → b < W.heap.size := fun W hW b hb => by rw [hXd] at hb; omega
  have hXn : ∀ b, b < w0.heap.size + 1 → ¬ X b := fun b hb hx => by rw [hXd] at hx; omega
  clear hXd
  refine (tnew_at true 5 _ (by decide) X ga (by rw [GA.out]; simp)).mono ?_
  rintro e w1 ⟨rfl, ht1, hb1⟩
  have hz1 : ga < w1.heap.size := ht1.lt
  have bel1 : Below w.heap.size w w1 := below_step (hb0.alloc hz0 _) hb1 (by simp; omega)
  have HC1 := Lib.hid (HCOD.out.keep hb1)
  have HT1 := Lib.hid ht1; clear ht1
  go_wp2_with (first | (go_at_call 12; refine (num_any _ _).mono ?_; rintro e w' ⟨rfl, rfl⟩))
  refine (task_any X ga (ts0 true 5) c none 0 0 [] _ HT1.out hXa (hXl _ (by omega)) (by show (0 : Int) ≤ 0 ∧ (0 : Int) ≤ 255; omega) (OptsAt.nil _ _) (by decide) (fun _ => ⟨rfl, rfl⟩)).mono ?_
  rintro e w3 ⟨R3, rn3, rc3, rfl, hm3, ht3, hg3⟩
  rw [KA.out.1, KA.out.2.1]
  rw [KA.out.2.2] at ht3
  have hz3 := hg3.size
  have bel3 : Below w.heap.size w w3 := below_gr bel1 hg3 (by omega) (by omega)
  have hcod3 := HC1.out.grown hg3 (by simp; omega)
  have hbx3 := Blk.new w3 34 #[.int .i64 c, .int .i64 1, .int .i64 0, .slice R3 rn3 rc3]
  have HTA3 := Lib.hid (TAt.mono ht3 (fun b _ hb => (.inl hb : OwnX X R3 b)))
  have HBX3 := Lib.hid hbx3; have HC3 := Lib.hid hcod3
  clear ht3 hm3 hcod3 hbx3 kq
  have hzc3 : w0.heap.size < w3.heap.size := by omega
  go_wp2_with (first | (go_at_call 12; refine (num_any _ _).mono ?_; rintro e w' ⟨rfl, rfl⟩))
  refine (ttake_any X ga (trS c 5 5 true) (c + 1) I 0 none 0 0 [] true _ (HTA3.out.alloc _) hXa (hXl _ (by simp; omega)) (by show (0 : Int) ≤ c ∧ c ≤ 8; omega) (Lies.nil _ _)).mono ?_
  rintro e w4 ⟨v4, rfl, hl4, hg4⟩
  rw [K1.out.2.1]
  rw [K1.out.1, K1.out.2.2] at hl4
  obtain ⟨rfl, ht4⟩ := hl4.none
  have hz4 := hg4.size
  simp at hz4
  have bel4 : Below w.heap.size w w4 := below_gr (bel3.alloc bel3.size _) hg4 (by have := bel3.size; simp; omega) (by omega)
  have hcod4 := (HC3.out.alloc (.cells #[.int .i64 c, .int .i64 1, .int .i64 0, .slice R3 rn3 rc3] 34)).grown hg4 (by simp; omega)
  have hbx4 := HBX3.out.grown hg4 (by simp; omega)
  have kr : w4.cell? ⟨w0.heap.size, r, none⟩ = some (.int .i64 d) := by rw [HD.out]; exact cod4_cell hcod4 hr3
  have kb : w4.cell? ⟨w3.heap.size, 1, none⟩ = some (.int .i64 1) := hbx4.cell 1
  have hz40 : w0.heap.size < w4.heap.size := by omega
  have hz43 : w3.heap.size < w4.heap.size := by omega
  have HTA4 := Lib.hid ht4; have HBX4 := Lib.hid hbx4
  clear ht4 hl4 hcod4 hbx4
  go_wp2_with (first | (go_at_call 12; refine (num_any _ _).mono ?_; rintro e w' ⟨rfl, rfl⟩))
  refine (ttake_any X ga (trS c 5 5 true) (d + 1) 1 0 none 0 0 [] true _ HTA4.out hXa (hXl _ (by omega)) (by show (0 : Int) ≤ c ∧ c ≤ 8; omega) (Lies.nil _ _)).mono ?_
  rintro e w5 ⟨v5, rfl, hl5, hg5⟩
  rw [K2.out.2.1]
  rw [K2.out.1, K2.out.2.2] at hl5
  obtain ⟨rfl, ht5⟩ := hl5.none
  have hz5 := hg5.size
  have bel5 : Below w.heap.size w w5 := below_gr bel4 hg5 (by omega) (by omega)
  have hbx5 := HBX4.out.grown hg5 (by simp; omega)
  have kb5 : w5.cell? ⟨w3.heap.size, 1, none⟩ = some (.int .i64 1) := hbx5.cell 1
  have hz53 : w3.heap.size < w5.heap.size := by omega
  have HTA5 := Lib.hid ht5
  clear ht5 hl5 hbx5 kr kb
  have p5 : decide (0 < (trS c 5 5 true).left) = true := rfl
  have hv5 := HV.out.keep bel5
  have hcase : n = 0 ∨ (0 < n ∧ ∃ b off kind data, A = some ⟨b, off, none⟩ ∧ b < w.heap.size ∧ os[0]? = some (kind, data) ∧ w5.cell? ⟨b, off, none⟩ = some (.int .i64 kind) ∧ w5.cell? ⟨b, off + 1, none⟩ = some (.string data)) := by
    rcases Nat.eq_zero_or_pos n with h | h
    · exact .inl h
    · obtain ⟨b, off, kind, data, e, hlt, ho, c0, c1⟩ := hv5.at_ 0 h
      obtain ⟨b', off', kind', data', e', hlt', ho', -, -⟩ := HV.out.at_ 0 h
      rw [e] at e'
      obtain ⟨rfl, rfl, -⟩ := Addr.mk.inj (Option.some.inj e')
      exact .inr ⟨h, b, off, kind, data, e, hlt', ho, by simpa using c0, by simpa using c1⟩
  have HV5 := Lib.hid hv5; clear hv5
  rcases hcase with rfl | ⟨hn, b, off, kind, data, rfl, hbl, ho, e0, e1⟩
  · obtain rfl : os = [] := List.eq_nil_of_length_eq_zero HV.out.1
    have K3 := Lib.hid (ot_yes (c := c) (a := (a : Int)) (os := []) HC5.out (by omega) oE_none.1 oE_none.2)
    have K4 := Lib.hid (ot_again (c := c) (a := (a : Int)) (os := []) HC5.out)
    have hli : Lies w5 X none 0 0 [] := Lies.nil _ _
    have HLI := Lib.hid hli; clear hli
    go_wp2_with (first | (go_at_call 12; refine (num_any _ _).mono ?_; rintro e w' ⟨rfl, rfl⟩) | (go_at_call 26; refine (pending_any X _ _ _ HTA5.out).mono ?_; rintro e w' ⟨rfl, rfl⟩))
    refine (ttake_any X ga (trS c 5 5 true) (c + 1) 1 a none 0 0 [] false _ (HTA5.out.alloc _) hXa (hXl _ (by simp; omega)) (by show (0 : Int) ≤ c ∧ c ≤ 8; omega) (HLI.out.alloc _)).mono ?_
    rintro e w6 ⟨v6, rfl, hl6, hg6⟩
    rw [K3.out.2.1]
    rw [K3.out.1, K3.out.2.2] at hl6
    obtain ⟨rfl, ht6⟩ := hl6.none
    have hz6 := hg6.size
    simp at hz6
    have bel6 : Below w.heap.size w w6 := below_gr (bel5.alloc bel5.size _) hg6 (by have := bel5.size; simp; omega) (by omega)
    have hbx6 := (Blk.new w5 34 #[.int .i64 (c + 1), .int .i64 1, .int .i64 (a : Int), .slice none 0 0]).grown hg6 (by simp; omega)
    have hli6 := (HLI.out.alloc (.cells #[.int .i64 (c + 1), .int .i64 1, .int .i64 (a : Int), .slice none 0 0] 34)).grown hg6 hXa
    have HTA6 := Lib.hid ht6; have HBX6 := Lib.hid hbx6; have HLI6 := Lib.hid hli6
    clear ht6 hl6 hbx6 hli6
    go_wp2_with (first | (go_at_call 12; refine (num_any _ _).mono ?_; rintro e w' ⟨rfl, rfl⟩))
    refine (task_any X ga (otS c a []) c none 0 0 [] _ HTA6.out hXa (hXl _ (by omega)) (by show (0 : Int) ≤ 1 ∧ (1 : Int) ≤ 255; omega) (OptsAt.nil _ _) (by decide) (fun _ => ⟨rfl, rfl⟩)).mono ?_
    rintro e w7 ⟨R7, rn7, rc7, rfl, hm7, ht7, hg7⟩
    rw [K4.out.1, K4.out.2.1]
    rw [K4.out.2.2] at ht7
    have hz7 := hg7.size
    have bel7 : Below w.heap.size w w7 := below_gr bel6 hg7 (by omega) (by omega)
    have hbx7 := (HBX6.out.grown hg7 (by simp; omega)).alloc (.cells #[.int .i64 c, .int .i64 2, .int .i64 0, .slice R7 rn7 rc7] 34)
    have hli7 := (HLI6.out.grown hg7 hXa).alloc (.cells #[.int .i64 c, .int .i64 2, .int .i64 0, .slice R7 rn7 rc7] 34)
    have hta7 := TAt.alloc (TAt.mono ht7 (fun b _ hb => (.inl hb : OwnX X R7 b))) (.cells #[.int .i64 c, .int .i64 2, .int .i64 0, .slice R7 rn7 rc7] 34)
    have bel8 := bel7.alloc bel7.size (.cells #[.int .i64 c, .int .i64 2, .int .i64 0, .slice R7 rn7 rc7] 34)
    have g0 : (w7.alloc (.cells #[.int .i64 c, .int .i64 2, .int .i64 0, .slice R7 rn7 rc7] 34)).cell? ⟨w5.heap.size, 0, none⟩ = some (.int .i64 (c + 1)) := hbx7.cell 0
    have g1 : (w7.alloc (.cells #[.int .i64 c, .int .i64 2, .int .i64 0, .slice R7 rn7 rc7] 34)).cell? ⟨w5.heap.size, 1, none⟩ = some (.int .i64 1) := hbx7.cell 1
    have g2 : (w7.alloc (.cells #[.int .i64 c, .int .i64 2, .int .i64 0, .slice R7 rn7 rc7] 34)).cell? ⟨w5.heap.size, 2, none⟩ = some (.int .i64 (a : Int)) := hbx7.cell 2
    have g3 : (w7.alloc (.cells #[.int .i64 c, .int .i64 2, .int .i64 0, .slice R7 rn7 rc7] 34)).cell? ⟨w5.heap.size, 3, none⟩ = some (.slice none 0 0) := hbx7.cell 3
    have hxl := hbx7.lt
    have HTA7 := Lib.hid hta7; have HLI7 := Lib.hid hli7
    clear ht7 hm7 hbx7 hli7 hta7
    go_wp2_with (first | (go_at_call 12; refine (num_any _ _).mono ?_; rintro e w' ⟨rfl, rfl⟩))
    generalize (w7.alloc (.cells #[.int .i64 c, .int .i64 2, .int .i64 0, .slice R7 rn7 rc7] 34)) = WA at *
    have p7 : decide (0 < (otT c a []).left) = true := rfl
    go_region_held3 (fun W => Below WA.heap.size WA W ∧ W.cell? ⟨w5.heap.size, 0, none⟩ = some (.int .i64 (c + 1)) ∧ W.cell? ⟨w5.heap.size, 1, none⟩ = some (.int .i64 1) ∧ W.cell? ⟨w5.heap.size, 2, none⟩ = some (.int .i64 (a : Int)) ∧ W.cell? ⟨w5.heap.size, 3, none⟩ = some (.slice none 0 0))
      (first | exact ⟨(Below.refl _ _).drew, g0, g1, g2, g3⟩ | assumption | exact keepR hxl (by assumption) hbu)
      (first | (go_at_call 12; refine (num_any _ _).mono ?_; rintro e w' ⟨rfl, rfl⟩) | (go_at_call 26; refine (pending_any X _ _ _ (HTA7.out.keep (And.left (by assumption)))).mono ?_; rintro e w' ⟨rfl, rfl⟩) | (go_at_call 25; refine (last_any X ga (otT c a []) _ (HTA7.out.keep (And.left (by assumption)))).mono ?_; rintro e u ⟨RL, rnL, rcL, rfl, hmL, hbu⟩) | (go_at_call 17; refine (sameb_any (c + 1) 1 a RL none rnL 0 rcL 0 [] _ hmL.optsAt (HLI7.out.keep (And.left (by assumption))).1 (by have := hmL.2.2; omega)).mono ?_; rintro e u2 ⟨rfl, hbu⟩))
    rename_i hHeld
    have bel9 := below_step bel8 hHeld.1 bel8.size
    clear hHeld
    go_wp2_with fail
    go_ret
    exact ⟨rfl, bel9⟩
  · by_cases hk1 : 0 ≤ kind
    · by_cases hk2 : kind < 256
      · by_cases hk3 : data.size ≤ 253
        · have hb5 : b < w5.heap.size := by have := bel5.size; omega
          have hk4 : (data.size : Int) ≤ 253 := by omega
          have K3 := Lib.hid (ot_yes (c := c) (a := (a : Int)) (os := [(kind, data)]) HC5.out (by omega) (oE_one hk1 hk2 hk3).1 (oE_one hk1 hk2 hk3).2)
          have K4 := Lib.hid (ot_again (c := c) (a := (a : Int)) (os := [(kind, data)]) HC5.out)
          have hli : Lies w5 X (some ⟨b, off, none⟩) 1 cap [(kind, data)] := by
            have h1 := OptsAt.take HV5.out 1 (by omega)
            have e : os.take 1 = [(kind, data)] := by
              rcases os with _ | ⟨o, os⟩
              · cases ho
              · simp at ho; simp [ho]
            rw [e] at h1
            exact ⟨h1, by decide, fun h => by (cases h), fun a' ha' => by (cases ha'; exact ⟨hb5, hXn _ (by show b < _; omega)⟩)⟩
          have HLI := Lib.hid hli; clear hli
          go_wp2_with (first | (go_at_call 12; refine (num_any _ _).mono ?_; rintro e w' ⟨rfl, rfl⟩) | (go_at_call 26; refine (pending_any X _ _ _ HTA5.out).mono ?_; rintro e w' ⟨rfl, rfl⟩))
          refine (ttake_any X ga (trS c 5 5 true) (c + 1) 1 a (some ⟨b, off, none⟩) 1 cap [(kind, data)] false _ (HTA5.out.alloc _) hXa (hXl _ (by simp; omega)) (by show (0 : Int) ≤ c ∧ c ≤ 8; omega) (HLI.out.alloc _)).mono ?_
          rintro e w6 ⟨v6, rfl, hl6, hg6⟩
          rw [K3.out.2.1]
          rw [K3.out.1, K3.out.2.2] at hl6
          obtain ⟨rfl, ht6⟩ := hl6.none
          have hz6 := hg6.size
          simp at hz6
          have bel6 : Below w.heap.size w w6 := below_gr (bel5.alloc bel5.size _) hg6 (by have := bel5.size; simp; omega) (by omega)
          have hbx6 := (Blk.new w5 34 #[.int .i64 (c + 1), .int .i64 1, .int .i64 (a : Int), .slice (some ⟨b, off, none⟩) 1 cap]).grown hg6 (by simp; omega)
          have hli6 := (HLI.out.alloc (.cells #[.int .i64 (c + 1), .int .i64 1, .int .i64 (a : Int), .slice (some ⟨b, off, none⟩) 1 cap] 34)).grown hg6 hXa
          have HTA6 := Lib.hid ht6; have HBX6 := Lib.hid hbx6; have HLI6 := Lib.hid hli6
          clear ht6 hl6 hbx6 hli6
          go_wp2_with (first | (go_at_call 12; refine (num_any _ _).mono ?_; rintro e w' ⟨rfl, rfl⟩))
          refine (task_any X ga (otS c a [(kind, data)]) c none 0 0 [] _ HTA6.out hXa (hXl _ (by omega)) (by show (0 : Int) ≤ 1 ∧ (1 : Int) ≤ 255; omega) (OptsAt.nil _ _) (by decide) (fun _ => ⟨rfl, rfl⟩)).mono ?_
          rintro e w7 ⟨R7, rn7, rc7, rfl, hm7, ht7, hg7⟩
          rw [K4.out.1, K4.out.2.1]
          rw [K4.out.2.2] at ht7
          have hz7 := hg7.size
          have bel7 : Below w.heap.size w w7 := below_gr bel6 hg7 (by omega) (by omega)
          have hbx7 := (HBX6.out.grown hg7 (by simp; omega)).alloc (.cells #[.int .i64 c, .int .i64 2, .int .i64 0, .slice R7 rn7 rc7] 34)
          have hli7 := (HLI6.out.grown hg7 hXa).alloc (.cells #[.int .i64 c, .int .i64 2, .int .i64 0, .slice R7 rn7 rc7] 34)
          have hta7 := TAt.alloc (TAt.mono ht7 (fun b _ hb => (.inl hb : OwnX X R7 b))) (.cells #[.int .i64 c, .int .i64 2, .int .i64 0, .slice R7 rn7 rc7] 34)
          have bel8 := bel7.alloc bel7.size (.cells #[.int .i64 c, .int .i64 2, .int .i64 0, .slice R7 rn7 rc7] 34)
          have g0 : (w7.alloc (.cells #[.int .i64 c, .int .i64 2, .int .i64 0, .slice R7 rn7 rc7] 34)).cell? ⟨w5.heap.size, 0, none⟩ = some (.int .i64 (c + 1)) := hbx7.cell 0
          have g1 : (w7.alloc (.cells #[.int .i64 c, .int .i64 2, .int .i64 0, .slice R7 rn7 rc7] 34)).cell? ⟨w5.heap.size, 1, none⟩ = some (.int .i64 1) := hbx7.cell 1
          have g2 : (w7.alloc (.cells #[.int .i64 c, .int .i64 2, .int .i64 0, .slice R7 rn7 rc7] 34)).cell? ⟨w5.heap.size, 2, none⟩ = some (.int .i64 (a : Int)) := hbx7.cell 2
          have g3 : (w7.alloc (.cells #[.int .i64 c, .int .i64 2, .int .i64 0, .slice R7 rn7 rc7] 34)).cell? ⟨w5.heap.size, 3, none⟩ = some (.slice (some ⟨b, off, none⟩) 1 cap) := hbx7.cell 3
          have hxl := hbx7.lt
          have HTA7 := Lib.hid hta7; have HLI7 := Lib.hid hli7
          clear ht7 hm7 hbx7 hli7 hta7
          go_wp2_with (first | (go_at_call 12; refine (num_any _ _).mono ?_; rintro e w' ⟨rfl, rfl⟩))
          generalize (w7.alloc (.cells #[.int .i64 c, .int .i64 2, .int .i64 0, .slice R7 rn7 rc7] 34)) = WA at *
          have p7 : decide (0 < (otT c a [(kind, data)]).left) = true := rfl
          go_region_held3 (fun W => Below WA.heap.size WA W ∧ W.cell? ⟨w5.heap.size, 0, none⟩ = some (.int .i64 (c + 1)) ∧ W.cell? ⟨w5.heap.size, 1, none⟩ = some (.int .i64 1) ∧ W.cell? ⟨w5.heap.size, 2, none⟩ = some (.int .i64 (a : Int)) ∧ W.cell? ⟨w5.heap.size, 3, none⟩ = some (.slice (some ⟨b, off, none⟩) 1 cap))
            (first | exact ⟨(Below.refl _ _).drew, g0, g1, g2, g3⟩ | assumption | exact keepR hxl (by assumption) hbu)
            (first | (go_at_call 12; refine (num_any _ _).mono ?_; rintro e w' ⟨rfl, rfl⟩) | (go_at_call 26; refine (pending_any X _ _ _ (HTA7.out.keep (And.left (by assumption)))).mono ?_; rintro e w' ⟨rfl, rfl⟩) | (go_at_call 25; refine (last_any X ga (otT c a [(kind, data)]) _ (HTA7.out.keep (And.left (by assumption)))).mono ?_; rintro e u ⟨RL, rnL, rcL, rfl, hmL, hbu⟩) | (go_at_call 17; refine (sameb_any (c + 1) 1 a RL (some ⟨b, off, none⟩) rnL 1 rcL cap [(kind, data)] _ hmL.optsAt (HLI7.out.keep (And.left (by assumption))).1 (by have := hmL.2.2; omega)).mono ?_; rintro e u2 ⟨rfl, hbu⟩))
          rename_i hHeld
          have bel9 := below_step bel8 hHeld.1 bel8.size
          clear hHeld
          go_wp2_with fail
          go_ret
          exact ⟨rfl, bel9⟩
        · have hb5 : b < w5.heap.size := by have := bel5.size; omega
          have hk4 : ¬ (data.size : Int) ≤ 253 := by omega
          have K3 := Lib.hid (ot_yes (c := c) (a := (a : Int)) (os := []) HC5.out (by omega) oE_none.1 oE_none.2)
          have K4 := Lib.hid (ot_again (c := c) (a := (a : Int)) (os := []) HC5.out)
          have hli : Lies w5 X none 0 0 [] := Lies.nil _ _
          have HLI := Lib.hid hli; clear hli
          go_wp2_with (first | (go_at_call 12; refine (num_any _ _).mono ?_; rintro e w' ⟨rfl, rfl⟩) | (go_at_call 26; refine (pending_any X _ _ _ HTA5.out).mono ?_; rintro e w' ⟨rfl, rfl⟩))
          refine (ttake_any X ga (trS c 5 5 true) (c + 1) 1 a none 0 0 [] false _ (HTA5.out.alloc _) hXa (hXl _ (by simp; omega)) (by show (0 : Int) ≤ c ∧ c ≤ 8; omega) (HLI.out.alloc _)).mono ?_
          rintro e w6 ⟨v6, rfl, hl6, hg6⟩
          rw [K3.out.2.1]
          rw [K3.out.1, K3.out.2.2] at hl6
          obtain ⟨rfl, ht6⟩ := hl6.none
          have hz6 := hg6.size
          simp at hz6
          have bel6 : Below w.heap.size w w6 := below_gr (bel5.alloc bel5.size _) hg6 (by have := bel5.size; simp; omega) (by omega)
          have hbx6 := (Blk.new w5 34 #[.int .i64 (c + 1), .int .i64 1, .int .i64 (a : Int), .slice none 0 0]).grown hg6 (by simp; omega)
          have hli6 := (HLI.out.alloc (.cells #[.int .i64 (c + 1), .int .i64 1, .int .i64 (a : Int), .slice none 0 0] 34)).grown hg6 hXa
          have HTA6 := Lib.hid ht6; have HBX6 := Lib.hid hbx6; have HLI6 := Lib.hid hli6
          clear ht6 hl6 hbx6 hli6
          go_wp2_with (first | (go_at_call 12; refine (num_any _ _).mono ?_; rintro e w' ⟨rfl, rfl⟩))
          refine (task_any X ga (otS c a []) c none 0 0 [] _ HTA6.out hXa (hXl _ (by omega)) (by show (0 : Int) ≤ 1 ∧ (1 : Int) ≤ 255; omega) (OptsAt.nil _ _) (by decide) (fun _ => ⟨rfl, rfl⟩)).mono ?_
          rintro e w7 ⟨R7, rn7, rc7, rfl, hm7, ht7, hg7⟩
          rw [K4.out.1, K4.out.2.1]
          rw [K4.out.2.2] at ht7
          have hz7 := hg7.size
          have bel7 : Below w.heap.size w w7 := below_gr bel6 hg7 (by omega) (by omega)
          have hbx7 := (HBX6.out.grown hg7 (by simp; omega)).alloc (.cells #[.int .i64 c, .int .i64 2, .int .i64 0, .slice R7 rn7 rc7] 34)
          have hli7 := (HLI6.out.grown hg7 hXa).alloc (.cells #[.int .i64 c, .int .i64 2, .int .i64 0, .slice R7 rn7 rc7] 34)
          have hta7 := TAt.alloc (TAt.mono ht7 (fun b _ hb => (.inl hb : OwnX X R7 b))) (.cells #[.int .i64 c, .int .i64 2, .int .i64 0, .slice R7 rn7 rc7] 34)
          have bel8 := bel7.alloc bel7.size (.cells #[.int .i64 c, .int .i64 2, .int .i64 0, .slice R7 rn7 rc7] 34)
          have g0 : (w7.alloc (.cells #[.int .i64 c, .int .i64 2, .int .i64 0, .slice R7 rn7 rc7] 34)).cell? ⟨w5.heap.size, 0, none⟩ = some (.int .i64 (c + 1)) := hbx7.cell 0
          have g1 : (w7.alloc (.cells #[.int .i64 c, .int .i64 2, .int .i64 0, .slice R7 rn7 rc7] 34)).cell? ⟨w5.heap.size, 1, none⟩ = some (.int .i64 1) := hbx7.cell 1
          have g2 : (w7.alloc (.cells #[.int .i64 c, .int .i64 2, .int .i64 0, .slice R7 rn7 rc7] 34)).cell? ⟨w5.heap.size, 2, none⟩ = some (.int .i64 (a : Int)) := hbx7.cell 2
          have g3 : (w7.alloc (.cells #[.int .i64 c, .int .i64 2, .int .i64 0, .slice R7 rn7 rc7] 34)).cell? ⟨w5.heap.size, 3, none⟩ = some (.slice none 0 0) := hbx7.cell 3
          have hxl := hbx7.lt
          have HTA7 := Lib.hid hta7; have HLI7 := Lib.hid hli7
          clear ht7 hm7 hbx7 hli7 hta7
          go_wp2_with (first | (go_at_call 12; refine (num_any _ _).mono ?_; rintro e w' ⟨rfl, rfl⟩))
          generalize (w7.alloc (.cells #[.int .i64 c, .int .i64 2, .int .i64 0, .slice R7 rn7 rc7] 34)) = WA at *
          have p7 : decide (0 < (otT c a []).left) = true := rfl
          go_region_held3 (fun W => Below WA.heap.size WA W ∧ W.cell? ⟨w5.heap.size, 0, none⟩ = some (.int .i64 (c + 1)) ∧ W.cell? ⟨w5.heap.size, 1, none⟩ = some (.int .i64 1) ∧ W.cell? ⟨w5.heap.size, 2, none⟩ = some (.int .i64 (a : Int)) ∧ W.cell? ⟨w5.heap.size, 3, none⟩ = some (.slice none 0 0))
            (first | exact ⟨(Below.refl _ _).drew, g0, g1, g2, g3⟩ | assumption | exact keepR hxl (by assumption) hbu)
            (first | (go_at_call 12; refine (num_any _ _).mono ?_; rintro e w' ⟨rfl, rfl⟩) | (go_at_call 26; refine (pending_any X _ _ _ (HTA7.out.keep (And.left (by assumption)))).mono ?_; rintro e w' ⟨rfl, rfl⟩) | (go_at_call 25; refine (last_any X ga (otT c a []) _ (HTA7.out.keep (And.left (by assumption)))).mono ?_; rintro e u ⟨RL, rnL, rcL, rfl, hmL, hbu⟩) | (go_at_call 17; refine (sameb_any (c + 1) 1 a RL none rnL 0 rcL 0 [] _ hmL.optsAt (HLI7.out.keep (And.left (by assumption))).1 (by have := hmL.2.2; omega)).mono ?_; rintro e u2 ⟨rfl, hbu⟩))
          rename_i hHeld
          have bel9 := below_step bel8 hHeld.1 bel8.size
          clear hHeld
          go_wp2_with fail
          go_ret
          exact ⟨rfl, bel9⟩
      · have hb5 : b < w5.heap.size := by have := bel5.size; omega
        have K3 := Lib.hid (ot_yes (c := c) (a := (a : Int)) (os := []) HC5.out (by omega) oE_none.1 oE_none.2)
        have K4 := Lib.hid (ot_again (c := c) (a := (a : Int)) (os := []) HC5.out)
        have hli : Lies w5 X none 0 0 [] := Lies.nil _ _
        have HLI := Lib.hid hli; clear hli
        go_wp2_with (first | (go_at_call 12; refine (num_any _ _).mono ?_; rintro e w' ⟨rfl, rfl⟩) | (go_at_call 26; refine (pending_any X _ _ _ HTA5.out).mono ?_; rintro e w' ⟨rfl, rfl⟩))
        refine (ttake_any X ga (trS c 5 5 true) (c + 1) 1 a none 0 0 [] false _ (HTA5.out.alloc _) hXa (hXl _ (by simp; omega)) (by show (0 : Int) ≤ c ∧ c ≤ 8; omega) (HLI.out.alloc _)).mono ?_
        rintro e w6 ⟨v6, rfl, hl6, hg6⟩
        rw [K3.out.2.1]
        rw [K3.out.1, K3.out.2.2] at hl6
        obtain ⟨rfl, ht6⟩ := hl6.none
        have hz6 := hg6.size
        simp at hz6
        have bel6 : Below w.heap.size w w6 := below_gr (bel5.alloc bel5.size _) hg6 (by have := bel5.size; simp; omega) (by omega)
        have hbx6 := (Blk.new w5 34 #[.int .i64 (c + 1), .int .i64 1, .int .i64 (a : Int), .slice none 0 0]).grown hg6 (by simp; omega)
        have hli6 := (HLI.out.alloc (.cells #[.int .i64 (c + 1), .int .i64 1, .int .i64 (a : Int), .slice none 0 0] 34)).grown hg6 hXa
        have HTA6 := Lib.hid ht6; have HBX6 := Lib.hid hbx6; have HLI6 := Lib.hid hli6
        clear ht6 hl6 hbx6 hli6
        go_wp2_with (first | (go_at_call 12; refine (num_any _ _).mono ?_; rintro e w' ⟨rfl, rfl⟩))
        refine (task_any X ga (otS c a []) c none 0 0 [] _ HTA6.out hXa (hXl _ (by omega)) (by show (0 : Int) ≤ 1 ∧ (1 : Int) ≤ 255; omega) (OptsAt.nil _ _) (by decide) (fun _ => ⟨rfl, rfl⟩)).mono ?_
        rintro e w7 ⟨R7, rn7, rc7, rfl, hm7, ht7, hg7⟩
        rw [K4.out.1, K4.out.2.1]
        rw [K4.out.2.2] at ht7
        have hz7 := hg7.size
        have bel7 : Below w.heap.size w w7 := below_gr bel6 hg7 (by omega) (by omega)
        have hbx7 := (HBX6.out.grown hg7 (by simp; omega)).alloc (.cells #[.int .i64 c, .int .i64 2, .int .i64 0, .slice R7 rn7 rc7] 34)
        have hli7 := (HLI6.out.grown hg7 hXa).alloc (.cells #[.int .i64 c, .int .i64 2, .int .i64 0, .slice R7 rn7 rc7] 34)
        have hta7 := TAt.alloc (TAt.mono ht7 (fun b _ hb => (.inl hb : OwnX X R7 b))) (.cells #[.int .i64 c, .int .i64 2, .int .i64 0, .slice R7 rn7 rc7] 34)
        have bel8 := bel7.alloc bel7.size (.cells #[.int .i64 c, .int .i64 2, .int .i64 0, .slice R7 rn7 rc7] 34)
        have g0 : (w7.alloc (.cells #[.int .i64 c, .int .i64 2, .int .i64 0, .slice R7 rn7 rc7] 34)).cell? ⟨w5.heap.size, 0, none⟩ = some (.int .i64 (c + 1)) := hbx7.cell 0
        have g1 : (w7.alloc (.cells #[.int .i64 c, .int .i64 2, .int .i64 0, .slice R7 rn7 rc7] 34)).cell? ⟨w5.heap.size, 1, none⟩ = some (.int .i64 1) := hbx7.cell 1
        have g2 : (w7.alloc (.cells #[.int .i64 c, .int .i64 2, .int .i64 0, .slice R7 rn7 rc7] 34)).cell? ⟨w5.heap.size, 2, none⟩ = some (.int .i64 (a : Int)) := hbx7.cell 2
        have g3 : (w7.alloc (.cells #[.int .i64 c, .int .i64 2, .int .i64 0, .slice R7 rn7 rc7] 34)).cell? ⟨w5.heap.size, 3, none⟩ = some (.slice none 0 0) := hbx7.cell 3
        have hxl := hbx7.lt
        have HTA7 := Lib.hid hta7; have HLI7 := Lib.hid hli7
        clear ht7 hm7 hbx7 hli7 hta7
        go_wp2_with (first | (go_at_call 12; refine (num_any _ _).mono ?_; rintro e w' ⟨rfl, rfl⟩))
        generalize (w7.alloc (.cells #[.int .i64 c, .int .i64 2, .int .i64 0, .slice R7 rn7 rc7] 34)) = WA at *
        have p7 : decide (0 < (otT c a []).left) = true := rfl
        go_region_held3 (fun W => Below WA.heap.size WA W ∧ W.cell? ⟨w5.heap.size, 0, none⟩ = some (.int .i64 (c + 1)) ∧ W.cell? ⟨w5.heap.size, 1, none⟩ = some (.int .i64 1) ∧ W.cell? ⟨w5.heap.size, 2, none⟩ = some (.int .i64 (a : Int)) ∧ W.cell? ⟨w5.heap.size, 3, none⟩ = some (.slice none 0 0))
          (first | exact ⟨(Below.refl _ _).drew, g0, g1, g2, g3⟩ | assumption | exact keepR hxl (by assumption) hbu)
          (first | (go_at_call 12; refine (num_any _ _).mono ?_; rintro e w' ⟨rfl, rfl⟩) | (go_at_call 26; refine (pending_any X _ _ _ (HTA7.out.keep (And.left (by assumption)))).mono ?_; rintro e w' ⟨rfl, rfl⟩) | (go_at_call 25; refine (last_any X ga (otT c a []) _ (HTA7.out.keep (And.left (by assumption)))).mono ?_; rintro e u ⟨RL, rnL, rcL, rfl, hmL, hbu⟩) | (go_at_call 17; refine (sameb_any (c + 1) 1 a RL none rnL 0 rcL 0 [] _ hmL.optsAt (HLI7.out.keep (And.left (by assumption))).1 (by have := hmL.2.2; omega)).mono ?_; rintro e u2 ⟨rfl, hbu⟩))
        rename_i hHeld
        have bel9 := below_step bel8 hHeld.1 bel8.size
        clear hHeld
        go_wp2_with fail
        go_ret
        exact ⟨rfl, bel9⟩
    · have hb5 : b < w5.heap.size := by have := bel5.size; omega
      have K3 := Lib.hid (ot_yes (c := c) (a := (a : Int)) (os := []) HC5.out (by omega) oE_none.1 oE_none.2)
      have K4 := Lib.hid (ot_again (c := c) (a := (a : Int)) (os := []) HC5.out)
      have hli : Lies w5 X none 0 0 [] := Lies.nil _ _
      have HLI := Lib.hid hli; clear hli
      go_wp2_with (first | (go_at_call 12; refine (num_any _ _).mono ?_; rintro e w' ⟨rfl, rfl⟩) | (go_at_call 26; refine (pending_any X _ _ _ HTA5.out).mono ?_; rintro e w' ⟨rfl, rfl⟩))
      refine (ttake_any X ga (trS c 5 5 true) (c + 1) 1 a none 0 0 [] false _ (HTA5.out.alloc _) hXa (hXl _ (by simp; omega)) (by show (0 : Int) ≤ c ∧ c ≤ 8; omega) (HLI.out.alloc _)).mono ?_
      rintro e w6 ⟨v6, rfl, hl6, hg6⟩
      rw [K3.out.2.1]
      rw [K3.out.1, K3.out.2.2] at hl6
      obtain ⟨rfl, ht6⟩ := hl6.none
      have hz6 := hg6.size
      simp at hz6
      have bel6 : Below w.heap.size w w6 := below_gr (bel5.alloc bel5.size _) hg6 (by have := bel5.size; simp; omega) (by omega)
      have hbx6 := (Blk.new w5 34 #[.int .i64 (c + 1), .int .i64 1, .int .i64 (a : Int), .slice none 0 0]).grown hg6 (by simp; omega)
      have hli6 := (HLI.out.alloc (.cells #[.int .i64 (c + 1), .int .i64 1, .int .i64 (a : Int), .slice none 0 0] 34)).grown hg6 hXa
      have HTA6 := Lib.hid ht6; have HBX6 := Lib.hid hbx6; have HLI6 := Lib.hid hli6
      clear ht6 hl6 hbx6 hli6
      go_wp2_with (first | (go_at_call 12; refine (num_any _ _).mono ?_; rintro e w' ⟨rfl, rfl⟩))
      refine (task_any X ga (otS c a []) c none 0 0 [] _ HTA6.out hXa (hXl _ (by omega)) (by show (0 : Int) ≤ 1 ∧ (1 : Int) ≤ 255; omega) (OptsAt.nil _ _) (by decide) (fun _ => ⟨rfl, rfl⟩)).mono ?_
      rintro e w7 ⟨R7, rn7, rc7, rfl, hm7, ht7, hg7⟩
      rw [K4.out.1, K4.out.2.1]
      rw [K4.out.2.2] at ht7
      have hz7 := hg7.size
      have bel7 : Below w.heap.size w w7 := below_gr bel6 hg7 (by omega) (by omega)
      have hbx7 := (HBX6.out.grown hg7 (by simp; omega)).alloc (.cells #[.int .i64 c, .int .i64 2, .int .i64 0, .slice R7 rn7 rc7] 34)
      have hli7 := (HLI6.out.grown hg7 hXa).alloc (.cells #[.int .i64 c, .int .i64 2, .int .i64 0, .slice R7 rn7 rc7] 34)
      have hta7 := TAt.alloc (TAt.mono ht7 (fun b _ hb => (.inl hb : OwnX X R7 b))) (.cells #[.int .i64 c, .int .i64 2, .int .i64 0, .slice R7 rn7 rc7] 34)
      have bel8 := bel7.alloc bel7.size (.cells #[.int .i64 c, .int .i64 2, .int .i64 0, .slice R7 rn7 rc7] 34)
      have g0 : (w7.alloc (.cells #[.int .i64 c, .int .i64 2, .int .i64 0, .slice R7 rn7 rc7] 34)).cell? ⟨w5.heap.size, 0, none⟩ = some (.int .i64 (c + 1)) := hbx7.cell 0
      have g1 : (w7.alloc (.cells #[.int .i64 c, .int .i64 2, .int .i64 0, .slice R7 rn7 rc7] 34)).cell? ⟨w5.heap.size, 1, none⟩ = some (.int .i64 1) := hbx7.cell 1
      have g2 : (w7.alloc (.cells #[.int .i64 c, .int .i64 2, .int .i64 0, .slice R7 rn7 rc7] 34)).cell? ⟨w5.heap.size, 2, none⟩ = some (.int .i64 (a : Int)) := hbx7.cell 2
      have g3 : (w7.alloc (.cells #[.int .i64 c, .int .i64 2, .int .i64 0, .slice R7 rn7 rc7] 34)).cell? ⟨w5.heap.size, 3, none⟩ = some (.slice none 0 0) := hbx7.cell 3
      have hxl := hbx7.lt
      have HTA7 := Lib.hid hta7; have HLI7 := Lib.hid hli7
      clear ht7 hm7 hbx7 hli7 hta7
      go_wp2_with (first | (go_at_call 12; refine (num_any _ _).mono ?_; rintro e w' ⟨rfl, rfl⟩))
      generalize (w7.alloc (.cells #[.int .i64 c, .int .i64 2, .int .i64 0, .slice R7 rn7 rc7] 34)) = WA at *
      have p7 : decide (0 < (otT c a []).left) = true := rfl
      go_region_held3 (fun W => Below WA.heap.size WA W ∧ W.cell? ⟨w5.heap.size, 0, none⟩ = some (.int .i64 (c + 1)) ∧ W.cell? ⟨w5.heap.size, 1, none⟩ = some (.int .i64 1) ∧ W.cell? ⟨w5.heap.size, 2, none⟩ = some (.int .i64 (a : Int)) ∧ W.cell? ⟨w5.heap.size, 3, none⟩ = some (.slice none 0 0))
        (first | exact ⟨(Below.refl _ _).drew, g0, g1, g2, g3⟩ | assumption | exact keepR hxl (by assumption) hbu)
        (first | (go_at_call 12; refine (num_any _ _).mono ?_; rintro e w' ⟨rfl, rfl⟩) | (go_at_call 26; refine (pending_any X _ _ _ (HTA7.out.keep (And.left (by assumption)))).mono ?_; rintro e w' ⟨rfl, rfl⟩) | (go_at_call 25; refine (last_any X ga (otT c a []) _ (HTA7.out.keep (And.left (by assumption)))).mono ?_; rintro e u ⟨RL, rnL, rcL, rfl, hmL, hbu⟩) | (go_at_call 17; refine (sameb_any (c + 1) 1 a RL none rnL 0 rcL 0 [] _ hmL.optsAt (HLI7.out.keep (And.left (by assumption))).1 (by have := hmL.2.2; omega)).mono ?_; rintro e u2 ⟨rfl, hbu⟩))
      rename_i hHeld
      have bel9 := below_step bel8 hHeld.1 bel8.size
      clear hHeld
      go_wp2_with fail
      go_ret
      exact ⟨rfl, bel9⟩
end Go.Proofs.Ytckbbfdllflmjaa
