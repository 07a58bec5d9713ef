/- The reference's Take at a response; all of it. No condition but memory's own limits. -/
import Derived.Test.YtckbbfdllflmjaaTalkRC
namespace Go.Proofs.Ytckbbfdllflmjaa
open Go.RowKit
set_option linter.unusedVariables false
set_option linter.unusedSimpArgs false
attribute [local go_sem] conv1 conv1d conv1n conv1a conv1ad conv1an conv2 conv2d conv2n conv2a conv2ad conv2an conv4 conv4d conv4n conv4a conv4ad conv4an conv5 conv5d conv5n conv5a conv5ad conv5an size_nums byt_fold
theorem set_five (v0 v1 v2 v3 v4 v5 v6 v7 v8 v9 v10 v11 v12 a0 a1 a2 a3 a4 : Value) : ((((((#[v0, v1, v2, v3, v4, v5, v6, v7, v8, v9, v10, v11, v12] : Array Value).setIfInBounds 0 a0).setIfInBounds 1 a1).setIfInBounds 2 a2).setIfInBounds 3 a3).setIfInBounds 4 a4) = #[a0, a1, a2, a3, a4, v5, v6, v7, v8, v9, v10, v11, v12] := by apply Array.ext'; simp
theorem rtClast (s : TS) (L : Int) (A : Option Addr) (n ca : Nat) (B : Option Addr) (m cb : Nat) (c i a : Int) (O : Option Addr) (k cap : Nat) (os : List (Int × ByteArray)) : (((((rtC s L A n ca B m cb).setIfInBounds 0 (.bool false)).setIfInBounds 1 (.int .i64 c)).setIfInBounds 2 (.int .i64 i)).setIfInBounds 3 (.int .i64 a)).setIfInBounds 4 (.slice O k cap) = rtC { s with left := 0, lc := c, li := i, la := a, ll := os } L A n ca O k cap := by
  unfold rtC
  rw [set_five]
  rfl
set_option maxRecDepth 100000 in
set_option maxHeartbeats 4000000 in
theorem rtake_none (X : Nat → Prop) (g : Nat) (s : TS) (c i a : Int) (O : Option Addr) (k cap : Nat) (os : List (Int × ByteArray)) (yes : Bool) (w : World) (hp : RAt w X g s) (hX : X g) (hXl : ∀ b, X b → b < w.heap.size) (ha : 0 ≤ s.ac ∧ s.ac ≤ 8) (hv : RLies w X O k os) (hk : k * 24 ≤ 140737488351232) (hcap : O = none → k = 0 ∧ cap = 0) (ho : ∀ o ∈ os, o.2.size ≤ 140737488351232) (hQ : bE c i a os = 0) (hq : reqB c = false) (h7n : ¬ c = 7) (hl : ¬ 0 < s.left) :
    Calls Try.prog 22 #[.pointer (some ⟨g, 0, none⟩), .agg #[.int .i64 c, .int .i64 i, .int .i64 a, .slice O k cap], .bool yes] w (RTkB s c i a os yes X g w) := by
  have h7 : (c == 7) = false := by rw [beq_eq_false_iff_ne]; exact h7n
  have hw : IntKind.i64.wrap (s.ac + 1) = s.ac + 1 := IntWalk.i64_in _ (by omega)
  have HX := Lib.hid (show tkL s c i a os yes = [] ∧ tkE c i a os = 0 ∧ tkS s c i a os = s from by
    unfold tkL tkE tkS endB
    rw [if_pos hQ, if_pos hQ, if_pos hQ, if_neg (by rw [hq]; decide), if_neg h7n, if_neg (by rw [hq]; decide), if_neg h7n]
    simp
    intro h1; exact absurd h1 hl)
  have HP := Lib.hid hp
  have hlt := hp.lt
  have HBX := Lib.hid (Blk.new w 34 #[.int .i64 c, .int .i64 i, .int .i64 a, .slice O k cap])
  have HVR := Lib.hid hv
  have HV := Lib.hid (hv.1.keep ((Below.refl w.heap.size w).alloc (Nat.le_refl _) (.cells #[.int .i64 c, .int .i64 i, .int .i64 a, .slice O k cap] 34)))
  have HO := Lib.hid ho
  clear hv ho
  go_enter Try.func22, Try.ntmps22
  go_wp2_with fail
  refine (rbap_any c i a O k cap os _ HV.out (by omega) HO.out).mono ?_
  rintro e w1 ⟨P, rfl, hb1⟩
  rw [hQ]
  have hz1 := hb1.size
  simp at hz1
  have z1 : w.heap.size < w1.heap.size := by omega
  have bel : Below w.heap.size w w1 := ((Below.refl _ _).alloc (Nat.le_refl _) _).trans (hb1.mono (by simp))
  have hrb := HBX.out.keep hb1
  have r0 : w1.cell? ⟨w.heap.size, 0, none⟩ = some (.int .i64 c) := hrb.cell 0
  have r1 : w1.cell? ⟨w.heap.size, 1, none⟩ = some (.int .i64 i) := hrb.cell 1
  have r2 : w1.cell? ⟨w.heap.size, 2, none⟩ = some (.int .i64 a) := hrb.cell 2
  have r3 : w1.cell? ⟨w.heap.size, 3, none⟩ = some (.slice O k cap) := hrb.cell 3
  have rf := hrb.frozen
  obtain ⟨L, A, n, ca, B, m, cb, h, hL0, h1, h2⟩ := HP.out.up
  have hgb := h.below bel hlt
  have hq1 := h1.keep bel
  have hq2 := h2.keep bel
  have g0 : w1.cell? ⟨g, 0, none⟩ = some (.bool (decide (0 < s.left))) := hgb.cell 0
  have g5 : w1.cell? ⟨g, 5, none⟩ = some (.bool s.fav) := hgb.cell 5
  have g9 : w1.cell? ⟨g, 9, none⟩ = some (.int .i64 s.ac) := hgb.cell 9
  have g10 : w1.cell? ⟨g, 10, none⟩ = some (.int .i64 s.ai) := hgb.cell 10
  have gf := hgb.frozen
  have hgl : g < w1.heap.size := by omega
  have hne : g ≠ w.heap.size := by omega
  have HR0 := Lib.hid (HP.out.up.keep bel)
  have HGB := Lib.hid hgb; have HRB := Lib.hid hrb; have Q1 := Lib.hid hq1; have Q2 := Lib.hid hq2; have HL := Lib.hid hL0; have HB1 := Lib.hid bel
  clear hgb hrb hq1 hq2 h h1 h2 hL0 hb1 bel
  rw [decide_eq_false (by omega)] at g0
  cases yes
  all_goals
    go_wp2_with (first | (go_at_call 35; refine (rreq_any _ _).mono ?_; rintro e w' ⟨rfl, rfl⟩))
    go_quiet (fail)
    go_wp2_with fail
    go_ret2
    exact RTkB.nil HX.out.1 HX.out.2.1 HX.out.2.2 (HR0.out.drewN nq |>.mono (fun b _ h => .inl h)) (gr_drewN (gr_of g HB1.out) nq)
set_option maxRecDepth 100000 in
set_option maxHeartbeats 4000000 in
theorem rtake_code (X : Nat → Prop) (g : Nat) (s : TS) (c i a : Int) (O : Option Addr) (k cap : Nat) (os : List (Int × ByteArray)) (yes : Bool) (w : World) (hp : RAt w X g s) (hX : X g) (hXl : ∀ b, X b → b < w.heap.size) (ha : 0 ≤ s.ac ∧ s.ac ≤ 8) (hv : RLies w X O k os) (hk : k * 24 ≤ 140737488351232) (hcap : O = none → k = 0 ∧ cap = 0) (ho : ∀ o ∈ os, o.2.size ≤ 140737488351232) (hQ : bE c i a os = 0) (hq : reqB c = false) (h7n : ¬ c = 7) (hl : 0 < s.left) (hc : (s.ac + 1 == c) = false) :
    Calls Try.prog 22 #[.pointer (some ⟨g, 0, none⟩), .agg #[.int .i64 c, .int .i64 i, .int .i64 a, .slice O k cap], .bool yes] w (RTkB s c i a os yes X g w) := by
  have h7 : (c == 7) = false := by rw [beq_eq_false_iff_ne]; exact h7n
  have hw : IntKind.i64.wrap (s.ac + 1) = s.ac + 1 := IntWalk.i64_in _ (by omega)
  have HX := Lib.hid (show tkL s c i a os yes = [] ∧ tkE c i a os = 0 ∧ tkS s c i a os = s from by
    unfold tkL tkE tkS endB
    rw [if_pos hQ, if_pos hQ, if_pos hQ, if_neg (by rw [hq]; decide), if_neg h7n, if_neg (by rw [hq]; decide), if_neg h7n]
    simp
    intro _ h1; rw [beq_eq_false_iff_ne] at hc; exact absurd h1.symm hc)
  have HP := Lib.hid hp
  have hlt := hp.lt
  have HBX := Lib.hid (Blk.new w 34 #[.int .i64 c, .int .i64 i, .int .i64 a, .slice O k cap])
  have HVR := Lib.hid hv
  have HV := Lib.hid (hv.1.keep ((Below.refl w.heap.size w).alloc (Nat.le_refl _) (.cells #[.int .i64 c, .int .i64 i, .int .i64 a, .slice O k cap] 34)))
  have HO := Lib.hid ho
  clear hv ho
  go_enter Try.func22, Try.ntmps22
  go_wp2_with fail
  refine (rbap_any c i a O k cap os _ HV.out (by omega) HO.out).mono ?_
  rintro e w1 ⟨P, rfl, hb1⟩
  rw [hQ]
  have hz1 := hb1.size
  simp at hz1
  have z1 : w.heap.size < w1.heap.size := by omega
  have bel : Below w.heap.size w w1 := ((Below.refl _ _).alloc (Nat.le_refl _) _).trans (hb1.mono (by simp))
  have hrb := HBX.out.keep hb1
  have r0 : w1.cell? ⟨w.heap.size, 0, none⟩ = some (.int .i64 c) := hrb.cell 0
  have r1 : w1.cell? ⟨w.heap.size, 1, none⟩ = some (.int .i64 i) := hrb.cell 1
  have r2 : w1.cell? ⟨w.heap.size, 2, none⟩ = some (.int .i64 a) := hrb.cell 2
  have r3 : w1.cell? ⟨w.heap.size, 3, none⟩ = some (.slice O k cap) := hrb.cell 3
  have rf := hrb.frozen
  obtain ⟨L, A, n, ca, B, m, cb, h, hL0, h1, h2⟩ := HP.out.up
  have hgb := h.below bel hlt
  have hq1 := h1.keep bel
  have hq2 := h2.keep bel
  have g0 : w1.cell? ⟨g, 0, none⟩ = some (.bool (decide (0 < s.left))) := hgb.cell 0
  have g5 : w1.cell? ⟨g, 5, none⟩ = some (.bool s.fav) := hgb.cell 5
  have g9 : w1.cell? ⟨g, 9, none⟩ = some (.int .i64 s.ac) := hgb.cell 9
  have g10 : w1.cell? ⟨g, 10, none⟩ = some (.int .i64 s.ai) := hgb.cell 10
  have gf := hgb.frozen
  have hgl : g < w1.heap.size := by omega
  have hne : g ≠ w.heap.size := by omega
  have HR0 := Lib.hid (HP.out.up.keep bel)
  have HGB := Lib.hid hgb; have HRB := Lib.hid hrb; have Q1 := Lib.hid hq1; have Q2 := Lib.hid hq2; have HL := Lib.hid hL0; have HB1 := Lib.hid bel
  clear hgb hrb hq1 hq2 h h1 h2 hL0 hb1 bel
  cases yes
  all_goals
    go_wp2_with (first | (go_at_call 35; refine (rreq_any _ _).mono ?_; rintro e w' ⟨rfl, rfl⟩))
    go_quiet (fail)
    go_wp2_with fail
    go_ret2
    exact RTkB.nil HX.out.1 HX.out.2.1 HX.out.2.2 (HR0.out.drewN nq |>.mono (fun b _ h => .inl h)) (gr_drewN (gr_of g HB1.out) nq)
set_option maxRecDepth 100000 in
set_option maxHeartbeats 4000000 in
theorem rtake_id (X : Nat → Prop) (g : Nat) (s : TS) (c i a : Int) (O : Option Addr) (k cap : Nat) (os : List (Int × ByteArray)) (yes : Bool) (w : World) (hp : RAt w X g s) (hX : X g) (hXl : ∀ b, X b → b < w.heap.size) (ha : 0 ≤ s.ac ∧ s.ac ≤ 8) (hv : RLies w X O k os) (hk : k * 24 ≤ 140737488351232) (hcap : O = none → k = 0 ∧ cap = 0) (ho : ∀ o ∈ os, o.2.size ≤ 140737488351232) (hQ : bE c i a os = 0) (hq : reqB c = false) (h7n : ¬ c = 7) (hl : 0 < s.left) (hc : (s.ac + 1 == c) = true) (hid : (s.ai == i) = false) :
    Calls Try.prog 22 #[.pointer (some ⟨g, 0, none⟩), .agg #[.int .i64 c, .int .i64 i, .int .i64 a, .slice O k cap], .bool yes] w (RTkB s c i a os yes X g w) := by
  have h7 : (c == 7) = false := by rw [beq_eq_false_iff_ne]; exact h7n
  have hw : IntKind.i64.wrap (s.ac + 1) = s.ac + 1 := IntWalk.i64_in _ (by omega)
  have HX := Lib.hid (show tkL s c i a os yes = [] ∧ tkE c i a os = 0 ∧ tkS s c i a os = s from by
    unfold tkL tkE tkS endB
    rw [if_pos hQ, if_pos hQ, if_pos hQ, if_neg (by rw [hq]; decide), if_neg h7n, if_neg (by rw [hq]; decide), if_neg h7n]
    simp
    intro _ _ h1; rw [beq_eq_false_iff_ne] at hid; exact absurd h1.symm hid)
  have HP := Lib.hid hp
  have hlt := hp.lt
  have HBX := Lib.hid (Blk.new w 34 #[.int .i64 c, .int .i64 i, .int .i64 a, .slice O k cap])
  have HVR := Lib.hid hv
  have HV := Lib.hid (hv.1.keep ((Below.refl w.heap.size w).alloc (Nat.le_refl _) (.cells #[.int .i64 c, .int .i64 i, .int .i64 a, .slice O k cap] 34)))
  have HO := Lib.hid ho
  clear hv ho
  go_enter Try.func22, Try.ntmps22
  go_wp2_with fail
  refine (rbap_any c i a O k cap os _ HV.out (by omega) HO.out).mono ?_
  rintro e w1 ⟨P, rfl, hb1⟩
  rw [hQ]
  have hz1 := hb1.size
  simp at hz1
  have z1 : w.heap.size < w1.heap.size := by omega
  have bel : Below w.heap.size w w1 := ((Below.refl _ _).alloc (Nat.le_refl _) _).trans (hb1.mono (by simp))
  have hrb := HBX.out.keep hb1
  have r0 : w1.cell? ⟨w.heap.size, 0, none⟩ = some (.int .i64 c) := hrb.cell 0
  have r1 : w1.cell? ⟨w.heap.size, 1, none⟩ = some (.int .i64 i) := hrb.cell 1
  have r2 : w1.cell? ⟨w.heap.size, 2, none⟩ = some (.int .i64 a) := hrb.cell 2
  have r3 : w1.cell? ⟨w.heap.size, 3, none⟩ = some (.slice O k cap) := hrb.cell 3
  have rf := hrb.frozen
  obtain ⟨L, A, n, ca, B, m, cb, h, hL0, h1, h2⟩ := HP.out.up
  have hgb := h.below bel hlt
  have hq1 := h1.keep bel
  have hq2 := h2.keep bel
  have g0 : w1.cell? ⟨g, 0, none⟩ = some (.bool (decide (0 < s.left))) := hgb.cell 0
  have g5 : w1.cell? ⟨g, 5, none⟩ = some (.bool s.fav) := hgb.cell 5
  have g9 : w1.cell? ⟨g, 9, none⟩ = some (.int .i64 s.ac) := hgb.cell 9
  have g10 : w1.cell? ⟨g, 10, none⟩ = some (.int .i64 s.ai) := hgb.cell 10
  have gf := hgb.frozen
  have hgl : g < w1.heap.size := by omega
  have hne : g ≠ w.heap.size := by omega
  have HR0 := Lib.hid (HP.out.up.keep bel)
  have HGB := Lib.hid hgb; have HRB := Lib.hid hrb; have Q1 := Lib.hid hq1; have Q2 := Lib.hid hq2; have HL := Lib.hid hL0; have HB1 := Lib.hid bel
  clear hgb hrb hq1 hq2 h h1 h2 hL0 hb1 bel
  cases yes
  all_goals
    go_wp2_with (first | (go_at_call 35; refine (rreq_any _ _).mono ?_; rintro e w' ⟨rfl, rfl⟩))
    go_quiet (fail)
    go_wp2_with fail
    go_ret2
    exact RTkB.nil HX.out.1 HX.out.2.1 HX.out.2.2 (HR0.out.drewN nq |>.mono (fun b _ h => .inl h)) (gr_drewN (gr_of g HB1.out) nq)
set_option maxRecDepth 100000 in
set_option maxHeartbeats 4000000 in
theorem rtake_end (X : Nat → Prop) (g : Nat) (s : TS) (c i a : Int) (O : Option Addr) (k cap : Nat) (os : List (Int × ByteArray)) (yes : Bool) (w : World) (hp : RAt w X g s) (hX : X g) (hXl : ∀ b, X b → b < w.heap.size) (ha : 0 ≤ s.ac ∧ s.ac ≤ 8) (hv : RLies w X O k os) (hk : k * 24 ≤ 140737488351232) (hcap : O = none → k = 0 ∧ cap = 0) (ho : ∀ o ∈ os, o.2.size ≤ 140737488351232) (hQ : bE c i a os = 0) (hq : reqB c = false) (h7n : ¬ c = 7) (hl : 0 < s.left) (hc : (s.ac + 1 == c) = true) (hid : (s.ai == i) = true) :
    Calls Try.prog 22 #[.pointer (some ⟨g, 0, none⟩), .agg #[.int .i64 c, .int .i64 i, .int .i64 a, .slice O k cap], .bool yes] w (RTkB s c i a os yes X g w) := by
  have h7 : (c == 7) = false := by rw [beq_eq_false_iff_ne]; exact h7n
  have hw : IntKind.i64.wrap (s.ac + 1) = s.ac + 1 := IntWalk.i64_in _ (by omega)
  have HX := Lib.hid (show tkL s c i a os yes = [] ∧ tkE c i a os = 0 ∧ tkS s c i a os = { s with left := 0, lc := c, li := i, la := a, ll := os } from by
    have e : endB s c i = true := by
      rw [beq_iff_eq] at hc hid
      unfold endB
      rw [decide_eq_true hl, decide_eq_true hc.symm, decide_eq_true hid.symm]; rfl
    unfold tkL tkE tkS
    rw [if_pos hQ, if_pos hQ, if_pos hQ, if_neg (by rw [hq]; decide), if_neg h7n, if_neg (by rw [hq]; decide), if_neg h7n, if_pos e]
    exact ⟨rfl, rfl, rfl⟩)
  have HP := Lib.hid hp
  have hlt := hp.lt
  have HBX := Lib.hid (Blk.new w 34 #[.int .i64 c, .int .i64 i, .int .i64 a, .slice O k cap])
  have HVR := Lib.hid hv
  have HV := Lib.hid (hv.1.keep ((Below.refl w.heap.size w).alloc (Nat.le_refl _) (.cells #[.int .i64 c, .int .i64 i, .int .i64 a, .slice O k cap] 34)))
  have HO := Lib.hid ho
  clear hv ho
  go_enter Try.func22, Try.ntmps22
  go_wp2_with fail
  refine (rbap_any c i a O k cap os _ HV.out (by omega) HO.out).mono ?_
  rintro e w1 ⟨P, rfl, hb1⟩
  rw [hQ]
  have hz1 := hb1.size
  simp at hz1
  have z1 : w.heap.size < w1.heap.size := by omega
  have bel : Below w.heap.size w w1 := ((Below.refl _ _).alloc (Nat.le_refl _) _).trans (hb1.mono (by simp))
  have hrb := HBX.out.keep hb1
  have r0 : w1.cell? ⟨w.heap.size, 0, none⟩ = some (.int .i64 c) := hrb.cell 0
  have r1 : w1.cell? ⟨w.heap.size, 1, none⟩ = some (.int .i64 i) := hrb.cell 1
  have r2 : w1.cell? ⟨w.heap.size, 2, none⟩ = some (.int .i64 a) := hrb.cell 2
  have r3 : w1.cell? ⟨w.heap.size, 3, none⟩ = some (.slice O k cap) := hrb.cell 3
  have rf := hrb.frozen
  obtain ⟨L, A, n, ca, B, m, cb, h, hL0, h1, h2⟩ := HP.out.up
  have hgb := h.below bel hlt
  have hq1 := h1.keep bel
  have hq2 := h2.keep bel
  have g0 : w1.cell? ⟨g, 0, none⟩ = some (.bool (decide (0 < s.left))) := hgb.cell 0
  have g5 : w1.cell? ⟨g, 5, none⟩ = some (.bool s.fav) := hgb.cell 5
  have g9 : w1.cell? ⟨g, 9, none⟩ = some (.int .i64 s.ac) := hgb.cell 9
  have g10 : w1.cell? ⟨g, 10, none⟩ = some (.int .i64 s.ai) := hgb.cell 10
  have gf := hgb.frozen
  have hgl : g < w1.heap.size := by omega
  have hne : g ≠ w.heap.size := by omega
  have HR0 := Lib.hid (HP.out.up.keep bel)
  have HGB := Lib.hid hgb; have HRB := Lib.hid hrb; have Q1 := Lib.hid hq1; have Q2 := Lib.hid hq2; have HL := Lib.hid hL0; have HB1 := Lib.hid bel
  clear hgb hrb hq1 hq2 h h1 h2 hL0 hb1 bel
  have g1 : w1.cell? ⟨g, 1, none⟩ = some (.int .i64 s.lc) := HGB.out.cell 1
  have g2 : w1.cell? ⟨g, 2, none⟩ = some (.int .i64 s.li) := HGB.out.cell 2
  have g3 : w1.cell? ⟨g, 3, none⟩ = some (.int .i64 s.la) := HGB.out.cell 3
  have g4 : w1.cell? ⟨g, 4, none⟩ = some (.slice B m cb) := HGB.out.cell 4
  cases yes
  all_goals
    go_wp2_with (first | (go_at_call 35; refine (rreq_any _ _).mono ?_; rintro e w' ⟨rfl, rfl⟩))
    go_quiet (fail)
    go_wp2_with fail
    go_ret2
    have hgr : w.grownBy (((((( w1.drewN nq).setCell ⟨g, 0, none⟩ (.bool false)).setCell ⟨g, 1, none⟩ (.int .i64 c)).setCell ⟨g, 2, none⟩ (.int .i64 i)).setCell ⟨g, 3, none⟩ (.int .i64 a)).setCell ⟨g, 4, none⟩ (.slice O k cap)) (some g) := gr_set (gr_set (gr_set (gr_set (gr_set (gr_drewN (gr_of g HB1.out) nq) (.inl rfl) _) (.inl rfl) _) (.inl rfl) _) (.inl rfl) _) (.inl rfl) _
    have hg1 : w1.grownBy (((((( w1.drewN nq).setCell ⟨g, 0, none⟩ (.bool false)).setCell ⟨g, 1, none⟩ (.int .i64 c)).setCell ⟨g, 2, none⟩ (.int .i64 i)).setCell ⟨g, 3, none⟩ (.int .i64 a)).setCell ⟨g, 4, none⟩ (.slice O k cap)) (some g) := gr_set (gr_set (gr_set (gr_set (gr_set (gr_drewN (gr_refl w1 g) nq) (.inl rfl) _) (.inl rfl) _) (.inl rfl) _) (.inl rfl) _) (.inl rfl) _
    have hb := Blk.set_ (Blk.set_ (Blk.set_ (Blk.set_ (Blk.set_ (HGB.out.drewN nq) 0 (.bool false)) 1 (.int .i64 c)) 2 (.int .i64 i)) 3 (.int .i64 a)) 4 (.slice O k cap)
    rw [rtClast s L A n ca B m cb c i a O k cap os] at hb
    exact RTkB.nil HX.out.1 HX.out.2.1 HX.out.2.2 ⟨L, A, n, ca, O, k, cap, hb, fun e => absurd e (by simp), (Q1.out.own hg1 (.inl hX)).mono (fun b _ h => .inl h), HVR.out.own hgr hX⟩ hgr
theorem rtake_any (X : Nat → Prop) (g : Nat) (s : TS) (c i a : Int) (O : Option Addr) (k cap : Nat) (os : List (Int × ByteArray)) (yes : Bool) (w : World) (hp : RAt w X g s) (hX : X g) (hXl : ∀ b, X b → b < w.heap.size) (ha : 0 ≤ s.ac ∧ s.ac ≤ 8) (hv : RLies w X O k os) (hk : k * 24 ≤ 140737488351232) (hcap : O = none → k = 0 ∧ cap = 0) (ho : ∀ o ∈ os, o.2.size ≤ 140737488351232) :
    Calls Try.prog 22 #[.pointer (some ⟨g, 0, none⟩), .agg #[.int .i64 c, .int .i64 i, .int .i64 a, .slice O k cap], .bool yes] w (RTkB s c i a os yes X g w) := by
  by_cases hQ : bE c i a os = 0
  case neg => exact rtake_bad X g s c i a O k cap os yes w hp hX hXl ha hv hk hcap ho hQ
  by_cases h7 : c = 7
  · exact rtake_stat X g s c i a O k cap os yes w hp hX hXl ha hv hk hcap ho hQ h7
  have h8 := bE_code hQ
  cases hq : reqB c
  · by_cases hl : 0 < s.left
    case neg => exact rtake_none X g s c i a O k cap os yes w hp hX hXl ha hv hk hcap ho hQ hq h7 hl
    cases hc : (s.ac + 1 == c)
    · exact rtake_code X g s c i a O k cap os yes w hp hX hXl ha hv hk hcap ho hQ hq h7 hl hc
    cases hid : (s.ai == i)
    · exact rtake_id X g s c i a O k cap os yes w hp hX hXl ha hv hk hcap ho hQ hq h7 hl hc hid
    · exact rtake_end X g s c i a O k cap os yes w hp hX hXl ha hv hk hcap ho hQ hq h7 hl hc hid
  · by_cases hl : 0 < s.left
    · cases hr : reqB s.ac
      · cases yes
        · exact rtake_ind_f X g s c i a O k cap os w hp hX hXl ha hv hk hcap ho hQ hq h8 hl hr
        · exact rtake_ind_t X g s c i a O k cap os w hp hX hXl ha hv hk hcap ho hQ hq h8 hl hr
      · cases hcr : crossB s.fav s.ac c
        · cases yes
          · exact rtake_lose_f X g s c i a O k cap os w hp hX hXl ha hv hk hcap ho hQ hq h8 hl hr hcr
          · exact rtake_lose_t X g s c i a O k cap os w hp hX hXl ha hv hk hcap ho hQ hq h8 hl hr hcr
        · cases yes
          · exact rtake_win_f X g s c i a O k cap os w hp hX hXl ha hv hk hcap ho hQ hq h8 hl hr hcr
          · exact rtake_win_t X g s c i a O k cap os w hp hX hXl ha hv hk hcap ho hQ hq h8 hl hr hcr
    · cases yes
      · exact rtake_idle_f X g s c i a O k cap os w hp hX hXl ha hv hk hcap ho hQ hq h8 hl
      · exact rtake_idle_t X g s c i a O k cap os w hp hX hXl ha hv hk hcap ho hQ hq h8 hl
end Go.Proofs.Ytckbbfdllflmjaa
