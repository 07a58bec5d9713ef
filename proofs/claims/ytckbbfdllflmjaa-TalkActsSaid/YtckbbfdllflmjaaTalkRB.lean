/- The contract of the reference's Take. No condition but memory's own limits. -/
import Derived.Test.YtckbbfdllflmjaaTalkRA
import Derived.BigQuiet
namespace Go.Proofs.Ytckbbfdllflmjaa
open Go.RowKit
set_option linter.unusedVariables false
set_option linter.unusedSimpArgs false
attribute [local go_sem] conv1 conv1d conv1n conv1a conv1ad conv1an conv2 conv2d conv2n conv2a conv2ad conv2an conv4 conv4d conv4n conv4a conv4ad conv4an conv5 conv5d conv5n conv5a conv5ad conv5an size_nums byt_fold
def RListB (w w' : World) (v : Value) (l : List (Int × Int × Int × List (Int × ByteArray))) : Prop :=
  (l = [] ∧ v = .slice none 0 0) ∨ ∃ c i a os b Q n qc, l = [(c, i, a, os)] ∧ v = .slice (some ⟨b, 0, none⟩) 1 1 ∧ w.heap.size ≤ b ∧ Blk w' b 34 #[.int .i64 c, .int .i64 i, .int .i64 a, .slice Q n qc] ∧ OptsAt w' Q n os
def RTkB (s : TS) (c i a : Int) (os : List (Int × ByteArray)) (yes : Bool) (X : Nat → Prop) (g : Nat) (w : World) (e : Ending) (w' : World) : Prop :=
  ∃ v, e = .returned (.tuple #[v, .int .i64 (tkE c i a os)]) ∧ RListB w w' v (tkL s c i a os yes) ∧ RAt w' X g (tkS s c i a os) ∧ w.grownBy w' (some g)
theorem RTkB.nil {s S : TS} {c i a x : Int} {os : List (Int × ByteArray)} {yes : Bool} {X : Nat → Prop} {g : Nat} {w w' : World} (h1 : tkL s c i a os yes = []) (h2 : tkE c i a os = x) (h3 : tkS s c i a os = S) (ht : RAt w' X g S) (hg : w.grownBy w' (some g)) :
    RTkB s c i a os yes X g w (.returned (.tuple #[.slice none 0 0, .int .i64 x])) w' := by
  refine ⟨_, by rw [h2], ?_, by rw [h3]; exact ht, hg⟩
  rw [h1]
  exact .inl ⟨rfl, rfl⟩
theorem RTkB.one {s S : TS} {c i a x c' i' a' : Int} {os os' : List (Int × ByteArray)} {yes : Bool} {X : Nat → Prop} {g b n qc : Nat} {Q : Option Addr} {w w' : World} (h1 : tkL s c i a os yes = [(c', i', a', os')]) (h2 : tkE c i a os = x) (h3 : tkS s c i a os = S) (hs : w.heap.size ≤ b) (hb : Blk w' b 34 #[.int .i64 c', .int .i64 i', .int .i64 a', .slice Q n qc]) (ho : OptsAt w' Q n os') (ht : RAt w' X g S) (hg : w.grownBy w' (some g)) :
    RTkB s c i a os yes X g w (.returned (.tuple #[.slice (some ⟨b, 0, none⟩) 1 1, .int .i64 x])) w' := by
  refine ⟨_, by rw [h2], ?_, by rw [h3]; exact ht, hg⟩
  rw [h1]
  exact .inr ⟨c', i', a', os', b, Q, n, qc, rfl, rfl, hs, hb, ho⟩
set_option maxRecDepth 100000 in
set_option maxHeartbeats 4000000 in
theorem rtake_bad (X : Nat → Prop) (g : Nat) (s : TS) (c i a : Int) (O : Option Addr) (k cap : Nat) (os : List (Int × ByteArray)) (yes : Bool) (w : World) (hp : RAt w X g s) (hX : X g) (hXl : ∀ b, X b → b < w.heap.size) (ha : 0 ≤ s.ac ∧ s.ac ≤ 8) (hv : RLies w X O k os) (hk : k * 24 ≤ 140737488351232) (hcap : O = none → k = 0 ∧ cap = 0) (ho : ∀ o ∈ os, o.2.size ≤ 140737488351232) (hE : ¬ bE c i a os = 0) :
    Calls Try.prog 22 #[.pointer (some ⟨g, 0, none⟩), .agg #[.int .i64 c, .int .i64 i, .int .i64 a, .slice O k cap], .bool yes] w (RTkB s c i a os yes X g w) := by
  have HP := Lib.hid hp
  have hlt := hp.lt
  have HBX := Lib.hid (Blk.new w 34 #[.int .i64 c, .int .i64 i, .int .i64 a, .slice O k cap])
  have HVR := Lib.hid hv
  have HV := Lib.hid (hv.1.keep ((Below.refl w.heap.size w).alloc (Nat.le_refl _) (.cells #[.int .i64 c, .int .i64 i, .int .i64 a, .slice O k cap] 34)))
  have HO := Lib.hid ho
  clear hv ho
  obtain ⟨Q, hQ⟩ : ∃ Q, bE c i a os = Q := ⟨_, rfl⟩
  have hq0 : (Q != 0) = true := by rw [hQ] at hE; simpa using hE
  have HX := Lib.hid (show tkL s c i a os yes = [] ∧ tkE c i a os = 2200 ∧ tkS s c i a os = s from ⟨by unfold tkL; rw [if_neg hE], by unfold tkE; rw [if_neg hE], by unfold tkS; rw [if_neg hE]⟩)
  clear hE
  go_enter Try.func22, Try.ntmps22
  go_wp2_with fail
  refine (rbap_any c i a O k cap os _ HV.out (by omega) HO.out).mono ?_
  rintro e w1 ⟨P, rfl, hb1⟩
  rw [hQ]
  have hz1 := hb1.size
  simp at hz1
  have z1 : w.heap.size < w1.heap.size := by omega
  have bel : Below w.heap.size w w1 := ((Below.refl _ _).alloc (Nat.le_refl _) _).trans (hb1.mono (by simp))
  have hrb := HBX.out.keep hb1
  have r0 : w1.cell? ⟨w.heap.size, 0, none⟩ = some (.int .i64 c) := hrb.cell 0
  have r1 : w1.cell? ⟨w.heap.size, 1, none⟩ = some (.int .i64 i) := hrb.cell 1
  have r2 : w1.cell? ⟨w.heap.size, 2, none⟩ = some (.int .i64 a) := hrb.cell 2
  have r3 : w1.cell? ⟨w.heap.size, 3, none⟩ = some (.slice O k cap) := hrb.cell 3
  have rf := hrb.frozen
  obtain ⟨L, A, n, ca, B, m, cb, h, hL0, h1, h2⟩ := HP.out.up
  have hgb := h.below bel hlt
  have hq1 := h1.keep bel
  have hq2 := h2.keep bel
  have g0 : w1.cell? ⟨g, 0, none⟩ = some (.bool (decide (0 < s.left))) := hgb.cell 0
  have g5 : w1.cell? ⟨g, 5, none⟩ = some (.bool s.fav) := hgb.cell 5
  have g9 : w1.cell? ⟨g, 9, none⟩ = some (.int .i64 s.ac) := hgb.cell 9
  have g10 : w1.cell? ⟨g, 10, none⟩ = some (.int .i64 s.ai) := hgb.cell 10
  have gf := hgb.frozen
  have hgl : g < w1.heap.size := by omega
  have hne : g ≠ w.heap.size := by omega
  have HR0 := Lib.hid (HP.out.up.keep bel)
  have HGB := Lib.hid hgb; have HRB := Lib.hid hrb; have Q1 := Lib.hid hq1; have Q2 := Lib.hid hq2; have HL := Lib.hid hL0; have HB1 := Lib.hid bel
  clear hgb hrb hq1 hq2 h h1 h2 hL0 hb1 bel
  go_wp2_with fail
  go_ret2
  exact RTkB.nil HX.out.1 HX.out.2.1 HX.out.2.2 (HP.out.keep HB1.out) (gr_of g HB1.out)
set_option maxRecDepth 100000 in
set_option maxHeartbeats 4000000 in
theorem rtake_stat (X : Nat → Prop) (g : Nat) (s : TS) (c i a : Int) (O : Option Addr) (k cap : Nat) (os : List (Int × ByteArray)) (yes : Bool) (w : World) (hp : RAt w X g s) (hX : X g) (hXl : ∀ b, X b → b < w.heap.size) (ha : 0 ≤ s.ac ∧ s.ac ≤ 8) (hv : RLies w X O k os) (hk : k * 24 ≤ 140737488351232) (hcap : O = none → k = 0 ∧ cap = 0) (ho : ∀ o ∈ os, o.2.size ≤ 140737488351232) (hQ : bE c i a os = 0) (h7 : c = 7) :
    Calls Try.prog 22 #[.pointer (some ⟨g, 0, none⟩), .agg #[.int .i64 c, .int .i64 i, .int .i64 a, .slice O k cap], .bool yes] w (RTkB s c i a os yes X g w) := by
  have HP := Lib.hid hp
  have hlt := hp.lt
  have HBX := Lib.hid (Blk.new w 34 #[.int .i64 c, .int .i64 i, .int .i64 a, .slice O k cap])
  have HVR := Lib.hid hv
  have HV := Lib.hid (hv.1.keep ((Below.refl w.heap.size w).alloc (Nat.le_refl _) (.cells #[.int .i64 c, .int .i64 i, .int .i64 a, .slice O k cap] 34)))
  have HO := Lib.hid ho
  clear hv ho
  subst h7
  have HX := Lib.hid (show tkL s 7 i a os yes = [(8, i, 0, [])] ∧ tkE 7 i a os = 0 ∧ tkS s 7 i a os = s from ⟨by unfold tkL; rw [if_pos hQ]; rfl, by unfold tkE; rw [if_pos hQ], by unfold tkS; rw [if_pos hQ]; rfl⟩)
  go_enter Try.func22, Try.ntmps22
  go_wp2_with fail
  refine (rbap_any 7 i a O k cap os _ HV.out (by omega) HO.out).mono ?_
  rintro e w1 ⟨P, rfl, hb1⟩
  rw [hQ]
  have hz1 := hb1.size
  simp at hz1
  have z1 : w.heap.size < w1.heap.size := by omega
  have bel : Below w.heap.size w w1 := ((Below.refl _ _).alloc (Nat.le_refl _) _).trans (hb1.mono (by simp))
  have hrb := HBX.out.keep hb1
  have r0 : w1.cell? ⟨w.heap.size, 0, none⟩ = some (.int .i64 7) := hrb.cell 0
  have r1 : w1.cell? ⟨w.heap.size, 1, none⟩ = some (.int .i64 i) := hrb.cell 1
  have r2 : w1.cell? ⟨w.heap.size, 2, none⟩ = some (.int .i64 a) := hrb.cell 2
  have r3 : w1.cell? ⟨w.heap.size, 3, none⟩ = some (.slice O k cap) := hrb.cell 3
  have rf := hrb.frozen
  obtain ⟨L, A, n, ca, B, m, cb, h, hL0, h1, h2⟩ := HP.out.up
  have hgb := h.below bel hlt
  have hq1 := h1.keep bel
  have hq2 := h2.keep bel
  have g0 : w1.cell? ⟨g, 0, none⟩ = some (.bool (decide (0 < s.left))) := hgb.cell 0
  have g5 : w1.cell? ⟨g, 5, none⟩ = some (.bool s.fav) := hgb.cell 5
  have g9 : w1.cell? ⟨g, 9, none⟩ = some (.int .i64 s.ac) := hgb.cell 9
  have g10 : w1.cell? ⟨g, 10, none⟩ = some (.int .i64 s.ai) := hgb.cell 10
  have gf := hgb.frozen
  have hgl : g < w1.heap.size := by omega
  have hne : g ≠ w.heap.size := by omega
  have HR0 := Lib.hid (HP.out.up.keep bel)
  have HGB := Lib.hid hgb; have HRB := Lib.hid hrb; have Q1 := Lib.hid hq1; have Q2 := Lib.hid hq2; have HL := Lib.hid hL0; have HB1 := Lib.hid bel
  clear hgb hrb hq1 hq2 h h1 h2 hL0 hb1 bel
  cases yes
  all_goals
    go_wp2_with fail
    go_ret2
    exact RTkB.one HX.out.1 HX.out.2.1 HX.out.2.2 (Nat.le_of_lt z1) (Blk.new _ _ _) (OptsAt.nil _ _) ((HP.out.keep HB1.out).keep ((Below.refl _ _).alloc (Nat.le_refl _) _)) (gr_alloc (gr_of g HB1.out) _)
end Go.Proofs.Ytckbbfdllflmjaa
