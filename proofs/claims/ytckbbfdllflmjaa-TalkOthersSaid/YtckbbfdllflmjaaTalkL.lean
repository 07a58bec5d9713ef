/- The contract of the law's helper crossed: two sides that take each other's request. No condition but memory's own limits. -/
import Derived.Test.YtckbbfdllflmjaaTalkJ
namespace Go.Proofs.Ytckbbfdllflmjaa
open Go.RowKit
set_option linter.unusedVariables false
set_option linter.unusedSimpArgs false
attribute [local go_sem] conv1 conv1d conv1n conv1a conv1ad conv1an conv2 conv2d conv2n conv2a conv2ad conv2an conv4 conv4d conv4n conv4a conv4ad conv4an conv5 conv5d conv5n conv5a conv5ad conv5an size_nums byt_fold
def crA (f : Bool) (m c : Int) (yes : Bool) : Int := if crossB f m c then 1 else ansI yes
def crL (f : Bool) (m c : Int) : Int := if crossB f m c then 5 else 0
/-- A side that asks m takes the other's request c. -/
theorem cr_t {m c : Int} {f yes : Bool} (hm : reqB m = true) (hr : reqB c = true) (hb : bE c 1 0 [] = 0) : tkL (trS m 5 5 f) c 1 0 [] yes = [(c + 1, 1, crA f m c yes, [])] ∧ tkE c 1 0 [] = 0 ∧ tkS (trS m 5 5 f) c 1 0 [] = trS m (crL f m c) 5 f := by
  have h : crs (trS m 5 5 f) c = true := by unfold crs; rw [show (trS m 5 5 f).ac = m from rfl, hm]; rfl
  have ha : tReqA (trS m 5 5 f) c yes = crA f m c yes := by unfold tReqA crA; rw [h]; rfl
  have hs : tReqS (trS m 5 5 f) c = trS m (crL f m c) 5 f := by
    unfold tReqS crL
    rw [h, show (trS m 5 5 f).ac = m from rfl, show (trS m 5 5 f).fav = f from rfl]
    cases crossB f m c <;> rfl
  exact ⟨by unfold tkL; rw [if_pos hb, if_pos hr, ha], by unfold tkE; rw [if_pos hb], by unfold tkS; rw [if_pos hb, if_pos hr, hs]⟩
/-- What crossed leaves: two lists of one datagram. -/
def CrB (X : Nat → Prop) (ga gb : Nat) (c d : Int) (yes : Bool) (w : World) (e : Ending) (w' : World) : Prop :=
  ∃ b1 R1 n1 c1 b2 R2 n2 c2, e = .returned (.tuple #[.slice (some ⟨b1, 0, none⟩) 1 1, .slice (some ⟨b2, 0, none⟩) 1 1]) ∧
    Blk w' b1 34 #[.int .i64 (c + 1), .int .i64 1, .int .i64 (crA false d c yes), .slice R1 n1 c1] ∧ Lies w' X R1 n1 c1 [] ∧
    Blk w' b2 34 #[.int .i64 (d + 1), .int .i64 1, .int .i64 (crA true c d yes), .slice R2 n2 c2] ∧ Lies w' X R2 n2 c2 [] ∧
    TAt w' X ga (trS c (crL true c d) 5 true) ∧ TAt w' X gb (trS d (crL false d c) 5 false) ∧ ¬ X b1 ∧ ¬ X b2 ∧ w.heap.size ≤ w'.heap.size ∧ ∀ B, B ≤ w.heap.size → B ≤ ga → B ≤ gb → Below B w w'
theorem One.lies {w w' : World} {X : Nat → Prop} {b : Nat} {c i a : Int} {R : Option Addr} {n rc : Nat} {os : List (Int × ByteArray)} (h : One w w' b c i a R n rc os) (hX : ∀ b, X b → b < w.heap.size) : Lies w' X R n rc os := h.2.2.1.lies hX
set_option maxRecDepth 100000 in
set_option maxHeartbeats 8000000 in
theorem crossed_any (X : Nat → Prop) (ga gb : Nat) (c d : Int) (yes first : Bool) (P : Option Addr) (pn pc : Nat) (Q : Option Addr) (qn qc : Nat) (w : World) (ha : TAt w X ga (trS c 5 5 true)) (hb : TAt w X gb (trS d 5 5 false)) (hXa : X ga) (hXb : X gb) (hXl : ∀ b, X b → b < w.heap.size) (hne : ga ≠ gb) (hp : Lies w X P pn pc []) (hq : Lies w X Q qn qc []) (hrc : reqB c = true) (hrd : reqB d = true) (hc : 1 ≤ c ∧ c ≤ 8) (hd : 1 ≤ d ∧ d ≤ 8) :
    Calls Try.prog 28 #[.pointer (some ⟨ga, 0, none⟩), .pointer (some ⟨gb, 0, none⟩), .agg #[.int .i64 c, .int .i64 1, .int .i64 0, .slice P pn pc], .agg #[.int .i64 d, .int .i64 1, .int .i64 0, .slice Q qn qc], .bool yes, .bool first] w (CrB X ga gb c d yes w) := by
  have B1 := Lib.hid (bE_nil (c := c) (i := 1) (a := 0) hc (by omega) (by omega) (.inr rfl))
  have B2 := Lib.hid (bE_nil (c := d) (i := 1) (a := 0) hd (by omega) (by omega) (.inr rfl))
  have K1 := Lib.hid (cr_t (m := d) (c := c) (f := false) (yes := yes) hrd hrc B1.out)
  have K2 := Lib.hid (cr_t (m := c) (c := d) (f := true) (yes := yes) hrc hrd B2.out)
  have hla := ha.lt
  have hlb := hb.lt
  have HA := Lib.hid ha; have HB := Lib.hid hb; have HP := Lib.hid hp; have HQ := Lib.hid hq
  have HXL := Lib.hid hXl
  clear ha hb hp hq B1 B2 hXl
  have hxp := Blk.new w 34 #[.int .i64 c, .int .i64 1, .int .i64 0, .slice P pn pc]
  have hxq := Blk.new_at (w.alloc (.cells #[.int .i64 c, .int .i64 1, .int .i64 0, .slice P pn pc] 34)) (w.heap.size + 1) (by simp) 34 #[.int .i64 d, .int .i64 1, .int .i64 0, .slice Q qn qc]
  have hxp2 := hxp.alloc (.cells #[.int .i64 d, .int .i64 1, .int .i64 0, .slice Q qn qc] 34)
  have HXP := Lib.hid hxp2; have HXQ := Lib.hid hxq; clear hxp hxp2 hxq
  cases first
  · go_enter Try.func28, Try.ntmps28
    go_wp2_with fail
    refine (ttake_any X ga (trS c 5 5 true) d 1 0 Q qn qc [] yes _ ((HA.out.alloc _).alloc _) hXa (fun b hb => by have := HXL.out b hb; simp; omega) (by show (0 : Int) ≤ c ∧ c ≤ 8; omega) ((HQ.out.alloc _).alloc _)).mono ?_
    rintro e w1 ⟨v1, rfl, hl1, hg1⟩
    rw [K2.out.2.1]
    rw [K2.out.1, K2.out.2.2] at hl1
    obtain ⟨b2, R2, n2, rc2, rfl, ho2, ht2⟩ := hl1.one
    have hz1 := hg1.size
    simp at hz1
    have hxp1 := HXP.out.grown hg1 (by simp; omega)
    have k0 : w1.cell? ⟨w.heap.size, 0, none⟩ = some (.int .i64 c) := hxp1.cell 0
    have k1 : w1.cell? ⟨w.heap.size, 1, none⟩ = some (.int .i64 1) := hxp1.cell 1
    have k2 : w1.cell? ⟨w.heap.size, 2, none⟩ = some (.int .i64 0) := hxp1.cell 2
    have k3 : w1.cell? ⟨w.heap.size, 3, none⟩ = some (.slice P pn pc) := hxp1.cell 3
    have hzw : w.heap.size < w1.heap.size := by omega
    have hb1 := ((HB.out.alloc (.cells #[.int .i64 c, .int .i64 1, .int .i64 0, .slice P pn pc] 34)).alloc (.cells #[.int .i64 d, .int .i64 1, .int .i64 0, .slice Q qn qc] 34)).grown hg1 hXa hne
    have hp1 := ((HP.out.alloc (.cells #[.int .i64 c, .int .i64 1, .int .i64 0, .slice P pn pc] 34)).alloc (.cells #[.int .i64 d, .int .i64 1, .int .i64 0, .slice Q qn qc] 34)).grown hg1 hXa
    have hs2 := ho2.1
    simp at hs2
    have ha1 : TAt w1 X ga (trS c (crL true c d) 5 true) := ht2.mono (fun b _ hb => (.inl hb : OwnR X b2 R2 b))
    have hi2 := One.lies (X := X) ho2 (fun b hb => by have := HXL.out b hb; simp; omega)
    have hm2 := ho2.2.1
    have HA1 := Lib.hid ha1; have HB1 := Lib.hid hb1; have HP1 := Lib.hid hp1; have HI2 := Lib.hid hi2; have HM2 := Lib.hid hm2
    clear ha1 hb1 hp1 hi2 hm2 ho2 ht2 hl1 hxp1
    go_wp2_with fail
    refine (ttake_any X gb (trS d 5 5 false) c 1 0 P pn pc [] yes _ HB1.out hXb (fun b hb => by have := HXL.out b hb; omega) (by show (0 : Int) ≤ d ∧ d ≤ 8; omega) HP1.out).mono ?_
    rintro e w2 ⟨v2, rfl, hl2, hg2⟩
    rw [K1.out.2.1]
    rw [K1.out.1, K1.out.2.2] at hl2
    obtain ⟨b3, R3, n3, rc3, rfl, ho3, ht3⟩ := hl2.one
    have hz2 := hg2.size
    have hs3 := ho3.1
    have hxx : ∀ b, w.heap.size ≤ b → ¬ X b := fun b hb hx => by have := HXL.out b hx; omega
    have hfin : CrB X ga gb c d yes w (.returned (.tuple #[.slice (some ⟨b3, 0, none⟩) 1 1, .slice (some ⟨b2, 0, none⟩) 1 1])) w2 :=
      ⟨b3, R3, n3, rc3, b2, R2, n2, rc2, rfl, ho3.2.1, One.lies (X := X) ho3 (fun b hb => by have := HXL.out b hb; omega), HM2.out.grown hg2 (fun h => hxx b2 (by omega) (by rw [Option.some.inj h]; exact hXb)), HI2.out.grown hg2 hXb, HA1.out.grown hg2 hXb (Ne.symm hne), ht3.mono (fun b _ hb => (.inl hb : OwnR X b3 R3 b)), hxx _ (by omega), hxx _ (by omega), by omega, fun B h1 h2 h3 => below_gr (below_gr ((((Below.refl _ _).alloc h1 _).alloc (by simp; omega) _)) hg1 (by simp; omega) h2) hg2 (by omega) h3⟩
    have HF := Lib.hid hfin; clear hfin hl2 ho3 ht3
    go_wp2_with fail
    go_ret2
    exact HF.out
  · go_enter Try.func28, Try.ntmps28
    go_wp2_with fail
    refine (ttake_any X gb (trS d 5 5 false) c 1 0 P pn pc [] yes _ ((HB.out.alloc _).alloc _) hXb (fun b hb => by have := HXL.out b hb; simp; omega) (by show (0 : Int) ≤ d ∧ d ≤ 8; omega) ((HP.out.alloc _).alloc _)).mono ?_
    rintro e w1 ⟨v1, rfl, hl1, hg1⟩
    rw [K1.out.2.1]
    rw [K1.out.1, K1.out.2.2] at hl1
    obtain ⟨b2, R2, n2, rc2, rfl, ho2, ht2⟩ := hl1.one
    have hz1 := hg1.size
    simp at hz1
    have hxp1 := HXQ.out.grown hg1 (by simp; omega)
    have k0 : w1.cell? ⟨w.heap.size + 1, 0, none⟩ = some (.int .i64 d) := hxp1.cell 0
    have k1 : w1.cell? ⟨w.heap.size + 1, 1, none⟩ = some (.int .i64 1) := hxp1.cell 1
    have k2 : w1.cell? ⟨w.heap.size + 1, 2, none⟩ = some (.int .i64 0) := hxp1.cell 2
    have k3 : w1.cell? ⟨w.heap.size + 1, 3, none⟩ = some (.slice Q qn qc) := hxp1.cell 3
    have hzw : w.heap.size + 1 < w1.heap.size := by omega
    have hb1 := ((HA.out.alloc (.cells #[.int .i64 c, .int .i64 1, .int .i64 0, .slice P pn pc] 34)).alloc (.cells #[.int .i64 d, .int .i64 1, .int .i64 0, .slice Q qn qc] 34)).grown hg1 hXb (Ne.symm hne)
    have hp1 := ((HQ.out.alloc (.cells #[.int .i64 c, .int .i64 1, .int .i64 0, .slice P pn pc] 34)).alloc (.cells #[.int .i64 d, .int .i64 1, .int .i64 0, .slice Q qn qc] 34)).grown hg1 hXb
    have hs2 := ho2.1
    simp at hs2
    have ha1 : TAt w1 X gb (trS d (crL false d c) 5 false) := ht2.mono (fun b _ hb => (.inl hb : OwnR X b2 R2 b))
    have hi2 := One.lies (X := X) ho2 (fun b hb => by have := HXL.out b hb; simp; omega)
    have hm2 := ho2.2.1
    have HA1 := Lib.hid ha1; have HB1 := Lib.hid hb1; have HP1 := Lib.hid hp1; have HI2 := Lib.hid hi2; have HM2 := Lib.hid hm2
    clear ha1 hb1 hp1 hi2 hm2 ho2 ht2 hl1 hxp1
    go_wp2_with fail
    refine (ttake_any X ga (trS c 5 5 true) d 1 0 Q qn qc [] yes _ HB1.out hXa (fun b hb => by have := HXL.out b hb; omega) (by show (0 : Int) ≤ c ∧ c ≤ 8; omega) HP1.out).mono ?_
    rintro e w2 ⟨v2, rfl, hl2, hg2⟩
    rw [K2.out.2.1]
    rw [K2.out.1, K2.out.2.2] at hl2
    obtain ⟨b3, R3, n3, rc3, rfl, ho3, ht3⟩ := hl2.one
    have hz2 := hg2.size
    have hs3 := ho3.1
    have hxx : ∀ b, w.heap.size ≤ b → ¬ X b := fun b hb hx => by have := HXL.out b hx; omega
    have hfin : CrB X ga gb c d yes w (.returned (.tuple #[.slice (some ⟨b2, 0, none⟩) 1 1, .slice (some ⟨b3, 0, none⟩) 1 1])) w2 :=
      ⟨b2, R2, n2, rc2, b3, R3, n3, rc3, rfl, HM2.out.grown hg2 (fun h => hxx b2 (by omega) (by rw [Option.some.inj h]; exact hXa)), HI2.out.grown hg2 hXa, ho3.2.1, One.lies (X := X) ho3 (fun b hb => by have := HXL.out b hb; omega), ht3.mono (fun b _ hb => (.inl hb : OwnR X b3 R3 b)), HA1.out.grown hg2 hXa hne, hxx _ (by omega), hxx _ (by omega), by omega, fun B h1 h2 h3 => below_gr (below_gr ((((Below.refl _ _).alloc h1 _).alloc (by simp; omega) _)) hg1 (by simp; omega) h3) hg2 (by omega) h2⟩
    have HF := Lib.hid hfin; clear hfin hl2 ho3 ht3
    go_wp2_with fail
    go_ret2
    exact HF.out
end Go.Proofs.Ytckbbfdllflmjaa
