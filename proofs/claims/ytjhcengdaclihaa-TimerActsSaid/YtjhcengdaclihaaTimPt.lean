/- TimerParts walked: it returns true. No condition. -/
import Derived.Test.YtjhcengdaclihaaTimN
import Derived.StillTailTactics
import Derived.Lib.SmallJoins
namespace Go.Proofs.Ytjhcengdaclihaa
open Go.RowKit
set_option linter.unusedVariables false
set_option linter.unusedSimpArgs false
open Go.Maps
theorem Below.growOwn {w0 w w' : World} {row : Option Nat} (h : Below w0.heap.size w0 w) (hu : ∀ r, row = some r → w0.heap.size ≤ r) (hg : w.grownBy w' row) : Below w0.heap.size w0 w' :=
  ⟨hg.os.trans h.os, hg.tape.trans h.tape, hg.output.trans h.output, Nat.le_trans h.size hg.size, fun i hi => (hg.block i (by have := h.size; omega) (fun e => by have := hu i e.symm; omega)).trans (h.block i hi)⟩
theorem TO.grown {w0 w w' : World} {g mb base n : Nat} {v u : Value} {S : List Tm} {xs : List Value} (h : TO w0 w g mb v S) (ho : w.ownsRow base 3 1 u n xs) (hb : w0.heap.size ≤ base) (hg : w.grownBy w' u.ownBlock) : TO w0 w' g mb v S := by
  obtain ⟨D, ts, hp, hr⟩ := h.ta
  exact ⟨⟨D, ts, hp.grown ho hg, hr⟩, Below.growOwn h.bel (fun r e => by have := (own_lt ho r e).1; omega) hg, h.hg, h.hm, h.hv⟩
theorem Two.grown {w0 w w' : World} {g m g2 m2 base n : Nat} {v v2 u : Value} {S S2 : List Tm} {xs : List Value} (h : Two w0 w g m v S g2 m2 v2 S2) (ho : w.ownsRow base 3 1 u n xs) (hb : w0.heap.size ≤ base) (hg : w.grownBy w' u.ownBlock) : Two w0 w' g m v S g2 m2 v2 S2 := ⟨h.a.grown ho hb hg, h.b.grown ho hb hg, h.gg, h.mm, h.vv⟩
theorem intCells_app (a b : List Int) : intCells (a ++ b) = intCells a ++ intCells b := by simp [intCells]
theorem due_le (now : Int) (S : List Tm) : (dueL now S).length ≤ S.length := by
  unfold dueL
  rw [List.length_map]
  exact (List.takeWhile_sublist _).length_le
theorem rest_le (now : Int) (S : List Tm) : (restL now S).length ≤ S.length := (List.dropWhile_sublist _).length_le
theorem TO.len {w0 w : World} {g mb : Nat} {v : Value} {S : List Tm} (h : TO w0 w g mb v S) : S.length ≤ 256 := h.ta.len
def PtR (w0 : World) (g m g2 m2 : Nat) (w : World) : Prop := ∃ v v2 S, Two w0 w g m v S g2 m2 v2 S
set_option maxHeartbeats 2000000 in
set_option maxRecDepth 100000 in
theorem parts_walk (A : Option Addr) (n cap : Nat) (zs : List Int) (B : Option Addr) (m cap2 : Nat) (ys : List Int) (first second : Int) (_ : A = none → n = 0 ∧ cap = 0) (_ : n ≤ cap) (_ : n * 8 ≤ 140737488351232) (_ : B = none → m = 0 ∧ cap2 = 0) (_ : m ≤ cap2) (_ : m * 8 ≤ 140737488351232) (_ : (Lit.int .i64 first).wf = true) (_ : (Lit.int .i64 second).wf = true) (w0 : World) (hv : IntsAt w0 A n zs) (hu : IntsAt w0 B m ys) : Calls Try.prog 6 #[.slice A n cap, .slice B m cap2, .int .i64 first, .int .i64 second] w0 fun e w' => e = .returned (.bool true) ∧ Below w0.heap.size w0 w' := by
  have HV := Lib.hid hv; clear hv
  have HU := Lib.hid hu; clear hu
  obtain ⟨p, hp, hp1⟩ := and255 first
  obtain ⟨q, hq, hq1⟩ := and255 second
  have HPQ := Lib.hid (And.intro hp hq)
  have HPB := Lib.hid (And.intro hp1 hq1)
  clear hp hq hp1 hq1
  go_enter Try.func6, Try.ntmps6
  go_wp2_with fail
  refine (awake_any _).mono ?_
  rintro e wa ⟨rfl, hba⟩
  have HBA := Lib.hid hba; clear hba
  go_wp2_with fail
  refine (new_to HBA.out).mono ?_
  rintro e w1 ⟨rfl, h1, hb1⟩
  have H1 := Lib.hid h1
  have HS1 := Lib.hid (show wa.heap.size + 2 ≤ w1.heap.size from by have := h1.ta; obtain ⟨D, ts, hp, -⟩ := this; have := hp.blk.lt; omega)
  clear h1 hb1
  go_wp2_with fail
  refine (new_to H1.out.bel).mono ?_
  rintro e w2 ⟨rfl, h2, hb2⟩
  have H2 := Lib.hid (show Two w0 w2 (wa.heap.size + 1) wa.heap.size (.slice none 0 0) [] (w1.heap.size + 1) w1.heap.size (.slice none 0 0) [] from ⟨H1.out.keep hb2, h2, by have := HS1.out; omega, by have := HS1.out; omega, by simp [Value.ownBlock]⟩)
  clear h2 hb2
  generalize wa.heap.size + 1 = g at *
  generalize wa.heap.size = mb at *
  generalize w1.heap.size + 1 = g2 at *
  generalize w1.heap.size = mb2 at *
  go_wp2_with fail
  go_loopw [11] (fun i wr => ∃ k : Nat, i = .int .i64 k ∧ k ≤ 60 ∧ PtR w0 g mb g2 mb2 wr) (fun i _ => 60 - (intOf i).toNat)
  case atStart => exact ⟨0, rfl, by omega, _, _, _, H2.out⟩
  case round =>
    obtain ⟨k, rfl, hk, v, v2, S, hto⟩ := hrel
    have H := Lib.hid hto; clear hto
    clear HBA H1 HS1 H2
    by_cases hlt : (k < n ∧ k < m) ∧ k < 60
    · obtain ⟨⟨hn, hm⟩, h60⟩ := hlt
      obtain ⟨b, off, z, rfl, hb, ho, c1⟩ := HV.out.at_ k hn
      obtain ⟨b', off', z', rfl, hb', ho', c1'⟩ := HU.out.at_ k hm
      have hc : ∀ W : World, Below w0.heap.size w0 W → W.cell? ⟨b, off + k, none⟩ = some (.int .i64 z) ∧ W.cell? ⟨b', off' + k, none⟩ = some (.int .i64 z') := fun W hW => ⟨(hW.cell (p := ⟨b, off + k, none⟩) hb).trans c1, (hW.cell (p := ⟨b', off' + k, none⟩) hb').trans c1'⟩
      have HC := Lib.hid hc
      clear c1 c1' hc
      obtain ⟨x, hx, hx1⟩ := and63 z
      obtain ⟨y, hy, hy1⟩ := and255 z'
      have HWX := Lib.hid (show (Lit.int .i64 (x : Int)).wf = true from WalkArith.wf_i64 (by omega))
      have y1 : (k : Int) < (n : Int) := by omega
      have y2 : (k : Int) < (m : Int) := by omega
      have y3 : (k : Int) < 60 := by omega
      have HK := Lib.hid (And.intro h60 hk)
      clear ho ho' hx1 hy1 hb hb' hn hm h60 hk
      obtain ⟨c1, c1'⟩ := HC.out wr H.out.a.bel
      go_wp2_with fail
      (refine region_tail 11 (by kernel_rfl) (by kernel_rfl) ?_; simp only [List.take_succ_cons, List.take_zero, List.drop_succ_cons, List.drop_zero]; (repeat (first | (refine wpStill_step (fun K hK => ?_); go_simp; refine hK _ ?_; clear hK K) | (refine wpStill_step (fun K hK => ?_); go_simp; refine ⟨_, rfl, hK _ ?_⟩; clear hK K))); refine wpStill_nil ?_)
      go_wp2_with fail
      refine (set_to (x : Int) (y : Int) (H.out.keep (Below.refl wr.heap.size wr).drew).a HWX.out).mono ?_
      rintro e w3 ⟨rfl, v3, h3, hm3⟩
      have H3 := Lib.hid ((H.out.keep (Below.refl wr.heap.size wr).drew).mv h3 hm3)
      clear h3 hm3 c1 c1' H
      obtain ⟨c1, c1'⟩ := HC.out w3 H3.out.a.bel
      go_wp2_with fail
      (refine region_tail 11 (by kernel_rfl) (by kernel_rfl) ?_; simp only [List.take_succ_cons, List.take_zero, List.drop_succ_cons, List.drop_zero]; (repeat (first | (refine wpStill_step (fun K hK => ?_); go_simp; refine hK _ ?_; clear hK K) | (refine wpStill_step (fun K hK => ?_); go_simp; refine ⟨_, rfl, hK _ ?_⟩; clear hK K))); refine wpStill_nil ?_)
      go_wp2_with fail
      refine (set_to (x : Int) (y : Int) (H3.out.keep (Below.refl w3.heap.size w3).drew).b HWX.out).mono ?_
      rintro e w4 ⟨rfl, v4, h4, hm4⟩
      have H4 := Lib.hid ((H3.out.keep (Below.refl w3.heap.size w3).drew).symm.mv h4 hm4).symm
      clear h4 hm4 c1 c1' H3
      have hwk : wrap64 ((k : Int) + 1) = (k : Int) + 1 := by have := HK.out; exact wrap_in (by omega) (by omega)
      go_wp2_with fail
      go_roundw
      case rel => exact ⟨k + 1, by go_num, HK.out.1, _, _, _, H4.out⟩
      case measure => have := HK.out; clear hwk; simp [intOf]; omega
    · obtain ⟨hp, hq⟩ := HPQ.out
      obtain ⟨i0, hi, hz0, hz1, hz2⟩ := info_parts info_int
      have HZ1 := Lib.hid hz1; have HZ2 := Lib.hid hz2; have HZ0 := Lib.hid hz0; have HI := Lib.hid hi
      clear hz0 hz1 hz2 hi
      rcases Nat.lt_trichotomy p q with hpq | hpq | hpq
      · have hpq2 : (p : Int) ≤ (q : Int) := by omega
        have hpq3 : (p : Int) < (q : Int) := by omega
        have HLE := Lib.hid (show (p : Int) ≤ (q : Int) by omega)
        clear hpq
        go_wp2_with fail
        all_goals
          refine (due_to (p : Int) H.out.a).mono ?_
          rintro e w3 ⟨A3, cap3, rfl, ho3, v3, h3, hm3⟩
          have H3 := Lib.hid (H.out.mv h3 hm3)
          have HO3 := Lib.hid ho3
          have HB3 := Lib.hid H.out.a.bel.size
          have HB4 := Lib.hid (Nat.le_trans (due_le (p : Int) S) H.out.a.len)
          clear h3 ho3
          go_wp2_with fail
          refine (due_to (q : Int) H3.out.a).mono ?_
          rintro e w4 ⟨A4, cap4, rfl, ho4, v4, h4, hm4⟩
          have HO34 := Lib.hid (own_to H3.out.a HO3.out hm4)
          have H4 := Lib.hid (H3.out.mv h4 hm4)
          have HO4 := Lib.hid ho4
          have HB5 := Lib.hid (Nat.le_trans (due_le (q : Int) (restL (p : Int) S)) H3.out.a.len)
          have HB6 := Lib.hid hm3.1.2.2.2.1
          clear h4 ho4
          go_wp2_with (at_builtin; refine wpList_append_rows rfl _ _ rfl _ _ i0 HI.out HZ0.out HZ1.out HZ2.out _ _ _ rfl HO34.out _ _ _ rfl HO4.out (by have := HB4.out; have := HB5.out; omega) (Nat.le_trans HB6.out (by have := hm4.1; exact this.2.2.2.1)) ?_)
          intro v5 w5 ho5 hg5
          rw [← intCells_app, (due_due HLE.out S).1] at ho5
          have H5 := Lib.hid (H4.out.grown HO34.out HB3.out hg5)
          have e5 : (dueL (p : Int) S).length + (dueL (q : Int) (restL (p : Int) S)).length = (dueL (q : Int) S).length := by have e := congrArg List.length (due_due HLE.out S).1; rw [List.length_append] at e; exact e
          rw [e5] at ho5
          have HO5 := Lib.hid ho5
          clear ho5 hg5 e5 H3 H4 HO3 HO34 HO4 hm3 hm4 HB4 HB5 HB6
          go_wp2_with fail
          refine (due_to (q : Int) H5.out.b).mono ?_
          rintro e w6 ⟨A6, cap6, rfl, ho6, v6, h6, hm6⟩
          have HO56 := Lib.hid (own_to H5.out.b HO5.out hm6)
          have H6 := Lib.hid (H5.out.symm.mv h6 hm6).symm
          have HV6 := Lib.hid (IntsAt.own ho6)
          obtain ⟨A5, cap5, e5⟩ := own_form HO56.out
          have ho56 := HO56.out
          rw [e5] at ho56
          have HU6 := Lib.hid (IntsAt.own ho56)
          rw [e5]
          have HL6 := Lib.hid (Nat.le_trans (due_le (q : Int) S) H5.out.b.len)
          clear h6 hm6 ho6 ho56 e5 HO56 HO5 H5
          go_wp2_with fail
          refine (same_any _ _ _ _ _ _ _ _ _ HU6.out HV6.out (by have := HL6.out; omega)).mono ?_
          rintro e w7 ⟨rfl, hb7⟩
          rw [same_refl]
          have H7 := Lib.hid (H6.out.keep hb7)
          clear hb7 H6 HU6 HV6
          go_wp2_with fail
          refine (tlen_to H7.out.a).mono ?_
          rintro e w8 ⟨rfl, rfl⟩
          go_wp2_with fail
          refine (tlen_to H7.out.b).mono ?_
          rintro e w8 ⟨rfl, rfl⟩
          rw [(due_due HLE.out S).2]
          go_wp2_with (first | (go_at_call 10; refine (num_any _ _).mono ?_; rintro e w' ⟨rfl, rfl⟩))
          go_ret
          exact ⟨rfl, H7.out.a.bel⟩
      · subst hpq
        have HLE := Lib.hid (show (p : Int) ≤ (p : Int) by omega)
        go_wp2_with fail
        all_goals
          refine (due_to (p : Int) H.out.a).mono ?_
          rintro e w3 ⟨A3, cap3, rfl, ho3, v3, h3, hm3⟩
          have H3 := Lib.hid (H.out.mv h3 hm3)
          have HO3 := Lib.hid ho3
          have HB3 := Lib.hid H.out.a.bel.size
          have HB4 := Lib.hid (Nat.le_trans (due_le (p : Int) S) H.out.a.len)
          clear h3 ho3
          go_wp2_with fail
          refine (due_to (p : Int) H3.out.a).mono ?_
          rintro e w4 ⟨A4, cap4, rfl, ho4, v4, h4, hm4⟩
          have HO34 := Lib.hid (own_to H3.out.a HO3.out hm4)
          have H4 := Lib.hid (H3.out.mv h4 hm4)
          have HO4 := Lib.hid ho4
          have HB5 := Lib.hid (Nat.le_trans (due_le (p : Int) (restL (p : Int) S)) H3.out.a.len)
          have HB6 := Lib.hid hm3.1.2.2.2.1
          clear h4 ho4
          go_wp2_with (at_builtin; refine wpList_append_rows rfl _ _ rfl _ _ i0 HI.out HZ0.out HZ1.out HZ2.out _ _ _ rfl HO34.out _ _ _ rfl HO4.out (by have := HB4.out; have := HB5.out; omega) (Nat.le_trans HB6.out (by have := hm4.1; exact this.2.2.2.1)) ?_)
          intro v5 w5 ho5 hg5
          rw [← intCells_app, (due_due HLE.out S).1] at ho5
          have H5 := Lib.hid (H4.out.grown HO34.out HB3.out hg5)
          have e5 : (dueL (p : Int) S).length + (dueL (p : Int) (restL (p : Int) S)).length = (dueL (p : Int) S).length := by have e := congrArg List.length (due_due HLE.out S).1; rw [List.length_append] at e; exact e
          rw [e5] at ho5
          have HO5 := Lib.hid ho5
          clear ho5 hg5 e5 H3 H4 HO3 HO34 HO4 hm3 hm4 HB4 HB5 HB6
          go_wp2_with fail
          refine (due_to (p : Int) H5.out.b).mono ?_
          rintro e w6 ⟨A6, cap6, rfl, ho6, v6, h6, hm6⟩
          have HO56 := Lib.hid (own_to H5.out.b HO5.out hm6)
          have H6 := Lib.hid (H5.out.symm.mv h6 hm6).symm
          have HV6 := Lib.hid (IntsAt.own ho6)
          obtain ⟨A5, cap5, e5⟩ := own_form HO56.out
          have ho56 := HO56.out
          rw [e5] at ho56
          have HU6 := Lib.hid (IntsAt.own ho56)
          rw [e5]
          have HL6 := Lib.hid (Nat.le_trans (due_le (p : Int) S) H5.out.b.len)
          clear h6 hm6 ho6 ho56 e5 HO56 HO5 H5
          go_wp2_with fail
          refine (same_any _ _ _ _ _ _ _ _ _ HU6.out HV6.out (by have := HL6.out; omega)).mono ?_
          rintro e w7 ⟨rfl, hb7⟩
          rw [same_refl]
          have H7 := Lib.hid (H6.out.keep hb7)
          clear hb7 H6 HU6 HV6
          go_wp2_with fail
          refine (tlen_to H7.out.a).mono ?_
          rintro e w8 ⟨rfl, rfl⟩
          go_wp2_with fail
          refine (tlen_to H7.out.b).mono ?_
          rintro e w8 ⟨rfl, rfl⟩
          rw [(due_due HLE.out S).2]
          go_wp2_with (first | (go_at_call 10; refine (num_any _ _).mono ?_; rintro e w' ⟨rfl, rfl⟩))
          go_ret
          exact ⟨rfl, H7.out.a.bel⟩
      · have hpq2 : ¬ (p : Int) ≤ (q : Int) := by omega
        have hpq3 : ¬ (p : Int) < (q : Int) := by omega
        have HLE := Lib.hid (show (q : Int) ≤ (p : Int) by omega)
        clear hpq
        go_wp2_with fail
        all_goals
          refine (due_to (q : Int) H.out.a).mono ?_
          rintro e w3 ⟨A3, cap3, rfl, ho3, v3, h3, hm3⟩
          have H3 := Lib.hid (H.out.mv h3 hm3)
          have HO3 := Lib.hid ho3
          have HB3 := Lib.hid H.out.a.bel.size
          have HB4 := Lib.hid (Nat.le_trans (due_le (q : Int) S) H.out.a.len)
          clear h3 ho3
          go_wp2_with fail
          refine (due_to (p : Int) H3.out.a).mono ?_
          rintro e w4 ⟨A4, cap4, rfl, ho4, v4, h4, hm4⟩
          have HO34 := Lib.hid (own_to H3.out.a HO3.out hm4)
          have H4 := Lib.hid (H3.out.mv h4 hm4)
          have HO4 := Lib.hid ho4
          have HB5 := Lib.hid (Nat.le_trans (due_le (p : Int) (restL (q : Int) S)) H3.out.a.len)
          have HB6 := Lib.hid hm3.1.2.2.2.1
          clear h4 ho4
          go_wp2_with (at_builtin; refine wpList_append_rows rfl _ _ rfl _ _ i0 HI.out HZ0.out HZ1.out HZ2.out _ _ _ rfl HO34.out _ _ _ rfl HO4.out (by have := HB4.out; have := HB5.out; omega) (Nat.le_trans HB6.out (by have := hm4.1; exact this.2.2.2.1)) ?_)
          intro v5 w5 ho5 hg5
          rw [← intCells_app, (due_due HLE.out S).1] at ho5
          have H5 := Lib.hid (H4.out.grown HO34.out HB3.out hg5)
          have e5 : (dueL (q : Int) S).length + (dueL (p : Int) (restL (q : Int) S)).length = (dueL (p : Int) S).length := by have e := congrArg List.length (due_due HLE.out S).1; rw [List.length_append] at e; exact e
          rw [e5] at ho5
          have HO5 := Lib.hid ho5
          clear ho5 hg5 e5 H3 H4 HO3 HO34 HO4 hm3 hm4 HB4 HB5 HB6
          go_wp2_with fail
          refine (due_to (p : Int) H5.out.b).mono ?_
          rintro e w6 ⟨A6, cap6, rfl, ho6, v6, h6, hm6⟩
          have HO56 := Lib.hid (own_to H5.out.b HO5.out hm6)
          have H6 := Lib.hid (H5.out.symm.mv h6 hm6).symm
          have HV6 := Lib.hid (IntsAt.own ho6)
          obtain ⟨A5, cap5, e5⟩ := own_form HO56.out
          have ho56 := HO56.out
          rw [e5] at ho56
          have HU6 := Lib.hid (IntsAt.own ho56)
          rw [e5]
          have HL6 := Lib.hid (Nat.le_trans (due_le (p : Int) S) H5.out.b.len)
          clear h6 hm6 ho6 ho56 e5 HO56 HO5 H5
          go_wp2_with fail
          refine (same_any _ _ _ _ _ _ _ _ _ HU6.out HV6.out (by have := HL6.out; omega)).mono ?_
          rintro e w7 ⟨rfl, hb7⟩
          rw [same_refl]
          have H7 := Lib.hid (H6.out.keep hb7)
          clear hb7 H6 HU6 HV6
          go_wp2_with fail
          refine (tlen_to H7.out.a).mono ?_
          rintro e w8 ⟨rfl, rfl⟩
          go_wp2_with fail
          refine (tlen_to H7.out.b).mono ?_
          rintro e w8 ⟨rfl, rfl⟩
          rw [(due_due HLE.out S).2]
          go_wp2_with (first | (go_at_call 10; refine (num_any _ _).mono ?_; rintro e w' ⟨rfl, rfl⟩))
          go_ret
          exact ⟨rfl, H7.out.a.bel⟩
end Go.Proofs.Ytjhcengdaclihaa
