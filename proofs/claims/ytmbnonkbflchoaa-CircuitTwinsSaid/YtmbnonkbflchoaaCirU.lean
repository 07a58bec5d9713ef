/- The law CircuitTwins, walked. No condition. -/
import Derived.Test.YtmbnonkbflchoaaCirT
import Derived.Test.YtmbnonkbflchoaaActsOpen25
import Derived.Deep.RegionHeld3
namespace Go.Proofs.Ytmbnonkbflchoaa
open Go.RowKit
set_option linter.unusedVariables false
set_option linter.unusedSimpArgs false
open Go.Maps
def TaB (w0 : World) (g1 g2 k : Nat) (w : World) : Prop := ∃ (B : Ab) (L : Lab), Tw w0 w L (6 * k) g1 g2 B B ∧ k ≤ 60
theorem box_low {w : World} {q : Nat} {t : TypeId} {cs : Array Value} (h : Blk w q t cs) (i : Nat) (v : Value) (e : cs[i]? = some v) : w.cell? ⟨q, i, none⟩ = some v := (h.cell i).trans e
theorem hangA_none {B : Ab} {c : Int} (h : B.A c = none) : hangA B c = (2502, B) := by unfold hangA; rw [h]
set_option maxRecDepth 100000 in
set_option maxHeartbeats 8000000 in
theorem twins_walk (A : Option Addr) (nn cap : Nat) (rows : List (List Value)) (hA : A = none → nn = 0 ∧ cap = 0) (hnc : nn ≤ cap) (hz : nn * 48 ≤ 140737488351232 ∧ ∀ r ∈ rows, ActRow 140737488351232 r) (w0 : World) (hv : RowsAt w0 A nn 5 rows) : Calls Try.prog 5 #[.slice A nn cap] w0 fun e w' => e = .returned (.bool true) ∧ Below w0.heap.size w0 w' := by
  have HV := Lib.hid hv; have HZ := Lib.hid hz; clear hv hz hA hnc
  go_enter Try.func5, Try.ntmps5
  go_wp2_with fail
  refine (awake_any _).mono ?_
  rintro e w1 ⟨rfl, hb1⟩
  go_wp2_with fail
  refine (new_under 3 200 _ hb1 (by decide) (by decide) (by decide) (by decide)).mono ?_
  rintro e w2 ⟨rfl, -, L2, h2⟩
  generalize w1.heap.size + 1 = g1 at *
  go_wp2_with fail
  refine (new_second 3 200 h2 (by decide) (by decide) (by decide) (by decide)).mono ?_
  rintro e w3 ⟨rfl, L3, h3⟩
  generalize w2.heap.size + 1 = g2 at *
  have H3 := Lib.hid h3; clear h2 h3 hb1
  go_wp2_with fail
  go_loopw [7] (fun i wr => ∃ k : Nat, i = .int .i64 k ∧ TaB w0 g1 g2 k wr) (fun i _ => 80 - (intOf i).toNat)
  case atStart => exact ⟨0, rfl, _, L3, H3.out, by omega⟩
  case round =>
    obtain ⟨k, rfl, B, L, htw, hk60⟩ := hrel
    have HT := Lib.hid htw; clear htw
    by_cases hlt : k < nn
    · by_cases h60 : k < 60
      · have y1 : (k : Int) < (nn : Int) := by omega
        have y2 : (k : Int) < 60 := by omega
        obtain ⟨b, off, r, rfl, hb, hr, hrm, hc⟩ := (HV.out.below HT.out.low (Nat.le_refl _)).at_ k hlt
        obtain ⟨kd, c, s, n, d, rfl, hd, hcw, hsw, hnw⟩ := HZ.out.2 r hrm
        have q0 := hc 0 _ rfl; have q1 := hc 1 _ rfl; have q2 := hc 2 _ rfl; have q3 := hc 3 _ rfl; have q4 := hc 4 _ rfl
        simp only [Nat.add_zero] at q0
        have TP0 := Lib.hid (⟨_, TwB.boxed HT.out 41 #[.int .i64 kd, .int .i64 c, .int .i64 s, .int .i64 n, .string d]⟩ : TwP w0 (6 * k) g1 g2 B B wr.heap.size 41 #[.int .i64 kd, .int .i64 c, .int .i64 s, .int .i64 n, .string d] (wr.alloc (.cells #[.int .i64 kd, .int .i64 c, .int .i64 s, .int .i64 n, .string d] 41)))
        obtain ⟨sb, hsb, hsb2⟩ := and1 s
        have hwb : wrap64 (1 - sb) = 1 - sb := wrap_in (by omega) (by omega)
        have hwc : wrap64 (500 + (k : Int)) = 500 + (k : Int) := wrap_in (by omega) (by omega)
        have HSB := Lib.hid hsb2; have HCW := Lib.hid hcw; have HD := Lib.hid hd; have HOFF := Lib.hid (show ((6 * k + 2 : Nat) : Int) < 500 + (k : Int) by omega)
        have HCC := Lib.hid (wfi (x := 500 + (k : Int)) (by omega) (by omega))
        clear hsb2 hcw hsw hnw hd hr hrm hc hb
        obtain ⟨p, e1, B1, hB1⟩ : ∃ p e1 B1, dialA B = (p, e1, B1) := ⟨_, _, _, rfl⟩
        obtain ⟨e2, B2, hB2⟩ : ∃ e2 B2, sendA B1 c s d = (e2, B2) := ⟨_, _, rfl⟩
        obtain ⟨o, e3, B3, hB3⟩ : ∃ o e3 B3, readA B2 c n = (o, e3, B3) := ⟨_, _, _, rfl⟩
        obtain ⟨e4, B4, hB4⟩ : ∃ e4 B4, hangA B3 c = (e4, B4) := ⟨_, _, rfl⟩
        have R1 := Lib.hid hB1; have R2 := Lib.hid hB2; have R3 := Lib.hid hB3; have R4 := Lib.hid hB4
        clear hB1 hB2 hB3 hB4
        go_wp2_with fail
        refine (t_dial1 sb TP0.out R1.out (by omega) (side_b HSB.out) rfl).mono ?_
        rintro e wa ⟨rfl, ta⟩
        have a0 : wa.cell? ⟨wr.heap.size, 0, none⟩ = some (.int .i64 kd) := box_low ta.box 0 _ rfl
        have a1 : wa.cell? ⟨wr.heap.size, 1, none⟩ = some (.int .i64 c) := box_low ta.box 1 _ rfl
        have a2 : wa.cell? ⟨wr.heap.size, 2, none⟩ = some (.int .i64 s) := box_low ta.box 2 _ rfl
        have a3 : wa.cell? ⟨wr.heap.size, 3, none⟩ = some (.int .i64 n) := box_low ta.box 3 _ rfl
        have a4 : wa.cell? ⟨wr.heap.size, 4, none⟩ = some (.string d) := box_low ta.box 4 _ rfl
        have TA := Lib.hid ta; clear ta
        go_wp2_with fail
        refine (t_dial2 sb TA.out R1.out (by omega) (side_b HSB.out) rfl).mono ?_
        rintro e wb ⟨rfl, tb⟩
        have b0 : wb.cell? ⟨wr.heap.size, 0, none⟩ = some (.int .i64 kd) := box_low tb.box 0 _ rfl
        have b1 : wb.cell? ⟨wr.heap.size, 1, none⟩ = some (.int .i64 c) := box_low tb.box 1 _ rfl
        have b2 : wb.cell? ⟨wr.heap.size, 2, none⟩ = some (.int .i64 s) := box_low tb.box 2 _ rfl
        have b3 : wb.cell? ⟨wr.heap.size, 3, none⟩ = some (.int .i64 n) := box_low tb.box 3 _ rfl
        have b4 : wb.cell? ⟨wr.heap.size, 4, none⟩ = some (.string d) := box_low tb.box 4 _ rfl
        have TB := Lib.hid tb; clear tb
        have K500 := Lib.hid (hangA_none (B := B1) (c := 500 + (k : Int)) (by obtain ⟨L5, h5⟩ := TB.out; exact h5.1.a.off (by have := HOFF.out; omega)))
        go_wp2_with fail
        refine (t_hang1 (500 + (k : Int)) TB.out K500.out HCC.out).mono ?_
        rintro e wc ⟨rfl, tc⟩
        have TC := Lib.hid tc; clear tc
        go_wp2_with fail
        have hbx : Blk wc.drew wr.heap.size 41 #[.int .i64 kd, .int .i64 c, .int .i64 s, .int .i64 n, .string d] := TC.out.box
        refine wp_region_held_drew (S := fun W => Blk W wr.heap.size 41 #[.int .i64 kd, .int .i64 c, .int .i64 s, .int .i64 n, .string d]) (by kernel_rfl) hbx (fun hHeld => ?_)
        (refine wpAnyH_take (i := 0) (oi := _) (v := ?vt0) rfl (by kernel_rfl) (by kernel_rfl) (by kernel_rfl) (fun _ _ _ h => h) (Or.inl ⟨by kernel_rfl, ?yt0⟩) (by assumption) ?_; rotate_left; (· (intro W0 hSw; have hw1 : W0.cell? ⟨wr.heap.size, 1, none⟩ = some (.int .i64 c) := hSw.cell 1; have hw2 : W0.cell? ⟨wr.heap.size, 2, none⟩ = some (.int .i64 s) := hSw.cell 2; have hw4 : W0.cell? ⟨wr.heap.size, 4, none⟩ = some (.string d) := hSw.cell 4; clear hSw; go_simp; try with_reducible rfl)); simp only [Act.put, List.setIfInBounds_toArray, List.set_cons_zero, List.set_cons_succ, List.getElem_toArray, List.getElem_cons_succ, List.getElem_cons_zero])
        (refine wpAnyH_take (i := 1) (oi := _) (v := ?vt1) rfl (by kernel_rfl) (by kernel_rfl) (by kernel_rfl) (fun _ _ _ h => h) (Or.inl ⟨by kernel_rfl, ?yt1⟩) (by assumption) ?_; rotate_left; (· (intro W0 hSw; have hw1 : W0.cell? ⟨wr.heap.size, 1, none⟩ = some (.int .i64 c) := hSw.cell 1; have hw2 : W0.cell? ⟨wr.heap.size, 2, none⟩ = some (.int .i64 s) := hSw.cell 2; have hw4 : W0.cell? ⟨wr.heap.size, 4, none⟩ = some (.string d) := hSw.cell 4; clear hSw; go_simp; try with_reducible rfl)); simp only [Act.put, List.setIfInBounds_toArray, List.set_cons_zero, List.set_cons_succ, List.getElem_toArray, List.getElem_cons_succ, List.getElem_cons_zero])
        (refine wpAnyH_take (i := 2) (oi := _) (v := ?vt2) rfl (by kernel_rfl) (by kernel_rfl) (by kernel_rfl) (fun _ _ _ h => h) (Or.inl ⟨by kernel_rfl, ?yt2⟩) (by assumption) ?_; rotate_left; (· (intro W0 hSw; have hw1 : W0.cell? ⟨wr.heap.size, 1, none⟩ = some (.int .i64 c) := hSw.cell 1; have hw2 : W0.cell? ⟨wr.heap.size, 2, none⟩ = some (.int .i64 s) := hSw.cell 2; have hw4 : W0.cell? ⟨wr.heap.size, 4, none⟩ = some (.string d) := hSw.cell 4; clear hSw; go_simp; try with_reducible rfl)); simp only [Act.put, List.setIfInBounds_toArray, List.set_cons_zero, List.set_cons_succ, List.getElem_toArray, List.getElem_cons_succ, List.getElem_cons_zero])
        (refine wpAnyH_take (i := 3) (oi := _) (v := ?vt3) rfl (by kernel_rfl) (by kernel_rfl) (by kernel_rfl) (fun _ _ _ h => h) (Or.inl ⟨by kernel_rfl, ?yt3⟩) (by assumption) ?_; rotate_left; (· (intro W0 hSw; have hw1 : W0.cell? ⟨wr.heap.size, 1, none⟩ = some (.int .i64 c) := hSw.cell 1; have hw2 : W0.cell? ⟨wr.heap.size, 2, none⟩ = some (.int .i64 s) := hSw.cell 2; have hw4 : W0.cell? ⟨wr.heap.size, 4, none⟩ = some (.string d) := hSw.cell 4; clear hSw; go_simp; try with_reducible rfl)); simp only [Act.put, List.setIfInBounds_toArray, List.set_cons_zero, List.set_cons_succ, List.getElem_toArray, List.getElem_cons_succ, List.getElem_cons_zero])
        (refine wpAnyH_take (i := 4) (oi := _) (v := ?vt4) rfl (by kernel_rfl) (by kernel_rfl) (by kernel_rfl) (fun _ _ _ h => h) (Or.inl ⟨by kernel_rfl, ?yt4⟩) (by assumption) ?_; rotate_left; (· (intro W0 hSw; have hw1 : W0.cell? ⟨wr.heap.size, 1, none⟩ = some (.int .i64 c) := hSw.cell 1; have hw2 : W0.cell? ⟨wr.heap.size, 2, none⟩ = some (.int .i64 s) := hSw.cell 2; have hw4 : W0.cell? ⟨wr.heap.size, 4, none⟩ = some (.string d) := hSw.cell 4; clear hSw; go_simp; try with_reducible rfl)); simp only [Act.put, List.setIfInBounds_toArray, List.set_cons_zero, List.set_cons_succ, List.getElem_toArray, List.getElem_cons_succ, List.getElem_cons_zero])
        (refine wpAnyH_take (i := 5) (oi := _) (v := ?vt5) rfl (by kernel_rfl) (by kernel_rfl) (by kernel_rfl) (fun _ _ _ h => h) (Or.inl ⟨by kernel_rfl, ?yt5⟩) (by assumption) ?_; rotate_left; (· (intro W0 hSw; have hw1 : W0.cell? ⟨wr.heap.size, 1, none⟩ = some (.int .i64 c) := hSw.cell 1; have hw2 : W0.cell? ⟨wr.heap.size, 2, none⟩ = some (.int .i64 s) := hSw.cell 2; have hw4 : W0.cell? ⟨wr.heap.size, 4, none⟩ = some (.string d) := hSw.cell 4; clear hSw; go_simp; try with_reducible rfl)); simp only [Act.put, List.setIfInBounds_toArray, List.set_cons_zero, List.set_cons_succ, List.getElem_toArray, List.getElem_cons_succ, List.getElem_cons_zero])
        (refine wpAnyH_take (i := 6) (oi := _) (v := ?vt6) rfl (by kernel_rfl) (by kernel_rfl) (by kernel_rfl) (fun _ _ _ h => h) (Or.inl ⟨by kernel_rfl, ?yt6⟩) (by assumption) ?_; rotate_left; (· (intro W0 hSw; have hw1 : W0.cell? ⟨wr.heap.size, 1, none⟩ = some (.int .i64 c) := hSw.cell 1; have hw2 : W0.cell? ⟨wr.heap.size, 2, none⟩ = some (.int .i64 s) := hSw.cell 2; have hw4 : W0.cell? ⟨wr.heap.size, 4, none⟩ = some (.string d) := hSw.cell 4; clear hSw; go_simp; try with_reducible rfl)); simp only [Act.put, List.setIfInBounds_toArray, List.set_cons_zero, List.set_cons_succ, List.getElem_toArray, List.getElem_cons_succ, List.getElem_cons_zero])
        (refine wpAnyH_take (i := 8) (oi := _) (v := ?vt8) rfl (by kernel_rfl) (by kernel_rfl) (by kernel_rfl) (fun _ _ _ h => h) (Or.inl ⟨by kernel_rfl, ?yt8⟩) (by assumption) ?_; rotate_left; (· (intro W0 hSw; have hw1 : W0.cell? ⟨wr.heap.size, 1, none⟩ = some (.int .i64 c) := hSw.cell 1; have hw2 : W0.cell? ⟨wr.heap.size, 2, none⟩ = some (.int .i64 s) := hSw.cell 2; have hw4 : W0.cell? ⟨wr.heap.size, 4, none⟩ = some (.string d) := hSw.cell 4; clear hSw; go_simp; try with_reducible rfl)); simp only [Act.put, List.setIfInBounds_toArray, List.set_cons_zero, List.set_cons_succ, List.getElem_toArray, List.getElem_cons_succ, List.getElem_cons_zero])
        (refine wpAnyH_take (i := 9) (oi := _) (v := ?vt9) rfl (by kernel_rfl) (by kernel_rfl) (by kernel_rfl) (fun _ _ _ h => h) (Or.inl ⟨by kernel_rfl, ?yt9⟩) (by assumption) ?_; rotate_left; (· (intro W0 hSw; have hw1 : W0.cell? ⟨wr.heap.size, 1, none⟩ = some (.int .i64 c) := hSw.cell 1; have hw2 : W0.cell? ⟨wr.heap.size, 2, none⟩ = some (.int .i64 s) := hSw.cell 2; have hw4 : W0.cell? ⟨wr.heap.size, 4, none⟩ = some (.string d) := hSw.cell 4; clear hSw; go_simp; try with_reducible rfl)); simp only [Act.put, List.setIfInBounds_toArray, List.set_cons_zero, List.set_cons_succ, List.getElem_toArray, List.getElem_cons_succ, List.getElem_cons_zero])
        (refine wpAnyH_take (i := 10) (oi := _) (v := ?vt10) rfl (by kernel_rfl) (by kernel_rfl) (by kernel_rfl) (fun _ _ _ h => h) (Or.inl ⟨by kernel_rfl, ?yt10⟩) (by assumption) ?_; rotate_left; (· (intro W0 hSw; have hw1 : W0.cell? ⟨wr.heap.size, 1, none⟩ = some (.int .i64 c) := hSw.cell 1; have hw2 : W0.cell? ⟨wr.heap.size, 2, none⟩ = some (.int .i64 s) := hSw.cell 2; have hw4 : W0.cell? ⟨wr.heap.size, 4, none⟩ = some (.string d) := hSw.cell 4; clear hSw; go_simp; try with_reducible rfl)); simp only [Act.put, List.setIfInBounds_toArray, List.set_cons_zero, List.set_cons_succ, List.getElem_toArray, List.getElem_cons_succ, List.getElem_cons_zero])
        (refine wpAnyH_take (i := 11) (oi := _) (v := ?vt11) rfl (by kernel_rfl) (by kernel_rfl) (by kernel_rfl) (fun _ _ _ h => h) (Or.inl ⟨by kernel_rfl, ?yt11⟩) (by assumption) ?_; rotate_left; (· (intro W0 hSw; have hw1 : W0.cell? ⟨wr.heap.size, 1, none⟩ = some (.int .i64 c) := hSw.cell 1; have hw2 : W0.cell? ⟨wr.heap.size, 2, none⟩ = some (.int .i64 s) := hSw.cell 2; have hw4 : W0.cell? ⟨wr.heap.size, 4, none⟩ = some (.string d) := hSw.cell 4; clear hSw; go_simp; try with_reducible rfl)); simp only [Act.put, List.setIfInBounds_toArray, List.set_cons_zero, List.set_cons_succ, List.getElem_toArray, List.getElem_cons_succ, List.getElem_cons_zero])
        (refine wpAnyH_take (i := 12) (oi := _) (v := ?vt12) rfl (by kernel_rfl) (by kernel_rfl) (by kernel_rfl) (fun _ _ _ h => h) (Or.inl ⟨by kernel_rfl, ?yt12⟩) (by assumption) ?_; rotate_left; (· (intro W0 hSw; have hw1 : W0.cell? ⟨wr.heap.size, 1, none⟩ = some (.int .i64 c) := hSw.cell 1; have hw2 : W0.cell? ⟨wr.heap.size, 2, none⟩ = some (.int .i64 s) := hSw.cell 2; have hw4 : W0.cell? ⟨wr.heap.size, 4, none⟩ = some (.string d) := hSw.cell 4; clear hSw; go_simp; try with_reducible rfl)); simp only [Act.put, List.setIfInBounds_toArray, List.set_cons_zero, List.set_cons_succ, List.getElem_toArray, List.getElem_cons_succ, List.getElem_cons_zero])
        (refine wpAnyH_take (i := 13) (oi := _) (v := ?vt13) rfl (by kernel_rfl) (by kernel_rfl) (by kernel_rfl) (fun _ _ _ h => h) (Or.inl ⟨by kernel_rfl, ?yt13⟩) (by assumption) ?_; rotate_left; (· (intro W0 hSw; have hw1 : W0.cell? ⟨wr.heap.size, 1, none⟩ = some (.int .i64 c) := hSw.cell 1; have hw2 : W0.cell? ⟨wr.heap.size, 2, none⟩ = some (.int .i64 s) := hSw.cell 2; have hw4 : W0.cell? ⟨wr.heap.size, 4, none⟩ = some (.string d) := hSw.cell 4; clear hSw; go_simp; try with_reducible rfl)); simp only [Act.put, List.setIfInBounds_toArray, List.set_cons_zero, List.set_cons_succ, List.getElem_toArray, List.getElem_cons_succ, List.getElem_cons_zero])
        (refine wpAnyH_take (i := 14) (oi := _) (v := ?vt14) rfl (by kernel_rfl) (by kernel_rfl) (by kernel_rfl) (fun _ _ _ h => h) (Or.inl ⟨by kernel_rfl, ?yt14⟩) (by assumption) ?_; rotate_left; (· (intro W0 hSw; have hw1 : W0.cell? ⟨wr.heap.size, 1, none⟩ = some (.int .i64 c) := hSw.cell 1; have hw2 : W0.cell? ⟨wr.heap.size, 2, none⟩ = some (.int .i64 s) := hSw.cell 2; have hw4 : W0.cell? ⟨wr.heap.size, 4, none⟩ = some (.string d) := hSw.cell 4; clear hSw; go_simp; try with_reducible rfl)); simp only [Act.put, List.setIfInBounds_toArray, List.set_cons_zero, List.set_cons_succ, List.getElem_toArray, List.getElem_cons_succ, List.getElem_cons_zero])
        have TD := Lib.hid (TwP.drew TC.out)
        (refine wpAnyH_ready (rs := [7]) (by kernel_rfl) (by simp) ?_; refine AllReadyH.cons (o := _) rfl (fun K hK => ?_) AllReadyH.nil; rw [if_pos (by kernel_rfl)])
        go_simp
        refine (t_send1 c s d TD.out R2.out (by omega) HCW.out).mono ?_
        rintro e we ⟨rfl, te⟩
        have TE := Lib.hid te; clear te
        go_simp
        (refine hK.out _ _ ?_ (fun hHeld => ?_))
        · exact TE.out.box
        clear hK
        (refine wpAnyH_ready (rs := [15]) (by kernel_rfl) (by simp) ?_; refine AllReadyH.cons (o := _) rfl (fun K hK => ?_) AllReadyH.nil; rw [if_pos (by kernel_rfl)])
        go_simp
        refine (t_send2 c s d TE.out R2.out (by omega) HCW.out).mono ?_
        rintro e wf ⟨rfl, tf⟩
        have TF := Lib.hid tf; clear tf
        go_simp
        (refine hK.out _ _ ?_ (fun hHeld => ?_))
        · exact TF.out.box
        clear hK
        (refine wpAnyH_ready (rs := [16]) (by kernel_rfl) (by simp) ?_; refine AllReadyH.cons (o := _) rfl (fun K hK => ?_) AllReadyH.nil; rw [if_pos (by kernel_rfl)])
        go_simp
        (refine hK.out _ _ ?_ (fun hHeld => ?_))
        · exact TF.out.box
        clear hK
        (refine wpAnyH_ready (rs := [17]) (by kernel_rfl) (by simp) ?_; refine AllReadyH.cons (o := _) rfl (fun K hK => ?_) AllReadyH.nil; rw [if_pos (by kernel_rfl)])
        go_simp
        (refine hK.out _ _ ?_ (fun hHeld => ?_))
        · exact TF.out.box
        clear hK
        (refine wpAnyH_done (by kernel_rfl) ?_ _)
        have f0 : wf.cell? ⟨wr.heap.size, 0, none⟩ = some (.int .i64 kd) := box_low TF.out.box 0 _ rfl
        have f1 : wf.cell? ⟨wr.heap.size, 1, none⟩ = some (.int .i64 c) := box_low TF.out.box 1 _ rfl
        have f2 : wf.cell? ⟨wr.heap.size, 2, none⟩ = some (.int .i64 s) := box_low TF.out.box 2 _ rfl
        have f3 : wf.cell? ⟨wr.heap.size, 3, none⟩ = some (.int .i64 n) := box_low TF.out.box 3 _ rfl
        have f4 : wf.cell? ⟨wr.heap.size, 4, none⟩ = some (.string d) := box_low TF.out.box 4 _ rfl
        go_wp2_with fail
        refine (t_read1 c n TF.out R3.out (by omega) HCW.out).mono ?_
        rintro e wg ⟨rfl, tg⟩
        have g0 : wg.cell? ⟨wr.heap.size, 0, none⟩ = some (.int .i64 kd) := box_low tg.box 0 _ rfl
        have g1 : wg.cell? ⟨wr.heap.size, 1, none⟩ = some (.int .i64 c) := box_low tg.box 1 _ rfl
        have g2 : wg.cell? ⟨wr.heap.size, 2, none⟩ = some (.int .i64 s) := box_low tg.box 2 _ rfl
        have g3 : wg.cell? ⟨wr.heap.size, 3, none⟩ = some (.int .i64 n) := box_low tg.box 3 _ rfl
        have g4 : wg.cell? ⟨wr.heap.size, 4, none⟩ = some (.string d) := box_low tg.box 4 _ rfl
        have TG := Lib.hid tg; clear tg
        go_wp2_with fail
        refine (t_read2 c n TG.out R3.out (by omega) HCW.out).mono ?_
        rintro e wh ⟨rfl, th⟩
        have h0 : wh.cell? ⟨wr.heap.size, 0, none⟩ = some (.int .i64 kd) := box_low th.box 0 _ rfl
        have h1 : wh.cell? ⟨wr.heap.size, 1, none⟩ = some (.int .i64 c) := box_low th.box 1 _ rfl
        have h2 : wh.cell? ⟨wr.heap.size, 2, none⟩ = some (.int .i64 s) := box_low th.box 2 _ rfl
        have h3 : wh.cell? ⟨wr.heap.size, 3, none⟩ = some (.int .i64 n) := box_low th.box 3 _ rfl
        have h4 : wh.cell? ⟨wr.heap.size, 4, none⟩ = some (.string d) := box_low th.box 4 _ rfl
        have TH := Lib.hid th; clear th
        by_cases hk3 : kd < 3
        · go_wp2_with fail
          refine (t_hang1 c TH.out R4.out HCW.out).mono ?_
          rintro e wi ⟨rfl, ti⟩
          have i0 : wi.cell? ⟨wr.heap.size, 0, none⟩ = some (.int .i64 kd) := box_low ti.box 0 _ rfl
          have i1 : wi.cell? ⟨wr.heap.size, 1, none⟩ = some (.int .i64 c) := box_low ti.box 1 _ rfl
          have i2 : wi.cell? ⟨wr.heap.size, 2, none⟩ = some (.int .i64 s) := box_low ti.box 2 _ rfl
          have i3 : wi.cell? ⟨wr.heap.size, 3, none⟩ = some (.int .i64 n) := box_low ti.box 3 _ rfl
          have i4 : wi.cell? ⟨wr.heap.size, 4, none⟩ = some (.string d) := box_low ti.box 4 _ rfl
          have TI := Lib.hid ti; clear ti
          go_wp2_with fail
          refine (t_hang2 c TI.out R4.out HCW.out).mono ?_
          rintro e wj ⟨rfl, tj⟩
          have TJ := Lib.hid tj; clear tj
          go_wp2_with (first | (go_at_call 11; refine (num_any _ _).mono ?_; rintro e w' ⟨rfl, rfl⟩))
          refine (t_busy1 0 TJ.out rfl rfl).mono ?_
          rintro e w' ⟨rfl, rfl⟩
          go_wp2_with (first | (go_at_call 11; refine (num_any _ _).mono ?_; rintro e w' ⟨rfl, rfl⟩))
          refine (t_busy2 0 TJ.out rfl rfl).mono ?_
          rintro e w' ⟨rfl, rfl⟩
          go_wp2_with (first | (go_at_call 11; refine (num_any _ _).mono ?_; rintro e w' ⟨rfl, rfl⟩))
          go_roundw
          case rel =>
            obtain ⟨L9, h9⟩ := TJ.out
            exact ⟨k + 1, by go_num, B4, L9, h9.1.more (by omega), by omega⟩
          case measure => simp [intOf]; omega
        · go_wp2_with (first | (go_at_call 11; refine (num_any _ _).mono ?_; rintro e w' ⟨rfl, rfl⟩))
          refine (t_busy1 0 TH.out rfl rfl).mono ?_
          rintro e w' ⟨rfl, rfl⟩
          go_wp2_with (first | (go_at_call 11; refine (num_any _ _).mono ?_; rintro e w' ⟨rfl, rfl⟩))
          refine (t_busy2 0 TH.out rfl rfl).mono ?_
          rintro e w' ⟨rfl, rfl⟩
          go_wp2_with (first | (go_at_call 11; refine (num_any _ _).mono ?_; rintro e w' ⟨rfl, rfl⟩))
          go_roundw
          case rel =>
            obtain ⟨L9, h9⟩ := TH.out
            exact ⟨k + 1, by go_num, B3, L9, h9.1.more (by omega), by omega⟩
          case measure => simp [intOf]; omega
      · have y1 : (k : Int) < (nn : Int) := by omega
        have y2 : ¬ (k : Int) < 60 := by omega
        go_wp2_with (first | (go_at_call 11; refine (num_any _ _).mono ?_; rintro e w' ⟨rfl, rfl⟩))
        go_ret
        exact ⟨rfl, HT.out.low⟩
    · have y1 : ¬ (k : Int) < (nn : Int) := by omega
      go_wp2_with (first | (go_at_call 11; refine (num_any _ _).mono ?_; rintro e w' ⟨rfl, rfl⟩))
      go_ret
      exact ⟨rfl, HT.out.low⟩
end Go.Proofs.Ytmbnonkbflchoaa
