/- TimerActs walked: it returns true. No condition. -/
import Derived.Test.YtjhcengdaclihaaTimK
import Derived.Test.YtjhcengdaclihaaActsOpen11
import Derived.Deep.RegionHeld3
import Derived.BigQuiet
namespace Go.Proofs.Ytjhcengdaclihaa
open Go.RowKit
set_option linter.unusedVariables false
set_option linter.unusedSimpArgs false
open Go.Maps
theorem blk_mv {w0 w w' : World} {g mb b : Nat} {v v' : Value} {S : List Tm} {cs : Array Value} (h : Blk w b 30 cs) (ht : TO w0 w g mb v S) (hm : Mv w w' g mb v v') : Blk w' b 30 cs := (mv_stay ht hm h (by decide) (by decide)).trans h
theorem Ac.quiet_len {w0 w : World} {g mb r : Nat} {v u : Value} {S : List Tm} (h : Ac w0 w g mb r v u S) (n : Nat) : Ac w0 (w.drewN n) g mb r v u S := h.keep (below_drewN (Below.refl _ _) n)
set_option maxHeartbeats 8000000 in
set_option maxRecDepth 100000 in
theorem acts_walk (A : Option Addr) (nn cap : Nat) (rows : List (List Value)) (hA : A = none → nn = 0 ∧ cap = 0) (hnc : nn ≤ cap) (hz : nn * 24 ≤ 140737488351232 ∧ ∀ r ∈ rows, ActRow 140737488351232 r) (w0 : World) (hv : RowsAt w0 A nn 3 rows) : Calls Try.prog 3 #[.slice A nn cap] w0 fun e w' => e = .returned (.bool true) ∧ Below w0.heap.size w0 w' := by
  have HV := Lib.hid hv; have HZ := Lib.hid hz; clear hv hz hA hnc
  go_enter Try.func3, Try.ntmps3
  go_wp2_with fail
  refine (new_to (Below.refl w0.heap.size w0)).mono ?_
  rintro e w1 ⟨rfl, h1, hb1⟩
  generalize w0.heap.size + 1 = g at *
  generalize hmb : w0.heap.size = mb at h1 hb1
  rw [← hmb] at hb1
  have START := Lib.hid (show AcR w0 (w1.alloc (.cells #[.slice none 0 0] 28)) g mb w1.heap.size [] from
    ⟨_, .slice none 0 0, h1.keep ((Below.refl w1.heap.size w1).alloc (Nat.le_refl _) _), ⟨Blk.new _ _ _, World.ownsRow_nil _ _ _ _⟩, hb1.size⟩)
  clear h1 hb1 hmb
  go_wp2_with fail
  generalize w1.alloc (.cells #[.slice none 0 0] 28) = w2 at *
  generalize w1.heap.size = r at *
  go_loopw [5] (fun i wr => ∃ k : Nat, i = .int .i64 k ∧ k ≤ 300 ∧ ∃ S, AcR w0 wr g mb r S) (fun i _ => 300 - (intOf i).toNat)
  case atStart => exact ⟨0, rfl, by omega, _, START.out⟩
  case round =>
    obtain ⟨k, rfl, hk, S, v, u, hac⟩ := hrel
    have H := Lib.hid hac
    clear hac START
    by_cases hlt : k < nn
    · by_cases h300 : k < 300
      · have y1 : (k : Int) < (nn : Int) := by omega
        have y2 : (k : Int) < 300 := by omega
        obtain ⟨b, off, rw_, rfl, hb, hr, hrm, hc⟩ := (HV.out.below H.out.t.bel (Nat.le_refl _)).at_ k hlt
        obtain ⟨kd, id, at_, rfl, hiw, haw⟩ := HZ.out.2 rw_ hrm
        have q0 := hc 0 _ rfl; have q1 := hc 1 _ rfl; have q2 := hc 2 _ rfl
        simp only [Nat.add_zero] at q0
        obtain ⟨bx, hbx⟩ : ∃ bx, bx = wr.heap.size := ⟨_, rfl⟩
        have BX := Lib.hid (show Blk (wr.alloc (.cells #[.int .i64 kd, .int .i64 id, .int .i64 at_] 30)) wr.heap.size 30 #[.int .i64 kd, .int .i64 id, .int .i64 at_] from Blk.new _ _ _)
        have HB := Lib.hid (H.out.keep ((Below.refl wr.heap.size wr).alloc (Nat.le_refl _) (.cells #[.int .i64 kd, .int .i64 id, .int .i64 at_] 30)))
        have HIW := Lib.hid hiw
        have HK := Lib.hid (And.intro h300 hlt)
        have HW := Lib.hid (show wrap64 ((k : Int) + 1) = (k : Int) + 1 from wrap_in (by omega) (by omega))
        clear hiw haw hr hrm hc hb hk h300 hlt hbx
        by_cases c6 : kd < 6
        · go_wp2_with fail
          generalize wr.alloc (.cells #[.int .i64 kd, .int .i64 id, .int .i64 at_] 30) = wb at *
          generalize wr.heap.size = q at *
          refine (set_to id at_ HB.out.t HIW.out).mono ?_
          rintro e w3 ⟨rfl, v3, h3, hm3⟩
          have AM := Lib.hid (HB.out.mv h3 hm3)
          have BX3 := Lib.hid (blk_mv BX.out HB.out.t hm3)
          clear h3 hm3 q0 q1 q2 H HB BX
          go_wp2_with fail
          have hbx : Blk w3.drew q 30 #[.int .i64 kd, .int .i64 id, .int .i64 at_] := BX3.out
          have hA3 := AM.out.drew
          have AMD := Lib.hid hA3
          clear hA3
          refine wp_region_held_drew (S := fun W => Blk W q 30 #[.int .i64 kd, .int .i64 id, .int .i64 at_]) (by kernel_rfl) hbx (fun hHeld => ?_)
          (refine wpAnyH_take (i := 0) (oi := _) (v := ?vt0) rfl (by kernel_rfl) (by kernel_rfl) (by kernel_rfl) (fun _ _ _ h => h) (Or.inl ⟨by kernel_rfl, ?yt0⟩) (by assumption) ?_; rotate_left; (· (intro W0 hSw; have hw1 : W0.cell? ⟨q, 1, none⟩ = some (.int .i64 id) := hSw.cell 1; have hw2 : W0.cell? ⟨q, 2, none⟩ = some (.int .i64 at_) := hSw.cell 2; clear hSw; go_simp; try with_reducible rfl)); simp only [Act.put, List.setIfInBounds_toArray, List.set_cons_zero, List.set_cons_succ, List.getElem_toArray, List.getElem_cons_succ, List.getElem_cons_zero])
          (refine wpAnyH_take (i := 2) (oi := _) (v := ?vt2) rfl (by kernel_rfl) (by kernel_rfl) (by kernel_rfl) (fun _ _ _ h => h) (Or.inl ⟨by kernel_rfl, ?yt2⟩) (by assumption) ?_; rotate_left; (· (intro W0 hSw; have hw1 : W0.cell? ⟨q, 1, none⟩ = some (.int .i64 id) := hSw.cell 1; have hw2 : W0.cell? ⟨q, 2, none⟩ = some (.int .i64 at_) := hSw.cell 2; clear hSw; go_simp; try with_reducible rfl)); simp only [Act.put, List.setIfInBounds_toArray, List.set_cons_zero, List.set_cons_succ, List.getElem_toArray, List.getElem_cons_succ, List.getElem_cons_zero])
          (refine wpAnyH_take (i := 3) (oi := _) (v := ?vt3) rfl (by kernel_rfl) (by kernel_rfl) (by kernel_rfl) (fun _ _ _ h => h) (Or.inl ⟨by kernel_rfl, ?yt3⟩) (by assumption) ?_; rotate_left; (· (intro W0 hSw; have hw1 : W0.cell? ⟨q, 1, none⟩ = some (.int .i64 id) := hSw.cell 1; have hw2 : W0.cell? ⟨q, 2, none⟩ = some (.int .i64 at_) := hSw.cell 2; clear hSw; go_simp; try with_reducible rfl)); simp only [Act.put, List.setIfInBounds_toArray, List.set_cons_zero, List.set_cons_succ, List.getElem_toArray, List.getElem_cons_succ, List.getElem_cons_zero])
          (refine wpAnyH_take (i := 4) (oi := _) (v := ?vt4) rfl (by kernel_rfl) (by kernel_rfl) (by kernel_rfl) (fun _ _ _ h => h) (Or.inl ⟨by kernel_rfl, ?yt4⟩) (by assumption) ?_; rotate_left; (· (intro W0 hSw; have hw1 : W0.cell? ⟨q, 1, none⟩ = some (.int .i64 id) := hSw.cell 1; have hw2 : W0.cell? ⟨q, 2, none⟩ = some (.int .i64 at_) := hSw.cell 2; clear hSw; go_simp; try with_reducible rfl)); simp only [Act.put, List.setIfInBounds_toArray, List.set_cons_zero, List.set_cons_succ, List.getElem_toArray, List.getElem_cons_succ, List.getElem_cons_zero])
          (refine wpAnyH_take (i := 5) (oi := _) (v := ?vt5) rfl (by kernel_rfl) (by kernel_rfl) (by kernel_rfl) (fun _ _ _ h => h) (Or.inl ⟨by kernel_rfl, ?yt5⟩) (by assumption) ?_; rotate_left; (· (intro W0 hSw; have hw1 : W0.cell? ⟨q, 1, none⟩ = some (.int .i64 id) := hSw.cell 1; have hw2 : W0.cell? ⟨q, 2, none⟩ = some (.int .i64 at_) := hSw.cell 2; clear hSw; go_simp; try with_reducible rfl)); simp only [Act.put, List.setIfInBounds_toArray, List.set_cons_zero, List.set_cons_succ, List.getElem_toArray, List.getElem_cons_succ, List.getElem_cons_zero])
          (refine wpAnyH_take (i := 6) (oi := _) (v := ?vt6) rfl (by kernel_rfl) (by kernel_rfl) (by kernel_rfl) (fun _ _ _ h => h) (Or.inl ⟨by kernel_rfl, ?yt6⟩) (by assumption) ?_; rotate_left; (· (intro W0 hSw; have hw1 : W0.cell? ⟨q, 1, none⟩ = some (.int .i64 id) := hSw.cell 1; have hw2 : W0.cell? ⟨q, 2, none⟩ = some (.int .i64 at_) := hSw.cell 2; clear hSw; go_simp; try with_reducible rfl)); simp only [Act.put, List.setIfInBounds_toArray, List.set_cons_zero, List.set_cons_succ, List.getElem_toArray, List.getElem_cons_succ, List.getElem_cons_zero])
          (refine wpAnyH_ready (rs := [1]) (by kernel_rfl) (by simp) ?_; refine AllReadyH.cons (o := _) rfl (fun K hK => ?_) AllReadyH.nil; rw [if_pos (by kernel_rfl)])
          go_simp
          refine (num_any _ _).mono ?_
          rintro e w' ⟨rfl, rfl⟩
          go_simp
          (refine hK.out _ _ ?_ (fun hHeld => ?_))
          · exact hbx
          clear hK
          (refine wpAnyH_ready (rs := [7]) (by kernel_rfl) (by simp) ?_; refine AllReadyH.cons (o := _) rfl (fun K hK => ?_) AllReadyH.nil; rw [if_pos (by kernel_rfl)])
          go_simp
          refine (rset_any id at_ AMD.out.a AMD.out.l AMD.out.i).mono ?_
          rintro e w4 ⟨rfl, hr4⟩
          have AC := Lib.hid (AMD.out.fin hr4)
          have BX4 : Blk w4 q 30 #[.int .i64 kd, .int .i64 id, .int .i64 at_] := by
            obtain ⟨u', -, hg⟩ := hr4
            exact BX3.out.drew.grown hg (by have := tag_ne BX3.out AM.out.a.blk (by decide); simpa using this)
          go_simp
          (refine hK.out _ _ ?_ (fun hHeld => ?_))
          · exact BX4
          clear hK
          (refine wpAnyH_take (i := 8) (oi := _) (v := ?vt8) rfl (by kernel_rfl) (by kernel_rfl) (by kernel_rfl) (fun _ _ _ h => h) (Or.inl ⟨by kernel_rfl, ?yt8⟩) (by assumption) ?_; rotate_left; (· (intro W0 hSw; have hw1 : W0.cell? ⟨q, 1, none⟩ = some (.int .i64 id) := hSw.cell 1; have hw2 : W0.cell? ⟨q, 2, none⟩ = some (.int .i64 at_) := hSw.cell 2; clear hSw; go_simp; try with_reducible rfl)); simp only [Act.put, List.setIfInBounds_toArray, List.set_cons_zero, List.set_cons_succ, List.getElem_toArray, List.getElem_cons_succ, List.getElem_cons_zero])
          (refine wpAnyH_done (by kernel_rfl) ?_ _)
          clear hbx hr4 AM AMD BX3
          generalize setA id at_ S = S5 at AC
          obtain ⟨v5, u5, hac5⟩ := AC.out
          have AK := Lib.hid hac5
          clear hac5 AC
          cases S5 with
          | nil =>
            obtain ⟨A5, cap5, e5⟩ := own_form AK.out.a.row
            have c5 : w4.cell? ⟨r, 0, none⟩ = some (.slice A5 0 cap5) := by have h := AK.out.a.blk.cell 0; rw [e5] at h; exact h
            clear e5
            go_wp2_with fail
            refine (next_to0 AK.out.t).mono ?_
            rintro e w' ⟨rfl, rfl⟩
            go_wp2_with fail
            go_quiet (first | ((go_at_call 10; exact Calls.quiet_of_same ((num_any _ _).mono (fun e w' h => ⟨h.1, h.2.symm⟩)))) | (go_at_call 18; exact Calls.quiet_of_same ((tlen_to (AK.out.quiet_len _).t).mono (fun e w' h => ⟨h.1, h.2.symm⟩))))
            have AQ := Lib.hid (AK.out.quiet_len nq)
            have hw := HW.out
            go_wp2_with fail
            go_roundw
            case rel => exact ⟨k + 1, by first | (clear hw; go_num) | (rw [hw]; rfl), HK.out.1, _, _, _, AQ.out⟩
            case measure =>
              first
                | (have := HK.out; clear hw; simp [intOf]; omega)
                | (show 300 - (intOf (.int .i64 (wrap64 ((k : Int) + 1)))).toNat < 300 - (intOf (.int .i64 (k : Int))).toNat; rw [hw]; clear hw; have := HK.out; show 300 - ((k : Int) + 1).toNat < 300 - (k : Int).toNat; omega)
          | cons x S6 =>
            go_wp2_with fail
            refine (next_to AK.out.t).mono ?_
            rintro e w6 ⟨rfl, -, hb6⟩
            have AK6 := Lib.hid (AK.out.keep hb6)
            obtain ⟨bb, cap5, e5, c5, -, -, x0, x1⟩ := AK6.out.a.at_ (k := 0) (x := x) rfl
            simp only [Nat.zero_mul, Nat.zero_add] at x0 x1
            have e6 : (x :: S6).length = S6.length + 1 := rfl
            rw [e6] at c5
            clear e5 hb6 AK e6
            have hl6 : (0 : Int) < (S6.length : Int) + 1 := by omega
            go_wp2_with fail
            go_quiet (first | ((go_at_call 10; exact Calls.quiet_of_same ((num_any _ _).mono (fun e w' h => ⟨h.1, h.2.symm⟩)))) | (go_at_call 18; exact Calls.quiet_of_same ((tlen_to (AK6.out.quiet_len _).t).mono (fun e w' h => ⟨h.1, h.2.symm⟩))))
            have AQ := Lib.hid (AK6.out.quiet_len nq)
            have hw := HW.out
            go_wp2_with fail
            go_roundw
            case rel => exact ⟨k + 1, by first | (clear hw; go_num) | (rw [hw]; rfl), HK.out.1, _, _, _, AQ.out⟩
            case measure =>
              first
                | (have := HK.out; clear hw; simp [intOf]; omega)
                | (show 300 - (intOf (.int .i64 (wrap64 ((k : Int) + 1)))).toNat < 300 - (intOf (.int .i64 (k : Int))).toNat; rw [hw]; clear hw; have := HK.out; show 300 - ((k : Int) + 1).toNat < 300 - (k : Int).toNat; omega)
        · by_cases c8 : kd < 8
          · go_wp2_with fail
            generalize wr.alloc (.cells #[.int .i64 kd, .int .i64 id, .int .i64 at_] 30) = wb at *
            generalize wr.heap.size = q at *
            refine (stop_to id HB.out.t HIW.out).mono ?_
            rintro e w3 ⟨rfl, v3, h3, hm3⟩
            have AM := Lib.hid (HB.out.mv h3 hm3)
            have BX3 := Lib.hid (blk_mv BX.out HB.out.t hm3)
            clear h3 hm3 q0 q1 q2 H HB BX
            go_wp2_with fail
            have hbx : Blk w3.drew q 30 #[.int .i64 kd, .int .i64 id, .int .i64 at_] := BX3.out
            have hA3 := AM.out.drew
            have AMD := Lib.hid hA3
            clear hA3
            refine wp_region_held_drew (S := fun W => Blk W q 30 #[.int .i64 kd, .int .i64 id, .int .i64 at_]) (by kernel_rfl) hbx (fun hHeld => ?_)
            (refine wpAnyH_take (i := 0) (oi := _) (v := ?vtb0) rfl (by kernel_rfl) (by kernel_rfl) (by kernel_rfl) (fun _ _ _ h => h) (Or.inl ⟨by kernel_rfl, ?ytb0⟩) (by assumption) ?_; rotate_left; (· (intro W0 hSw; have hw1 : W0.cell? ⟨q, 1, none⟩ = some (.int .i64 id) := hSw.cell 1; have hw2 : W0.cell? ⟨q, 2, none⟩ = some (.int .i64 at_) := hSw.cell 2; clear hSw; go_simp; try with_reducible rfl)); simp only [Act.put, List.setIfInBounds_toArray, List.set_cons_zero, List.set_cons_succ, List.getElem_toArray, List.getElem_cons_succ, List.getElem_cons_zero])
            (refine wpAnyH_take (i := 2) (oi := _) (v := ?vtb2) rfl (by kernel_rfl) (by kernel_rfl) (by kernel_rfl) (fun _ _ _ h => h) (Or.inl ⟨by kernel_rfl, ?ytb2⟩) (by assumption) ?_; rotate_left; (· (intro W0 hSw; have hw1 : W0.cell? ⟨q, 1, none⟩ = some (.int .i64 id) := hSw.cell 1; have hw2 : W0.cell? ⟨q, 2, none⟩ = some (.int .i64 at_) := hSw.cell 2; clear hSw; go_simp; try with_reducible rfl)); simp only [Act.put, List.setIfInBounds_toArray, List.set_cons_zero, List.set_cons_succ, List.getElem_toArray, List.getElem_cons_succ, List.getElem_cons_zero])
            (refine wpAnyH_take (i := 3) (oi := _) (v := ?vtb3) rfl (by kernel_rfl) (by kernel_rfl) (by kernel_rfl) (fun _ _ _ h => h) (Or.inl ⟨by kernel_rfl, ?ytb3⟩) (by assumption) ?_; rotate_left; (· (intro W0 hSw; have hw1 : W0.cell? ⟨q, 1, none⟩ = some (.int .i64 id) := hSw.cell 1; have hw2 : W0.cell? ⟨q, 2, none⟩ = some (.int .i64 at_) := hSw.cell 2; clear hSw; go_simp; try with_reducible rfl)); simp only [Act.put, List.setIfInBounds_toArray, List.set_cons_zero, List.set_cons_succ, List.getElem_toArray, List.getElem_cons_succ, List.getElem_cons_zero])
            (refine wpAnyH_take (i := 4) (oi := _) (v := ?vtb4) rfl (by kernel_rfl) (by kernel_rfl) (by kernel_rfl) (fun _ _ _ h => h) (Or.inl ⟨by kernel_rfl, ?ytb4⟩) (by assumption) ?_; rotate_left; (· (intro W0 hSw; have hw1 : W0.cell? ⟨q, 1, none⟩ = some (.int .i64 id) := hSw.cell 1; have hw2 : W0.cell? ⟨q, 2, none⟩ = some (.int .i64 at_) := hSw.cell 2; clear hSw; go_simp; try with_reducible rfl)); simp only [Act.put, List.setIfInBounds_toArray, List.set_cons_zero, List.set_cons_succ, List.getElem_toArray, List.getElem_cons_succ, List.getElem_cons_zero])
            (refine wpAnyH_ready (rs := [1]) (by kernel_rfl) (by simp) ?_; refine AllReadyH.cons (o := _) rfl (fun K hK => ?_) AllReadyH.nil; rw [if_pos (by kernel_rfl)])
            go_simp
            refine (num_any _ _).mono ?_
            rintro e w' ⟨rfl, rfl⟩
            go_simp
            (refine hK.out _ _ ?_ (fun hHeld => ?_))
            · exact hbx
            clear hK
            (refine wpAnyH_ready (rs := [5]) (by kernel_rfl) (by simp) ?_; refine AllReadyH.cons (o := _) rfl (fun K hK => ?_) AllReadyH.nil; rw [if_pos (by kernel_rfl)])
            go_simp
            refine (rstop_any id AMD.out.a AMD.out.l AMD.out.i).mono ?_
            rintro e w4 ⟨rfl, hr4⟩
            have AC := Lib.hid (AMD.out.fin hr4)
            have BX4 : Blk w4 q 30 #[.int .i64 kd, .int .i64 id, .int .i64 at_] := by
              obtain ⟨u', -, hg⟩ := hr4
              exact BX3.out.drew.grown hg (by have := tag_ne BX3.out AM.out.a.blk (by decide); simpa using this)
            go_simp
            (refine hK.out _ _ ?_ (fun hHeld => ?_))
            · exact BX4
            clear hK
            (refine wpAnyH_take (i := 6) (oi := _) (v := ?vtb6) rfl (by kernel_rfl) (by kernel_rfl) (by kernel_rfl) (fun _ _ _ h => h) (Or.inl ⟨by kernel_rfl, ?ytb6⟩) (by assumption) ?_; rotate_left; (· (intro W0 hSw; have hw1 : W0.cell? ⟨q, 1, none⟩ = some (.int .i64 id) := hSw.cell 1; have hw2 : W0.cell? ⟨q, 2, none⟩ = some (.int .i64 at_) := hSw.cell 2; clear hSw; go_simp; try with_reducible rfl)); simp only [Act.put, List.setIfInBounds_toArray, List.set_cons_zero, List.set_cons_succ, List.getElem_toArray, List.getElem_cons_succ, List.getElem_cons_zero])
            (refine wpAnyH_done (by kernel_rfl) ?_ _)
            clear hbx hr4 AM AMD BX3
            generalize stopT id S = S5 at AC
            obtain ⟨v5, u5, hac5⟩ := AC.out
            have AK := Lib.hid hac5
            clear hac5 AC
            cases S5 with
            | nil =>
              obtain ⟨A5, cap5, e5⟩ := own_form AK.out.a.row
              have c5 : w4.cell? ⟨r, 0, none⟩ = some (.slice A5 0 cap5) := by have h := AK.out.a.blk.cell 0; rw [e5] at h; exact h
              clear e5
              go_wp2_with fail
              refine (next_to0 AK.out.t).mono ?_
              rintro e w' ⟨rfl, rfl⟩
              go_wp2_with fail
              go_quiet (first | ((go_at_call 10; exact Calls.quiet_of_same ((num_any _ _).mono (fun e w' h => ⟨h.1, h.2.symm⟩)))) | (go_at_call 18; exact Calls.quiet_of_same ((tlen_to (AK.out.quiet_len _).t).mono (fun e w' h => ⟨h.1, h.2.symm⟩))))
              have AQ := Lib.hid (AK.out.quiet_len nq)
              have hw := HW.out
              go_wp2_with fail
              go_roundw
              case rel => exact ⟨k + 1, by first | (clear hw; go_num) | (rw [hw]; rfl), HK.out.1, _, _, _, AQ.out⟩
              case measure =>
                first
                  | (have := HK.out; clear hw; simp [intOf]; omega)
                  | (show 300 - (intOf (.int .i64 (wrap64 ((k : Int) + 1)))).toNat < 300 - (intOf (.int .i64 (k : Int))).toNat; rw [hw]; clear hw; have := HK.out; show 300 - ((k : Int) + 1).toNat < 300 - (k : Int).toNat; omega)
            | cons x S6 =>
              go_wp2_with fail
              refine (next_to AK.out.t).mono ?_
              rintro e w6 ⟨rfl, -, hb6⟩
              have AK6 := Lib.hid (AK.out.keep hb6)
              obtain ⟨bb, cap5, e5, c5, -, -, x0, x1⟩ := AK6.out.a.at_ (k := 0) (x := x) rfl
              simp only [Nat.zero_mul, Nat.zero_add] at x0 x1
              have e6 : (x :: S6).length = S6.length + 1 := rfl
              rw [e6] at c5
              clear e5 hb6 AK e6
              have hl6 : (0 : Int) < (S6.length : Int) + 1 := by omega
              go_wp2_with fail
              go_quiet (first | ((go_at_call 10; exact Calls.quiet_of_same ((num_any _ _).mono (fun e w' h => ⟨h.1, h.2.symm⟩)))) | (go_at_call 18; exact Calls.quiet_of_same ((tlen_to (AK6.out.quiet_len _).t).mono (fun e w' h => ⟨h.1, h.2.symm⟩))))
              have AQ := Lib.hid (AK6.out.quiet_len nq)
              have hw := HW.out
              go_wp2_with fail
              go_roundw
              case rel => exact ⟨k + 1, by first | (clear hw; go_num) | (rw [hw]; rfl), HK.out.1, _, _, _, AQ.out⟩
              case measure =>
                first
                  | (have := HK.out; clear hw; simp [intOf]; omega)
                  | (show 300 - (intOf (.int .i64 (wrap64 ((k : Int) + 1)))).toNat < 300 - (intOf (.int .i64 (k : Int))).toNat; rw [hw]; clear hw; have := HK.out; show 300 - ((k : Int) + 1).toNat < 300 - (k : Int).toNat; omega)
          · go_wp2_with fail
            generalize wr.alloc (.cells #[.int .i64 kd, .int .i64 id, .int .i64 at_] 30) = wb at *
            generalize wr.heap.size = q at *
            refine (due_to at_ HB.out.t).mono ?_
            rintro e w3 ⟨A3, cap3, rfl, ho3, v3, h3, hm3⟩
            have AM := Lib.hid (HB.out.mv h3 hm3)
            have BX3 := Lib.hid (blk_mv BX.out HB.out.t hm3)
            have HO3 := Lib.hid ho3
            have HL3 := Lib.hid (Nat.le_trans (due_le at_ S) AM.out.l)
            clear h3 hm3 ho3 q0 q1 q2 H HB BX
            have q2 : w3.cell? ⟨q, 2, none⟩ = some (.int .i64 at_) := BX3.out.cell 2
            go_wp2_with fail
            refine (rdue_any at_ AM.out.a AM.out.l).mono ?_
            rintro e w4 ⟨A4, cap4, rfl, ho4, hr4⟩
            have AC0 := Lib.hid (AM.out.fin hr4)
            have HO4 := Lib.hid (IntsAt.own ho4)
            have HU4 := Lib.hid (IntsAt.own (own_same HO3.out (w' := w4) (fun p hp => by
              obtain ⟨u', -, hg⟩ := hr4
              obtain ⟨cs, fr, hh⟩ := row_tag HO3.out hp
              exact hg.block p (own_lt HO3.out p hp).2 (fun e => tag_ne hh AM.out.a.blk (by decide) (Option.some.inj e)))))
            clear ho4 hr4 HO3 AM BX3 q2
            go_wp2_with fail
            refine (same_any _ _ _ _ _ _ _ _ _ HU4.out HO4.out (by have := HL3.out; omega)).mono ?_
            rintro e w5 ⟨rfl, hb5⟩
            rw [same_refl]
            have AC := Lib.hid (show AcR w0 w5 g mb r (restL at_ S) from by obtain ⟨v5, u5, h5⟩ := AC0.out; exact ⟨v5, u5, h5.keep hb5⟩)
            clear hb5 AC0 HO4 HU4 HL3
            generalize restL at_ S = S5 at AC
            obtain ⟨v5, u5, hac5⟩ := AC.out
            have AK := Lib.hid hac5
            clear hac5 AC
            cases S5 with
            | nil =>
              obtain ⟨A5, cap5, e5⟩ := own_form AK.out.a.row
              have c5 : w5.cell? ⟨r, 0, none⟩ = some (.slice A5 0 cap5) := by have h := AK.out.a.blk.cell 0; rw [e5] at h; exact h
              clear e5
              go_wp2_with fail
              refine (next_to0 AK.out.t).mono ?_
              rintro e w' ⟨rfl, rfl⟩
              go_wp2_with fail
              go_quiet (first | ((go_at_call 10; exact Calls.quiet_of_same ((num_any _ _).mono (fun e w' h => ⟨h.1, h.2.symm⟩)))) | (go_at_call 18; exact Calls.quiet_of_same ((tlen_to (AK.out.quiet_len _).t).mono (fun e w' h => ⟨h.1, h.2.symm⟩))))
              have AQ := Lib.hid (AK.out.quiet_len nq)
              have hw := HW.out
              go_wp2_with fail
              go_roundw
              case rel => exact ⟨k + 1, by first | (clear hw; go_num) | (rw [hw]; rfl), HK.out.1, _, _, _, AQ.out⟩
              case measure =>
                first
                  | (have := HK.out; clear hw; simp [intOf]; omega)
                  | (show 300 - (intOf (.int .i64 (wrap64 ((k : Int) + 1)))).toNat < 300 - (intOf (.int .i64 (k : Int))).toNat; rw [hw]; clear hw; have := HK.out; show 300 - ((k : Int) + 1).toNat < 300 - (k : Int).toNat; omega)
            | cons x S6 =>
              go_wp2_with fail
              refine (next_to AK.out.t).mono ?_
              rintro e w6 ⟨rfl, -, hb6⟩
              have AK6 := Lib.hid (AK.out.keep hb6)
              obtain ⟨bb, cap5, e5, c5, -, -, x0, x1⟩ := AK6.out.a.at_ (k := 0) (x := x) rfl
              simp only [Nat.zero_mul, Nat.zero_add] at x0 x1
              have e6 : (x :: S6).length = S6.length + 1 := rfl
              rw [e6] at c5
              clear e5 hb6 AK e6
              have hl6 : (0 : Int) < (S6.length : Int) + 1 := by omega
              go_wp2_with fail
              go_quiet (first | ((go_at_call 10; exact Calls.quiet_of_same ((num_any _ _).mono (fun e w' h => ⟨h.1, h.2.symm⟩)))) | (go_at_call 18; exact Calls.quiet_of_same ((tlen_to (AK6.out.quiet_len _).t).mono (fun e w' h => ⟨h.1, h.2.symm⟩))))
              have AQ := Lib.hid (AK6.out.quiet_len nq)
              have hw := HW.out
              go_wp2_with fail
              go_roundw
              case rel => exact ⟨k + 1, by first | (clear hw; go_num) | (rw [hw]; rfl), HK.out.1, _, _, _, AQ.out⟩
              case measure =>
                first
                  | (have := HK.out; clear hw; simp [intOf]; omega)
                  | (show 300 - (intOf (.int .i64 (wrap64 ((k : Int) + 1)))).toNat < 300 - (intOf (.int .i64 (k : Int))).toNat; rw [hw]; clear hw; have := HK.out; show 300 - ((k : Int) + 1).toNat < 300 - (k : Int).toNat; omega)
      · have y1 : (k : Int) < (nn : Int) := by omega
        have y2 : ¬ (k : Int) < 300 := by omega
        clear hk hlt h300
        go_wp2_with fail
        refine (awake_any _).mono ?_
        rintro e w9 ⟨rfl, hb9⟩
        have HB9 := Lib.hid (H.out.t.bel.trans (hb9.mono H.out.t.bel.size))
        clear hb9
        go_wp2_with fail
        go_ret
        exact ⟨rfl, HB9.out⟩
    · clear hk
      go_wp2_with fail
      refine (awake_any _).mono ?_
      rintro e w9 ⟨rfl, hb9⟩
      have HB9 := Lib.hid (H.out.t.bel.trans (hb9.mono H.out.t.bel.size))
      clear hb9
      go_wp2_with fail
      go_ret
      exact ⟨rfl, HB9.out⟩
end Go.Proofs.Ytjhcengdaclihaa
