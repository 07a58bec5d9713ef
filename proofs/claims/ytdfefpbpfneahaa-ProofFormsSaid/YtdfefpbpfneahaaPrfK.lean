/- Statement ProofForms: the walk. No condition. -/
import Derived.Test.YtdfefpbpfneahaaPrfI
namespace Go.Proofs.Ytdfefpbpfneahaa
open Go.RowKit
set_option linter.unusedVariables false
set_option linter.unusedSimpArgs false
attribute [local go_sem] conv1 conv1d conv1n conv1a conv1ad conv1an conv2 conv2d conv2n conv2a conv2ad conv2an conv4 conv4d conv4n conv4a conv4ad conv4an conv5 conv5d conv5n conv5a conv5ad conv5an size_nums byt_fold
set_option maxRecDepth 100000 in
set_option maxHeartbeats 8000000 in
theorem forms_bad (name secret expect tries challenge : Int) (a b c d : Nat) (ha : bits .and .i64 name 63 = (a : Int)) (hb : bits .and .i64 secret 127 = (b : Int)) (hc : bits .and .i64 expect 127 = (c : Int)) (hd : bits .and .i64 challenge 511 = (d : Int)) (a1 : a < 64) (b1 : b < 128) (c1 : c < 128) (hN : newB (zstr a) (zstr b) (zstr c) tries = false) (q1 q2 q3 q4 q5 q6 q7 : Bool) (u1 : decide ((a : Int) ≤ 32) = q1) (u2 : decide (1 ≤ (b : Int)) = q2) (u3 : decide ((b : Int) ≤ 64) = q3) (u4 : decide (1 ≤ (c : Int)) = q4) (u5 : decide ((c : Int) ≤ 64) = q5) (u6 : decide (1 ≤ tries) = q6) (u7 : decide (tries ≤ 10) = q7) (hq : (q1 && q2 && q3 && q4 && q5 && q6 && q7) = false) (w : World) :
    Calls Try.prog 5 #[.int .i64 name, .int .i64 secret, .int .i64 expect, .int .i64 tries, .int .i64 challenge] w fun e w' => e = .returned (.bool true) ∧ Below w.heap.size w w' := by
  have ma := fun W => run_mk a (by omega) W
  have mb := fun W => run_mk b (by omega) W
  have mc := fun W => run_mk c (by omega) W
  have HN := Lib.hid hN; clear hN
  go_enter Try.func5, Try.ntmps5
  go_wp2_with (first | (go_at_call 12; refine (num_any _ _).mono ?_; rintro e w' ⟨rfl, rfl⟩))
  refine (awake_any _).mono ?_
  rintro e w0 ⟨rfl, hb0⟩
  have hz0 := hb0.size
  go_wp2_with (first | (go_at_call 12; refine (num_any _ _).mono ?_; rintro e w' ⟨rfl, rfl⟩))
  refine wp_region_held_drew (S := ZS w.heap.size w []) (by kernel_rfl) ⟨hb0.drew, hb0.size, fun p hp => (by cases hp)⟩ (fun hHeld0 => ?_)
  (refine wpAnyH_take (i := 0) (oi := _) (v := ?vz1) rfl (by kernel_rfl) (by kernel_rfl) (by kernel_rfl) (fun _ _ _ h => h) (Or.inl ⟨by kernel_rfl, ?yz1⟩) (by assumption) ?_; rotate_left; (· (intro W0 hSw; skip; go_simp; try with_reducible rfl)); simp only [Act.put, List.setIfInBounds_toArray, List.set_cons_zero, List.set_cons_succ, List.getElem_toArray, List.getElem_cons_succ, List.getElem_cons_zero])
  (refine wpAnyH_take (i := 3) (oi := _) (v := ?vz2) rfl (by kernel_rfl) (by kernel_rfl) (by kernel_rfl) (fun _ _ _ h => h) (Or.inl ⟨by kernel_rfl, ?yz2⟩) (by assumption) ?_; rotate_left; (· (intro W0 hSw; skip; go_simp; try with_reducible rfl)); simp only [Act.put, List.setIfInBounds_toArray, List.set_cons_zero, List.set_cons_succ, List.getElem_toArray, List.getElem_cons_succ, List.getElem_cons_zero])
  (refine wpAnyH_take (i := 6) (oi := _) (v := ?vz3) rfl (by kernel_rfl) (by kernel_rfl) (by kernel_rfl) (fun _ _ _ h => h) (Or.inl ⟨by kernel_rfl, ?yz3⟩) (by assumption) ?_; rotate_left; (· (intro W0 hSw; skip; go_simp; try with_reducible rfl)); simp only [Act.put, List.setIfInBounds_toArray, List.set_cons_zero, List.set_cons_succ, List.getElem_toArray, List.getElem_cons_succ, List.getElem_cons_zero])
  (refine wpAnyH_take (i := 9) (oi := _) (v := ?vz4) rfl (by kernel_rfl) (by kernel_rfl) (by kernel_rfl) (fun _ _ _ h => h) (Or.inl ⟨by kernel_rfl, ?yz4⟩) (by assumption) ?_; rotate_left; (· (intro W0 hSw; skip; go_simp; try with_reducible rfl)); simp only [Act.put, List.setIfInBounds_toArray, List.set_cons_zero, List.set_cons_succ, List.getElem_toArray, List.getElem_cons_succ, List.getElem_cons_zero])
  (refine wpAnyH_ready (rs := [1, 4, 7]) (by kernel_rfl) (by simp) ?_)
  refine AllReadyH.cons (o := _) rfl ?_ ?_
  · intro K hK
    rw [if_pos (by kernel_rfl)]
    go_simp
    refine hK.out _ _ ?_ (fun hHeld1 => ?_)
    · exact zs_alloc (by assumption) _
    have hz1 := zs_cons (b := w0.heap.size) hHeld1 (heap_top _ (.cells (zcells a) 5) (w0.heap.size) (by simp))
    refine weak_with hz1 ?_
    (refine wpAnyH_take (i := 2) (oi := _) (v := ?vz5) rfl (by kernel_rfl) (by kernel_rfl) (by kernel_rfl) (fun _ _ _ h => h) (Or.inl ⟨by kernel_rfl, ?yz5⟩) (by assumption) ?_; rotate_left; (· (intro W0 hSw; have hzz := zconv a W0 _ a (zs_head hSw); go_simp; try with_reducible rfl)); simp only [Act.put, List.setIfInBounds_toArray, List.set_cons_zero, List.set_cons_succ, List.getElem_toArray, List.getElem_cons_succ, List.getElem_cons_zero])
    (refine wpAnyH_ready (rs := [4, 7]) (by kernel_rfl) (by simp) ?_)
    refine AllReadyH.cons (o := _) rfl ?_ ?_
    · intro K hK
      rw [if_pos (by kernel_rfl)]
      go_simp
      refine hK.out _ _ ?_ (fun hHeld2 => ?_)
      · exact zs_alloc (by assumption) _
      have hz2 := zs_cons (b := w0.heap.size + 1) hHeld2 (heap_top _ (.cells (zcells b) 5) (w0.heap.size + 1) (by simp))
      refine weak_with hz2 ?_
      (refine wpAnyH_take (i := 5) (oi := _) (v := ?vz6) rfl (by kernel_rfl) (by kernel_rfl) (by kernel_rfl) (fun _ _ _ h => h) (Or.inl ⟨by kernel_rfl, ?yz6⟩) (by assumption) ?_; rotate_left; (· (intro W0 hSw; have hzz := zconv b W0 _ b (zs_head hSw); go_simp; try with_reducible rfl)); simp only [Act.put, List.setIfInBounds_toArray, List.set_cons_zero, List.set_cons_succ, List.getElem_toArray, List.getElem_cons_succ, List.getElem_cons_zero])
      (refine wpAnyH_ready (rs := [7]) (by kernel_rfl) (by simp) ?_)
      refine AllReadyH.cons (o := _) rfl ?_ ?_
      · intro K hK
        rw [if_pos (by kernel_rfl)]
        go_simp
        refine hK.out _ _ ?_ (fun hHeld3 => ?_)
        · exact zs_alloc (by assumption) _
        have hz3 := zs_cons (b := w0.heap.size + 1 + 1) hHeld3 (heap_top _ (.cells (zcells c) 5) (w0.heap.size + 1 + 1) (by simp))
        refine weak_with hz3 ?_
        (refine wpAnyH_take (i := 8) (oi := _) (v := ?vz7) rfl (by kernel_rfl) (by kernel_rfl) (by kernel_rfl) (fun _ _ _ h => h) (Or.inl ⟨by kernel_rfl, ?yz7⟩) (by assumption) ?_; rotate_left; (· (intro W0 hSw; have hzz := zconv c W0 _ c (zs_head hSw); go_simp; try with_reducible rfl)); simp only [Act.put, List.setIfInBounds_toArray, List.set_cons_zero, List.set_cons_succ, List.getElem_toArray, List.getElem_cons_succ, List.getElem_cons_zero])
        (refine wpAnyH_ready (rs := [10]) (by kernel_rfl) (by simp) ?_; refine AllReadyH.cons (o := _) rfl (fun K hK => ?_) AllReadyH.nil; rw [if_pos (by kernel_rfl)])
        go_simp
        refine (pnew_bad _ _ _ _ _ HN.out).mono ?_
        rintro e w1 ⟨rfl, rfl⟩
        go_simp
        refine hK.out _ _ ?_ (fun hHN => ?_)
        · assumption
        (refine wpAnyH_take (i := 11) (oi := _) (v := ?vz8) rfl (by kernel_rfl) (by kernel_rfl) (by kernel_rfl) (fun _ _ _ h => h) (Or.inl ⟨by kernel_rfl, ?yz8⟩) (by assumption) ?_; rotate_left; (· (intro W0 hSw; skip; go_simp; try with_reducible rfl)); simp only [Act.put, List.setIfInBounds_toArray, List.set_cons_zero, List.set_cons_succ, List.getElem_toArray, List.getElem_cons_succ, List.getElem_cons_zero])
        (refine wpAnyH_take (i := 12) (oi := _) (v := ?vz9) rfl (by kernel_rfl) (by kernel_rfl) (by kernel_rfl) (fun _ _ _ h => h) (Or.inl ⟨by kernel_rfl, ?yz9⟩) (by assumption) ?_; rotate_left; (· (intro W0 hSw; skip; go_simp; try with_reducible rfl)); simp only [Act.put, List.setIfInBounds_toArray, List.set_cons_zero, List.set_cons_succ, List.getElem_toArray, List.getElem_cons_succ, List.getElem_cons_zero])
        (refine wpAnyH_take (i := 13) (oi := _) (v := ?vz10) rfl (by kernel_rfl) (by kernel_rfl) (by kernel_rfl) (fun _ _ _ h => h) (Or.inl ⟨by kernel_rfl, ?yz10⟩) (by assumption) ?_; rotate_left; (· (intro W0 hSw; skip; go_simp; try with_reducible rfl)); simp only [Act.put, List.setIfInBounds_toArray, List.set_cons_zero, List.set_cons_succ, List.getElem_toArray, List.getElem_cons_succ, List.getElem_cons_zero])
        (refine wpAnyH_take (i := 14) (oi := _) (v := ?vz11) rfl (by kernel_rfl) (by kernel_rfl) (by kernel_rfl) (fun _ _ _ h => h) (Or.inl ⟨by kernel_rfl, ?yz11⟩) (by assumption) ?_; rotate_left; (· (intro W0 hSw; skip; go_simp; try with_reducible rfl)); simp only [Act.put, List.setIfInBounds_toArray, List.set_cons_zero, List.set_cons_succ, List.getElem_toArray, List.getElem_cons_succ, List.getElem_cons_zero])
        (refine wpAnyH_take (i := 15) (oi := _) (v := ?vz12) rfl (by kernel_rfl) (by kernel_rfl) (by kernel_rfl) (fun _ _ _ h => h) (Or.inl ⟨by kernel_rfl, ?yz12⟩) (by assumption) ?_; rotate_left; (· (intro W0 hSw; skip; go_simp; try with_reducible rfl)); simp only [Act.put, List.setIfInBounds_toArray, List.set_cons_zero, List.set_cons_succ, List.getElem_toArray, List.getElem_cons_succ, List.getElem_cons_zero])
        (refine wpAnyH_done (by kernel_rfl) ?_ _)
        clear ma mb mc
        have bel1 := hHN.1
        cases q1
        · go_wp2_with (first | (go_at_call 12; refine (num_any _ _).mono ?_; rintro e w' ⟨rfl, rfl⟩))
          go_ret
          exact ⟨rfl, bel1⟩
        · cases q2
          · go_wp2_with (first | (go_at_call 12; refine (num_any _ _).mono ?_; rintro e w' ⟨rfl, rfl⟩))
            go_ret
            exact ⟨rfl, bel1⟩
          · cases q3
            · go_wp2_with (first | (go_at_call 12; refine (num_any _ _).mono ?_; rintro e w' ⟨rfl, rfl⟩))
              go_ret
              exact ⟨rfl, bel1⟩
            · cases q4
              · go_wp2_with (first | (go_at_call 12; refine (num_any _ _).mono ?_; rintro e w' ⟨rfl, rfl⟩))
                go_ret
                exact ⟨rfl, bel1⟩
              · cases q5
                · go_wp2_with (first | (go_at_call 12; refine (num_any _ _).mono ?_; rintro e w' ⟨rfl, rfl⟩))
                  go_ret
                  exact ⟨rfl, bel1⟩
                · cases q6
                  · go_wp2_with (first | (go_at_call 12; refine (num_any _ _).mono ?_; rintro e w' ⟨rfl, rfl⟩))
                    go_ret
                    exact ⟨rfl, bel1⟩
                  · cases q7
                    · go_wp2_with (first | (go_at_call 12; refine (num_any _ _).mono ?_; rintro e w' ⟨rfl, rfl⟩))
                      go_ret
                      exact ⟨rfl, bel1⟩
                    · exact absurd hq (by decide)
      exact AllReadyH.nil
    refine AllReadyH.cons (o := _) rfl ?_ ?_
    · intro K hK
      rw [if_pos (by kernel_rfl)]
      go_simp
      refine hK.out _ _ ?_ (fun hHeld2 => ?_)
      · exact zs_alloc (by assumption) _
      have hz2 := zs_cons (b := w0.heap.size + 1) hHeld2 (heap_top _ (.cells (zcells c) 5) (w0.heap.size + 1) (by simp))
      refine weak_with hz2 ?_
      (refine wpAnyH_take (i := 8) (oi := _) (v := ?vz13) rfl (by kernel_rfl) (by kernel_rfl) (by kernel_rfl) (fun _ _ _ h => h) (Or.inl ⟨by kernel_rfl, ?yz13⟩) (by assumption) ?_; rotate_left; (· (intro W0 hSw; have hzz := zconv c W0 _ c (zs_head hSw); go_simp; try with_reducible rfl)); simp only [Act.put, List.setIfInBounds_toArray, List.set_cons_zero, List.set_cons_succ, List.getElem_toArray, List.getElem_cons_succ, List.getElem_cons_zero])
      (refine wpAnyH_ready (rs := [4]) (by kernel_rfl) (by simp) ?_)
      refine AllReadyH.cons (o := _) rfl ?_ ?_
      · intro K hK
        rw [if_pos (by kernel_rfl)]
        go_simp
        refine hK.out _ _ ?_ (fun hHeld3 => ?_)
        · exact zs_alloc (by assumption) _
        have hz3 := zs_cons (b := w0.heap.size + 1 + 1) hHeld3 (heap_top _ (.cells (zcells b) 5) (w0.heap.size + 1 + 1) (by simp))
        refine weak_with hz3 ?_
        (refine wpAnyH_take (i := 5) (oi := _) (v := ?vz14) rfl (by kernel_rfl) (by kernel_rfl) (by kernel_rfl) (fun _ _ _ h => h) (Or.inl ⟨by kernel_rfl, ?yz14⟩) (by assumption) ?_; rotate_left; (· (intro W0 hSw; have hzz := zconv b W0 _ b (zs_head hSw); go_simp; try with_reducible rfl)); simp only [Act.put, List.setIfInBounds_toArray, List.set_cons_zero, List.set_cons_succ, List.getElem_toArray, List.getElem_cons_succ, List.getElem_cons_zero])
        (refine wpAnyH_ready (rs := [10]) (by kernel_rfl) (by simp) ?_; refine AllReadyH.cons (o := _) rfl (fun K hK => ?_) AllReadyH.nil; rw [if_pos (by kernel_rfl)])
        go_simp
        refine (pnew_bad _ _ _ _ _ HN.out).mono ?_
        rintro e w1 ⟨rfl, rfl⟩
        go_simp
        refine hK.out _ _ ?_ (fun hHN => ?_)
        · assumption
        (refine wpAnyH_take (i := 11) (oi := _) (v := ?vz15) rfl (by kernel_rfl) (by kernel_rfl) (by kernel_rfl) (fun _ _ _ h => h) (Or.inl ⟨by kernel_rfl, ?yz15⟩) (by assumption) ?_; rotate_left; (· (intro W0 hSw; skip; go_simp; try with_reducible rfl)); simp only [Act.put, List.setIfInBounds_toArray, List.set_cons_zero, List.set_cons_succ, List.getElem_toArray, List.getElem_cons_succ, List.getElem_cons_zero])
        (refine wpAnyH_take (i := 12) (oi := _) (v := ?vz16) rfl (by kernel_rfl) (by kernel_rfl) (by kernel_rfl) (fun _ _ _ h => h) (Or.inl ⟨by kernel_rfl, ?yz16⟩) (by assumption) ?_; rotate_left; (· (intro W0 hSw; skip; go_simp; try with_reducible rfl)); simp only [Act.put, List.setIfInBounds_toArray, List.set_cons_zero, List.set_cons_succ, List.getElem_toArray, List.getElem_cons_succ, List.getElem_cons_zero])
        (refine wpAnyH_take (i := 13) (oi := _) (v := ?vz17) rfl (by kernel_rfl) (by kernel_rfl) (by kernel_rfl) (fun _ _ _ h => h) (Or.inl ⟨by kernel_rfl, ?yz17⟩) (by assumption) ?_; rotate_left; (· (intro W0 hSw; skip; go_simp; try with_reducible rfl)); simp only [Act.put, List.setIfInBounds_toArray, List.set_cons_zero, List.set_cons_succ, List.getElem_toArray, List.getElem_cons_succ, List.getElem_cons_zero])
        (refine wpAnyH_take (i := 14) (oi := _) (v := ?vz18) rfl (by kernel_rfl) (by kernel_rfl) (by kernel_rfl) (fun _ _ _ h => h) (Or.inl ⟨by kernel_rfl, ?yz18⟩) (by assumption) ?_; rotate_left; (· (intro W0 hSw; skip; go_simp; try with_reducible rfl)); simp only [Act.put, List.setIfInBounds_toArray, List.set_cons_zero, List.set_cons_succ, List.getElem_toArray, List.getElem_cons_succ, List.getElem_cons_zero])
        (refine wpAnyH_take (i := 15) (oi := _) (v := ?vz19) rfl (by kernel_rfl) (by kernel_rfl) (by kernel_rfl) (fun _ _ _ h => h) (Or.inl ⟨by kernel_rfl, ?yz19⟩) (by assumption) ?_; rotate_left; (· (intro W0 hSw; skip; go_simp; try with_reducible rfl)); simp only [Act.put, List.setIfInBounds_toArray, List.set_cons_zero, List.set_cons_succ, List.getElem_toArray, List.getElem_cons_succ, List.getElem_cons_zero])
        (refine wpAnyH_done (by kernel_rfl) ?_ _)
        clear ma mb mc
        have bel1 := hHN.1
        cases q1
        · go_wp2_with (first | (go_at_call 12; refine (num_any _ _).mono ?_; rintro e w' ⟨rfl, rfl⟩))
          go_ret
          exact ⟨rfl, bel1⟩
        · cases q2
          · go_wp2_with (first | (go_at_call 12; refine (num_any _ _).mono ?_; rintro e w' ⟨rfl, rfl⟩))
            go_ret
            exact ⟨rfl, bel1⟩
          · cases q3
            · go_wp2_with (first | (go_at_call 12; refine (num_any _ _).mono ?_; rintro e w' ⟨rfl, rfl⟩))
              go_ret
              exact ⟨rfl, bel1⟩
            · cases q4
              · go_wp2_with (first | (go_at_call 12; refine (num_any _ _).mono ?_; rintro e w' ⟨rfl, rfl⟩))
                go_ret
                exact ⟨rfl, bel1⟩
              · cases q5
                · go_wp2_with (first | (go_at_call 12; refine (num_any _ _).mono ?_; rintro e w' ⟨rfl, rfl⟩))
                  go_ret
                  exact ⟨rfl, bel1⟩
                · cases q6
                  · go_wp2_with (first | (go_at_call 12; refine (num_any _ _).mono ?_; rintro e w' ⟨rfl, rfl⟩))
                    go_ret
                    exact ⟨rfl, bel1⟩
                  · cases q7
                    · go_wp2_with (first | (go_at_call 12; refine (num_any _ _).mono ?_; rintro e w' ⟨rfl, rfl⟩))
                      go_ret
                      exact ⟨rfl, bel1⟩
                    · exact absurd hq (by decide)
      exact AllReadyH.nil
    exact AllReadyH.nil
  refine AllReadyH.cons (o := _) rfl ?_ ?_
  · intro K hK
    rw [if_pos (by kernel_rfl)]
    go_simp
    refine hK.out _ _ ?_ (fun hHeld1 => ?_)
    · exact zs_alloc (by assumption) _
    have hz1 := zs_cons (b := w0.heap.size) hHeld1 (heap_top _ (.cells (zcells b) 5) (w0.heap.size) (by simp))
    refine weak_with hz1 ?_
    (refine wpAnyH_take (i := 5) (oi := _) (v := ?vz20) rfl (by kernel_rfl) (by kernel_rfl) (by kernel_rfl) (fun _ _ _ h => h) (Or.inl ⟨by kernel_rfl, ?yz20⟩) (by assumption) ?_; rotate_left; (· (intro W0 hSw; have hzz := zconv b W0 _ b (zs_head hSw); go_simp; try with_reducible rfl)); simp only [Act.put, List.setIfInBounds_toArray, List.set_cons_zero, List.set_cons_succ, List.getElem_toArray, List.getElem_cons_succ, List.getElem_cons_zero])
    (refine wpAnyH_ready (rs := [1, 7]) (by kernel_rfl) (by simp) ?_)
    refine AllReadyH.cons (o := _) rfl ?_ ?_
    · intro K hK
      rw [if_pos (by kernel_rfl)]
      go_simp
      refine hK.out _ _ ?_ (fun hHeld2 => ?_)
      · exact zs_alloc (by assumption) _
      have hz2 := zs_cons (b := w0.heap.size + 1) hHeld2 (heap_top _ (.cells (zcells a) 5) (w0.heap.size + 1) (by simp))
      refine weak_with hz2 ?_
      (refine wpAnyH_take (i := 2) (oi := _) (v := ?vz21) rfl (by kernel_rfl) (by kernel_rfl) (by kernel_rfl) (fun _ _ _ h => h) (Or.inl ⟨by kernel_rfl, ?yz21⟩) (by assumption) ?_; rotate_left; (· (intro W0 hSw; have hzz := zconv a W0 _ a (zs_head hSw); go_simp; try with_reducible rfl)); simp only [Act.put, List.setIfInBounds_toArray, List.set_cons_zero, List.set_cons_succ, List.getElem_toArray, List.getElem_cons_succ, List.getElem_cons_zero])
      (refine wpAnyH_ready (rs := [7]) (by kernel_rfl) (by simp) ?_)
      refine AllReadyH.cons (o := _) rfl ?_ ?_
      · intro K hK
        rw [if_pos (by kernel_rfl)]
        go_simp
        refine hK.out _ _ ?_ (fun hHeld3 => ?_)
        · exact zs_alloc (by assumption) _
        have hz3 := zs_cons (b := w0.heap.size + 1 + 1) hHeld3 (heap_top _ (.cells (zcells c) 5) (w0.heap.size + 1 + 1) (by simp))
        refine weak_with hz3 ?_
        (refine wpAnyH_take (i := 8) (oi := _) (v := ?vz22) rfl (by kernel_rfl) (by kernel_rfl) (by kernel_rfl) (fun _ _ _ h => h) (Or.inl ⟨by kernel_rfl, ?yz22⟩) (by assumption) ?_; rotate_left; (· (intro W0 hSw; have hzz := zconv c W0 _ c (zs_head hSw); go_simp; try with_reducible rfl)); simp only [Act.put, List.setIfInBounds_toArray, List.set_cons_zero, List.set_cons_succ, List.getElem_toArray, List.getElem_cons_succ, List.getElem_cons_zero])
        (refine wpAnyH_ready (rs := [10]) (by kernel_rfl) (by simp) ?_; refine AllReadyH.cons (o := _) rfl (fun K hK => ?_) AllReadyH.nil; rw [if_pos (by kernel_rfl)])
        go_simp
        refine (pnew_bad _ _ _ _ _ HN.out).mono ?_
        rintro e w1 ⟨rfl, rfl⟩
        go_simp
        refine hK.out _ _ ?_ (fun hHN => ?_)
        · assumption
        (refine wpAnyH_take (i := 11) (oi := _) (v := ?vz23) rfl (by kernel_rfl) (by kernel_rfl) (by kernel_rfl) (fun _ _ _ h => h) (Or.inl ⟨by kernel_rfl, ?yz23⟩) (by assumption) ?_; rotate_left; (· (intro W0 hSw; skip; go_simp; try with_reducible rfl)); simp only [Act.put, List.setIfInBounds_toArray, List.set_cons_zero, List.set_cons_succ, List.getElem_toArray, List.getElem_cons_succ, List.getElem_cons_zero])
        (refine wpAnyH_take (i := 12) (oi := _) (v := ?vz24) rfl (by kernel_rfl) (by kernel_rfl) (by kernel_rfl) (fun _ _ _ h => h) (Or.inl ⟨by kernel_rfl, ?yz24⟩) (by assumption) ?_; rotate_left; (· (intro W0 hSw; skip; go_simp; try with_reducible rfl)); simp only [Act.put, List.setIfInBounds_toArray, List.set_cons_zero, List.set_cons_succ, List.getElem_toArray, List.getElem_cons_succ, List.getElem_cons_zero])
        (refine wpAnyH_take (i := 13) (oi := _) (v := ?vz25) rfl (by kernel_rfl) (by kernel_rfl) (by kernel_rfl) (fun _ _ _ h => h) (Or.inl ⟨by kernel_rfl, ?yz25⟩) (by assumption) ?_; rotate_left; (· (intro W0 hSw; skip; go_simp; try with_reducible rfl)); simp only [Act.put, List.setIfInBounds_toArray, List.set_cons_zero, List.set_cons_succ, List.getElem_toArray, List.getElem_cons_succ, List.getElem_cons_zero])
        (refine wpAnyH_take (i := 14) (oi := _) (v := ?vz26) rfl (by kernel_rfl) (by kernel_rfl) (by kernel_rfl) (fun _ _ _ h => h) (Or.inl ⟨by kernel_rfl, ?yz26⟩) (by assumption) ?_; rotate_left; (· (intro W0 hSw; skip; go_simp; try with_reducible rfl)); simp only [Act.put, List.setIfInBounds_toArray, List.set_cons_zero, List.set_cons_succ, List.getElem_toArray, List.getElem_cons_succ, List.getElem_cons_zero])
        (refine wpAnyH_take (i := 15) (oi := _) (v := ?vz27) rfl (by kernel_rfl) (by kernel_rfl) (by kernel_rfl) (fun _ _ _ h => h) (Or.inl ⟨by kernel_rfl, ?yz27⟩) (by assumption) ?_; rotate_left; (· (intro W0 hSw; skip; go_simp; try with_reducible rfl)); simp only [Act.put, List.setIfInBounds_toArray, List.set_cons_zero, List.set_cons_succ, List.getElem_toArray, List.getElem_cons_succ, List.getElem_cons_zero])
        (refine wpAnyH_done (by kernel_rfl) ?_ _)
        clear ma mb mc
        have bel1 := hHN.1
        cases q1
        · go_wp2_with (first | (go_at_call 12; refine (num_any _ _).mono ?_; rintro e w' ⟨rfl, rfl⟩))
          go_ret
          exact ⟨rfl, bel1⟩
        · cases q2
          · go_wp2_with (first | (go_at_call 12; refine (num_any _ _).mono ?_; rintro e w' ⟨rfl, rfl⟩))
            go_ret
            exact ⟨rfl, bel1⟩
          · cases q3
            · go_wp2_with (first | (go_at_call 12; refine (num_any _ _).mono ?_; rintro e w' ⟨rfl, rfl⟩))
              go_ret
              exact ⟨rfl, bel1⟩
            · cases q4
              · go_wp2_with (first | (go_at_call 12; refine (num_any _ _).mono ?_; rintro e w' ⟨rfl, rfl⟩))
                go_ret
                exact ⟨rfl, bel1⟩
              · cases q5
                · go_wp2_with (first | (go_at_call 12; refine (num_any _ _).mono ?_; rintro e w' ⟨rfl, rfl⟩))
                  go_ret
                  exact ⟨rfl, bel1⟩
                · cases q6
                  · go_wp2_with (first | (go_at_call 12; refine (num_any _ _).mono ?_; rintro e w' ⟨rfl, rfl⟩))
                    go_ret
                    exact ⟨rfl, bel1⟩
                  · cases q7
                    · go_wp2_with (first | (go_at_call 12; refine (num_any _ _).mono ?_; rintro e w' ⟨rfl, rfl⟩))
                      go_ret
                      exact ⟨rfl, bel1⟩
                    · exact absurd hq (by decide)
      exact AllReadyH.nil
    refine AllReadyH.cons (o := _) rfl ?_ ?_
    · intro K hK
      rw [if_pos (by kernel_rfl)]
      go_simp
      refine hK.out _ _ ?_ (fun hHeld2 => ?_)
      · exact zs_alloc (by assumption) _
      have hz2 := zs_cons (b := w0.heap.size + 1) hHeld2 (heap_top _ (.cells (zcells c) 5) (w0.heap.size + 1) (by simp))
      refine weak_with hz2 ?_
      (refine wpAnyH_take (i := 8) (oi := _) (v := ?vz28) rfl (by kernel_rfl) (by kernel_rfl) (by kernel_rfl) (fun _ _ _ h => h) (Or.inl ⟨by kernel_rfl, ?yz28⟩) (by assumption) ?_; rotate_left; (· (intro W0 hSw; have hzz := zconv c W0 _ c (zs_head hSw); go_simp; try with_reducible rfl)); simp only [Act.put, List.setIfInBounds_toArray, List.set_cons_zero, List.set_cons_succ, List.getElem_toArray, List.getElem_cons_succ, List.getElem_cons_zero])
      (refine wpAnyH_ready (rs := [1]) (by kernel_rfl) (by simp) ?_)
      refine AllReadyH.cons (o := _) rfl ?_ ?_
      · intro K hK
        rw [if_pos (by kernel_rfl)]
        go_simp
        refine hK.out _ _ ?_ (fun hHeld3 => ?_)
        · exact zs_alloc (by assumption) _
        have hz3 := zs_cons (b := w0.heap.size + 1 + 1) hHeld3 (heap_top _ (.cells (zcells a) 5) (w0.heap.size + 1 + 1) (by simp))
        refine weak_with hz3 ?_
        (refine wpAnyH_take (i := 2) (oi := _) (v := ?vz29) rfl (by kernel_rfl) (by kernel_rfl) (by kernel_rfl) (fun _ _ _ h => h) (Or.inl ⟨by kernel_rfl, ?yz29⟩) (by assumption) ?_; rotate_left; (· (intro W0 hSw; have hzz := zconv a W0 _ a (zs_head hSw); go_simp; try with_reducible rfl)); simp only [Act.put, List.setIfInBounds_toArray, List.set_cons_zero, List.set_cons_succ, List.getElem_toArray, List.getElem_cons_succ, List.getElem_cons_zero])
        (refine wpAnyH_ready (rs := [10]) (by kernel_rfl) (by simp) ?_; refine AllReadyH.cons (o := _) rfl (fun K hK => ?_) AllReadyH.nil; rw [if_pos (by kernel_rfl)])
        go_simp
        refine (pnew_bad _ _ _ _ _ HN.out).mono ?_
        rintro e w1 ⟨rfl, rfl⟩
        go_simp
        refine hK.out _ _ ?_ (fun hHN => ?_)
        · assumption
        (refine wpAnyH_take (i := 11) (oi := _) (v := ?vz30) rfl (by kernel_rfl) (by kernel_rfl) (by kernel_rfl) (fun _ _ _ h => h) (Or.inl ⟨by kernel_rfl, ?yz30⟩) (by assumption) ?_; rotate_left; (· (intro W0 hSw; skip; go_simp; try with_reducible rfl)); simp only [Act.put, List.setIfInBounds_toArray, List.set_cons_zero, List.set_cons_succ, List.getElem_toArray, List.getElem_cons_succ, List.getElem_cons_zero])
        (refine wpAnyH_take (i := 12) (oi := _) (v := ?vz31) rfl (by kernel_rfl) (by kernel_rfl) (by kernel_rfl) (fun _ _ _ h => h) (Or.inl ⟨by kernel_rfl, ?yz31⟩) (by assumption) ?_; rotate_left; (· (intro W0 hSw; skip; go_simp; try with_reducible rfl)); simp only [Act.put, List.setIfInBounds_toArray, List.set_cons_zero, List.set_cons_succ, List.getElem_toArray, List.getElem_cons_succ, List.getElem_cons_zero])
        (refine wpAnyH_take (i := 13) (oi := _) (v := ?vz32) rfl (by kernel_rfl) (by kernel_rfl) (by kernel_rfl) (fun _ _ _ h => h) (Or.inl ⟨by kernel_rfl, ?yz32⟩) (by assumption) ?_; rotate_left; (· (intro W0 hSw; skip; go_simp; try with_reducible rfl)); simp only [Act.put, List.setIfInBounds_toArray, List.set_cons_zero, List.set_cons_succ, List.getElem_toArray, List.getElem_cons_succ, List.getElem_cons_zero])
        (refine wpAnyH_take (i := 14) (oi := _) (v := ?vz33) rfl (by kernel_rfl) (by kernel_rfl) (by kernel_rfl) (fun _ _ _ h => h) (Or.inl ⟨by kernel_rfl, ?yz33⟩) (by assumption) ?_; rotate_left; (· (intro W0 hSw; skip; go_simp; try with_reducible rfl)); simp only [Act.put, List.setIfInBounds_toArray, List.set_cons_zero, List.set_cons_succ, List.getElem_toArray, List.getElem_cons_succ, List.getElem_cons_zero])
        (refine wpAnyH_take (i := 15) (oi := _) (v := ?vz34) rfl (by kernel_rfl) (by kernel_rfl) (by kernel_rfl) (fun _ _ _ h => h) (Or.inl ⟨by kernel_rfl, ?yz34⟩) (by assumption) ?_; rotate_left; (· (intro W0 hSw; skip; go_simp; try with_reducible rfl)); simp only [Act.put, List.setIfInBounds_toArray, List.set_cons_zero, List.set_cons_succ, List.getElem_toArray, List.getElem_cons_succ, List.getElem_cons_zero])
        (refine wpAnyH_done (by kernel_rfl) ?_ _)
        clear ma mb mc
        have bel1 := hHN.1
        cases q1
        · go_wp2_with (first | (go_at_call 12; refine (num_any _ _).mono ?_; rintro e w' ⟨rfl, rfl⟩))
          go_ret
          exact ⟨rfl, bel1⟩
        · cases q2
          · go_wp2_with (first | (go_at_call 12; refine (num_any _ _).mono ?_; rintro e w' ⟨rfl, rfl⟩))
            go_ret
            exact ⟨rfl, bel1⟩
          · cases q3
            · go_wp2_with (first | (go_at_call 12; refine (num_any _ _).mono ?_; rintro e w' ⟨rfl, rfl⟩))
              go_ret
              exact ⟨rfl, bel1⟩
            · cases q4
              · go_wp2_with (first | (go_at_call 12; refine (num_any _ _).mono ?_; rintro e w' ⟨rfl, rfl⟩))
                go_ret
                exact ⟨rfl, bel1⟩
              · cases q5
                · go_wp2_with (first | (go_at_call 12; refine (num_any _ _).mono ?_; rintro e w' ⟨rfl, rfl⟩))
                  go_ret
                  exact ⟨rfl, bel1⟩
                · cases q6
                  · go_wp2_with (first | (go_at_call 12; refine (num_any _ _).mono ?_; rintro e w' ⟨rfl, rfl⟩))
                    go_ret
                    exact ⟨rfl, bel1⟩
                  · cases q7
                    · go_wp2_with (first | (go_at_call 12; refine (num_any _ _).mono ?_; rintro e w' ⟨rfl, rfl⟩))
                      go_ret
                      exact ⟨rfl, bel1⟩
                    · exact absurd hq (by decide)
      exact AllReadyH.nil
    exact AllReadyH.nil
  refine AllReadyH.cons (o := _) rfl ?_ ?_
  · intro K hK
    rw [if_pos (by kernel_rfl)]
    go_simp
    refine hK.out _ _ ?_ (fun hHeld1 => ?_)
    · exact zs_alloc (by assumption) _
    have hz1 := zs_cons (b := w0.heap.size) hHeld1 (heap_top _ (.cells (zcells c) 5) (w0.heap.size) (by simp))
    refine weak_with hz1 ?_
    (refine wpAnyH_take (i := 8) (oi := _) (v := ?vz35) rfl (by kernel_rfl) (by kernel_rfl) (by kernel_rfl) (fun _ _ _ h => h) (Or.inl ⟨by kernel_rfl, ?yz35⟩) (by assumption) ?_; rotate_left; (· (intro W0 hSw; have hzz := zconv c W0 _ c (zs_head hSw); go_simp; try with_reducible rfl)); simp only [Act.put, List.setIfInBounds_toArray, List.set_cons_zero, List.set_cons_succ, List.getElem_toArray, List.getElem_cons_succ, List.getElem_cons_zero])
    (refine wpAnyH_ready (rs := [1, 4]) (by kernel_rfl) (by simp) ?_)
    refine AllReadyH.cons (o := _) rfl ?_ ?_
    · intro K hK
      rw [if_pos (by kernel_rfl)]
      go_simp
      refine hK.out _ _ ?_ (fun hHeld2 => ?_)
      · exact zs_alloc (by assumption) _
      have hz2 := zs_cons (b := w0.heap.size + 1) hHeld2 (heap_top _ (.cells (zcells a) 5) (w0.heap.size + 1) (by simp))
      refine weak_with hz2 ?_
      (refine wpAnyH_take (i := 2) (oi := _) (v := ?vz36) rfl (by kernel_rfl) (by kernel_rfl) (by kernel_rfl) (fun _ _ _ h => h) (Or.inl ⟨by kernel_rfl, ?yz36⟩) (by assumption) ?_; rotate_left; (· (intro W0 hSw; have hzz := zconv a W0 _ a (zs_head hSw); go_simp; try with_reducible rfl)); simp only [Act.put, List.setIfInBounds_toArray, List.set_cons_zero, List.set_cons_succ, List.getElem_toArray, List.getElem_cons_succ, List.getElem_cons_zero])
      (refine wpAnyH_ready (rs := [4]) (by kernel_rfl) (by simp) ?_)
      refine AllReadyH.cons (o := _) rfl ?_ ?_
      · intro K hK
        rw [if_pos (by kernel_rfl)]
        go_simp
        refine hK.out _ _ ?_ (fun hHeld3 => ?_)
        · exact zs_alloc (by assumption) _
        have hz3 := zs_cons (b := w0.heap.size + 1 + 1) hHeld3 (heap_top _ (.cells (zcells b) 5) (w0.heap.size + 1 + 1) (by simp))
        refine weak_with hz3 ?_
        (refine wpAnyH_take (i := 5) (oi := _) (v := ?vz37) rfl (by kernel_rfl) (by kernel_rfl) (by kernel_rfl) (fun _ _ _ h => h) (Or.inl ⟨by kernel_rfl, ?yz37⟩) (by assumption) ?_; rotate_left; (· (intro W0 hSw; have hzz := zconv b W0 _ b (zs_head hSw); go_simp; try with_reducible rfl)); simp only [Act.put, List.setIfInBounds_toArray, List.set_cons_zero, List.set_cons_succ, List.getElem_toArray, List.getElem_cons_succ, List.getElem_cons_zero])
        (refine wpAnyH_ready (rs := [10]) (by kernel_rfl) (by simp) ?_; refine AllReadyH.cons (o := _) rfl (fun K hK => ?_) AllReadyH.nil; rw [if_pos (by kernel_rfl)])
        go_simp
        refine (pnew_bad _ _ _ _ _ HN.out).mono ?_
        rintro e w1 ⟨rfl, rfl⟩
        go_simp
        refine hK.out _ _ ?_ (fun hHN => ?_)
        · assumption
        (refine wpAnyH_take (i := 11) (oi := _) (v := ?vz38) rfl (by kernel_rfl) (by kernel_rfl) (by kernel_rfl) (fun _ _ _ h => h) (Or.inl ⟨by kernel_rfl, ?yz38⟩) (by assumption) ?_; rotate_left; (· (intro W0 hSw; skip; go_simp; try with_reducible rfl)); simp only [Act.put, List.setIfInBounds_toArray, List.set_cons_zero, List.set_cons_succ, List.getElem_toArray, List.getElem_cons_succ, List.getElem_cons_zero])
        (refine wpAnyH_take (i := 12) (oi := _) (v := ?vz39) rfl (by kernel_rfl) (by kernel_rfl) (by kernel_rfl) (fun _ _ _ h => h) (Or.inl ⟨by kernel_rfl, ?yz39⟩) (by assumption) ?_; rotate_left; (· (intro W0 hSw; skip; go_simp; try with_reducible rfl)); simp only [Act.put, List.setIfInBounds_toArray, List.set_cons_zero, List.set_cons_succ, List.getElem_toArray, List.getElem_cons_succ, List.getElem_cons_zero])
        (refine wpAnyH_take (i := 13) (oi := _) (v := ?vz40) rfl (by kernel_rfl) (by kernel_rfl) (by kernel_rfl) (fun _ _ _ h => h) (Or.inl ⟨by kernel_rfl, ?yz40⟩) (by assumption) ?_; rotate_left; (· (intro W0 hSw; skip; go_simp; try with_reducible rfl)); simp only [Act.put, List.setIfInBounds_toArray, List.set_cons_zero, List.set_cons_succ, List.getElem_toArray, List.getElem_cons_succ, List.getElem_cons_zero])
        (refine wpAnyH_take (i := 14) (oi := _) (v := ?vz41) rfl (by kernel_rfl) (by kernel_rfl) (by kernel_rfl) (fun _ _ _ h => h) (Or.inl ⟨by kernel_rfl, ?yz41⟩) (by assumption) ?_; rotate_left; (· (intro W0 hSw; skip; go_simp; try with_reducible rfl)); simp only [Act.put, List.setIfInBounds_toArray, List.set_cons_zero, List.set_cons_succ, List.getElem_toArray, List.getElem_cons_succ, List.getElem_cons_zero])
        (refine wpAnyH_take (i := 15) (oi := _) (v := ?vz42) rfl (by kernel_rfl) (by kernel_rfl) (by kernel_rfl) (fun _ _ _ h => h) (Or.inl ⟨by kernel_rfl, ?yz42⟩) (by assumption) ?_; rotate_left; (· (intro W0 hSw; skip; go_simp; try with_reducible rfl)); simp only [Act.put, List.setIfInBounds_toArray, List.set_cons_zero, List.set_cons_succ, List.getElem_toArray, List.getElem_cons_succ, List.getElem_cons_zero])
        (refine wpAnyH_done (by kernel_rfl) ?_ _)
        clear ma mb mc
        have bel1 := hHN.1
        cases q1
        · go_wp2_with (first | (go_at_call 12; refine (num_any _ _).mono ?_; rintro e w' ⟨rfl, rfl⟩))
          go_ret
          exact ⟨rfl, bel1⟩
        · cases q2
          · go_wp2_with (first | (go_at_call 12; refine (num_any _ _).mono ?_; rintro e w' ⟨rfl, rfl⟩))
            go_ret
            exact ⟨rfl, bel1⟩
          · cases q3
            · go_wp2_with (first | (go_at_call 12; refine (num_any _ _).mono ?_; rintro e w' ⟨rfl, rfl⟩))
              go_ret
              exact ⟨rfl, bel1⟩
            · cases q4
              · go_wp2_with (first | (go_at_call 12; refine (num_any _ _).mono ?_; rintro e w' ⟨rfl, rfl⟩))
                go_ret
                exact ⟨rfl, bel1⟩
              · cases q5
                · go_wp2_with (first | (go_at_call 12; refine (num_any _ _).mono ?_; rintro e w' ⟨rfl, rfl⟩))
                  go_ret
                  exact ⟨rfl, bel1⟩
                · cases q6
                  · go_wp2_with (first | (go_at_call 12; refine (num_any _ _).mono ?_; rintro e w' ⟨rfl, rfl⟩))
                    go_ret
                    exact ⟨rfl, bel1⟩
                  · cases q7
                    · go_wp2_with (first | (go_at_call 12; refine (num_any _ _).mono ?_; rintro e w' ⟨rfl, rfl⟩))
                      go_ret
                      exact ⟨rfl, bel1⟩
                    · exact absurd hq (by decide)
      exact AllReadyH.nil
    refine AllReadyH.cons (o := _) rfl ?_ ?_
    · intro K hK
      rw [if_pos (by kernel_rfl)]
      go_simp
      refine hK.out _ _ ?_ (fun hHeld2 => ?_)
      · exact zs_alloc (by assumption) _
      have hz2 := zs_cons (b := w0.heap.size + 1) hHeld2 (heap_top _ (.cells (zcells b) 5) (w0.heap.size + 1) (by simp))
      refine weak_with hz2 ?_
      (refine wpAnyH_take (i := 5) (oi := _) (v := ?vz43) rfl (by kernel_rfl) (by kernel_rfl) (by kernel_rfl) (fun _ _ _ h => h) (Or.inl ⟨by kernel_rfl, ?yz43⟩) (by assumption) ?_; rotate_left; (· (intro W0 hSw; have hzz := zconv b W0 _ b (zs_head hSw); go_simp; try with_reducible rfl)); simp only [Act.put, List.setIfInBounds_toArray, List.set_cons_zero, List.set_cons_succ, List.getElem_toArray, List.getElem_cons_succ, List.getElem_cons_zero])
      (refine wpAnyH_ready (rs := [1]) (by kernel_rfl) (by simp) ?_)
      refine AllReadyH.cons (o := _) rfl ?_ ?_
      · intro K hK
        rw [if_pos (by kernel_rfl)]
        go_simp
        refine hK.out _ _ ?_ (fun hHeld3 => ?_)
        · exact zs_alloc (by assumption) _
        have hz3 := zs_cons (b := w0.heap.size + 1 + 1) hHeld3 (heap_top _ (.cells (zcells a) 5) (w0.heap.size + 1 + 1) (by simp))
        refine weak_with hz3 ?_
        (refine wpAnyH_take (i := 2) (oi := _) (v := ?vz44) rfl (by kernel_rfl) (by kernel_rfl) (by kernel_rfl) (fun _ _ _ h => h) (Or.inl ⟨by kernel_rfl, ?yz44⟩) (by assumption) ?_; rotate_left; (· (intro W0 hSw; have hzz := zconv a W0 _ a (zs_head hSw); go_simp; try with_reducible rfl)); simp only [Act.put, List.setIfInBounds_toArray, List.set_cons_zero, List.set_cons_succ, List.getElem_toArray, List.getElem_cons_succ, List.getElem_cons_zero])
        (refine wpAnyH_ready (rs := [10]) (by kernel_rfl) (by simp) ?_; refine AllReadyH.cons (o := _) rfl (fun K hK => ?_) AllReadyH.nil; rw [if_pos (by kernel_rfl)])
        go_simp
        refine (pnew_bad _ _ _ _ _ HN.out).mono ?_
        rintro e w1 ⟨rfl, rfl⟩
        go_simp
        refine hK.out _ _ ?_ (fun hHN => ?_)
        · assumption
        (refine wpAnyH_take (i := 11) (oi := _) (v := ?vz45) rfl (by kernel_rfl) (by kernel_rfl) (by kernel_rfl) (fun _ _ _ h => h) (Or.inl ⟨by kernel_rfl, ?yz45⟩) (by assumption) ?_; rotate_left; (· (intro W0 hSw; skip; go_simp; try with_reducible rfl)); simp only [Act.put, List.setIfInBounds_toArray, List.set_cons_zero, List.set_cons_succ, List.getElem_toArray, List.getElem_cons_succ, List.getElem_cons_zero])
        (refine wpAnyH_take (i := 12) (oi := _) (v := ?vz46) rfl (by kernel_rfl) (by kernel_rfl) (by kernel_rfl) (fun _ _ _ h => h) (Or.inl ⟨by kernel_rfl, ?yz46⟩) (by assumption) ?_; rotate_left; (· (intro W0 hSw; skip; go_simp; try with_reducible rfl)); simp only [Act.put, List.setIfInBounds_toArray, List.set_cons_zero, List.set_cons_succ, List.getElem_toArray, List.getElem_cons_succ, List.getElem_cons_zero])
        (refine wpAnyH_take (i := 13) (oi := _) (v := ?vz47) rfl (by kernel_rfl) (by kernel_rfl) (by kernel_rfl) (fun _ _ _ h => h) (Or.inl ⟨by kernel_rfl, ?yz47⟩) (by assumption) ?_; rotate_left; (· (intro W0 hSw; skip; go_simp; try with_reducible rfl)); simp only [Act.put, List.setIfInBounds_toArray, List.set_cons_zero, List.set_cons_succ, List.getElem_toArray, List.getElem_cons_succ, List.getElem_cons_zero])
        (refine wpAnyH_take (i := 14) (oi := _) (v := ?vz48) rfl (by kernel_rfl) (by kernel_rfl) (by kernel_rfl) (fun _ _ _ h => h) (Or.inl ⟨by kernel_rfl, ?yz48⟩) (by assumption) ?_; rotate_left; (· (intro W0 hSw; skip; go_simp; try with_reducible rfl)); simp only [Act.put, List.setIfInBounds_toArray, List.set_cons_zero, List.set_cons_succ, List.getElem_toArray, List.getElem_cons_succ, List.getElem_cons_zero])
        (refine wpAnyH_take (i := 15) (oi := _) (v := ?vz49) rfl (by kernel_rfl) (by kernel_rfl) (by kernel_rfl) (fun _ _ _ h => h) (Or.inl ⟨by kernel_rfl, ?yz49⟩) (by assumption) ?_; rotate_left; (· (intro W0 hSw; skip; go_simp; try with_reducible rfl)); simp only [Act.put, List.setIfInBounds_toArray, List.set_cons_zero, List.set_cons_succ, List.getElem_toArray, List.getElem_cons_succ, List.getElem_cons_zero])
        (refine wpAnyH_done (by kernel_rfl) ?_ _)
        clear ma mb mc
        have bel1 := hHN.1
        cases q1
        · go_wp2_with (first | (go_at_call 12; refine (num_any _ _).mono ?_; rintro e w' ⟨rfl, rfl⟩))
          go_ret
          exact ⟨rfl, bel1⟩
        · cases q2
          · go_wp2_with (first | (go_at_call 12; refine (num_any _ _).mono ?_; rintro e w' ⟨rfl, rfl⟩))
            go_ret
            exact ⟨rfl, bel1⟩
          · cases q3
            · go_wp2_with (first | (go_at_call 12; refine (num_any _ _).mono ?_; rintro e w' ⟨rfl, rfl⟩))
              go_ret
              exact ⟨rfl, bel1⟩
            · cases q4
              · go_wp2_with (first | (go_at_call 12; refine (num_any _ _).mono ?_; rintro e w' ⟨rfl, rfl⟩))
                go_ret
                exact ⟨rfl, bel1⟩
              · cases q5
                · go_wp2_with (first | (go_at_call 12; refine (num_any _ _).mono ?_; rintro e w' ⟨rfl, rfl⟩))
                  go_ret
                  exact ⟨rfl, bel1⟩
                · cases q6
                  · go_wp2_with (first | (go_at_call 12; refine (num_any _ _).mono ?_; rintro e w' ⟨rfl, rfl⟩))
                    go_ret
                    exact ⟨rfl, bel1⟩
                  · cases q7
                    · go_wp2_with (first | (go_at_call 12; refine (num_any _ _).mono ?_; rintro e w' ⟨rfl, rfl⟩))
                      go_ret
                      exact ⟨rfl, bel1⟩
                    · exact absurd hq (by decide)
      exact AllReadyH.nil
    exact AllReadyH.nil
  exact AllReadyH.nil
theorem forms_walk (name secret expect tries challenge : Int) (k0 : (Lit.int .i64 name).wf = true) (k1 : (Lit.int .i64 secret).wf = true) (k2 : (Lit.int .i64 expect).wf = true) (k3 : (Lit.int .i64 tries).wf = true) (k4 : (Lit.int .i64 challenge).wf = true) (w : World) :
    Calls Try.prog 5 #[.int .i64 name, .int .i64 secret, .int .i64 expect, .int .i64 tries, .int .i64 challenge] w fun e w' => e = .returned (.bool true) ∧ Below w.heap.size w w' := by
  obtain ⟨a, ha, ha1, -⟩ := mask_nat 6 (by decide) 63 (by decide) name
  obtain ⟨b, hb, hb1, -⟩ := mask_nat 7 (by decide) 127 (by decide) secret
  obtain ⟨c, hc, hc1, -⟩ := mask_nat 7 (by decide) 127 (by decide) expect
  obtain ⟨d, hd, hd1, -⟩ := mask_nat 9 (by decide) 511 (by decide) challenge
  have a1 : a < 64 := ha1
  have b1 : b < 128 := hb1
  have c1 : c < 128 := hc1
  have d1 : d < 512 := hd1
  by_cases h : a ≤ 32 ∧ 1 ≤ b ∧ b ≤ 64 ∧ 1 ≤ c ∧ c ≤ 64 ∧ 1 ≤ tries ∧ tries ≤ 10
  · obtain ⟨x1, x2, x3, x4, x5, x6, x7⟩ := h
    exact forms_ok name secret expect tries challenge a b c d ha hb hc hd x1 x2 x3 x4 x5 x6 x7 d1 w
  · refine forms_bad name secret expect tries challenge a b c d ha hb hc hd a1 b1 c1 ?_ _ _ _ _ _ _ _ rfl rfl rfl rfl rfl rfl rfl ?_ w
    · unfold newB mayB
      simp only [zstr_size]
      rw [Bool.eq_false_iff]
      intro e
      simp only [Bool.and_eq_true, decide_eq_true_eq] at e
      exact h (by omega)
    · rw [Bool.eq_false_iff]
      intro e
      simp only [Bool.and_eq_true, decide_eq_true_eq] at e
      exact h (by omega)
end Go.Proofs.Ytdfefpbpfneahaa
