/- The contract of package circuit's Dial, the sides being right. No condition but sizes. -/
import Derived.Test.YtmbnonkbflchoaaCirB
import Derived.Test.YtmbnonkbflchoaaQReg
import Derived.Deep.RegionHeld3
namespace Go.Proofs.Ytmbnonkbflchoaa
open Go.RowKit
set_option linter.unusedVariables false
set_option linter.unusedSimpArgs false
open Go.Maps
theorem wrap_one {x : Int} (h0 : 0 ≤ x) (h1 : x < 4611686018427387904) : wrap64 (x + 1) = x + 1 := IntWalk.wrap64_in _ (by omega)
theorem wrap_less {x : Int} (h0 : 0 < x) (h1 : x < 4611686018427387904) : wrap64 (x - 1) = x - 1 := IntWalk.wrap64_in _ (by omega)
theorem side_two {n : Int} (h : sideB n = true) : n = 0 ∨ n = 1 := by
  unfold sideB at h
  simpa using h
theorem chg_drewN {a w : World} {g mb : Nat} (h : Chg a w g mb) (n : Nat) : Chg a (w.drewN n) g mb := h
theorem chg_drew {a w : World} {g mb : Nat} (h : Chg a w g mb) : Chg a w.drew g mb := h
theorem sw_drewN {w : World} {g : Nat} {s : Sw} (h : SwAt w g s) (n : Nat) : SwAt (w.drewN n) g s := h
def DialB (g : Nat) (s s' : Sw) (c err : Int) (w : World) (e : Ending) (w' : World) : Prop := e = .returned (.tuple #[.int .i64 c, .int .i64 err]) ∧ SwAt w' g s' ∧ Chg w w' g s.mb
set_option maxHeartbeats 4000000 in
theorem dial_full (g : Nat) (s : Sw) (a b : Int) (w : World) (h : SwAt w g s) (ha : sideB a = true) (hb : b = 1 - a) (hf : s.ports ≤ (Maps.size s.D : Int)) : Calls Try.prog 10 #[.pointer (some ⟨g, 0, none⟩), .int .i64 a, .int .i64 b] w (DialB g s s 0 2501 w) := by
  have c0 : w.cell? ⟨g, 0, none⟩ = some (.int .i64 s.ports) := h.1.cell 0
  have c2 : w.cell? ⟨g, 2, none⟩ = some (.int .i64 s.last) := h.1.cell 2
  have c3 : w.cell? ⟨g, 3, none⟩ = some (.map (some s.mb)) := h.1.cell 3
  have c4 : w.cell? ⟨g, 4, none⟩ = some (.int .i64 s.owed) := h.1.cell 4
  have hfz := h.1.frozen
  have HM := h.2
  have hl2 : ∀ (n : Nat) ty, (Builtin.len_ #[48] ty #[.map (some s.mb)]).run Try.prog (w.drewN n) = .ok (.int .i64 (Maps.size s.D)) (w.drewN n) := fun n ty => World.ownsMap.len (w := w.drewN n) HM Try.underlying48 ty
  have H := Lib.hid h
  clear h
  have hdd : decide (s.ports ≤ (Maps.size s.D : Int)) = true := decide_eq_true hf
  rcases side_two ha with rfl | rfl
  all_goals
    subst hb
    go_enter Try.func10, Try.ntmps10
    go_wp2_with (first | (go_at_call 21; refine (side_any _ _).mono ?_; rintro e w' ⟨rfl, rfl⟩))
    go_quiet (fail)
    go_wp2
    go_ret2
    exact ⟨rfl, sw_drewN H _, chg_drewN (chg_refl _ _ _) _⟩
set_option maxHeartbeats 4000000 in
theorem dial_owed (g : Nat) (s : Sw) (a b : Int) (w : World) (h : SwAt w g s) (ha : sideB a = true) (hb : b = 1 - a) (hf : (Maps.size s.D : Int) < s.ports) (ho : 0 < s.owed) (ho1 : s.owed < 4611686018427387904) : Calls Try.prog 10 #[.pointer (some ⟨g, 0, none⟩), .int .i64 a, .int .i64 b] w (DialB g s { s with owed := s.owed - 1 } 0 2503 w) := by
  have c0 : w.cell? ⟨g, 0, none⟩ = some (.int .i64 s.ports) := h.1.cell 0
  have c2 : w.cell? ⟨g, 2, none⟩ = some (.int .i64 s.last) := h.1.cell 2
  have c3 : w.cell? ⟨g, 3, none⟩ = some (.map (some s.mb)) := h.1.cell 3
  have c4 : w.cell? ⟨g, 4, none⟩ = some (.int .i64 s.owed) := h.1.cell 4
  have hfz := h.1.frozen
  have HM := h.2
  have hl2 : ∀ (n : Nat) ty, (Builtin.len_ #[48] ty #[.map (some s.mb)]).run Try.prog (w.drewN n) = .ok (.int .i64 (Maps.size s.D)) (w.drewN n) := fun n ty => World.ownsMap.len (w := w.drewN n) HM Try.underlying48 ty
  have H := Lib.hid h
  clear h
  have hdd : decide (s.ports ≤ (Maps.size s.D : Int)) = false := decide_eq_false (by omega)
  have hw1 := wrap_less ho ho1
  have hs : ∀ n, SwAt ((w.drewN n).setCell ⟨g, 4, none⟩ (.int .i64 (s.owed - 1))) g { s with owed := s.owed - 1 } := fun n => ⟨(H.out.1.drewN n).set_ 4 (.int .i64 (s.owed - 1)), World.ownsMap.setCell (w := w.drewN n) H.out.2 (by have := sw_ne H.out; exact fun e => this e.symm) _⟩
  have HS := Lib.hid hs; clear hs
  rcases side_two ha with rfl | rfl
  all_goals
    subst hb
    go_enter Try.func10, Try.ntmps10
    go_wp2_with (first | (go_at_call 21; refine (side_any _ _).mono ?_; rintro e w' ⟨rfl, rfl⟩))
    go_quiet (fail)
    go_wp2
    go_ret2
    exact ⟨rfl, HS.out _, chg_gr (gr_set (gr_drewN (gr_refl w g) _) (.inl rfl) _) (.inl rfl)⟩
set_option maxRecDepth 100000 in
set_option maxHeartbeats 4000000 in
theorem dial_ok (g : Nat) (s : Sw) (a b : Int) (w : World) (h : SwAt w g s) (ha : sideB a = true) (hb : b = 1 - a) (hf : (Maps.size s.D : Int) < s.ports) (ho : s.owed ≤ 0) (h0 : 0 ≤ s.last) (h1 : s.last < 4611686018427387904) (hmax : Maps.size s.D < maxLen) : Calls Try.prog 10 #[.pointer (some ⟨g, 0, none⟩), .int .i64 a, .int .i64 b] w fun e w' => DialB g s { s with last := s.last + 1, D := s.D.put (keyD (s.last + 1)) (.lit (.int .i64 (w.heap.size : Int))) } (s.last + 1) 0 w e w' ∧ Blk w' w.heap.size 58 #[.slice none 0 0, .int .i64 0, .int .i64 0, .slice none 0 0, .int .i64 0, .int .i64 0] := by
  have c0 : w.cell? ⟨g, 0, none⟩ = some (.int .i64 s.ports) := h.1.cell 0
  have c2 : w.cell? ⟨g, 2, none⟩ = some (.int .i64 s.last) := h.1.cell 2
  have c3 : w.cell? ⟨g, 3, none⟩ = some (.map (some s.mb)) := h.1.cell 3
  have c4 : w.cell? ⟨g, 4, none⟩ = some (.int .i64 s.owed) := h.1.cell 4
  have hfz := h.1.frozen
  have HM := h.2
  have hl2 : ∀ (n : Nat) ty, (Builtin.len_ #[48] ty #[.map (some s.mb)]).run Try.prog (w.drewN n) = .ok (.int .i64 (Maps.size s.D)) (w.drewN n) := fun n ty => World.ownsMap.len (w := w.drewN n) HM Try.underlying48 ty
  have H := Lib.hid h
  clear h
  have hdd : decide (s.ports ≤ (Maps.size s.D : Int)) = false := decide_eq_false (by omega)
  have hoo : decide (0 < s.owed) = false := decide_eq_false (by omega)
  have hw1 := wrap_one h0 h1
  have hwf : (Lit.int .i64 (s.last + 1)).wf = true := WalkArith.wf_i64 (by omega)
  rcases side_two ha with rfl | rfl
  · subst hb
    go_enter Try.func10, Try.ntmps10
    go_wp2_with (first | (go_at_call 21; refine (side_any _ _).mono ?_; rintro e w' ⟨rfl, rfl⟩))
    go_quiet (fail)
    go_wp2
    have hB : Blk ((w.drewN nq).setCell ⟨g, 2, none⟩ (.int .i64 (s.last + 1))) g 50 (swC { s with last := s.last + 1 }) := (H.out.1.drewN nq).set_ 2 (.int .i64 (s.last + 1))
    have hMp : ((w.drewN nq).setCell ⟨g, 2, none⟩ (.int .i64 (s.last + 1))).ownsMap Try.prog 3 ptrE s.mb (Maps.size s.D) s.D := World.ownsMap.setCell (w := w.drewN nq) H.out.2 (by have := sw_ne H.out; exact fun e => this e.symm) _
    have hgr : w.grownBy ((w.drewN nq).setCell ⟨g, 2, none⟩ (.int .i64 (s.last + 1))) (some g) := gr_set (gr_drewN (gr_refl w g) _) (.inl rfl) _
    have hsz : ((w.drewN nq).setCell ⟨g, 2, none⟩ (.int .i64 (s.last + 1))).heap.size = w.heap.size := by simp [World.drewN]
    generalize (w.drewN nq).setCell ⟨g, 2, none⟩ (.int .i64 (s.last + 1)) = W1 at *
    refine wp_region_held_drew (S := fun W => Blk W g 50 (swC { s with last := s.last + 1 })) (by kernel_rfl) hB.drew (fun hHeld => ?_)
    (refine wpAnyH_take (i := 0) (oi := _) (v := ?vza0) rfl (by kernel_rfl) (by kernel_rfl) (by kernel_rfl) (fun _ _ _ h => h) (Or.inl ⟨by kernel_rfl, ?yza0⟩) (by assumption) ?_; rotate_left; (· (intro W0 hSw; have hw1 : W0.cell? ⟨g, 3, none⟩ = some (.map (some s.mb)) := hSw.cell 3; have hw2 : W0.cell? ⟨g, 2, none⟩ = some (.int .i64 (s.last + 1)) := hSw.cell 2; clear hSw; go_simp; try with_reducible rfl)); simp only [Act.put, List.setIfInBounds_toArray, List.set_cons_zero, List.set_cons_succ, List.getElem_toArray, List.getElem_cons_succ, List.getElem_cons_zero])
    (refine wpAnyH_take (i := 1) (oi := _) (v := ?vza1) rfl (by kernel_rfl) (by kernel_rfl) (by kernel_rfl) (fun _ _ _ h => h) (Or.inl ⟨by kernel_rfl, ?yza1⟩) (by assumption) ?_; rotate_left; (· (intro W0 hSw; have hw1 : W0.cell? ⟨g, 3, none⟩ = some (.map (some s.mb)) := hSw.cell 3; have hw2 : W0.cell? ⟨g, 2, none⟩ = some (.int .i64 (s.last + 1)) := hSw.cell 2; clear hSw; go_simp; try with_reducible rfl)); simp only [Act.put, List.setIfInBounds_toArray, List.set_cons_zero, List.set_cons_succ, List.getElem_toArray, List.getElem_cons_succ, List.getElem_cons_zero])
    (refine wpAnyH_take (i := 2) (oi := _) (v := ?vza2) rfl (by kernel_rfl) (by kernel_rfl) (by kernel_rfl) (fun _ _ _ h => h) (Or.inl ⟨by kernel_rfl, ?yza2⟩) (by assumption) ?_; rotate_left; (· (intro W0 hSw; have hw1 : W0.cell? ⟨g, 3, none⟩ = some (.map (some s.mb)) := hSw.cell 3; have hw2 : W0.cell? ⟨g, 2, none⟩ = some (.int .i64 (s.last + 1)) := hSw.cell 2; clear hSw; go_simp; try with_reducible rfl)); simp only [Act.put, List.setIfInBounds_toArray, List.set_cons_zero, List.set_cons_succ, List.getElem_toArray, List.getElem_cons_succ, List.getElem_cons_zero])
    (refine wpAnyH_take (i := 3) (oi := _) (v := ?vza3) rfl (by kernel_rfl) (by kernel_rfl) (by kernel_rfl) (fun _ _ _ h => h) (Or.inl ⟨by kernel_rfl, ?yza3⟩) (by assumption) ?_; rotate_left; (· (intro W0 hSw; have hw1 : W0.cell? ⟨g, 3, none⟩ = some (.map (some s.mb)) := hSw.cell 3; have hw2 : W0.cell? ⟨g, 2, none⟩ = some (.int .i64 (s.last + 1)) := hSw.cell 2; clear hSw; go_simp; try with_reducible rfl)); simp only [Act.put, List.setIfInBounds_toArray, List.set_cons_zero, List.set_cons_succ, List.getElem_toArray, List.getElem_cons_succ, List.getElem_cons_zero])
    (refine wpAnyH_take (i := 4) (oi := _) (v := ?vza4) rfl (by kernel_rfl) (by kernel_rfl) (by kernel_rfl) (fun _ _ _ h => h) (Or.inl ⟨by kernel_rfl, ?yza4⟩) (by assumption) ?_; rotate_left; (· (intro W0 hSw; have hw1 : W0.cell? ⟨g, 3, none⟩ = some (.map (some s.mb)) := hSw.cell 3; have hw2 : W0.cell? ⟨g, 2, none⟩ = some (.int .i64 (s.last + 1)) := hSw.cell 2; clear hSw; go_simp; try with_reducible rfl)); simp only [Act.put, List.setIfInBounds_toArray, List.set_cons_zero, List.set_cons_succ, List.getElem_toArray, List.getElem_cons_succ, List.getElem_cons_zero])
    (refine wpAnyH_take (i := 5) (oi := _) (v := ?vza5) rfl (by kernel_rfl) (by kernel_rfl) (by kernel_rfl) (fun _ _ _ h => h) (Or.inl ⟨by kernel_rfl, ?yza5⟩) (by assumption) ?_; rotate_left; (· (intro W0 hSw; have hw1 : W0.cell? ⟨g, 3, none⟩ = some (.map (some s.mb)) := hSw.cell 3; have hw2 : W0.cell? ⟨g, 2, none⟩ = some (.int .i64 (s.last + 1)) := hSw.cell 2; clear hSw; go_simp; try with_reducible rfl)); simp only [Act.put, List.setIfInBounds_toArray, List.set_cons_zero, List.set_cons_succ, List.getElem_toArray, List.getElem_cons_succ, List.getElem_cons_zero])
    (refine wpAnyH_take (i := 6) (oi := _) (v := ?vza6) rfl (by kernel_rfl) (by kernel_rfl) (by kernel_rfl) (fun _ _ _ h => h) (Or.inl ⟨by kernel_rfl, ?yza6⟩) (by assumption) ?_; rotate_left; (· (intro W0 hSw; have hw1 : W0.cell? ⟨g, 3, none⟩ = some (.map (some s.mb)) := hSw.cell 3; have hw2 : W0.cell? ⟨g, 2, none⟩ = some (.int .i64 (s.last + 1)) := hSw.cell 2; clear hSw; go_simp; try with_reducible rfl)); simp only [Act.put, List.setIfInBounds_toArray, List.set_cons_zero, List.set_cons_succ, List.getElem_toArray, List.getElem_cons_succ, List.getElem_cons_zero])
    (refine wpAnyH_take (i := 7) (oi := _) (v := ?vza7) rfl (by kernel_rfl) (by kernel_rfl) (by kernel_rfl) (fun _ _ _ h => h) (Or.inl ⟨by kernel_rfl, ?yza7⟩) (by assumption) ?_; rotate_left; (· (intro W0 hSw; have hw1 : W0.cell? ⟨g, 3, none⟩ = some (.map (some s.mb)) := hSw.cell 3; have hw2 : W0.cell? ⟨g, 2, none⟩ = some (.int .i64 (s.last + 1)) := hSw.cell 2; clear hSw; go_simp; try with_reducible rfl)); simp only [Act.put, List.setIfInBounds_toArray, List.set_cons_zero, List.set_cons_succ, List.getElem_toArray, List.getElem_cons_succ, List.getElem_cons_zero])
    (refine wpAnyH_take (i := 8) (oi := _) (v := ?vza8) rfl (by kernel_rfl) (by kernel_rfl) (by kernel_rfl) (fun _ _ _ h => h) (Or.inl ⟨by kernel_rfl, ?yza8⟩) (by assumption) ?_; rotate_left; (· (intro W0 hSw; have hw1 : W0.cell? ⟨g, 3, none⟩ = some (.map (some s.mb)) := hSw.cell 3; have hw2 : W0.cell? ⟨g, 2, none⟩ = some (.int .i64 (s.last + 1)) := hSw.cell 2; clear hSw; go_simp; try with_reducible rfl)); simp only [Act.put, List.setIfInBounds_toArray, List.set_cons_zero, List.set_cons_succ, List.getElem_toArray, List.getElem_cons_succ, List.getElem_cons_zero])
    (refine wpAnyH_ready (rs := [9]) (by kernel_rfl) (by simp) ?_; refine AllReadyH.cons (o := _) rfl (fun K hK => ?_) AllReadyH.nil; rw [if_pos (by kernel_rfl)])
    go_simp
    refine hK.out _ _ ?_ (fun hHeld9 => ?_)
    · exact Blk.alloc hHeld _
    have hM9 := World.ownsMap.drew (World.ownsMap.alloc hMp (.cells #[.slice none 0 0, .int .i64 0, .int .i64 0, .slice none 0 0, .int .i64 0, .int .i64 0] 58))
    obtain ⟨w5, hrun, hown5, hgr5⟩ := World.ownsMap.update hM9 lawK Try.underlying48 hmax (key := .int .i64 (s.last + 1)) (val := .pointer (some ⟨w.heap.size, 0, none⟩)) (kl := keyD (s.last + 1)) (d := .lit (.int .i64 (w.heap.size : Int))) (ps := []) (keyOf_int_mk Try.underlying3 hwf) rfl
    have hq : Blk (W1.alloc (.cells #[.slice none 0 0, .int .i64 0, .int .i64 0, .slice none 0 0, .int .i64 0, .int .i64 0] 58)).drew w.heap.size 58 #[.slice none 0 0, .int .i64 0, .int .i64 0, .slice none 0 0, .int .i64 0, .int .i64 0] := by
      have h := Blk.new W1 58 #[.slice none 0 0, .int .i64 0, .int .i64 0, .slice none 0 0, .int .i64 0, .int .i64 0]
      rw [hsz] at h
      exact h
    have hmlt := World.ownsMap.lt H.out.2
    have hgne := sw_ne H.out
    have b5 : Blk w5 g 50 (swC { s with last := s.last + 1 }) := hHeld9.grown hgr5 (by intro e; exact hgne (Option.some.inj e))
    have q5 : Blk w5 w.heap.size 58 #[.slice none 0 0, .int .i64 0, .int .i64 0, .slice none 0 0, .int .i64 0, .int .i64 0] := hq.grown hgr5 (by intro e; have e := Option.some.inj e; omega)
    have fin : SwAt w5 g { s with last := s.last + 1, D := s.D.put (keyD (s.last + 1)) (.lit (.int .i64 (w.heap.size : Int))) } := ⟨b5, shrink hown5⟩
    have chg : Chg w w5 g s.mb := chg_trans (chg_gr hgr (.inl rfl)) (chg_trans (chg_gr (r := g) (gr_drew (gr_alloc (gr_refl W1 g) _)) (.inl rfl)) (chg_gr hgr5 (.inr rfl)))
    have z2 : w5.cell? ⟨g, 2, none⟩ = some (.int .i64 (s.last + 1)) := b5.cell 2
    have FIN := Lib.hid fin; have CHG := Lib.hid chg; have Q5 := Lib.hid q5
    clear fin chg q5 hown5 hgr5 hq
    (refine wpAnyH_ready (rs := [10]) (by kernel_rfl) (by simp) ?_; refine AllReadyH.cons (o := _) rfl (fun K hK => ?_) AllReadyH.nil; rw [if_pos (by kernel_rfl)])
    go_simp
    refine hK.out _ _ ?_ (fun hHeld10 => ?_)
    · exact b5
    clear b5
    (refine wpAnyH_done (by kernel_rfl) ?_ _)
    go_wp2
    go_ret2
    exact ⟨⟨rfl, FIN, CHG⟩, Q5⟩
  · subst hb
    go_enter Try.func10, Try.ntmps10
    go_wp2_with (first | (go_at_call 21; refine (side_any _ _).mono ?_; rintro e w' ⟨rfl, rfl⟩))
    go_quiet (fail)
    go_wp2
    have hB : Blk ((w.drewN nq).setCell ⟨g, 2, none⟩ (.int .i64 (s.last + 1))) g 50 (swC { s with last := s.last + 1 }) := (H.out.1.drewN nq).set_ 2 (.int .i64 (s.last + 1))
    have hMp : ((w.drewN nq).setCell ⟨g, 2, none⟩ (.int .i64 (s.last + 1))).ownsMap Try.prog 3 ptrE s.mb (Maps.size s.D) s.D := World.ownsMap.setCell (w := w.drewN nq) H.out.2 (by have := sw_ne H.out; exact fun e => this e.symm) _
    have hgr : w.grownBy ((w.drewN nq).setCell ⟨g, 2, none⟩ (.int .i64 (s.last + 1))) (some g) := gr_set (gr_drewN (gr_refl w g) _) (.inl rfl) _
    have hsz : ((w.drewN nq).setCell ⟨g, 2, none⟩ (.int .i64 (s.last + 1))).heap.size = w.heap.size := by simp [World.drewN]
    generalize (w.drewN nq).setCell ⟨g, 2, none⟩ (.int .i64 (s.last + 1)) = W1 at *
    refine wp_region_held_drew (S := fun W => Blk W g 50 (swC { s with last := s.last + 1 })) (by kernel_rfl) hB.drew (fun hHeld => ?_)
    (refine wpAnyH_take (i := 0) (oi := _) (v := ?vzb0) rfl (by kernel_rfl) (by kernel_rfl) (by kernel_rfl) (fun _ _ _ h => h) (Or.inl ⟨by kernel_rfl, ?yzb0⟩) (by assumption) ?_; rotate_left; (· (intro W0 hSw; have hw1 : W0.cell? ⟨g, 3, none⟩ = some (.map (some s.mb)) := hSw.cell 3; have hw2 : W0.cell? ⟨g, 2, none⟩ = some (.int .i64 (s.last + 1)) := hSw.cell 2; clear hSw; go_simp; try with_reducible rfl)); simp only [Act.put, List.setIfInBounds_toArray, List.set_cons_zero, List.set_cons_succ, List.getElem_toArray, List.getElem_cons_succ, List.getElem_cons_zero])
    (refine wpAnyH_take (i := 1) (oi := _) (v := ?vzb1) rfl (by kernel_rfl) (by kernel_rfl) (by kernel_rfl) (fun _ _ _ h => h) (Or.inl ⟨by kernel_rfl, ?yzb1⟩) (by assumption) ?_; rotate_left; (· (intro W0 hSw; have hw1 : W0.cell? ⟨g, 3, none⟩ = some (.map (some s.mb)) := hSw.cell 3; have hw2 : W0.cell? ⟨g, 2, none⟩ = some (.int .i64 (s.last + 1)) := hSw.cell 2; clear hSw; go_simp; try with_reducible rfl)); simp only [Act.put, List.setIfInBounds_toArray, List.set_cons_zero, List.set_cons_succ, List.getElem_toArray, List.getElem_cons_succ, List.getElem_cons_zero])
    (refine wpAnyH_take (i := 2) (oi := _) (v := ?vzb2) rfl (by kernel_rfl) (by kernel_rfl) (by kernel_rfl) (fun _ _ _ h => h) (Or.inl ⟨by kernel_rfl, ?yzb2⟩) (by assumption) ?_; rotate_left; (· (intro W0 hSw; have hw1 : W0.cell? ⟨g, 3, none⟩ = some (.map (some s.mb)) := hSw.cell 3; have hw2 : W0.cell? ⟨g, 2, none⟩ = some (.int .i64 (s.last + 1)) := hSw.cell 2; clear hSw; go_simp; try with_reducible rfl)); simp only [Act.put, List.setIfInBounds_toArray, List.set_cons_zero, List.set_cons_succ, List.getElem_toArray, List.getElem_cons_succ, List.getElem_cons_zero])
    (refine wpAnyH_take (i := 3) (oi := _) (v := ?vzb3) rfl (by kernel_rfl) (by kernel_rfl) (by kernel_rfl) (fun _ _ _ h => h) (Or.inl ⟨by kernel_rfl, ?yzb3⟩) (by assumption) ?_; rotate_left; (· (intro W0 hSw; have hw1 : W0.cell? ⟨g, 3, none⟩ = some (.map (some s.mb)) := hSw.cell 3; have hw2 : W0.cell? ⟨g, 2, none⟩ = some (.int .i64 (s.last + 1)) := hSw.cell 2; clear hSw; go_simp; try with_reducible rfl)); simp only [Act.put, List.setIfInBounds_toArray, List.set_cons_zero, List.set_cons_succ, List.getElem_toArray, List.getElem_cons_succ, List.getElem_cons_zero])
    (refine wpAnyH_take (i := 4) (oi := _) (v := ?vzb4) rfl (by kernel_rfl) (by kernel_rfl) (by kernel_rfl) (fun _ _ _ h => h) (Or.inl ⟨by kernel_rfl, ?yzb4⟩) (by assumption) ?_; rotate_left; (· (intro W0 hSw; have hw1 : W0.cell? ⟨g, 3, none⟩ = some (.map (some s.mb)) := hSw.cell 3; have hw2 : W0.cell? ⟨g, 2, none⟩ = some (.int .i64 (s.last + 1)) := hSw.cell 2; clear hSw; go_simp; try with_reducible rfl)); simp only [Act.put, List.setIfInBounds_toArray, List.set_cons_zero, List.set_cons_succ, List.getElem_toArray, List.getElem_cons_succ, List.getElem_cons_zero])
    (refine wpAnyH_take (i := 5) (oi := _) (v := ?vzb5) rfl (by kernel_rfl) (by kernel_rfl) (by kernel_rfl) (fun _ _ _ h => h) (Or.inl ⟨by kernel_rfl, ?yzb5⟩) (by assumption) ?_; rotate_left; (· (intro W0 hSw; have hw1 : W0.cell? ⟨g, 3, none⟩ = some (.map (some s.mb)) := hSw.cell 3; have hw2 : W0.cell? ⟨g, 2, none⟩ = some (.int .i64 (s.last + 1)) := hSw.cell 2; clear hSw; go_simp; try with_reducible rfl)); simp only [Act.put, List.setIfInBounds_toArray, List.set_cons_zero, List.set_cons_succ, List.getElem_toArray, List.getElem_cons_succ, List.getElem_cons_zero])
    (refine wpAnyH_take (i := 6) (oi := _) (v := ?vzb6) rfl (by kernel_rfl) (by kernel_rfl) (by kernel_rfl) (fun _ _ _ h => h) (Or.inl ⟨by kernel_rfl, ?yzb6⟩) (by assumption) ?_; rotate_left; (· (intro W0 hSw; have hw1 : W0.cell? ⟨g, 3, none⟩ = some (.map (some s.mb)) := hSw.cell 3; have hw2 : W0.cell? ⟨g, 2, none⟩ = some (.int .i64 (s.last + 1)) := hSw.cell 2; clear hSw; go_simp; try with_reducible rfl)); simp only [Act.put, List.setIfInBounds_toArray, List.set_cons_zero, List.set_cons_succ, List.getElem_toArray, List.getElem_cons_succ, List.getElem_cons_zero])
    (refine wpAnyH_take (i := 7) (oi := _) (v := ?vzb7) rfl (by kernel_rfl) (by kernel_rfl) (by kernel_rfl) (fun _ _ _ h => h) (Or.inl ⟨by kernel_rfl, ?yzb7⟩) (by assumption) ?_; rotate_left; (· (intro W0 hSw; have hw1 : W0.cell? ⟨g, 3, none⟩ = some (.map (some s.mb)) := hSw.cell 3; have hw2 : W0.cell? ⟨g, 2, none⟩ = some (.int .i64 (s.last + 1)) := hSw.cell 2; clear hSw; go_simp; try with_reducible rfl)); simp only [Act.put, List.setIfInBounds_toArray, List.set_cons_zero, List.set_cons_succ, List.getElem_toArray, List.getElem_cons_succ, List.getElem_cons_zero])
    (refine wpAnyH_take (i := 8) (oi := _) (v := ?vzb8) rfl (by kernel_rfl) (by kernel_rfl) (by kernel_rfl) (fun _ _ _ h => h) (Or.inl ⟨by kernel_rfl, ?yzb8⟩) (by assumption) ?_; rotate_left; (· (intro W0 hSw; have hw1 : W0.cell? ⟨g, 3, none⟩ = some (.map (some s.mb)) := hSw.cell 3; have hw2 : W0.cell? ⟨g, 2, none⟩ = some (.int .i64 (s.last + 1)) := hSw.cell 2; clear hSw; go_simp; try with_reducible rfl)); simp only [Act.put, List.setIfInBounds_toArray, List.set_cons_zero, List.set_cons_succ, List.getElem_toArray, List.getElem_cons_succ, List.getElem_cons_zero])
    (refine wpAnyH_ready (rs := [9]) (by kernel_rfl) (by simp) ?_; refine AllReadyH.cons (o := _) rfl (fun K hK => ?_) AllReadyH.nil; rw [if_pos (by kernel_rfl)])
    go_simp
    refine hK.out _ _ ?_ (fun hHeld9 => ?_)
    · exact Blk.alloc hHeld _
    have hM9 := World.ownsMap.drew (World.ownsMap.alloc hMp (.cells #[.slice none 0 0, .int .i64 0, .int .i64 0, .slice none 0 0, .int .i64 0, .int .i64 0] 58))
    obtain ⟨w5, hrun, hown5, hgr5⟩ := World.ownsMap.update hM9 lawK Try.underlying48 hmax (key := .int .i64 (s.last + 1)) (val := .pointer (some ⟨w.heap.size, 0, none⟩)) (kl := keyD (s.last + 1)) (d := .lit (.int .i64 (w.heap.size : Int))) (ps := []) (keyOf_int_mk Try.underlying3 hwf) rfl
    have hq : Blk (W1.alloc (.cells #[.slice none 0 0, .int .i64 0, .int .i64 0, .slice none 0 0, .int .i64 0, .int .i64 0] 58)).drew w.heap.size 58 #[.slice none 0 0, .int .i64 0, .int .i64 0, .slice none 0 0, .int .i64 0, .int .i64 0] := by
      have h := Blk.new W1 58 #[.slice none 0 0, .int .i64 0, .int .i64 0, .slice none 0 0, .int .i64 0, .int .i64 0]
      rw [hsz] at h
      exact h
    have hmlt := World.ownsMap.lt H.out.2
    have hgne := sw_ne H.out
    have b5 : Blk w5 g 50 (swC { s with last := s.last + 1 }) := hHeld9.grown hgr5 (by intro e; exact hgne (Option.some.inj e))
    have q5 : Blk w5 w.heap.size 58 #[.slice none 0 0, .int .i64 0, .int .i64 0, .slice none 0 0, .int .i64 0, .int .i64 0] := hq.grown hgr5 (by intro e; have e := Option.some.inj e; omega)
    have fin : SwAt w5 g { s with last := s.last + 1, D := s.D.put (keyD (s.last + 1)) (.lit (.int .i64 (w.heap.size : Int))) } := ⟨b5, shrink hown5⟩
    have chg : Chg w w5 g s.mb := chg_trans (chg_gr hgr (.inl rfl)) (chg_trans (chg_gr (r := g) (gr_drew (gr_alloc (gr_refl W1 g) _)) (.inl rfl)) (chg_gr hgr5 (.inr rfl)))
    have z2 : w5.cell? ⟨g, 2, none⟩ = some (.int .i64 (s.last + 1)) := b5.cell 2
    have FIN := Lib.hid fin; have CHG := Lib.hid chg; have Q5 := Lib.hid q5
    clear fin chg q5 hown5 hgr5 hq
    (refine wpAnyH_ready (rs := [10]) (by kernel_rfl) (by simp) ?_; refine AllReadyH.cons (o := _) rfl (fun K hK => ?_) AllReadyH.nil; rw [if_pos (by kernel_rfl)])
    go_simp
    refine hK.out _ _ ?_ (fun hHeld10 => ?_)
    · exact b5
    clear b5
    (refine wpAnyH_done (by kernel_rfl) ?_ _)
    go_wp2
    go_ret2
    exact ⟨⟨rfl, FIN, CHG⟩, Q5⟩
end Go.Proofs.Ytmbnonkbflchoaa
