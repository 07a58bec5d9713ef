/- The walk of the law ProofForms. No condition. -/
import Derived.Test.YtdfefpbpfneahaaPrfE
import Derived.Test.YtdfefpbpfneahaaMake
import Derived.Deep.RegionHeld3
namespace Go.Proofs.Ytdfefpbpfneahaa
open Go.RowKit
set_option linter.unusedVariables false
set_option linter.unusedSimpArgs false
attribute [local go_sem] conv1 conv1d conv1n conv1a conv1ad conv1an conv2 conv2d conv2n conv2a conv2ad conv2an conv4 conv4d conv4n conv4a conv4ad conv4an conv5 conv5d conv5n conv5a conv5ad conv5an size_nums byt_fold
theorem zconv (k : Nat) (W : World) (b c : Nat) (h : W.heap[b]? = some (.cells (zcells k) 5)) : (convert 41 9 (.slice (some ⟨b, 0, none⟩) k c)).run Try.prog W = .ok (.string (zstr k)) W := by
  have h2 := conv_in (List.replicate k 0) W b c (by rw [h, zcells_eq])
  rw [List.length_replicate] at h2
  exact h2
theorem pnew_ok2 (nm se ex : ByteArray) (tries : Int) (w : World) (h : newB nm se ex tries = true) :
    Calls Try.prog 10 #[.string nm, .string se, .string ex, .int .i64 tries] w fun e w' => ∃ g, e = .returned (.tuple #[.pointer (some ⟨g, 0, none⟩), .int .i64 0]) ∧ w.heap.size ≤ g ∧ PAt w' g ⟨ex, ⟨#[]⟩, tries, false, false, nm, se, false, false⟩ ∧ Below w.heap.size w w' :=
  (pnew_ok nm se ex tries w h).mono fun e w' ⟨h1, h2, h3⟩ => ⟨_, h1, Nat.le_refl _, h2, h3⟩
theorem st_bad {s : PS} {c : ByteArray} (h : ¬ (1 ≤ c.size ∧ c.size ≤ 255)) : pStV s c = chV 0 0 ⟨#[]⟩ ⟨#[]⟩ ∧ pStE s c = 1600 ∧ pSt s c = s := by
  have e : pStE s c = 1600 := by unfold pStE; rw [if_neg h]
  exact ⟨by unfold pStV; rw [if_neg (by rw [e]; decide)], e, by unfold pSt; rw [if_neg (by rw [e]; decide)]⟩
theorem tk_nine (s : PS) : tL s 9 0 ⟨#[]⟩ ⟨#[]⟩ = [] ∧ tE 9 0 ⟨#[]⟩ ⟨#[]⟩ = 1600 ∧ tS s 9 0 ⟨#[]⟩ ⟨#[]⟩ = s := by
  have e : chE 9 0 ⟨#[]⟩ ⟨#[]⟩ ≠ 0 := by unfold chE; rw [chFit_no (.inr (.inl (by decide)))]; decide
  exact ⟨by unfold tL; rw [if_neg (by simp [e])], by unfold tE; rw [if_neg e], by unfold tS; rw [if_neg (by simp [e])]⟩
def forms0 (a b c : Nat) (t : Int) : PS := ⟨zstr c, ⟨#[]⟩, t, false, false, zstr a, zstr b, false, false⟩
theorem wpAnyH_weak {P : Program} {md : Region.Mode} {ops : Array Oper} {Q : Exit → Act → World → Prop} {S S' : World → Prop} (h : ∀ w, S' w → S w) : ∀ (fuel : Nat) (listed : Array Bool) (a : Act) (w : World), wpAnyH P md ops Q S' fuel listed a w → wpAnyH P md ops Q S fuel listed a w
  | 0, _, _, _, H => H
  | fuel + 1, _, _, _, H => ⟨H.1, fun i hi => wpOp_mono (fun a' w' h' => ⟨h _ h'.1, wpAnyH_weak h fuel _ a' w' h'.2⟩) (H.2 i hi)⟩
def ZAt (b k : Nat) (W : World) : Prop := W.heap[b]? = some (.cells (zcells k) 5)
def ZS (B : Nat) (w : World) (l : List (Nat × Nat)) (W : World) : Prop := Below B w W ∧ B ≤ W.heap.size ∧ ∀ p ∈ l, ZAt p.1 p.2 W
theorem zs_alloc {B : Nat} {w W : World} {l : List (Nat × Nat)} (h : ZS B w l W) (o : Obj) : ZS B w l (W.alloc o) :=
  ⟨h.1.alloc h.2.1 o, by have := h.2.1; simp; omega, fun p hp => (Below.heap_alloc W o p.1 (Array.getElem?_eq_some_iff.1 (h.2.2 p hp)).1).trans (h.2.2 p hp)⟩
theorem zs_cons {B : Nat} {w W : World} {l : List (Nat × Nat)} {b k : Nat} (h : ZS B w l W) (hz : ZAt b k W) : ZS B w ((b, k) :: l) W :=
  ⟨h.1, h.2.1, fun p hp => by
    rcases List.mem_cons.1 hp with rfl | hp
    · exact hz
    · exact h.2.2 p hp⟩
theorem zs_tail {B : Nat} {w : World} {l : List (Nat × Nat)} {p : Nat × Nat} : ∀ W, ZS B w (p :: l) W → ZS B w l W := fun W h => ⟨h.1, h.2.1, fun q hq => h.2.2 q (List.mem_cons_of_mem _ hq)⟩
theorem weak_with {P : Program} {md : Region.Mode} {ops : Array Oper} {Q : Exit → Act → World → Prop} {B : Nat} {w : World} {l : List (Nat × Nat)} {p : Nat × Nat} {fuel : Nat} {listed : Array Bool} {a : Act} {W : World} (_ : ZS B w (p :: l) W) (h : wpAnyH P md ops Q (ZS B w (p :: l)) fuel listed a W) : wpAnyH P md ops Q (ZS B w l) fuel listed a W := wpAnyH_weak zs_tail _ _ _ _ h
theorem zs_head {B : Nat} {w W : World} {l : List (Nat × Nat)} {b k : Nat} (h : ZS B w ((b, k) :: l) W) : ZAt b k W := h.2.2 (b, k) (List.mem_cons_self)
theorem zs_keep {B : Nat} {w W u : World} {l : List (Nat × Nat)} (h : ZS B w l W) {X : World} (e : X = W) (hb : Below X.heap.size X u) : ZS B w l u := by
  subst e
  exact ⟨below_step h.1 hb h.2.1, Nat.le_trans h.2.1 hb.size, fun p hp => (hb.block p.1 (Array.getElem?_eq_some_iff.1 (h.2.2 p hp)).1).trans (h.2.2 p hp)⟩
set_option maxRecDepth 100000 in
set_option maxHeartbeats 8000000 in
theorem forms_ok (name secret expect tries challenge : Int) (a b c d : Nat) (ha : bits .and .i64 name 63 = (a : Int)) (hb : bits .and .i64 secret 127 = (b : Int)) (hc : bits .and .i64 expect 127 = (c : Int)) (hd : bits .and .i64 challenge 511 = (d : Int)) (a1 : a ≤ 32) (b1 : 1 ≤ b) (b2 : b ≤ 64) (c1 : 1 ≤ c) (c2 : c ≤ 64) (t1 : 1 ≤ tries) (t2 : tries ≤ 10) (d1 : d < 512) (w : World) :
    Calls Try.prog 5 #[.int .i64 name, .int .i64 secret, .int .i64 expect, .int .i64 tries, .int .i64 challenge] w fun e w' => e = .returned (.bool true) ∧ Below w.heap.size w w' := by
  have ma := fun W => run_mk a (by omega) W
  have mb := fun W => run_mk b (by omega) W
  have mc := fun W => run_mk c (by omega) W
  have md := fun W => run_mk d (by omega) W
  have cd := fun W => conv_z d W W.heap.size d rfl
  have hN : newB (zstr a) (zstr b) (zstr c) tries = true := by unfold newB mayB; simp only [zstr_size]; simp; omega
  have HN := Lib.hid hN; clear hN
  have ia : (a : Int) ≤ 32 := by omega
  have ib : 1 ≤ (b : Int) := by omega
  have ib2 : (b : Int) ≤ 64 := by omega
  have ic : 1 ≤ (c : Int) := by omega
  have ic2 : (c : Int) ≤ 64 := by omega
  have T9 := Lib.hid tk_nine
  have hzc := zstr_size c; have hzb := zstr_size b; have hzd := zstr_size d
  have HZC := Lib.hid hzc; have HZB := Lib.hid hzb; have HZD := Lib.hid hzd; clear hzc hzb hzd
  go_enter Try.func5, Try.ntmps5
  go_wp2_with (first | (go_at_call 12; refine (num_any _ _).mono ?_; rintro e w' ⟨rfl, rfl⟩))
  refine (awake_any _).mono ?_
  rintro e w0 ⟨rfl, hb0⟩
  have hz0 := hb0.size
  go_wp2_with (first | (go_at_call 12; refine (num_any _ _).mono ?_; rintro e w' ⟨rfl, rfl⟩))
  refine wp_region_held_drew (S := ZS w.heap.size w []) (by kernel_rfl) ⟨hb0.drew, hb0.size, fun p hp => (by cases hp)⟩ (fun hHeld0 => ?_)
  (refine wpAnyH_take (i := 0) (oi := _) (v := ?vz1) rfl (by kernel_rfl) (by kernel_rfl) (by kernel_rfl) (fun _ _ _ h => h) (Or.inl ⟨by kernel_rfl, ?yz1⟩) (by assumption) ?_; rotate_left; (· (intro W0 hSw; skip; go_simp; try with_reducible rfl)); simp only [Act.put, List.setIfInBounds_toArray, List.set_cons_zero, List.set_cons_succ, List.getElem_toArray, List.getElem_cons_succ, List.getElem_cons_zero])
  (refine wpAnyH_take (i := 3) (oi := _) (v := ?vz2) rfl (by kernel_rfl) (by kernel_rfl) (by kernel_rfl) (fun _ _ _ h => h) (Or.inl ⟨by kernel_rfl, ?yz2⟩) (by assumption) ?_; rotate_left; (· (intro W0 hSw; skip; go_simp; try with_reducible rfl)); simp only [Act.put, List.setIfInBounds_toArray, List.set_cons_zero, List.set_cons_succ, List.getElem_toArray, List.getElem_cons_succ, List.getElem_cons_zero])
  (refine wpAnyH_take (i := 6) (oi := _) (v := ?vz3) rfl (by kernel_rfl) (by kernel_rfl) (by kernel_rfl) (fun _ _ _ h => h) (Or.inl ⟨by kernel_rfl, ?yz3⟩) (by assumption) ?_; rotate_left; (· (intro W0 hSw; skip; go_simp; try with_reducible rfl)); simp only [Act.put, List.setIfInBounds_toArray, List.set_cons_zero, List.set_cons_succ, List.getElem_toArray, List.getElem_cons_succ, List.getElem_cons_zero])
  (refine wpAnyH_take (i := 9) (oi := _) (v := ?vz4) rfl (by kernel_rfl) (by kernel_rfl) (by kernel_rfl) (fun _ _ _ h => h) (Or.inl ⟨by kernel_rfl, ?yz4⟩) (by assumption) ?_; rotate_left; (· (intro W0 hSw; skip; go_simp; try with_reducible rfl)); simp only [Act.put, List.setIfInBounds_toArray, List.set_cons_zero, List.set_cons_succ, List.getElem_toArray, List.getElem_cons_succ, List.getElem_cons_zero])
  (refine wpAnyH_ready (rs := [1, 4, 7]) (by kernel_rfl) (by simp) ?_)
  refine AllReadyH.cons (o := _) rfl ?_ ?_
  · intro K hK
    rw [if_pos (by kernel_rfl)]
    go_simp
    refine hK.out _ _ ?_ (fun hHeld1 => ?_)
    · exact zs_alloc (by assumption) _
    have hz1 := zs_cons (b := w0.heap.size) hHeld1 (heap_top _ (.cells (zcells a) 5) (w0.heap.size) (by simp))
    refine weak_with hz1 ?_
    (refine wpAnyH_take (i := 2) (oi := _) (v := ?vz5) rfl (by kernel_rfl) (by kernel_rfl) (by kernel_rfl) (fun _ _ _ h => h) (Or.inl ⟨by kernel_rfl, ?yz5⟩) (by assumption) ?_; rotate_left; (· (intro W0 hSw; have hzz := zconv a W0 _ a (zs_head hSw); go_simp; try with_reducible rfl)); simp only [Act.put, List.setIfInBounds_toArray, List.set_cons_zero, List.set_cons_succ, List.getElem_toArray, List.getElem_cons_succ, List.getElem_cons_zero])
    (refine wpAnyH_ready (rs := [4, 7]) (by kernel_rfl) (by simp) ?_)
    refine AllReadyH.cons (o := _) rfl ?_ ?_
    · intro K hK
      rw [if_pos (by kernel_rfl)]
      go_simp
      refine hK.out _ _ ?_ (fun hHeld2 => ?_)
      · exact zs_alloc (by assumption) _
      have hz2 := zs_cons (b := w0.heap.size + 1) hHeld2 (heap_top _ (.cells (zcells b) 5) (w0.heap.size + 1) (by simp))
      refine weak_with hz2 ?_
      (refine wpAnyH_take (i := 5) (oi := _) (v := ?vz6) rfl (by kernel_rfl) (by kernel_rfl) (by kernel_rfl) (fun _ _ _ h => h) (Or.inl ⟨by kernel_rfl, ?yz6⟩) (by assumption) ?_; rotate_left; (· (intro W0 hSw; have hzz := zconv b W0 _ b (zs_head hSw); go_simp; try with_reducible rfl)); simp only [Act.put, List.setIfInBounds_toArray, List.set_cons_zero, List.set_cons_succ, List.getElem_toArray, List.getElem_cons_succ, List.getElem_cons_zero])
      (refine wpAnyH_ready (rs := [7]) (by kernel_rfl) (by simp) ?_)
      refine AllReadyH.cons (o := _) rfl ?_ ?_
      · intro K hK
        rw [if_pos (by kernel_rfl)]
        go_simp
        refine hK.out _ _ ?_ (fun hHeld3 => ?_)
        · exact zs_alloc (by assumption) _
        have hz3 := zs_cons (b := w0.heap.size + 1 + 1) hHeld3 (heap_top _ (.cells (zcells c) 5) (w0.heap.size + 1 + 1) (by simp))
        refine weak_with hz3 ?_
        (refine wpAnyH_take (i := 8) (oi := _) (v := ?vz7) rfl (by kernel_rfl) (by kernel_rfl) (by kernel_rfl) (fun _ _ _ h => h) (Or.inl ⟨by kernel_rfl, ?yz7⟩) (by assumption) ?_; rotate_left; (· (intro W0 hSw; have hzz := zconv c W0 _ c (zs_head hSw); go_simp; try with_reducible rfl)); simp only [Act.put, List.setIfInBounds_toArray, List.set_cons_zero, List.set_cons_succ, List.getElem_toArray, List.getElem_cons_succ, List.getElem_cons_zero])
        (refine wpAnyH_ready (rs := [10]) (by kernel_rfl) (by simp) ?_; refine AllReadyH.cons (o := _) rfl (fun K hK => ?_) AllReadyH.nil; rw [if_pos (by kernel_rfl)])
        go_simp
        refine (pnew_ok2 _ _ _ _ _ HN.out).mono ?_
        rintro e w1 ⟨g, rfl, hg1, hp1, hb1⟩
        go_simp
        refine hK.out _ _ ?_ (fun hHN => ?_)
        · exact zs_keep (by assumption) rfl hb1
        (refine wpAnyH_take (i := 11) (oi := _) (v := ?vz8) rfl (by kernel_rfl) (by kernel_rfl) (by kernel_rfl) (fun _ _ _ h => h) (Or.inl ⟨by kernel_rfl, ?yz8⟩) (by assumption) ?_; rotate_left; (· (intro W0 hSw; skip; go_simp; try with_reducible rfl)); simp only [Act.put, List.setIfInBounds_toArray, List.set_cons_zero, List.set_cons_succ, List.getElem_toArray, List.getElem_cons_succ, List.getElem_cons_zero])
        (refine wpAnyH_take (i := 12) (oi := _) (v := ?vz9) rfl (by kernel_rfl) (by kernel_rfl) (by kernel_rfl) (fun _ _ _ h => h) (Or.inl ⟨by kernel_rfl, ?yz9⟩) (by assumption) ?_; rotate_left; (· (intro W0 hSw; skip; go_simp; try with_reducible rfl)); simp only [Act.put, List.setIfInBounds_toArray, List.set_cons_zero, List.set_cons_succ, List.getElem_toArray, List.getElem_cons_succ, List.getElem_cons_zero])
        (refine wpAnyH_take (i := 13) (oi := _) (v := ?vz10) rfl (by kernel_rfl) (by kernel_rfl) (by kernel_rfl) (fun _ _ _ h => h) (Or.inl ⟨by kernel_rfl, ?yz10⟩) (by assumption) ?_; rotate_left; (· (intro W0 hSw; skip; go_simp; try with_reducible rfl)); simp only [Act.put, List.setIfInBounds_toArray, List.set_cons_zero, List.set_cons_succ, List.getElem_toArray, List.getElem_cons_succ, List.getElem_cons_zero])
        (refine wpAnyH_take (i := 14) (oi := _) (v := ?vz11) rfl (by kernel_rfl) (by kernel_rfl) (by kernel_rfl) (fun _ _ _ h => h) (Or.inl ⟨by kernel_rfl, ?yz11⟩) (by assumption) ?_; rotate_left; (· (intro W0 hSw; skip; go_simp; try with_reducible rfl)); simp only [Act.put, List.setIfInBounds_toArray, List.set_cons_zero, List.set_cons_succ, List.getElem_toArray, List.getElem_cons_succ, List.getElem_cons_zero])
        (refine wpAnyH_take (i := 15) (oi := _) (v := ?vz12) rfl (by kernel_rfl) (by kernel_rfl) (by kernel_rfl) (fun _ _ _ h => h) (Or.inl ⟨by kernel_rfl, ?yz12⟩) (by assumption) ?_; rotate_left; (· (intro W0 hSw; skip; go_simp; try with_reducible rfl)); simp only [Act.put, List.setIfInBounds_toArray, List.set_cons_zero, List.set_cons_succ, List.getElem_toArray, List.getElem_cons_succ, List.getElem_cons_zero])
        (refine wpAnyH_done (by kernel_rfl) ?_ _)
        clear ma mb mc
        have bel1 : Below w.heap.size w w1 := hHN.1
        have hgg : w.heap.size ≤ g := by simp at hg1; omega
        have hp1' : PAt w1 g (forms0 a b c tries) := hp1
        have hgl := hp1'.lt
        have HP1 := Lib.hid hp1'; clear hp1 hp1' hb1 hg1
        by_cases hdd : 1 ≤ d ∧ d ≤ 255
        · obtain ⟨e1, e2, e3⟩ := stOK (s := forms0 a b c tries) (c := zstr d) (by rw [HZD.out]; omega) (by rw [HZD.out]; omega) rfl rfl
          have E1 := Lib.hid e1; have E2 := Lib.hid e2; have E3 := Lib.hid e3; clear e1 e2 e3
          have id1 : 1 ≤ (d : Int) := by omega
          have id2 : (d : Int) ≤ 255 := by omega
          go_wp2_with (first | (go_at_call 12; refine (num_any _ _).mono ?_; rintro e w' ⟨rfl, rfl⟩))
          refine (start_any g (forms0 a b c tries) (zstr d) _ (Blk.alloc HP1.out _)).mono ?_
          rintro e w2 ⟨rfl, hp2, hg2⟩
          rw [E1.out, E2.out]
          rw [E3.out] at hp2
          unfold chV
          have hz2 := hg2.size
          simp at hz2
          have bel2 : Below w.heap.size w w2 := below_gr (bel1.alloc bel1.size _) hg2 (by have := bel1.size; simp; omega) hgg
          have HP2 := Lib.hid hp2; clear hp2
          go_wp2_with (first | (go_at_call 12; refine (num_any _ _).mono ?_; rintro e w' ⟨rfl, rfl⟩))
          refine (take_any g { forms0 a b c tries with ch := zstr d, st := true } 9 0 ⟨#[]⟩ ⟨#[]⟩ _ (Blk.alloc HP2.out _) (by show (zstr c).size ≤ 64; rw [HZC.out]; omega) (by show (zstr d).size ≤ 255; rw [HZD.out]; omega) (by show (zstr b).size ≤ 64; rw [HZB.out]; omega)).mono ?_
          rintro e w3 ⟨⟨A3, cap3, rfl, hl3, hA3⟩, hp3, hg3⟩
          rw [(T9.out _).1] at hl3 ⊢
          rw [(T9.out { forms0 a b c tries with ch := zstr d, st := true }).2.1]
          have bel3 : Below w.heap.size w w3 := below_gr (bel2.alloc bel2.size _) hg3 (by have := bel2.size; simp; omega) hgg
          clear hp3 hl3
          go_wp2_with (first | (go_at_call 12; refine (num_any _ _).mono ?_; rintro e w' ⟨rfl, rfl⟩))
          go_ret
          exact ⟨rfl, bel3⟩
        · obtain ⟨e1, e2, e3⟩ := st_bad (s := forms0 a b c tries) (c := zstr d) (by rw [HZD.out]; exact hdd)
          have E1 := Lib.hid e1; have E2 := Lib.hid e2; have E3 := Lib.hid e3; clear e1 e2 e3
          go_wp2_with (first | (go_at_call 12; refine (num_any _ _).mono ?_; rintro e w' ⟨rfl, rfl⟩))
          refine (start_any g (forms0 a b c tries) (zstr d) _ (Blk.alloc HP1.out _)).mono ?_
          rintro e w2 ⟨rfl, hp2, hg2⟩
          rw [E1.out, E2.out]
          rw [E3.out] at hp2
          unfold chV
          have hz2 := hg2.size
          simp at hz2
          have bel2 : Below w.heap.size w w2 := below_gr (bel1.alloc bel1.size _) hg2 (by have := bel1.size; simp; omega) hgg
          have HP2 := Lib.hid hp2; clear hp2
          have hbx := Blk.new w2 33 (chC 0 0 ⟨#[]⟩ ⟨#[]⟩)
          have HBX := Lib.hid hbx; clear hbx
          have hdI : (d : Int) < 1 ∨ (255 : Int) < d := by omega
          have HDI := Lib.hid hdI; clear hdI
          rcases HDI.out with hdI | hdI
          all_goals
            first | (have hd9 : decide ((d : Int) ≤ 255) = false := decide_eq_false (by omega)) | skip
            go_wp2_with (first | (go_at_call 12; refine (num_any _ _).mono ?_; rintro e w' ⟨rfl, rfl⟩))
            refine (take_any g (forms0 a b c tries) 9 0 ⟨#[]⟩ ⟨#[]⟩ _ (Blk.alloc HP2.out _) (by show (zstr c).size ≤ 64; rw [HZC.out]; omega) (by show (⟨#[]⟩ : ByteArray).size ≤ 255; decide) (by show (zstr b).size ≤ 64; rw [HZB.out]; omega)).mono ?_
            rintro e w3 ⟨⟨A3, cap3, rfl, hl3, hA3⟩, hp3, hg3⟩
            rw [(T9.out _).1] at hl3 ⊢
            rw [(T9.out (forms0 a b c tries)).2.1]
            have hb3 : Blk w3 w2.heap.size 33 (chC 0 0 ⟨#[]⟩ ⟨#[]⟩) := Blk.grown HBX.out hg3 (by simp; omega)
            obtain ⟨k0, k1, k2, k3⟩ := chC_cells hb3
            have bel3 : Below w.heap.size w w3 := below_gr (bel2.alloc bel2.size _) hg3 (by have := bel2.size; simp; omega) hgg
            clear hp3 hl3 hb3
            go_wp2_with (first | (go_at_call 12; refine (num_any _ _).mono ?_; rintro e w' ⟨rfl, rfl⟩))
            go_ret
            exact ⟨rfl, bel3⟩
      exact AllReadyH.nil
    refine AllReadyH.cons (o := _) rfl ?_ ?_
    · intro K hK
      rw [if_pos (by kernel_rfl)]
      go_simp
      refine hK.out _ _ ?_ (fun hHeld2 => ?_)
      · exact zs_alloc (by assumption) _
      have hz2 := zs_cons (b := w0.heap.size + 1) hHeld2 (heap_top _ (.cells (zcells c) 5) (w0.heap.size + 1) (by simp))
      refine weak_with hz2 ?_
      (refine wpAnyH_take (i := 8) (oi := _) (v := ?vz13) rfl (by kernel_rfl) (by kernel_rfl) (by kernel_rfl) (fun _ _ _ h => h) (Or.inl ⟨by kernel_rfl, ?yz13⟩) (by assumption) ?_; rotate_left; (· (intro W0 hSw; have hzz := zconv c W0 _ c (zs_head hSw); go_simp; try with_reducible rfl)); simp only [Act.put, List.setIfInBounds_toArray, List.set_cons_zero, List.set_cons_succ, List.getElem_toArray, List.getElem_cons_succ, List.getElem_cons_zero])
      (refine wpAnyH_ready (rs := [4]) (by kernel_rfl) (by simp) ?_)
      refine AllReadyH.cons (o := _) rfl ?_ ?_
      · intro K hK
        rw [if_pos (by kernel_rfl)]
        go_simp
        refine hK.out _ _ ?_ (fun hHeld3 => ?_)
        · exact zs_alloc (by assumption) _
        have hz3 := zs_cons (b := w0.heap.size + 1 + 1) hHeld3 (heap_top _ (.cells (zcells b) 5) (w0.heap.size + 1 + 1) (by simp))
        refine weak_with hz3 ?_
        (refine wpAnyH_take (i := 5) (oi := _) (v := ?vz14) rfl (by kernel_rfl) (by kernel_rfl) (by kernel_rfl) (fun _ _ _ h => h) (Or.inl ⟨by kernel_rfl, ?yz14⟩) (by assumption) ?_; rotate_left; (· (intro W0 hSw; have hzz := zconv b W0 _ b (zs_head hSw); go_simp; try with_reducible rfl)); simp only [Act.put, List.setIfInBounds_toArray, List.set_cons_zero, List.set_cons_succ, List.getElem_toArray, List.getElem_cons_succ, List.getElem_cons_zero])
        (refine wpAnyH_ready (rs := [10]) (by kernel_rfl) (by simp) ?_; refine AllReadyH.cons (o := _) rfl (fun K hK => ?_) AllReadyH.nil; rw [if_pos (by kernel_rfl)])
        go_simp
        refine (pnew_ok2 _ _ _ _ _ HN.out).mono ?_
        rintro e w1 ⟨g, rfl, hg1, hp1, hb1⟩
        go_simp
        refine hK.out _ _ ?_ (fun hHN => ?_)
        · exact zs_keep (by assumption) rfl hb1
        (refine wpAnyH_take (i := 11) (oi := _) (v := ?vz15) rfl (by kernel_rfl) (by kernel_rfl) (by kernel_rfl) (fun _ _ _ h => h) (Or.inl ⟨by kernel_rfl, ?yz15⟩) (by assumption) ?_; rotate_left; (· (intro W0 hSw; skip; go_simp; try with_reducible rfl)); simp only [Act.put, List.setIfInBounds_toArray, List.set_cons_zero, List.set_cons_succ, List.getElem_toArray, List.getElem_cons_succ, List.getElem_cons_zero])
        (refine wpAnyH_take (i := 12) (oi := _) (v := ?vz16) rfl (by kernel_rfl) (by kernel_rfl) (by kernel_rfl) (fun _ _ _ h => h) (Or.inl ⟨by kernel_rfl, ?yz16⟩) (by assumption) ?_; rotate_left; (· (intro W0 hSw; skip; go_simp; try with_reducible rfl)); simp only [Act.put, List.setIfInBounds_toArray, List.set_cons_zero, List.set_cons_succ, List.getElem_toArray, List.getElem_cons_succ, List.getElem_cons_zero])
        (refine wpAnyH_take (i := 13) (oi := _) (v := ?vz17) rfl (by kernel_rfl) (by kernel_rfl) (by kernel_rfl) (fun _ _ _ h => h) (Or.inl ⟨by kernel_rfl, ?yz17⟩) (by assumption) ?_; rotate_left; (· (intro W0 hSw; skip; go_simp; try with_reducible rfl)); simp only [Act.put, List.setIfInBounds_toArray, List.set_cons_zero, List.set_cons_succ, List.getElem_toArray, List.getElem_cons_succ, List.getElem_cons_zero])
        (refine wpAnyH_take (i := 14) (oi := _) (v := ?vz18) rfl (by kernel_rfl) (by kernel_rfl) (by kernel_rfl) (fun _ _ _ h => h) (Or.inl ⟨by kernel_rfl, ?yz18⟩) (by assumption) ?_; rotate_left; (· (intro W0 hSw; skip; go_simp; try with_reducible rfl)); simp only [Act.put, List.setIfInBounds_toArray, List.set_cons_zero, List.set_cons_succ, List.getElem_toArray, List.getElem_cons_succ, List.getElem_cons_zero])
        (refine wpAnyH_take (i := 15) (oi := _) (v := ?vz19) rfl (by kernel_rfl) (by kernel_rfl) (by kernel_rfl) (fun _ _ _ h => h) (Or.inl ⟨by kernel_rfl, ?yz19⟩) (by assumption) ?_; rotate_left; (· (intro W0 hSw; skip; go_simp; try with_reducible rfl)); simp only [Act.put, List.setIfInBounds_toArray, List.set_cons_zero, List.set_cons_succ, List.getElem_toArray, List.getElem_cons_succ, List.getElem_cons_zero])
        (refine wpAnyH_done (by kernel_rfl) ?_ _)
        clear ma mb mc
        have bel1 : Below w.heap.size w w1 := hHN.1
        have hgg : w.heap.size ≤ g := by simp at hg1; omega
        have hp1' : PAt w1 g (forms0 a b c tries) := hp1
        have hgl := hp1'.lt
        have HP1 := Lib.hid hp1'; clear hp1 hp1' hb1 hg1
        by_cases hdd : 1 ≤ d ∧ d ≤ 255
        · obtain ⟨e1, e2, e3⟩ := stOK (s := forms0 a b c tries) (c := zstr d) (by rw [HZD.out]; omega) (by rw [HZD.out]; omega) rfl rfl
          have E1 := Lib.hid e1; have E2 := Lib.hid e2; have E3 := Lib.hid e3; clear e1 e2 e3
          have id1 : 1 ≤ (d : Int) := by omega
          have id2 : (d : Int) ≤ 255 := by omega
          go_wp2_with (first | (go_at_call 12; refine (num_any _ _).mono ?_; rintro e w' ⟨rfl, rfl⟩))
          refine (start_any g (forms0 a b c tries) (zstr d) _ (Blk.alloc HP1.out _)).mono ?_
          rintro e w2 ⟨rfl, hp2, hg2⟩
          rw [E1.out, E2.out]
          rw [E3.out] at hp2
          unfold chV
          have hz2 := hg2.size
          simp at hz2
          have bel2 : Below w.heap.size w w2 := below_gr (bel1.alloc bel1.size _) hg2 (by have := bel1.size; simp; omega) hgg
          have HP2 := Lib.hid hp2; clear hp2
          go_wp2_with (first | (go_at_call 12; refine (num_any _ _).mono ?_; rintro e w' ⟨rfl, rfl⟩))
          refine (take_any g { forms0 a b c tries with ch := zstr d, st := true } 9 0 ⟨#[]⟩ ⟨#[]⟩ _ (Blk.alloc HP2.out _) (by show (zstr c).size ≤ 64; rw [HZC.out]; omega) (by show (zstr d).size ≤ 255; rw [HZD.out]; omega) (by show (zstr b).size ≤ 64; rw [HZB.out]; omega)).mono ?_
          rintro e w3 ⟨⟨A3, cap3, rfl, hl3, hA3⟩, hp3, hg3⟩
          rw [(T9.out _).1] at hl3 ⊢
          rw [(T9.out { forms0 a b c tries with ch := zstr d, st := true }).2.1]
          have bel3 : Below w.heap.size w w3 := below_gr (bel2.alloc bel2.size _) hg3 (by have := bel2.size; simp; omega) hgg
          clear hp3 hl3
          go_wp2_with (first | (go_at_call 12; refine (num_any _ _).mono ?_; rintro e w' ⟨rfl, rfl⟩))
          go_ret
          exact ⟨rfl, bel3⟩
        · obtain ⟨e1, e2, e3⟩ := st_bad (s := forms0 a b c tries) (c := zstr d) (by rw [HZD.out]; exact hdd)
          have E1 := Lib.hid e1; have E2 := Lib.hid e2; have E3 := Lib.hid e3; clear e1 e2 e3
          go_wp2_with (first | (go_at_call 12; refine (num_any _ _).mono ?_; rintro e w' ⟨rfl, rfl⟩))
          refine (start_any g (forms0 a b c tries) (zstr d) _ (Blk.alloc HP1.out _)).mono ?_
          rintro e w2 ⟨rfl, hp2, hg2⟩
          rw [E1.out, E2.out]
          rw [E3.out] at hp2
          unfold chV
          have hz2 := hg2.size
          simp at hz2
          have bel2 : Below w.heap.size w w2 := below_gr (bel1.alloc bel1.size _) hg2 (by have := bel1.size; simp; omega) hgg
          have HP2 := Lib.hid hp2; clear hp2
          have hbx := Blk.new w2 33 (chC 0 0 ⟨#[]⟩ ⟨#[]⟩)
          have HBX := Lib.hid hbx; clear hbx
          have hdI : (d : Int) < 1 ∨ (255 : Int) < d := by omega
          have HDI := Lib.hid hdI; clear hdI
          rcases HDI.out with hdI | hdI
          all_goals
            first | (have hd9 : decide ((d : Int) ≤ 255) = false := decide_eq_false (by omega)) | skip
            go_wp2_with (first | (go_at_call 12; refine (num_any _ _).mono ?_; rintro e w' ⟨rfl, rfl⟩))
            refine (take_any g (forms0 a b c tries) 9 0 ⟨#[]⟩ ⟨#[]⟩ _ (Blk.alloc HP2.out _) (by show (zstr c).size ≤ 64; rw [HZC.out]; omega) (by show (⟨#[]⟩ : ByteArray).size ≤ 255; decide) (by show (zstr b).size ≤ 64; rw [HZB.out]; omega)).mono ?_
            rintro e w3 ⟨⟨A3, cap3, rfl, hl3, hA3⟩, hp3, hg3⟩
            rw [(T9.out _).1] at hl3 ⊢
            rw [(T9.out (forms0 a b c tries)).2.1]
            have hb3 : Blk w3 w2.heap.size 33 (chC 0 0 ⟨#[]⟩ ⟨#[]⟩) := Blk.grown HBX.out hg3 (by simp; omega)
            obtain ⟨k0, k1, k2, k3⟩ := chC_cells hb3
            have bel3 : Below w.heap.size w w3 := below_gr (bel2.alloc bel2.size _) hg3 (by have := bel2.size; simp; omega) hgg
            clear hp3 hl3 hb3
            go_wp2_with (first | (go_at_call 12; refine (num_any _ _).mono ?_; rintro e w' ⟨rfl, rfl⟩))
            go_ret
            exact ⟨rfl, bel3⟩
      exact AllReadyH.nil
    exact AllReadyH.nil
  refine AllReadyH.cons (o := _) rfl ?_ ?_
  · intro K hK
    rw [if_pos (by kernel_rfl)]
    go_simp
    refine hK.out _ _ ?_ (fun hHeld1 => ?_)
    · exact zs_alloc (by assumption) _
    have hz1 := zs_cons (b := w0.heap.size) hHeld1 (heap_top _ (.cells (zcells b) 5) (w0.heap.size) (by simp))
    refine weak_with hz1 ?_
    (refine wpAnyH_take (i := 5) (oi := _) (v := ?vz20) rfl (by kernel_rfl) (by kernel_rfl) (by kernel_rfl) (fun _ _ _ h => h) (Or.inl ⟨by kernel_rfl, ?yz20⟩) (by assumption) ?_; rotate_left; (· (intro W0 hSw; have hzz := zconv b W0 _ b (zs_head hSw); go_simp; try with_reducible rfl)); simp only [Act.put, List.setIfInBounds_toArray, List.set_cons_zero, List.set_cons_succ, List.getElem_toArray, List.getElem_cons_succ, List.getElem_cons_zero])
    (refine wpAnyH_ready (rs := [1, 7]) (by kernel_rfl) (by simp) ?_)
    refine AllReadyH.cons (o := _) rfl ?_ ?_
    · intro K hK
      rw [if_pos (by kernel_rfl)]
      go_simp
      refine hK.out _ _ ?_ (fun hHeld2 => ?_)
      · exact zs_alloc (by assumption) _
      have hz2 := zs_cons (b := w0.heap.size + 1) hHeld2 (heap_top _ (.cells (zcells a) 5) (w0.heap.size + 1) (by simp))
      refine weak_with hz2 ?_
      (refine wpAnyH_take (i := 2) (oi := _) (v := ?vz21) rfl (by kernel_rfl) (by kernel_rfl) (by kernel_rfl) (fun _ _ _ h => h) (Or.inl ⟨by kernel_rfl, ?yz21⟩) (by assumption) ?_; rotate_left; (· (intro W0 hSw; have hzz := zconv a W0 _ a (zs_head hSw); go_simp; try with_reducible rfl)); simp only [Act.put, List.setIfInBounds_toArray, List.set_cons_zero, List.set_cons_succ, List.getElem_toArray, List.getElem_cons_succ, List.getElem_cons_zero])
      (refine wpAnyH_ready (rs := [7]) (by kernel_rfl) (by simp) ?_)
      refine AllReadyH.cons (o := _) rfl ?_ ?_
      · intro K hK
        rw [if_pos (by kernel_rfl)]
        go_simp
        refine hK.out _ _ ?_ (fun hHeld3 => ?_)
        · exact zs_alloc (by assumption) _
        have hz3 := zs_cons (b := w0.heap.size + 1 + 1) hHeld3 (heap_top _ (.cells (zcells c) 5) (w0.heap.size + 1 + 1) (by simp))
        refine weak_with hz3 ?_
        (refine wpAnyH_take (i := 8) (oi := _) (v := ?vz22) rfl (by kernel_rfl) (by kernel_rfl) (by kernel_rfl) (fun _ _ _ h => h) (Or.inl ⟨by kernel_rfl, ?yz22⟩) (by assumption) ?_; rotate_left; (· (intro W0 hSw; have hzz := zconv c W0 _ c (zs_head hSw); go_simp; try with_reducible rfl)); simp only [Act.put, List.setIfInBounds_toArray, List.set_cons_zero, List.set_cons_succ, List.getElem_toArray, List.getElem_cons_succ, List.getElem_cons_zero])
        (refine wpAnyH_ready (rs := [10]) (by kernel_rfl) (by simp) ?_; refine AllReadyH.cons (o := _) rfl (fun K hK => ?_) AllReadyH.nil; rw [if_pos (by kernel_rfl)])
        go_simp
        refine (pnew_ok2 _ _ _ _ _ HN.out).mono ?_
        rintro e w1 ⟨g, rfl, hg1, hp1, hb1⟩
        go_simp
        refine hK.out _ _ ?_ (fun hHN => ?_)
        · exact zs_keep (by assumption) rfl hb1
        (refine wpAnyH_take (i := 11) (oi := _) (v := ?vz23) rfl (by kernel_rfl) (by kernel_rfl) (by kernel_rfl) (fun _ _ _ h => h) (Or.inl ⟨by kernel_rfl, ?yz23⟩) (by assumption) ?_; rotate_left; (· (intro W0 hSw; skip; go_simp; try with_reducible rfl)); simp only [Act.put, List.setIfInBounds_toArray, List.set_cons_zero, List.set_cons_succ, List.getElem_toArray, List.getElem_cons_succ, List.getElem_cons_zero])
        (refine wpAnyH_take (i := 12) (oi := _) (v := ?vz24) rfl (by kernel_rfl) (by kernel_rfl) (by kernel_rfl) (fun _ _ _ h => h) (Or.inl ⟨by kernel_rfl, ?yz24⟩) (by assumption) ?_; rotate_left; (· (intro W0 hSw; skip; go_simp; try with_reducible rfl)); simp only [Act.put, List.setIfInBounds_toArray, List.set_cons_zero, List.set_cons_succ, List.getElem_toArray, List.getElem_cons_succ, List.getElem_cons_zero])
        (refine wpAnyH_take (i := 13) (oi := _) (v := ?vz25) rfl (by kernel_rfl) (by kernel_rfl) (by kernel_rfl) (fun _ _ _ h => h) (Or.inl ⟨by kernel_rfl, ?yz25⟩) (by assumption) ?_; rotate_left; (· (intro W0 hSw; skip; go_simp; try with_reducible rfl)); simp only [Act.put, List.setIfInBounds_toArray, List.set_cons_zero, List.set_cons_succ, List.getElem_toArray, List.getElem_cons_succ, List.getElem_cons_zero])
        (refine wpAnyH_take (i := 14) (oi := _) (v := ?vz26) rfl (by kernel_rfl) (by kernel_rfl) (by kernel_rfl) (fun _ _ _ h => h) (Or.inl ⟨by kernel_rfl, ?yz26⟩) (by assumption) ?_; rotate_left; (· (intro W0 hSw; skip; go_simp; try with_reducible rfl)); simp only [Act.put, List.setIfInBounds_toArray, List.set_cons_zero, List.set_cons_succ, List.getElem_toArray, List.getElem_cons_succ, List.getElem_cons_zero])
        (refine wpAnyH_take (i := 15) (oi := _) (v := ?vz27) rfl (by kernel_rfl) (by kernel_rfl) (by kernel_rfl) (fun _ _ _ h => h) (Or.inl ⟨by kernel_rfl, ?yz27⟩) (by assumption) ?_; rotate_left; (· (intro W0 hSw; skip; go_simp; try with_reducible rfl)); simp only [Act.put, List.setIfInBounds_toArray, List.set_cons_zero, List.set_cons_succ, List.getElem_toArray, List.getElem_cons_succ, List.getElem_cons_zero])
        (refine wpAnyH_done (by kernel_rfl) ?_ _)
        clear ma mb mc
        have bel1 : Below w.heap.size w w1 := hHN.1
        have hgg : w.heap.size ≤ g := by simp at hg1; omega
        have hp1' : PAt w1 g (forms0 a b c tries) := hp1
        have hgl := hp1'.lt
        have HP1 := Lib.hid hp1'; clear hp1 hp1' hb1 hg1
        by_cases hdd : 1 ≤ d ∧ d ≤ 255
        · obtain ⟨e1, e2, e3⟩ := stOK (s := forms0 a b c tries) (c := zstr d) (by rw [HZD.out]; omega) (by rw [HZD.out]; omega) rfl rfl
          have E1 := Lib.hid e1; have E2 := Lib.hid e2; have E3 := Lib.hid e3; clear e1 e2 e3
          have id1 : 1 ≤ (d : Int) := by omega
          have id2 : (d : Int) ≤ 255 := by omega
          go_wp2_with (first | (go_at_call 12; refine (num_any _ _).mono ?_; rintro e w' ⟨rfl, rfl⟩))
          refine (start_any g (forms0 a b c tries) (zstr d) _ (Blk.alloc HP1.out _)).mono ?_
          rintro e w2 ⟨rfl, hp2, hg2⟩
          rw [E1.out, E2.out]
          rw [E3.out] at hp2
          unfold chV
          have hz2 := hg2.size
          simp at hz2
          have bel2 : Below w.heap.size w w2 := below_gr (bel1.alloc bel1.size _) hg2 (by have := bel1.size; simp; omega) hgg
          have HP2 := Lib.hid hp2; clear hp2
          go_wp2_with (first | (go_at_call 12; refine (num_any _ _).mono ?_; rintro e w' ⟨rfl, rfl⟩))
          refine (take_any g { forms0 a b c tries with ch := zstr d, st := true } 9 0 ⟨#[]⟩ ⟨#[]⟩ _ (Blk.alloc HP2.out _) (by show (zstr c).size ≤ 64; rw [HZC.out]; omega) (by show (zstr d).size ≤ 255; rw [HZD.out]; omega) (by show (zstr b).size ≤ 64; rw [HZB.out]; omega)).mono ?_
          rintro e w3 ⟨⟨A3, cap3, rfl, hl3, hA3⟩, hp3, hg3⟩
          rw [(T9.out _).1] at hl3 ⊢
          rw [(T9.out { forms0 a b c tries with ch := zstr d, st := true }).2.1]
          have bel3 : Below w.heap.size w w3 := below_gr (bel2.alloc bel2.size _) hg3 (by have := bel2.size; simp; omega) hgg
          clear hp3 hl3
          go_wp2_with (first | (go_at_call 12; refine (num_any _ _).mono ?_; rintro e w' ⟨rfl, rfl⟩))
          go_ret
          exact ⟨rfl, bel3⟩
        · obtain ⟨e1, e2, e3⟩ := st_bad (s := forms0 a b c tries) (c := zstr d) (by rw [HZD.out]; exact hdd)
          have E1 := Lib.hid e1; have E2 := Lib.hid e2; have E3 := Lib.hid e3; clear e1 e2 e3
          go_wp2_with (first | (go_at_call 12; refine (num_any _ _).mono ?_; rintro e w' ⟨rfl, rfl⟩))
          refine (start_any g (forms0 a b c tries) (zstr d) _ (Blk.alloc HP1.out _)).mono ?_
          rintro e w2 ⟨rfl, hp2, hg2⟩
          rw [E1.out, E2.out]
          rw [E3.out] at hp2
          unfold chV
          have hz2 := hg2.size
          simp at hz2
          have bel2 : Below w.heap.size w w2 := below_gr (bel1.alloc bel1.size _) hg2 (by have := bel1.size; simp; omega) hgg
          have HP2 := Lib.hid hp2; clear hp2
          have hbx := Blk.new w2 33 (chC 0 0 ⟨#[]⟩ ⟨#[]⟩)
          have HBX := Lib.hid hbx; clear hbx
          have hdI : (d : Int) < 1 ∨ (255 : Int) < d := by omega
          have HDI := Lib.hid hdI; clear hdI
          rcases HDI.out with hdI | hdI
          all_goals
            first | (have hd9 : decide ((d : Int) ≤ 255) = false := decide_eq_false (by omega)) | skip
            go_wp2_with (first | (go_at_call 12; refine (num_any _ _).mono ?_; rintro e w' ⟨rfl, rfl⟩))
            refine (take_any g (forms0 a b c tries) 9 0 ⟨#[]⟩ ⟨#[]⟩ _ (Blk.alloc HP2.out _) (by show (zstr c).size ≤ 64; rw [HZC.out]; omega) (by show (⟨#[]⟩ : ByteArray).size ≤ 255; decide) (by show (zstr b).size ≤ 64; rw [HZB.out]; omega)).mono ?_
            rintro e w3 ⟨⟨A3, cap3, rfl, hl3, hA3⟩, hp3, hg3⟩
            rw [(T9.out _).1] at hl3 ⊢
            rw [(T9.out (forms0 a b c tries)).2.1]
            have hb3 : Blk w3 w2.heap.size 33 (chC 0 0 ⟨#[]⟩ ⟨#[]⟩) := Blk.grown HBX.out hg3 (by simp; omega)
            obtain ⟨k0, k1, k2, k3⟩ := chC_cells hb3
            have bel3 : Below w.heap.size w w3 := below_gr (bel2.alloc bel2.size _) hg3 (by have := bel2.size; simp; omega) hgg
            clear hp3 hl3 hb3
            go_wp2_with (first | (go_at_call 12; refine (num_any _ _).mono ?_; rintro e w' ⟨rfl, rfl⟩))
            go_ret
            exact ⟨rfl, bel3⟩
      exact AllReadyH.nil
    refine AllReadyH.cons (o := _) rfl ?_ ?_
    · intro K hK
      rw [if_pos (by kernel_rfl)]
      go_simp
      refine hK.out _ _ ?_ (fun hHeld2 => ?_)
      · exact zs_alloc (by assumption) _
      have hz2 := zs_cons (b := w0.heap.size + 1) hHeld2 (heap_top _ (.cells (zcells c) 5) (w0.heap.size + 1) (by simp))
      refine weak_with hz2 ?_
      (refine wpAnyH_take (i := 8) (oi := _) (v := ?vz28) rfl (by kernel_rfl) (by kernel_rfl) (by kernel_rfl) (fun _ _ _ h => h) (Or.inl ⟨by kernel_rfl, ?yz28⟩) (by assumption) ?_; rotate_left; (· (intro W0 hSw; have hzz := zconv c W0 _ c (zs_head hSw); go_simp; try with_reducible rfl)); simp only [Act.put, List.setIfInBounds_toArray, List.set_cons_zero, List.set_cons_succ, List.getElem_toArray, List.getElem_cons_succ, List.getElem_cons_zero])
      (refine wpAnyH_ready (rs := [1]) (by kernel_rfl) (by simp) ?_)
      refine AllReadyH.cons (o := _) rfl ?_ ?_
      · intro K hK
        rw [if_pos (by kernel_rfl)]
        go_simp
        refine hK.out _ _ ?_ (fun hHeld3 => ?_)
        · exact zs_alloc (by assumption) _
        have hz3 := zs_cons (b := w0.heap.size + 1 + 1) hHeld3 (heap_top _ (.cells (zcells a) 5) (w0.heap.size + 1 + 1) (by simp))
        refine weak_with hz3 ?_
        (refine wpAnyH_take (i := 2) (oi := _) (v := ?vz29) rfl (by kernel_rfl) (by kernel_rfl) (by kernel_rfl) (fun _ _ _ h => h) (Or.inl ⟨by kernel_rfl, ?yz29⟩) (by assumption) ?_; rotate_left; (· (intro W0 hSw; have hzz := zconv a W0 _ a (zs_head hSw); go_simp; try with_reducible rfl)); simp only [Act.put, List.setIfInBounds_toArray, List.set_cons_zero, List.set_cons_succ, List.getElem_toArray, List.getElem_cons_succ, List.getElem_cons_zero])
        (refine wpAnyH_ready (rs := [10]) (by kernel_rfl) (by simp) ?_; refine AllReadyH.cons (o := _) rfl (fun K hK => ?_) AllReadyH.nil; rw [if_pos (by kernel_rfl)])
        go_simp
        refine (pnew_ok2 _ _ _ _ _ HN.out).mono ?_
        rintro e w1 ⟨g, rfl, hg1, hp1, hb1⟩
        go_simp
        refine hK.out _ _ ?_ (fun hHN => ?_)
        · exact zs_keep (by assumption) rfl hb1
        (refine wpAnyH_take (i := 11) (oi := _) (v := ?vz30) rfl (by kernel_rfl) (by kernel_rfl) (by kernel_rfl) (fun _ _ _ h => h) (Or.inl ⟨by kernel_rfl, ?yz30⟩) (by assumption) ?_; rotate_left; (· (intro W0 hSw; skip; go_simp; try with_reducible rfl)); simp only [Act.put, List.setIfInBounds_toArray, List.set_cons_zero, List.set_cons_succ, List.getElem_toArray, List.getElem_cons_succ, List.getElem_cons_zero])
        (refine wpAnyH_take (i := 12) (oi := _) (v := ?vz31) rfl (by kernel_rfl) (by kernel_rfl) (by kernel_rfl) (fun _ _ _ h => h) (Or.inl ⟨by kernel_rfl, ?yz31⟩) (by assumption) ?_; rotate_left; (· (intro W0 hSw; skip; go_simp; try with_reducible rfl)); simp only [Act.put, List.setIfInBounds_toArray, List.set_cons_zero, List.set_cons_succ, List.getElem_toArray, List.getElem_cons_succ, List.getElem_cons_zero])
        (refine wpAnyH_take (i := 13) (oi := _) (v := ?vz32) rfl (by kernel_rfl) (by kernel_rfl) (by kernel_rfl) (fun _ _ _ h => h) (Or.inl ⟨by kernel_rfl, ?yz32⟩) (by assumption) ?_; rotate_left; (· (intro W0 hSw; skip; go_simp; try with_reducible rfl)); simp only [Act.put, List.setIfInBounds_toArray, List.set_cons_zero, List.set_cons_succ, List.getElem_toArray, List.getElem_cons_succ, List.getElem_cons_zero])
        (refine wpAnyH_take (i := 14) (oi := _) (v := ?vz33) rfl (by kernel_rfl) (by kernel_rfl) (by kernel_rfl) (fun _ _ _ h => h) (Or.inl ⟨by kernel_rfl, ?yz33⟩) (by assumption) ?_; rotate_left; (· (intro W0 hSw; skip; go_simp; try with_reducible rfl)); simp only [Act.put, List.setIfInBounds_toArray, List.set_cons_zero, List.set_cons_succ, List.getElem_toArray, List.getElem_cons_succ, List.getElem_cons_zero])
        (refine wpAnyH_take (i := 15) (oi := _) (v := ?vz34) rfl (by kernel_rfl) (by kernel_rfl) (by kernel_rfl) (fun _ _ _ h => h) (Or.inl ⟨by kernel_rfl, ?yz34⟩) (by assumption) ?_; rotate_left; (· (intro W0 hSw; skip; go_simp; try with_reducible rfl)); simp only [Act.put, List.setIfInBounds_toArray, List.set_cons_zero, List.set_cons_succ, List.getElem_toArray, List.getElem_cons_succ, List.getElem_cons_zero])
        (refine wpAnyH_done (by kernel_rfl) ?_ _)
        clear ma mb mc
        have bel1 : Below w.heap.size w w1 := hHN.1
        have hgg : w.heap.size ≤ g := by simp at hg1; omega
        have hp1' : PAt w1 g (forms0 a b c tries) := hp1
        have hgl := hp1'.lt
        have HP1 := Lib.hid hp1'; clear hp1 hp1' hb1 hg1
        by_cases hdd : 1 ≤ d ∧ d ≤ 255
        · obtain ⟨e1, e2, e3⟩ := stOK (s := forms0 a b c tries) (c := zstr d) (by rw [HZD.out]; omega) (by rw [HZD.out]; omega) rfl rfl
          have E1 := Lib.hid e1; have E2 := Lib.hid e2; have E3 := Lib.hid e3; clear e1 e2 e3
          have id1 : 1 ≤ (d : Int) := by omega
          have id2 : (d : Int) ≤ 255 := by omega
          go_wp2_with (first | (go_at_call 12; refine (num_any _ _).mono ?_; rintro e w' ⟨rfl, rfl⟩))
          refine (start_any g (forms0 a b c tries) (zstr d) _ (Blk.alloc HP1.out _)).mono ?_
          rintro e w2 ⟨rfl, hp2, hg2⟩
          rw [E1.out, E2.out]
          rw [E3.out] at hp2
          unfold chV
          have hz2 := hg2.size
          simp at hz2
          have bel2 : Below w.heap.size w w2 := below_gr (bel1.alloc bel1.size _) hg2 (by have := bel1.size; simp; omega) hgg
          have HP2 := Lib.hid hp2; clear hp2
          go_wp2_with (first | (go_at_call 12; refine (num_any _ _).mono ?_; rintro e w' ⟨rfl, rfl⟩))
          refine (take_any g { forms0 a b c tries with ch := zstr d, st := true } 9 0 ⟨#[]⟩ ⟨#[]⟩ _ (Blk.alloc HP2.out _) (by show (zstr c).size ≤ 64; rw [HZC.out]; omega) (by show (zstr d).size ≤ 255; rw [HZD.out]; omega) (by show (zstr b).size ≤ 64; rw [HZB.out]; omega)).mono ?_
          rintro e w3 ⟨⟨A3, cap3, rfl, hl3, hA3⟩, hp3, hg3⟩
          rw [(T9.out _).1] at hl3 ⊢
          rw [(T9.out { forms0 a b c tries with ch := zstr d, st := true }).2.1]
          have bel3 : Below w.heap.size w w3 := below_gr (bel2.alloc bel2.size _) hg3 (by have := bel2.size; simp; omega) hgg
          clear hp3 hl3
          go_wp2_with (first | (go_at_call 12; refine (num_any _ _).mono ?_; rintro e w' ⟨rfl, rfl⟩))
          go_ret
          exact ⟨rfl, bel3⟩
        · obtain ⟨e1, e2, e3⟩ := st_bad (s := forms0 a b c tries) (c := zstr d) (by rw [HZD.out]; exact hdd)
          have E1 := Lib.hid e1; have E2 := Lib.hid e2; have E3 := Lib.hid e3; clear e1 e2 e3
          go_wp2_with (first | (go_at_call 12; refine (num_any _ _).mono ?_; rintro e w' ⟨rfl, rfl⟩))
          refine (start_any g (forms0 a b c tries) (zstr d) _ (Blk.alloc HP1.out _)).mono ?_
          rintro e w2 ⟨rfl, hp2, hg2⟩
          rw [E1.out, E2.out]
          rw [E3.out] at hp2
          unfold chV
          have hz2 := hg2.size
          simp at hz2
          have bel2 : Below w.heap.size w w2 := below_gr (bel1.alloc bel1.size _) hg2 (by have := bel1.size; simp; omega) hgg
          have HP2 := Lib.hid hp2; clear hp2
          have hbx := Blk.new w2 33 (chC 0 0 ⟨#[]⟩ ⟨#[]⟩)
          have HBX := Lib.hid hbx; clear hbx
          have hdI : (d : Int) < 1 ∨ (255 : Int) < d := by omega
          have HDI := Lib.hid hdI; clear hdI
          rcases HDI.out with hdI | hdI
          all_goals
            first | (have hd9 : decide ((d : Int) ≤ 255) = false := decide_eq_false (by omega)) | skip
            go_wp2_with (first | (go_at_call 12; refine (num_any _ _).mono ?_; rintro e w' ⟨rfl, rfl⟩))
            refine (take_any g (forms0 a b c tries) 9 0 ⟨#[]⟩ ⟨#[]⟩ _ (Blk.alloc HP2.out _) (by show (zstr c).size ≤ 64; rw [HZC.out]; omega) (by show (⟨#[]⟩ : ByteArray).size ≤ 255; decide) (by show (zstr b).size ≤ 64; rw [HZB.out]; omega)).mono ?_
            rintro e w3 ⟨⟨A3, cap3, rfl, hl3, hA3⟩, hp3, hg3⟩
            rw [(T9.out _).1] at hl3 ⊢
            rw [(T9.out (forms0 a b c tries)).2.1]
            have hb3 : Blk w3 w2.heap.size 33 (chC 0 0 ⟨#[]⟩ ⟨#[]⟩) := Blk.grown HBX.out hg3 (by simp; omega)
            obtain ⟨k0, k1, k2, k3⟩ := chC_cells hb3
            have bel3 : Below w.heap.size w w3 := below_gr (bel2.alloc bel2.size _) hg3 (by have := bel2.size; simp; omega) hgg
            clear hp3 hl3 hb3
            go_wp2_with (first | (go_at_call 12; refine (num_any _ _).mono ?_; rintro e w' ⟨rfl, rfl⟩))
            go_ret
            exact ⟨rfl, bel3⟩
      exact AllReadyH.nil
    exact AllReadyH.nil
  refine AllReadyH.cons (o := _) rfl ?_ ?_
  · intro K hK
    rw [if_pos (by kernel_rfl)]
    go_simp
    refine hK.out _ _ ?_ (fun hHeld1 => ?_)
    · exact zs_alloc (by assumption) _
    have hz1 := zs_cons (b := w0.heap.size) hHeld1 (heap_top _ (.cells (zcells c) 5) (w0.heap.size) (by simp))
    refine weak_with hz1 ?_
    (refine wpAnyH_take (i := 8) (oi := _) (v := ?vz35) rfl (by kernel_rfl) (by kernel_rfl) (by kernel_rfl) (fun _ _ _ h => h) (Or.inl ⟨by kernel_rfl, ?yz35⟩) (by assumption) ?_; rotate_left; (· (intro W0 hSw; have hzz := zconv c W0 _ c (zs_head hSw); go_simp; try with_reducible rfl)); simp only [Act.put, List.setIfInBounds_toArray, List.set_cons_zero, List.set_cons_succ, List.getElem_toArray, List.getElem_cons_succ, List.getElem_cons_zero])
    (refine wpAnyH_ready (rs := [1, 4]) (by kernel_rfl) (by simp) ?_)
    refine AllReadyH.cons (o := _) rfl ?_ ?_
    · intro K hK
      rw [if_pos (by kernel_rfl)]
      go_simp
      refine hK.out _ _ ?_ (fun hHeld2 => ?_)
      · exact zs_alloc (by assumption) _
      have hz2 := zs_cons (b := w0.heap.size + 1) hHeld2 (heap_top _ (.cells (zcells a) 5) (w0.heap.size + 1) (by simp))
      refine weak_with hz2 ?_
      (refine wpAnyH_take (i := 2) (oi := _) (v := ?vz36) rfl (by kernel_rfl) (by kernel_rfl) (by kernel_rfl) (fun _ _ _ h => h) (Or.inl ⟨by kernel_rfl, ?yz36⟩) (by assumption) ?_; rotate_left; (· (intro W0 hSw; have hzz := zconv a W0 _ a (zs_head hSw); go_simp; try with_reducible rfl)); simp only [Act.put, List.setIfInBounds_toArray, List.set_cons_zero, List.set_cons_succ, List.getElem_toArray, List.getElem_cons_succ, List.getElem_cons_zero])
      (refine wpAnyH_ready (rs := [4]) (by kernel_rfl) (by simp) ?_)
      refine AllReadyH.cons (o := _) rfl ?_ ?_
      · intro K hK
        rw [if_pos (by kernel_rfl)]
        go_simp
        refine hK.out _ _ ?_ (fun hHeld3 => ?_)
        · exact zs_alloc (by assumption) _
        have hz3 := zs_cons (b := w0.heap.size + 1 + 1) hHeld3 (heap_top _ (.cells (zcells b) 5) (w0.heap.size + 1 + 1) (by simp))
        refine weak_with hz3 ?_
        (refine wpAnyH_take (i := 5) (oi := _) (v := ?vz37) rfl (by kernel_rfl) (by kernel_rfl) (by kernel_rfl) (fun _ _ _ h => h) (Or.inl ⟨by kernel_rfl, ?yz37⟩) (by assumption) ?_; rotate_left; (· (intro W0 hSw; have hzz := zconv b W0 _ b (zs_head hSw); go_simp; try with_reducible rfl)); simp only [Act.put, List.setIfInBounds_toArray, List.set_cons_zero, List.set_cons_succ, List.getElem_toArray, List.getElem_cons_succ, List.getElem_cons_zero])
        (refine wpAnyH_ready (rs := [10]) (by kernel_rfl) (by simp) ?_; refine AllReadyH.cons (o := _) rfl (fun K hK => ?_) AllReadyH.nil; rw [if_pos (by kernel_rfl)])
        go_simp
        refine (pnew_ok2 _ _ _ _ _ HN.out).mono ?_
        rintro e w1 ⟨g, rfl, hg1, hp1, hb1⟩
        go_simp
        refine hK.out _ _ ?_ (fun hHN => ?_)
        · exact zs_keep (by assumption) rfl hb1
        (refine wpAnyH_take (i := 11) (oi := _) (v := ?vz38) rfl (by kernel_rfl) (by kernel_rfl) (by kernel_rfl) (fun _ _ _ h => h) (Or.inl ⟨by kernel_rfl, ?yz38⟩) (by assumption) ?_; rotate_left; (· (intro W0 hSw; skip; go_simp; try with_reducible rfl)); simp only [Act.put, List.setIfInBounds_toArray, List.set_cons_zero, List.set_cons_succ, List.getElem_toArray, List.getElem_cons_succ, List.getElem_cons_zero])
        (refine wpAnyH_take (i := 12) (oi := _) (v := ?vz39) rfl (by kernel_rfl) (by kernel_rfl) (by kernel_rfl) (fun _ _ _ h => h) (Or.inl ⟨by kernel_rfl, ?yz39⟩) (by assumption) ?_; rotate_left; (· (intro W0 hSw; skip; go_simp; try with_reducible rfl)); simp only [Act.put, List.setIfInBounds_toArray, List.set_cons_zero, List.set_cons_succ, List.getElem_toArray, List.getElem_cons_succ, List.getElem_cons_zero])
        (refine wpAnyH_take (i := 13) (oi := _) (v := ?vz40) rfl (by kernel_rfl) (by kernel_rfl) (by kernel_rfl) (fun _ _ _ h => h) (Or.inl ⟨by kernel_rfl, ?yz40⟩) (by assumption) ?_; rotate_left; (· (intro W0 hSw; skip; go_simp; try with_reducible rfl)); simp only [Act.put, List.setIfInBounds_toArray, List.set_cons_zero, List.set_cons_succ, List.getElem_toArray, List.getElem_cons_succ, List.getElem_cons_zero])
        (refine wpAnyH_take (i := 14) (oi := _) (v := ?vz41) rfl (by kernel_rfl) (by kernel_rfl) (by kernel_rfl) (fun _ _ _ h => h) (Or.inl ⟨by kernel_rfl, ?yz41⟩) (by assumption) ?_; rotate_left; (· (intro W0 hSw; skip; go_simp; try with_reducible rfl)); simp only [Act.put, List.setIfInBounds_toArray, List.set_cons_zero, List.set_cons_succ, List.getElem_toArray, List.getElem_cons_succ, List.getElem_cons_zero])
        (refine wpAnyH_take (i := 15) (oi := _) (v := ?vz42) rfl (by kernel_rfl) (by kernel_rfl) (by kernel_rfl) (fun _ _ _ h => h) (Or.inl ⟨by kernel_rfl, ?yz42⟩) (by assumption) ?_; rotate_left; (· (intro W0 hSw; skip; go_simp; try with_reducible rfl)); simp only [Act.put, List.setIfInBounds_toArray, List.set_cons_zero, List.set_cons_succ, List.getElem_toArray, List.getElem_cons_succ, List.getElem_cons_zero])
        (refine wpAnyH_done (by kernel_rfl) ?_ _)
        clear ma mb mc
        have bel1 : Below w.heap.size w w1 := hHN.1
        have hgg : w.heap.size ≤ g := by simp at hg1; omega
        have hp1' : PAt w1 g (forms0 a b c tries) := hp1
        have hgl := hp1'.lt
        have HP1 := Lib.hid hp1'; clear hp1 hp1' hb1 hg1
        by_cases hdd : 1 ≤ d ∧ d ≤ 255
        · obtain ⟨e1, e2, e3⟩ := stOK (s := forms0 a b c tries) (c := zstr d) (by rw [HZD.out]; omega) (by rw [HZD.out]; omega) rfl rfl
          have E1 := Lib.hid e1; have E2 := Lib.hid e2; have E3 := Lib.hid e3; clear e1 e2 e3
          have id1 : 1 ≤ (d : Int) := by omega
          have id2 : (d : Int) ≤ 255 := by omega
          go_wp2_with (first | (go_at_call 12; refine (num_any _ _).mono ?_; rintro e w' ⟨rfl, rfl⟩))
          refine (start_any g (forms0 a b c tries) (zstr d) _ (Blk.alloc HP1.out _)).mono ?_
          rintro e w2 ⟨rfl, hp2, hg2⟩
          rw [E1.out, E2.out]
          rw [E3.out] at hp2
          unfold chV
          have hz2 := hg2.size
          simp at hz2
          have bel2 : Below w.heap.size w w2 := below_gr (bel1.alloc bel1.size _) hg2 (by have := bel1.size; simp; omega) hgg
          have HP2 := Lib.hid hp2; clear hp2
          go_wp2_with (first | (go_at_call 12; refine (num_any _ _).mono ?_; rintro e w' ⟨rfl, rfl⟩))
          refine (take_any g { forms0 a b c tries with ch := zstr d, st := true } 9 0 ⟨#[]⟩ ⟨#[]⟩ _ (Blk.alloc HP2.out _) (by show (zstr c).size ≤ 64; rw [HZC.out]; omega) (by show (zstr d).size ≤ 255; rw [HZD.out]; omega) (by show (zstr b).size ≤ 64; rw [HZB.out]; omega)).mono ?_
          rintro e w3 ⟨⟨A3, cap3, rfl, hl3, hA3⟩, hp3, hg3⟩
          rw [(T9.out _).1] at hl3 ⊢
          rw [(T9.out { forms0 a b c tries with ch := zstr d, st := true }).2.1]
          have bel3 : Below w.heap.size w w3 := below_gr (bel2.alloc bel2.size _) hg3 (by have := bel2.size; simp; omega) hgg
          clear hp3 hl3
          go_wp2_with (first | (go_at_call 12; refine (num_any _ _).mono ?_; rintro e w' ⟨rfl, rfl⟩))
          go_ret
          exact ⟨rfl, bel3⟩
        · obtain ⟨e1, e2, e3⟩ := st_bad (s := forms0 a b c tries) (c := zstr d) (by rw [HZD.out]; exact hdd)
          have E1 := Lib.hid e1; have E2 := Lib.hid e2; have E3 := Lib.hid e3; clear e1 e2 e3
          go_wp2_with (first | (go_at_call 12; refine (num_any _ _).mono ?_; rintro e w' ⟨rfl, rfl⟩))
          refine (start_any g (forms0 a b c tries) (zstr d) _ (Blk.alloc HP1.out _)).mono ?_
          rintro e w2 ⟨rfl, hp2, hg2⟩
          rw [E1.out, E2.out]
          rw [E3.out] at hp2
          unfold chV
          have hz2 := hg2.size
          simp at hz2
          have bel2 : Below w.heap.size w w2 := below_gr (bel1.alloc bel1.size _) hg2 (by have := bel1.size; simp; omega) hgg
          have HP2 := Lib.hid hp2; clear hp2
          have hbx := Blk.new w2 33 (chC 0 0 ⟨#[]⟩ ⟨#[]⟩)
          have HBX := Lib.hid hbx; clear hbx
          have hdI : (d : Int) < 1 ∨ (255 : Int) < d := by omega
          have HDI := Lib.hid hdI; clear hdI
          rcases HDI.out with hdI | hdI
          all_goals
            first | (have hd9 : decide ((d : Int) ≤ 255) = false := decide_eq_false (by omega)) | skip
            go_wp2_with (first | (go_at_call 12; refine (num_any _ _).mono ?_; rintro e w' ⟨rfl, rfl⟩))
            refine (take_any g (forms0 a b c tries) 9 0 ⟨#[]⟩ ⟨#[]⟩ _ (Blk.alloc HP2.out _) (by show (zstr c).size ≤ 64; rw [HZC.out]; omega) (by show (⟨#[]⟩ : ByteArray).size ≤ 255; decide) (by show (zstr b).size ≤ 64; rw [HZB.out]; omega)).mono ?_
            rintro e w3 ⟨⟨A3, cap3, rfl, hl3, hA3⟩, hp3, hg3⟩
            rw [(T9.out _).1] at hl3 ⊢
            rw [(T9.out (forms0 a b c tries)).2.1]
            have hb3 : Blk w3 w2.heap.size 33 (chC 0 0 ⟨#[]⟩ ⟨#[]⟩) := Blk.grown HBX.out hg3 (by simp; omega)
            obtain ⟨k0, k1, k2, k3⟩ := chC_cells hb3
            have bel3 : Below w.heap.size w w3 := below_gr (bel2.alloc bel2.size _) hg3 (by have := bel2.size; simp; omega) hgg
            clear hp3 hl3 hb3
            go_wp2_with (first | (go_at_call 12; refine (num_any _ _).mono ?_; rintro e w' ⟨rfl, rfl⟩))
            go_ret
            exact ⟨rfl, bel3⟩
      exact AllReadyH.nil
    refine AllReadyH.cons (o := _) rfl ?_ ?_
    · intro K hK
      rw [if_pos (by kernel_rfl)]
      go_simp
      refine hK.out _ _ ?_ (fun hHeld2 => ?_)
      · exact zs_alloc (by assumption) _
      have hz2 := zs_cons (b := w0.heap.size + 1) hHeld2 (heap_top _ (.cells (zcells b) 5) (w0.heap.size + 1) (by simp))
      refine weak_with hz2 ?_
      (refine wpAnyH_take (i := 5) (oi := _) (v := ?vz43) rfl (by kernel_rfl) (by kernel_rfl) (by kernel_rfl) (fun _ _ _ h => h) (Or.inl ⟨by kernel_rfl, ?yz43⟩) (by assumption) ?_; rotate_left; (· (intro W0 hSw; have hzz := zconv b W0 _ b (zs_head hSw); go_simp; try with_reducible rfl)); simp only [Act.put, List.setIfInBounds_toArray, List.set_cons_zero, List.set_cons_succ, List.getElem_toArray, List.getElem_cons_succ, List.getElem_cons_zero])
      (refine wpAnyH_ready (rs := [1]) (by kernel_rfl) (by simp) ?_)
      refine AllReadyH.cons (o := _) rfl ?_ ?_
      · intro K hK
        rw [if_pos (by kernel_rfl)]
        go_simp
        refine hK.out _ _ ?_ (fun hHeld3 => ?_)
        · exact zs_alloc (by assumption) _
        have hz3 := zs_cons (b := w0.heap.size + 1 + 1) hHeld3 (heap_top _ (.cells (zcells a) 5) (w0.heap.size + 1 + 1) (by simp))
        refine weak_with hz3 ?_
        (refine wpAnyH_take (i := 2) (oi := _) (v := ?vz44) rfl (by kernel_rfl) (by kernel_rfl) (by kernel_rfl) (fun _ _ _ h => h) (Or.inl ⟨by kernel_rfl, ?yz44⟩) (by assumption) ?_; rotate_left; (· (intro W0 hSw; have hzz := zconv a W0 _ a (zs_head hSw); go_simp; try with_reducible rfl)); simp only [Act.put, List.setIfInBounds_toArray, List.set_cons_zero, List.set_cons_succ, List.getElem_toArray, List.getElem_cons_succ, List.getElem_cons_zero])
        (refine wpAnyH_ready (rs := [10]) (by kernel_rfl) (by simp) ?_; refine AllReadyH.cons (o := _) rfl (fun K hK => ?_) AllReadyH.nil; rw [if_pos (by kernel_rfl)])
        go_simp
        refine (pnew_ok2 _ _ _ _ _ HN.out).mono ?_
        rintro e w1 ⟨g, rfl, hg1, hp1, hb1⟩
        go_simp
        refine hK.out _ _ ?_ (fun hHN => ?_)
        · exact zs_keep (by assumption) rfl hb1
        (refine wpAnyH_take (i := 11) (oi := _) (v := ?vz45) rfl (by kernel_rfl) (by kernel_rfl) (by kernel_rfl) (fun _ _ _ h => h) (Or.inl ⟨by kernel_rfl, ?yz45⟩) (by assumption) ?_; rotate_left; (· (intro W0 hSw; skip; go_simp; try with_reducible rfl)); simp only [Act.put, List.setIfInBounds_toArray, List.set_cons_zero, List.set_cons_succ, List.getElem_toArray, List.getElem_cons_succ, List.getElem_cons_zero])
        (refine wpAnyH_take (i := 12) (oi := _) (v := ?vz46) rfl (by kernel_rfl) (by kernel_rfl) (by kernel_rfl) (fun _ _ _ h => h) (Or.inl ⟨by kernel_rfl, ?yz46⟩) (by assumption) ?_; rotate_left; (· (intro W0 hSw; skip; go_simp; try with_reducible rfl)); simp only [Act.put, List.setIfInBounds_toArray, List.set_cons_zero, List.set_cons_succ, List.getElem_toArray, List.getElem_cons_succ, List.getElem_cons_zero])
        (refine wpAnyH_take (i := 13) (oi := _) (v := ?vz47) rfl (by kernel_rfl) (by kernel_rfl) (by kernel_rfl) (fun _ _ _ h => h) (Or.inl ⟨by kernel_rfl, ?yz47⟩) (by assumption) ?_; rotate_left; (· (intro W0 hSw; skip; go_simp; try with_reducible rfl)); simp only [Act.put, List.setIfInBounds_toArray, List.set_cons_zero, List.set_cons_succ, List.getElem_toArray, List.getElem_cons_succ, List.getElem_cons_zero])
        (refine wpAnyH_take (i := 14) (oi := _) (v := ?vz48) rfl (by kernel_rfl) (by kernel_rfl) (by kernel_rfl) (fun _ _ _ h => h) (Or.inl ⟨by kernel_rfl, ?yz48⟩) (by assumption) ?_; rotate_left; (· (intro W0 hSw; skip; go_simp; try with_reducible rfl)); simp only [Act.put, List.setIfInBounds_toArray, List.set_cons_zero, List.set_cons_succ, List.getElem_toArray, List.getElem_cons_succ, List.getElem_cons_zero])
        (refine wpAnyH_take (i := 15) (oi := _) (v := ?vz49) rfl (by kernel_rfl) (by kernel_rfl) (by kernel_rfl) (fun _ _ _ h => h) (Or.inl ⟨by kernel_rfl, ?yz49⟩) (by assumption) ?_; rotate_left; (· (intro W0 hSw; skip; go_simp; try with_reducible rfl)); simp only [Act.put, List.setIfInBounds_toArray, List.set_cons_zero, List.set_cons_succ, List.getElem_toArray, List.getElem_cons_succ, List.getElem_cons_zero])
        (refine wpAnyH_done (by kernel_rfl) ?_ _)
        clear ma mb mc
        have bel1 : Below w.heap.size w w1 := hHN.1
        have hgg : w.heap.size ≤ g := by simp at hg1; omega
        have hp1' : PAt w1 g (forms0 a b c tries) := hp1
        have hgl := hp1'.lt
        have HP1 := Lib.hid hp1'; clear hp1 hp1' hb1 hg1
        by_cases hdd : 1 ≤ d ∧ d ≤ 255
        · obtain ⟨e1, e2, e3⟩ := stOK (s := forms0 a b c tries) (c := zstr d) (by rw [HZD.out]; omega) (by rw [HZD.out]; omega) rfl rfl
          have E1 := Lib.hid e1; have E2 := Lib.hid e2; have E3 := Lib.hid e3; clear e1 e2 e3
          have id1 : 1 ≤ (d : Int) := by omega
          have id2 : (d : Int) ≤ 255 := by omega
          go_wp2_with (first | (go_at_call 12; refine (num_any _ _).mono ?_; rintro e w' ⟨rfl, rfl⟩))
          refine (start_any g (forms0 a b c tries) (zstr d) _ (Blk.alloc HP1.out _)).mono ?_
          rintro e w2 ⟨rfl, hp2, hg2⟩
          rw [E1.out, E2.out]
          rw [E3.out] at hp2
          unfold chV
          have hz2 := hg2.size
          simp at hz2
          have bel2 : Below w.heap.size w w2 := below_gr (bel1.alloc bel1.size _) hg2 (by have := bel1.size; simp; omega) hgg
          have HP2 := Lib.hid hp2; clear hp2
          go_wp2_with (first | (go_at_call 12; refine (num_any _ _).mono ?_; rintro e w' ⟨rfl, rfl⟩))
          refine (take_any g { forms0 a b c tries with ch := zstr d, st := true } 9 0 ⟨#[]⟩ ⟨#[]⟩ _ (Blk.alloc HP2.out _) (by show (zstr c).size ≤ 64; rw [HZC.out]; omega) (by show (zstr d).size ≤ 255; rw [HZD.out]; omega) (by show (zstr b).size ≤ 64; rw [HZB.out]; omega)).mono ?_
          rintro e w3 ⟨⟨A3, cap3, rfl, hl3, hA3⟩, hp3, hg3⟩
          rw [(T9.out _).1] at hl3 ⊢
          rw [(T9.out { forms0 a b c tries with ch := zstr d, st := true }).2.1]
          have bel3 : Below w.heap.size w w3 := below_gr (bel2.alloc bel2.size _) hg3 (by have := bel2.size; simp; omega) hgg
          clear hp3 hl3
          go_wp2_with (first | (go_at_call 12; refine (num_any _ _).mono ?_; rintro e w' ⟨rfl, rfl⟩))
          go_ret
          exact ⟨rfl, bel3⟩
        · obtain ⟨e1, e2, e3⟩ := st_bad (s := forms0 a b c tries) (c := zstr d) (by rw [HZD.out]; exact hdd)
          have E1 := Lib.hid e1; have E2 := Lib.hid e2; have E3 := Lib.hid e3; clear e1 e2 e3
          go_wp2_with (first | (go_at_call 12; refine (num_any _ _).mono ?_; rintro e w' ⟨rfl, rfl⟩))
          refine (start_any g (forms0 a b c tries) (zstr d) _ (Blk.alloc HP1.out _)).mono ?_
          rintro e w2 ⟨rfl, hp2, hg2⟩
          rw [E1.out, E2.out]
          rw [E3.out] at hp2
          unfold chV
          have hz2 := hg2.size
          simp at hz2
          have bel2 : Below w.heap.size w w2 := below_gr (bel1.alloc bel1.size _) hg2 (by have := bel1.size; simp; omega) hgg
          have HP2 := Lib.hid hp2; clear hp2
          have hbx := Blk.new w2 33 (chC 0 0 ⟨#[]⟩ ⟨#[]⟩)
          have HBX := Lib.hid hbx; clear hbx
          have hdI : (d : Int) < 1 ∨ (255 : Int) < d := by omega
          have HDI := Lib.hid hdI; clear hdI
          rcases HDI.out with hdI | hdI
          all_goals
            first | (have hd9 : decide ((d : Int) ≤ 255) = false := decide_eq_false (by omega)) | skip
            go_wp2_with (first | (go_at_call 12; refine (num_any _ _).mono ?_; rintro e w' ⟨rfl, rfl⟩))
            refine (take_any g (forms0 a b c tries) 9 0 ⟨#[]⟩ ⟨#[]⟩ _ (Blk.alloc HP2.out _) (by show (zstr c).size ≤ 64; rw [HZC.out]; omega) (by show (⟨#[]⟩ : ByteArray).size ≤ 255; decide) (by show (zstr b).size ≤ 64; rw [HZB.out]; omega)).mono ?_
            rintro e w3 ⟨⟨A3, cap3, rfl, hl3, hA3⟩, hp3, hg3⟩
            rw [(T9.out _).1] at hl3 ⊢
            rw [(T9.out (forms0 a b c tries)).2.1]
            have hb3 : Blk w3 w2.heap.size 33 (chC 0 0 ⟨#[]⟩ ⟨#[]⟩) := Blk.grown HBX.out hg3 (by simp; omega)
            obtain ⟨k0, k1, k2, k3⟩ := chC_cells hb3
            have bel3 : Below w.heap.size w w3 := below_gr (bel2.alloc bel2.size _) hg3 (by have := bel2.size; simp; omega) hgg
            clear hp3 hl3 hb3
            go_wp2_with (first | (go_at_call 12; refine (num_any _ _).mono ?_; rintro e w' ⟨rfl, rfl⟩))
            go_ret
            exact ⟨rfl, bel3⟩
      exact AllReadyH.nil
    exact AllReadyH.nil
  exact AllReadyH.nil
end Go.Proofs.Ytdfefpbpfneahaa
