/- The reference's Take at a request. No condition but memory's own limits. -/
import Derived.Test.YtckbbfdllflmjaaTalkRB
namespace Go.Proofs.Ytckbbfdllflmjaa
open Go.RowKit
set_option linter.unusedVariables false
set_option linter.unusedSimpArgs false
attribute [local go_sem] conv1 conv1d conv1n conv1a conv1ad conv1an conv2 conv2d conv2n conv2a conv2ad conv2an conv4 conv4d conv4n conv4a conv4ad conv4an conv5 conv5d conv5n conv5a conv5ad conv5an size_nums byt_fold
theorem RAt.gone {w : World} {Y : Nat → Prop} {g : Nat} {s : TS} (h : RAt w Y g s) (hY : Y g) : RAt (w.setCell ⟨g, 0, none⟩ (.bool false)) Y g { s with left := 0 } := by
  obtain ⟨L, A, n, cap, B, m, cb, h, hl, h1, h2⟩ := h
  have hg : w.grownBy (w.setCell ⟨g, 0, none⟩ (.bool false)) (some g) := gr_set (gr_refl w g) (.inl rfl) _
  have hb := Blk.set_ h 0 (.bool false)
  rw [rtC_gone0] at hb
  exact ⟨L, A, n, cap, B, m, cb, hb, fun e => absurd e (by simp), h1.own hg hY, h2.own hg hY⟩
theorem RAt.drewN {w : World} {Y : Nat → Prop} {g : Nat} {s : TS} (h : RAt w Y g s) (k : Nat) : RAt (w.drewN k) Y g s := h.keep (below_drewN (Below.refl _ _) k)
theorem rtake_req_end {w W w2 : World} {X : Nat → Prop} {g : Nat} {s S : TS} {c i a an : Int} {R : Option Addr} {k rc : Nat} {os : List (Int × ByteArray)} {yes : Bool} (hX : X g) (hXl : ∀ b, X b → b < w.heap.size) (hk : k * 24 ≤ 140737488351232) (hlen : os.length = k)
    (hgr : w.grownBy W (some g)) (hra : RAt W (UpX X w.heap.size) g S) (hown : w2.ownsRow W.heap.size 65 2 (.slice R k rc) k (optCells os)) (hgrow : (W.alloc (.cells #[] 65)).drew.grownBy w2 (some W.heap.size))
    (h1 : tkL s c i a os yes = [(c + 1, i, an, os)]) (h2 : tkE c i a os = 0) (h3 : tkS s c i a os = S) :
    RTkB s c i a os yes X g w (.returned (.tuple #[.slice (some ⟨w2.heap.size, 0, none⟩) 1 1, .int .i64 0])) (w2.alloc (.cells #[.int .i64 (c + 1), .int .i64 i, .int .i64 an, .slice R k rc] 34)) := by
  have hz := hgr.size
  have hm : MadeO W w2 R k rc os := ⟨hown, hlen, hk⟩
  have hg2 : w.grownBy w2 (some g) := gr_more (gr_drew (gr_alloc hgr _)) hgrow (fun k e => by rw [← Option.some.inj e]; omega)
  have hgl := hra.lt
  have hr2 : RAt w2 (UpX X w.heap.size) g S := (hra.keep ((Below.refl _ _).alloc (Nat.le_refl _) (.cells #[] 65)).drew).chg (P := fun b => b = W.heap.size) (Chg.gr hgrow rfl) (fun b e => .inr (by omega)) (by omega)
  have bl : Below w2.heap.size w2 (w2.alloc (.cells #[.int .i64 (c + 1), .int .i64 i, .int .i64 an, .slice R k rc] 34)) := (Below.refl _ _).alloc (Nat.le_refl _) _
  exact RTkB.one h1 h2 h3 hg2.size (Blk.new _ _ _) (hm.optsAt.keep bl) ((hr2.keep bl).mono (fun b _ h => .inl h)) (gr_alloc hg2 _)
set_option maxRecDepth 100000 in
set_option maxHeartbeats 4000000 in
theorem rtake_win_t (X : Nat → Prop) (g : Nat) (s : TS) (c i a : Int) (O : Option Addr) (k cap : Nat) (os : List (Int × ByteArray)) (w : World) (hp : RAt w X g s) (hX : X g) (hXl : ∀ b, X b → b < w.heap.size) (ha : 0 ≤ s.ac ∧ s.ac ≤ 8) (hv : RLies w X O k os) (hk : k * 24 ≤ 140737488351232) (hcap : O = none → k = 0 ∧ cap = 0) (ho : ∀ o ∈ os, o.2.size ≤ 140737488351232) (hQ : bE c i a os = 0) (hq : reqB c = true) (h8 : 1 ≤ c ∧ c ≤ 8) (hl : 0 < s.left) (hr : reqB s.ac = true) (hcr : crossB s.fav s.ac c = true) :
    Calls Try.prog 22 #[.pointer (some ⟨g, 0, none⟩), .agg #[.int .i64 c, .int .i64 i, .int .i64 a, .slice O k cap], .bool true] w (RTkB s c i a os true X g w) := by
  have h7 : (c == 7) = false := by rw [beq_eq_false_iff_ne]; rintro rfl; revert hq; decide
  have HX := Lib.hid (show tkL s c i a os true = [(c + 1, i, 1, os)] ∧ tkE c i a os = 0 ∧ tkS s c i a os = s from by
    unfold tkL tkE tkS
    rw [if_pos hQ, if_pos hQ, if_pos hQ, if_pos hq, if_pos hq]
    unfold tReqA tReqS crs
    simp [hl, hr, hcr, ansI])
  have hw : IntKind.i64.wrap (c + 1) = c + 1 := IntWalk.i64_in _ (by omega)
  have HP := Lib.hid hp
  have hlt := hp.lt
  have HBX := Lib.hid (Blk.new w 34 #[.int .i64 c, .int .i64 i, .int .i64 a, .slice O k cap])
  have HVR := Lib.hid hv
  have HV := Lib.hid (hv.1.keep ((Below.refl w.heap.size w).alloc (Nat.le_refl _) (.cells #[.int .i64 c, .int .i64 i, .int .i64 a, .slice O k cap] 34)))
  have HO := Lib.hid ho
  clear hv ho
  go_enter Try.func22, Try.ntmps22
  go_wp2_with fail
  refine (rbap_any c i a O k cap os _ HV.out (by omega) HO.out).mono ?_
  rintro e w1 ⟨P, rfl, hb1⟩
  rw [hQ]
  have hz1 := hb1.size
  simp at hz1
  have z1 : w.heap.size < w1.heap.size := by omega
  have bel : Below w.heap.size w w1 := ((Below.refl _ _).alloc (Nat.le_refl _) _).trans (hb1.mono (by simp))
  have hrb := HBX.out.keep hb1
  have r0 : w1.cell? ⟨w.heap.size, 0, none⟩ = some (.int .i64 c) := hrb.cell 0
  have r1 : w1.cell? ⟨w.heap.size, 1, none⟩ = some (.int .i64 i) := hrb.cell 1
  have r2 : w1.cell? ⟨w.heap.size, 2, none⟩ = some (.int .i64 a) := hrb.cell 2
  have r3 : w1.cell? ⟨w.heap.size, 3, none⟩ = some (.slice O k cap) := hrb.cell 3
  have rf := hrb.frozen
  obtain ⟨L, A, n, ca, B, m, cb, h, hL0, h1, h2⟩ := HP.out.up
  have hgb := h.below bel hlt
  have hq1 := h1.keep bel
  have hq2 := h2.keep bel
  have g0 : w1.cell? ⟨g, 0, none⟩ = some (.bool (decide (0 < s.left))) := hgb.cell 0
  have g5 : w1.cell? ⟨g, 5, none⟩ = some (.bool s.fav) := hgb.cell 5
  have g9 : w1.cell? ⟨g, 9, none⟩ = some (.int .i64 s.ac) := hgb.cell 9
  have g10 : w1.cell? ⟨g, 10, none⟩ = some (.int .i64 s.ai) := hgb.cell 10
  have gf := hgb.frozen
  have hgl : g < w1.heap.size := by omega
  have hne : g ≠ w.heap.size := by omega
  have HR0 := Lib.hid (HP.out.up.keep bel)
  have HGB := Lib.hid hgb; have HRB := Lib.hid hrb; have Q1 := Lib.hid hq1; have Q2 := Lib.hid hq2; have HL := Lib.hid hL0; have HB1 := Lib.hid bel
  clear hgb hrb hq1 hq2 h h1 h2 hL0 hb1 bel
  go_wp2_with (first | (go_at_call 35; refine (rreq_any _ _).mono ?_; rintro e w' ⟨rfl, rfl⟩))
  go_quiet ((go_at_call 38; exact Calls.quiet_of_same ((rcross_any _ _ _ _).mono (fun e w' h => ⟨h.1.trans (by rw [hcr]), h.2.symm⟩))))
  go_wp2_with fail
  have hgr1 : w.grownBy (w1.drewN nq) (some g) := gr_drewN (gr_of g HB1.out) nq
  have hra1 : RAt (w1.drewN nq) (UpX X w.heap.size) g s := HR0.out.drewN nq
  have hbx1 : Blk (w1.drewN nq) w.heap.size 34 #[.int .i64 c, .int .i64 i, .int .i64 a, .slice O k cap] := HRB.out.drewN nq
  have hov : OptsAt (w1.drewN nq) O k os := (HVR.out.own hgr1 hX).1
  generalize (w1.drewN nq) = W at hgr1 hra1 hbx1 hov ⊢
  have hbl := hbx1.lt
  have HGR := Lib.hid hgr1; have HRA := Lib.hid hra1; have HBXW := Lib.hid hbx1; have HOV := Lib.hid hov; have HXL := Lib.hid hXl
  clear r0 r1 r2 r3 rf g0 g5 g9 g10 gf hgl hne HGB HRB HR0 Q1 Q2 HL HB1 HP HBX HVR HV HO z1 hz1 hgr1 hra1 hov hXl
  generalize hqe : w.heap.size = q at hbx1 hbl HBXW ⊢
  have HQE := Lib.hid hqe
  clear hqe
  refine wp_region_held_drew (S := fun V => Blk V q 34 #[.int .i64 c, .int .i64 i, .int .i64 a, .slice O k cap]) (by kernel_rfl) hbx1.drew (fun hHeld => ?_)
  (refine wpAnyH_take (i := 0) (oi := _) (v := ?v0) rfl (by kernel_rfl) (by kernel_rfl) (by kernel_rfl) (fun _ _ _ h => h) (Or.inl ⟨by kernel_rfl, ?y0⟩) (by assumption) ?_; rotate_left; (· (intro w hSw; have hw0 : w.cell? ⟨q, 0, none⟩ = some (.int .i64 c) := hSw.cell 0; have hw1 : w.cell? ⟨q, 1, none⟩ = some (.int .i64 i) := hSw.cell 1; have hw3 : w.cell? ⟨q, 3, none⟩ = some (.slice O k cap) := hSw.cell 3; clear hSw; go_simp; try with_reducible rfl)); simp only [Act.put, List.setIfInBounds_toArray, List.set_cons_zero, List.set_cons_succ, List.getElem_toArray, List.getElem_cons_succ, List.getElem_cons_zero])
  (refine wpAnyH_take (i := 1) (oi := _) (v := ?v1) rfl (by kernel_rfl) (by kernel_rfl) (by kernel_rfl) (fun _ _ _ h => h) (Or.inl ⟨by kernel_rfl, ?y1⟩) (by assumption) ?_; rotate_left; (· (intro w hSw; have hw0 : w.cell? ⟨q, 0, none⟩ = some (.int .i64 c) := hSw.cell 0; have hw1 : w.cell? ⟨q, 1, none⟩ = some (.int .i64 i) := hSw.cell 1; have hw3 : w.cell? ⟨q, 3, none⟩ = some (.slice O k cap) := hSw.cell 3; clear hSw; go_simp; try with_reducible rfl)); simp only [Act.put, List.setIfInBounds_toArray, List.set_cons_zero, List.set_cons_succ, List.getElem_toArray, List.getElem_cons_succ, List.getElem_cons_zero])
  (refine wpAnyH_take (i := 2) (oi := _) (v := ?v2) rfl (by kernel_rfl) (by kernel_rfl) (by kernel_rfl) (fun _ _ _ h => h) (Or.inl ⟨by kernel_rfl, ?y2⟩) (by assumption) ?_; rotate_left; (· (intro w hSw; have hw0 : w.cell? ⟨q, 0, none⟩ = some (.int .i64 c) := hSw.cell 0; have hw1 : w.cell? ⟨q, 1, none⟩ = some (.int .i64 i) := hSw.cell 1; have hw3 : w.cell? ⟨q, 3, none⟩ = some (.slice O k cap) := hSw.cell 3; clear hSw; go_simp; try with_reducible rfl)); simp only [Act.put, List.setIfInBounds_toArray, List.set_cons_zero, List.set_cons_succ, List.getElem_toArray, List.getElem_cons_succ, List.getElem_cons_zero])
  (refine wpAnyH_take (i := 3) (oi := _) (v := ?v3) rfl (by kernel_rfl) (by kernel_rfl) (by kernel_rfl) (fun _ _ _ h => h) (Or.inl ⟨by kernel_rfl, ?y3⟩) (by assumption) ?_; rotate_left; (· (intro w hSw; have hw0 : w.cell? ⟨q, 0, none⟩ = some (.int .i64 c) := hSw.cell 0; have hw1 : w.cell? ⟨q, 1, none⟩ = some (.int .i64 i) := hSw.cell 1; have hw3 : w.cell? ⟨q, 3, none⟩ = some (.slice O k cap) := hSw.cell 3; clear hSw; go_simp; try with_reducible rfl)); simp only [Act.put, List.setIfInBounds_toArray, List.set_cons_zero, List.set_cons_succ, List.getElem_toArray, List.getElem_cons_succ, List.getElem_cons_zero])
  (refine wpAnyH_take (i := 4) (oi := _) (v := ?v4) rfl (by kernel_rfl) (by kernel_rfl) (by kernel_rfl) (fun _ _ _ h => h) (Or.inl ⟨by kernel_rfl, ?y4⟩) (by assumption) ?_; rotate_left; (· (intro w hSw; have hw0 : w.cell? ⟨q, 0, none⟩ = some (.int .i64 c) := hSw.cell 0; have hw1 : w.cell? ⟨q, 1, none⟩ = some (.int .i64 i) := hSw.cell 1; have hw3 : w.cell? ⟨q, 3, none⟩ = some (.slice O k cap) := hSw.cell 3; clear hSw; go_simp; try with_reducible rfl)); simp only [Act.put, List.setIfInBounds_toArray, List.set_cons_zero, List.set_cons_succ, List.getElem_toArray, List.getElem_cons_succ, List.getElem_cons_zero])
  (refine wpAnyH_take (i := 5) (oi := _) (v := ?v5) rfl (by kernel_rfl) (by kernel_rfl) (by kernel_rfl) (fun _ _ _ h => h) (Or.inl ⟨by kernel_rfl, ?y5⟩) (by assumption) ?_; rotate_left; (· (intro w hSw; have hw0 : w.cell? ⟨q, 0, none⟩ = some (.int .i64 c) := hSw.cell 0; have hw1 : w.cell? ⟨q, 1, none⟩ = some (.int .i64 i) := hSw.cell 1; have hw3 : w.cell? ⟨q, 3, none⟩ = some (.slice O k cap) := hSw.cell 3; clear hSw; go_simp; try with_reducible rfl)); simp only [Act.put, List.setIfInBounds_toArray, List.set_cons_zero, List.set_cons_succ, List.getElem_toArray, List.getElem_cons_succ, List.getElem_cons_zero])
  (refine wpAnyH_take (i := 7) (oi := _) (v := ?v7) rfl (by kernel_rfl) (by kernel_rfl) (by kernel_rfl) (fun _ _ _ h => h) (Or.inl ⟨by kernel_rfl, ?y7⟩) (by assumption) ?_; rotate_left; (· (intro w hSw; have hw0 : w.cell? ⟨q, 0, none⟩ = some (.int .i64 c) := hSw.cell 0; have hw1 : w.cell? ⟨q, 1, none⟩ = some (.int .i64 i) := hSw.cell 1; have hw3 : w.cell? ⟨q, 3, none⟩ = some (.slice O k cap) := hSw.cell 3; clear hSw; go_simp; try with_reducible rfl)); simp only [Act.put, List.setIfInBounds_toArray, List.set_cons_zero, List.set_cons_succ, List.getElem_toArray, List.getElem_cons_succ, List.getElem_cons_zero])
  (refine wpAnyH_take (i := 8) (oi := _) (v := ?v8) rfl (by kernel_rfl) (by kernel_rfl) (by kernel_rfl) (fun _ _ _ h => h) (Or.inl ⟨by kernel_rfl, ?y8⟩) (by assumption) ?_; rotate_left; (· (intro w hSw; have hw0 : w.cell? ⟨q, 0, none⟩ = some (.int .i64 c) := hSw.cell 0; have hw1 : w.cell? ⟨q, 1, none⟩ = some (.int .i64 i) := hSw.cell 1; have hw3 : w.cell? ⟨q, 3, none⟩ = some (.slice O k cap) := hSw.cell 3; clear hSw; go_simp; try with_reducible rfl)); simp only [Act.put, List.setIfInBounds_toArray, List.set_cons_zero, List.set_cons_succ, List.getElem_toArray, List.getElem_cons_succ, List.getElem_cons_zero])
  (refine wpAnyH_ready (rs := [6]) (by kernel_rfl) (by simp) ?_; refine AllReadyH.cons (o := _) rfl (fun K hK => ?_) AllReadyH.nil; rw [if_pos (by kernel_rfl)])
  go_simp
  (refine hK.out _ _ ?_ (fun hHeld => ?_))
  · exact HBXW.out.alloc _
  clear hK
  (refine wpAnyH_ready (rs := [9]) (by kernel_rfl) (by simp) ?_; refine AllReadyH.cons (o := _) rfl (fun K hK => ?_) AllReadyH.nil; rw [if_pos (by kernel_rfl)])
  refine wp_optcopy _ _ (by rfl) W.heap.size (by rfl) W.heap.size (own_zero W) O k cap os (by rfl) (HOV.out.keep ((Below.refl _ _).alloc (Nat.le_refl _) _).drew) hk hcap (by simp) ?_
  intro R rc w2 hown hgrow
  have hgz := hgrow.size
  simp at hgz
  have hb2 : Blk w2 q 34 #[.int .i64 c, .int .i64 i, .int .i64 a, .slice O k cap] := ((HBXW.out.alloc (.cells #[] 65)).drew).grown hgrow (by intro e; have := Option.some.inj e; omega)
  have HOWN := Lib.hid hown; have HGROW := Lib.hid hgrow
  clear hown hgrow
  (refine hK.out _ _ ?_ (fun hHeld => ?_))
  · exact hb2
  clear hK
  (refine wpAnyH_take (i := 10) (oi := _) (v := ?v10) rfl (by kernel_rfl) (by kernel_rfl) (by kernel_rfl) (fun _ _ _ h => h) (Or.inl ⟨by kernel_rfl, ?y10⟩) (by assumption) ?_; rotate_left; (· (intro w hSw; skip; go_simp; try with_reducible rfl)); simp only [Act.put, List.setIfInBounds_toArray, List.set_cons_zero, List.set_cons_succ, List.getElem_toArray, List.getElem_cons_succ, List.getElem_cons_zero])
  (refine wpAnyH_ready (rs := [11]) (by kernel_rfl) (by simp) ?_; refine AllReadyH.cons (o := _) rfl (fun K hK => ?_) AllReadyH.nil; rw [if_pos (by kernel_rfl)])
  go_simp
  (refine hK.out _ _ ?_ (fun hHeld => ?_))
  · exact hb2.alloc _
  clear hK
  (refine wpAnyH_ready (rs := [12]) (by kernel_rfl) (by simp) ?_; refine AllReadyH.cons (o := _) rfl (fun K hK => ?_) AllReadyH.nil; rw [if_pos (by kernel_rfl)])
  go_simp
  (refine hK.out _ _ ?_ (fun hHeld => ?_))
  · exact hb2.alloc _
  clear hK
  (refine wpAnyH_ready (rs := [13]) (by kernel_rfl) (by simp) ?_; refine AllReadyH.cons (o := _) rfl (fun K hK => ?_) AllReadyH.nil; rw [if_pos (by kernel_rfl)])
  go_simp
  (refine hK.out _ _ ?_ (fun hHeld => ?_))
  · exact hb2.alloc _
  clear hK
  (refine wpAnyH_done (by kernel_rfl) ?_ _)
  clear hb2
  go_wp2_with fail
  go_ret2
  exact rtake_req_end hX HXL.out hk HOV.out.1 HGR.out HRA.out HOWN.out HGROW.out HX.out.1 HX.out.2.1 HX.out.2.2
set_option maxRecDepth 100000 in
set_option maxHeartbeats 4000000 in
theorem rtake_lose_t (X : Nat → Prop) (g : Nat) (s : TS) (c i a : Int) (O : Option Addr) (k cap : Nat) (os : List (Int × ByteArray)) (w : World) (hp : RAt w X g s) (hX : X g) (hXl : ∀ b, X b → b < w.heap.size) (ha : 0 ≤ s.ac ∧ s.ac ≤ 8) (hv : RLies w X O k os) (hk : k * 24 ≤ 140737488351232) (hcap : O = none → k = 0 ∧ cap = 0) (ho : ∀ o ∈ os, o.2.size ≤ 140737488351232) (hQ : bE c i a os = 0) (hq : reqB c = true) (h8 : 1 ≤ c ∧ c ≤ 8) (hl : 0 < s.left) (hr : reqB s.ac = true) (hcr : crossB s.fav s.ac c = false) :
    Calls Try.prog 22 #[.pointer (some ⟨g, 0, none⟩), .agg #[.int .i64 c, .int .i64 i, .int .i64 a, .slice O k cap], .bool true] w (RTkB s c i a os true X g w) := by
  have h7 : (c == 7) = false := by rw [beq_eq_false_iff_ne]; rintro rfl; revert hq; decide
  have HX := Lib.hid (show tkL s c i a os true = [(c + 1, i, 0, os)] ∧ tkE c i a os = 0 ∧ tkS s c i a os = { s with left := 0 } from by
    unfold tkL tkE tkS
    rw [if_pos hQ, if_pos hQ, if_pos hQ, if_pos hq, if_pos hq]
    unfold tReqA tReqS crs
    simp [hl, hr, hcr, ansI])
  have hw : IntKind.i64.wrap (c + 1) = c + 1 := IntWalk.i64_in _ (by omega)
  have HP := Lib.hid hp
  have hlt := hp.lt
  have HBX := Lib.hid (Blk.new w 34 #[.int .i64 c, .int .i64 i, .int .i64 a, .slice O k cap])
  have HVR := Lib.hid hv
  have HV := Lib.hid (hv.1.keep ((Below.refl w.heap.size w).alloc (Nat.le_refl _) (.cells #[.int .i64 c, .int .i64 i, .int .i64 a, .slice O k cap] 34)))
  have HO := Lib.hid ho
  clear hv ho
  go_enter Try.func22, Try.ntmps22
  go_wp2_with fail
  refine (rbap_any c i a O k cap os _ HV.out (by omega) HO.out).mono ?_
  rintro e w1 ⟨P, rfl, hb1⟩
  rw [hQ]
  have hz1 := hb1.size
  simp at hz1
  have z1 : w.heap.size < w1.heap.size := by omega
  have bel : Below w.heap.size w w1 := ((Below.refl _ _).alloc (Nat.le_refl _) _).trans (hb1.mono (by simp))
  have hrb := HBX.out.keep hb1
  have r0 : w1.cell? ⟨w.heap.size, 0, none⟩ = some (.int .i64 c) := hrb.cell 0
  have r1 : w1.cell? ⟨w.heap.size, 1, none⟩ = some (.int .i64 i) := hrb.cell 1
  have r2 : w1.cell? ⟨w.heap.size, 2, none⟩ = some (.int .i64 a) := hrb.cell 2
  have r3 : w1.cell? ⟨w.heap.size, 3, none⟩ = some (.slice O k cap) := hrb.cell 3
  have rf := hrb.frozen
  obtain ⟨L, A, n, ca, B, m, cb, h, hL0, h1, h2⟩ := HP.out.up
  have hgb := h.below bel hlt
  have hq1 := h1.keep bel
  have hq2 := h2.keep bel
  have g0 : w1.cell? ⟨g, 0, none⟩ = some (.bool (decide (0 < s.left))) := hgb.cell 0
  have g5 : w1.cell? ⟨g, 5, none⟩ = some (.bool s.fav) := hgb.cell 5
  have g9 : w1.cell? ⟨g, 9, none⟩ = some (.int .i64 s.ac) := hgb.cell 9
  have g10 : w1.cell? ⟨g, 10, none⟩ = some (.int .i64 s.ai) := hgb.cell 10
  have gf := hgb.frozen
  have hgl : g < w1.heap.size := by omega
  have hne : g ≠ w.heap.size := by omega
  have HR0 := Lib.hid (HP.out.up.keep bel)
  have HGB := Lib.hid hgb; have HRB := Lib.hid hrb; have Q1 := Lib.hid hq1; have Q2 := Lib.hid hq2; have HL := Lib.hid hL0; have HB1 := Lib.hid bel
  clear hgb hrb hq1 hq2 h h1 h2 hL0 hb1 bel
  go_wp2_with (first | (go_at_call 35; refine (rreq_any _ _).mono ?_; rintro e w' ⟨rfl, rfl⟩))
  go_quiet ((go_at_call 38; exact Calls.quiet_of_same ((rcross_any _ _ _ _).mono (fun e w' h => ⟨h.1.trans (by rw [hcr]), h.2.symm⟩))))
  go_wp2_with fail
  have hgr1 : w.grownBy ((w1.drewN nq).setCell ⟨g, 0, none⟩ (.bool false)) (some g) := gr_set (gr_drewN (gr_of g HB1.out) nq) (.inl rfl) _
  have hra1 : RAt ((w1.drewN nq).setCell ⟨g, 0, none⟩ (.bool false)) (UpX X w.heap.size) g { s with left := 0 } := (HR0.out.drewN nq).gone (.inl hX)
  have hbx1 : Blk ((w1.drewN nq).setCell ⟨g, 0, none⟩ (.bool false)) w.heap.size 34 #[.int .i64 c, .int .i64 i, .int .i64 a, .slice O k cap] := (HRB.out.drewN nq).far (by show w.heap.size ≠ g; omega) _
  have hov : OptsAt ((w1.drewN nq).setCell ⟨g, 0, none⟩ (.bool false)) O k os := (HVR.out.own hgr1 hX).1
  generalize ((w1.drewN nq).setCell ⟨g, 0, none⟩ (.bool false)) = W at hgr1 hra1 hbx1 hov ⊢
  have hbl := hbx1.lt
  have HGR := Lib.hid hgr1; have HRA := Lib.hid hra1; have HBXW := Lib.hid hbx1; have HOV := Lib.hid hov; have HXL := Lib.hid hXl
  clear r0 r1 r2 r3 rf g0 g5 g9 g10 gf hgl hne HGB HRB HR0 Q1 Q2 HL HB1 HP HBX HVR HV HO z1 hz1 hgr1 hra1 hov hXl
  generalize hqe : w.heap.size = q at hbx1 hbl HBXW ⊢
  have HQE := Lib.hid hqe
  clear hqe
  refine wp_region_held_drew (S := fun V => Blk V q 34 #[.int .i64 c, .int .i64 i, .int .i64 a, .slice O k cap]) (by kernel_rfl) hbx1.drew (fun hHeld => ?_)
  (refine wpAnyH_take (i := 0) (oi := _) (v := ?v0) rfl (by kernel_rfl) (by kernel_rfl) (by kernel_rfl) (fun _ _ _ h => h) (Or.inl ⟨by kernel_rfl, ?y0⟩) (by assumption) ?_; rotate_left; (· (intro w hSw; have hw0 : w.cell? ⟨q, 0, none⟩ = some (.int .i64 c) := hSw.cell 0; have hw1 : w.cell? ⟨q, 1, none⟩ = some (.int .i64 i) := hSw.cell 1; have hw3 : w.cell? ⟨q, 3, none⟩ = some (.slice O k cap) := hSw.cell 3; clear hSw; go_simp; try with_reducible rfl)); simp only [Act.put, List.setIfInBounds_toArray, List.set_cons_zero, List.set_cons_succ, List.getElem_toArray, List.getElem_cons_succ, List.getElem_cons_zero])
  (refine wpAnyH_take (i := 1) (oi := _) (v := ?v1) rfl (by kernel_rfl) (by kernel_rfl) (by kernel_rfl) (fun _ _ _ h => h) (Or.inl ⟨by kernel_rfl, ?y1⟩) (by assumption) ?_; rotate_left; (· (intro w hSw; have hw0 : w.cell? ⟨q, 0, none⟩ = some (.int .i64 c) := hSw.cell 0; have hw1 : w.cell? ⟨q, 1, none⟩ = some (.int .i64 i) := hSw.cell 1; have hw3 : w.cell? ⟨q, 3, none⟩ = some (.slice O k cap) := hSw.cell 3; clear hSw; go_simp; try with_reducible rfl)); simp only [Act.put, List.setIfInBounds_toArray, List.set_cons_zero, List.set_cons_succ, List.getElem_toArray, List.getElem_cons_succ, List.getElem_cons_zero])
  (refine wpAnyH_take (i := 2) (oi := _) (v := ?v2) rfl (by kernel_rfl) (by kernel_rfl) (by kernel_rfl) (fun _ _ _ h => h) (Or.inl ⟨by kernel_rfl, ?y2⟩) (by assumption) ?_; rotate_left; (· (intro w hSw; have hw0 : w.cell? ⟨q, 0, none⟩ = some (.int .i64 c) := hSw.cell 0; have hw1 : w.cell? ⟨q, 1, none⟩ = some (.int .i64 i) := hSw.cell 1; have hw3 : w.cell? ⟨q, 3, none⟩ = some (.slice O k cap) := hSw.cell 3; clear hSw; go_simp; try with_reducible rfl)); simp only [Act.put, List.setIfInBounds_toArray, List.set_cons_zero, List.set_cons_succ, List.getElem_toArray, List.getElem_cons_succ, List.getElem_cons_zero])
  (refine wpAnyH_take (i := 3) (oi := _) (v := ?v3) rfl (by kernel_rfl) (by kernel_rfl) (by kernel_rfl) (fun _ _ _ h => h) (Or.inl ⟨by kernel_rfl, ?y3⟩) (by assumption) ?_; rotate_left; (· (intro w hSw; have hw0 : w.cell? ⟨q, 0, none⟩ = some (.int .i64 c) := hSw.cell 0; have hw1 : w.cell? ⟨q, 1, none⟩ = some (.int .i64 i) := hSw.cell 1; have hw3 : w.cell? ⟨q, 3, none⟩ = some (.slice O k cap) := hSw.cell 3; clear hSw; go_simp; try with_reducible rfl)); simp only [Act.put, List.setIfInBounds_toArray, List.set_cons_zero, List.set_cons_succ, List.getElem_toArray, List.getElem_cons_succ, List.getElem_cons_zero])
  (refine wpAnyH_take (i := 4) (oi := _) (v := ?v4) rfl (by kernel_rfl) (by kernel_rfl) (by kernel_rfl) (fun _ _ _ h => h) (Or.inl ⟨by kernel_rfl, ?y4⟩) (by assumption) ?_; rotate_left; (· (intro w hSw; have hw0 : w.cell? ⟨q, 0, none⟩ = some (.int .i64 c) := hSw.cell 0; have hw1 : w.cell? ⟨q, 1, none⟩ = some (.int .i64 i) := hSw.cell 1; have hw3 : w.cell? ⟨q, 3, none⟩ = some (.slice O k cap) := hSw.cell 3; clear hSw; go_simp; try with_reducible rfl)); simp only [Act.put, List.setIfInBounds_toArray, List.set_cons_zero, List.set_cons_succ, List.getElem_toArray, List.getElem_cons_succ, List.getElem_cons_zero])
  (refine wpAnyH_take (i := 5) (oi := _) (v := ?v5) rfl (by kernel_rfl) (by kernel_rfl) (by kernel_rfl) (fun _ _ _ h => h) (Or.inl ⟨by kernel_rfl, ?y5⟩) (by assumption) ?_; rotate_left; (· (intro w hSw; have hw0 : w.cell? ⟨q, 0, none⟩ = some (.int .i64 c) := hSw.cell 0; have hw1 : w.cell? ⟨q, 1, none⟩ = some (.int .i64 i) := hSw.cell 1; have hw3 : w.cell? ⟨q, 3, none⟩ = some (.slice O k cap) := hSw.cell 3; clear hSw; go_simp; try with_reducible rfl)); simp only [Act.put, List.setIfInBounds_toArray, List.set_cons_zero, List.set_cons_succ, List.getElem_toArray, List.getElem_cons_succ, List.getElem_cons_zero])
  (refine wpAnyH_take (i := 7) (oi := _) (v := ?v7) rfl (by kernel_rfl) (by kernel_rfl) (by kernel_rfl) (fun _ _ _ h => h) (Or.inl ⟨by kernel_rfl, ?y7⟩) (by assumption) ?_; rotate_left; (· (intro w hSw; have hw0 : w.cell? ⟨q, 0, none⟩ = some (.int .i64 c) := hSw.cell 0; have hw1 : w.cell? ⟨q, 1, none⟩ = some (.int .i64 i) := hSw.cell 1; have hw3 : w.cell? ⟨q, 3, none⟩ = some (.slice O k cap) := hSw.cell 3; clear hSw; go_simp; try with_reducible rfl)); simp only [Act.put, List.setIfInBounds_toArray, List.set_cons_zero, List.set_cons_succ, List.getElem_toArray, List.getElem_cons_succ, List.getElem_cons_zero])
  (refine wpAnyH_take (i := 8) (oi := _) (v := ?v8) rfl (by kernel_rfl) (by kernel_rfl) (by kernel_rfl) (fun _ _ _ h => h) (Or.inl ⟨by kernel_rfl, ?y8⟩) (by assumption) ?_; rotate_left; (· (intro w hSw; have hw0 : w.cell? ⟨q, 0, none⟩ = some (.int .i64 c) := hSw.cell 0; have hw1 : w.cell? ⟨q, 1, none⟩ = some (.int .i64 i) := hSw.cell 1; have hw3 : w.cell? ⟨q, 3, none⟩ = some (.slice O k cap) := hSw.cell 3; clear hSw; go_simp; try with_reducible rfl)); simp only [Act.put, List.setIfInBounds_toArray, List.set_cons_zero, List.set_cons_succ, List.getElem_toArray, List.getElem_cons_succ, List.getElem_cons_zero])
  (refine wpAnyH_ready (rs := [6]) (by kernel_rfl) (by simp) ?_; refine AllReadyH.cons (o := _) rfl (fun K hK => ?_) AllReadyH.nil; rw [if_pos (by kernel_rfl)])
  go_simp
  (refine hK.out _ _ ?_ (fun hHeld => ?_))
  · exact HBXW.out.alloc _
  clear hK
  (refine wpAnyH_ready (rs := [9]) (by kernel_rfl) (by simp) ?_; refine AllReadyH.cons (o := _) rfl (fun K hK => ?_) AllReadyH.nil; rw [if_pos (by kernel_rfl)])
  refine wp_optcopy _ _ (by rfl) W.heap.size (by rfl) W.heap.size (own_zero W) O k cap os (by rfl) (HOV.out.keep ((Below.refl _ _).alloc (Nat.le_refl _) _).drew) hk hcap (by simp) ?_
  intro R rc w2 hown hgrow
  have hgz := hgrow.size
  simp at hgz
  have hb2 : Blk w2 q 34 #[.int .i64 c, .int .i64 i, .int .i64 a, .slice O k cap] := ((HBXW.out.alloc (.cells #[] 65)).drew).grown hgrow (by intro e; have := Option.some.inj e; omega)
  have HOWN := Lib.hid hown; have HGROW := Lib.hid hgrow
  clear hown hgrow
  (refine hK.out _ _ ?_ (fun hHeld => ?_))
  · exact hb2
  clear hK
  (refine wpAnyH_take (i := 10) (oi := _) (v := ?v10) rfl (by kernel_rfl) (by kernel_rfl) (by kernel_rfl) (fun _ _ _ h => h) (Or.inl ⟨by kernel_rfl, ?y10⟩) (by assumption) ?_; rotate_left; (· (intro w hSw; skip; go_simp; try with_reducible rfl)); simp only [Act.put, List.setIfInBounds_toArray, List.set_cons_zero, List.set_cons_succ, List.getElem_toArray, List.getElem_cons_succ, List.getElem_cons_zero])
  (refine wpAnyH_ready (rs := [11]) (by kernel_rfl) (by simp) ?_; refine AllReadyH.cons (o := _) rfl (fun K hK => ?_) AllReadyH.nil; rw [if_pos (by kernel_rfl)])
  go_simp
  (refine hK.out _ _ ?_ (fun hHeld => ?_))
  · exact hb2.alloc _
  clear hK
  (refine wpAnyH_ready (rs := [12]) (by kernel_rfl) (by simp) ?_; refine AllReadyH.cons (o := _) rfl (fun K hK => ?_) AllReadyH.nil; rw [if_pos (by kernel_rfl)])
  go_simp
  (refine hK.out _ _ ?_ (fun hHeld => ?_))
  · exact hb2.alloc _
  clear hK
  (refine wpAnyH_ready (rs := [13]) (by kernel_rfl) (by simp) ?_; refine AllReadyH.cons (o := _) rfl (fun K hK => ?_) AllReadyH.nil; rw [if_pos (by kernel_rfl)])
  go_simp
  (refine hK.out _ _ ?_ (fun hHeld => ?_))
  · exact hb2.alloc _
  clear hK
  (refine wpAnyH_done (by kernel_rfl) ?_ _)
  clear hb2
  go_wp2_with fail
  go_ret2
  exact rtake_req_end hX HXL.out hk HOV.out.1 HGR.out HRA.out HOWN.out HGROW.out HX.out.1 HX.out.2.1 HX.out.2.2
set_option maxRecDepth 100000 in
set_option maxHeartbeats 4000000 in
theorem rtake_idle_t (X : Nat → Prop) (g : Nat) (s : TS) (c i a : Int) (O : Option Addr) (k cap : Nat) (os : List (Int × ByteArray)) (w : World) (hp : RAt w X g s) (hX : X g) (hXl : ∀ b, X b → b < w.heap.size) (ha : 0 ≤ s.ac ∧ s.ac ≤ 8) (hv : RLies w X O k os) (hk : k * 24 ≤ 140737488351232) (hcap : O = none → k = 0 ∧ cap = 0) (ho : ∀ o ∈ os, o.2.size ≤ 140737488351232) (hQ : bE c i a os = 0) (hq : reqB c = true) (h8 : 1 ≤ c ∧ c ≤ 8) (hl : ¬ 0 < s.left) :
    Calls Try.prog 22 #[.pointer (some ⟨g, 0, none⟩), .agg #[.int .i64 c, .int .i64 i, .int .i64 a, .slice O k cap], .bool true] w (RTkB s c i a os true X g w) := by
  have h7 : (c == 7) = false := by rw [beq_eq_false_iff_ne]; rintro rfl; revert hq; decide
  have HX := Lib.hid (show tkL s c i a os true = [(c + 1, i, 0, os)] ∧ tkE c i a os = 0 ∧ tkS s c i a os = s from by
    unfold tkL tkE tkS
    rw [if_pos hQ, if_pos hQ, if_pos hQ, if_pos hq, if_pos hq]
    unfold tReqA tReqS crs
    simp [hl, ansI])
  have hw : IntKind.i64.wrap (c + 1) = c + 1 := IntWalk.i64_in _ (by omega)
  have HP := Lib.hid hp
  have hlt := hp.lt
  have HBX := Lib.hid (Blk.new w 34 #[.int .i64 c, .int .i64 i, .int .i64 a, .slice O k cap])
  have HVR := Lib.hid hv
  have HV := Lib.hid (hv.1.keep ((Below.refl w.heap.size w).alloc (Nat.le_refl _) (.cells #[.int .i64 c, .int .i64 i, .int .i64 a, .slice O k cap] 34)))
  have HO := Lib.hid ho
  clear hv ho
  go_enter Try.func22, Try.ntmps22
  go_wp2_with fail
  refine (rbap_any c i a O k cap os _ HV.out (by omega) HO.out).mono ?_
  rintro e w1 ⟨P, rfl, hb1⟩
  rw [hQ]
  have hz1 := hb1.size
  simp at hz1
  have z1 : w.heap.size < w1.heap.size := by omega
  have bel : Below w.heap.size w w1 := ((Below.refl _ _).alloc (Nat.le_refl _) _).trans (hb1.mono (by simp))
  have hrb := HBX.out.keep hb1
  have r0 : w1.cell? ⟨w.heap.size, 0, none⟩ = some (.int .i64 c) := hrb.cell 0
  have r1 : w1.cell? ⟨w.heap.size, 1, none⟩ = some (.int .i64 i) := hrb.cell 1
  have r2 : w1.cell? ⟨w.heap.size, 2, none⟩ = some (.int .i64 a) := hrb.cell 2
  have r3 : w1.cell? ⟨w.heap.size, 3, none⟩ = some (.slice O k cap) := hrb.cell 3
  have rf := hrb.frozen
  obtain ⟨L, A, n, ca, B, m, cb, h, hL0, h1, h2⟩ := HP.out.up
  have hgb := h.below bel hlt
  have hq1 := h1.keep bel
  have hq2 := h2.keep bel
  have g0 : w1.cell? ⟨g, 0, none⟩ = some (.bool (decide (0 < s.left))) := hgb.cell 0
  have g5 : w1.cell? ⟨g, 5, none⟩ = some (.bool s.fav) := hgb.cell 5
  have g9 : w1.cell? ⟨g, 9, none⟩ = some (.int .i64 s.ac) := hgb.cell 9
  have g10 : w1.cell? ⟨g, 10, none⟩ = some (.int .i64 s.ai) := hgb.cell 10
  have gf := hgb.frozen
  have hgl : g < w1.heap.size := by omega
  have hne : g ≠ w.heap.size := by omega
  have HR0 := Lib.hid (HP.out.up.keep bel)
  have HGB := Lib.hid hgb; have HRB := Lib.hid hrb; have Q1 := Lib.hid hq1; have Q2 := Lib.hid hq2; have HL := Lib.hid hL0; have HB1 := Lib.hid bel
  clear hgb hrb hq1 hq2 h h1 h2 hL0 hb1 bel
  go_wp2_with (first | (go_at_call 35; refine (rreq_any _ _).mono ?_; rintro e w' ⟨rfl, rfl⟩))
  have hgr1 : w.grownBy w1 (some g) := gr_of g HB1.out
  have hra1 : RAt w1 (UpX X w.heap.size) g s := HR0.out
  have hbx1 : Blk w1 w.heap.size 34 #[.int .i64 c, .int .i64 i, .int .i64 a, .slice O k cap] := HRB.out
  have hov : OptsAt w1 O k os := (HVR.out.own hgr1 hX).1
  generalize w1 = W at hgr1 hra1 hbx1 hov ⊢
  have hbl := hbx1.lt
  have HGR := Lib.hid hgr1; have HRA := Lib.hid hra1; have HBXW := Lib.hid hbx1; have HOV := Lib.hid hov; have HXL := Lib.hid hXl
  clear r0 r1 r2 r3 rf g0 g5 g9 g10 gf hgl hne HGB HRB HR0 Q1 Q2 HL HB1 HP HBX HVR HV HO z1 hz1 hgr1 hra1 hov hXl
  generalize hqe : w.heap.size = q at hbx1 hbl HBXW ⊢
  have HQE := Lib.hid hqe
  clear hqe
  refine wp_region_held_drew (S := fun V => Blk V q 34 #[.int .i64 c, .int .i64 i, .int .i64 a, .slice O k cap]) (by kernel_rfl) hbx1.drew (fun hHeld => ?_)
  (refine wpAnyH_take (i := 0) (oi := _) (v := ?v0) rfl (by kernel_rfl) (by kernel_rfl) (by kernel_rfl) (fun _ _ _ h => h) (Or.inl ⟨by kernel_rfl, ?y0⟩) (by assumption) ?_; rotate_left; (· (intro w hSw; have hw0 : w.cell? ⟨q, 0, none⟩ = some (.int .i64 c) := hSw.cell 0; have hw1 : w.cell? ⟨q, 1, none⟩ = some (.int .i64 i) := hSw.cell 1; have hw3 : w.cell? ⟨q, 3, none⟩ = some (.slice O k cap) := hSw.cell 3; clear hSw; go_simp; try with_reducible rfl)); simp only [Act.put, List.setIfInBounds_toArray, List.set_cons_zero, List.set_cons_succ, List.getElem_toArray, List.getElem_cons_succ, List.getElem_cons_zero])
  (refine wpAnyH_take (i := 1) (oi := _) (v := ?v1) rfl (by kernel_rfl) (by kernel_rfl) (by kernel_rfl) (fun _ _ _ h => h) (Or.inl ⟨by kernel_rfl, ?y1⟩) (by assumption) ?_; rotate_left; (· (intro w hSw; have hw0 : w.cell? ⟨q, 0, none⟩ = some (.int .i64 c) := hSw.cell 0; have hw1 : w.cell? ⟨q, 1, none⟩ = some (.int .i64 i) := hSw.cell 1; have hw3 : w.cell? ⟨q, 3, none⟩ = some (.slice O k cap) := hSw.cell 3; clear hSw; go_simp; try with_reducible rfl)); simp only [Act.put, List.setIfInBounds_toArray, List.set_cons_zero, List.set_cons_succ, List.getElem_toArray, List.getElem_cons_succ, List.getElem_cons_zero])
  (refine wpAnyH_take (i := 2) (oi := _) (v := ?v2) rfl (by kernel_rfl) (by kernel_rfl) (by kernel_rfl) (fun _ _ _ h => h) (Or.inl ⟨by kernel_rfl, ?y2⟩) (by assumption) ?_; rotate_left; (· (intro w hSw; have hw0 : w.cell? ⟨q, 0, none⟩ = some (.int .i64 c) := hSw.cell 0; have hw1 : w.cell? ⟨q, 1, none⟩ = some (.int .i64 i) := hSw.cell 1; have hw3 : w.cell? ⟨q, 3, none⟩ = some (.slice O k cap) := hSw.cell 3; clear hSw; go_simp; try with_reducible rfl)); simp only [Act.put, List.setIfInBounds_toArray, List.set_cons_zero, List.set_cons_succ, List.getElem_toArray, List.getElem_cons_succ, List.getElem_cons_zero])
  (refine wpAnyH_take (i := 3) (oi := _) (v := ?v3) rfl (by kernel_rfl) (by kernel_rfl) (by kernel_rfl) (fun _ _ _ h => h) (Or.inl ⟨by kernel_rfl, ?y3⟩) (by assumption) ?_; rotate_left; (· (intro w hSw; have hw0 : w.cell? ⟨q, 0, none⟩ = some (.int .i64 c) := hSw.cell 0; have hw1 : w.cell? ⟨q, 1, none⟩ = some (.int .i64 i) := hSw.cell 1; have hw3 : w.cell? ⟨q, 3, none⟩ = some (.slice O k cap) := hSw.cell 3; clear hSw; go_simp; try with_reducible rfl)); simp only [Act.put, List.setIfInBounds_toArray, List.set_cons_zero, List.set_cons_succ, List.getElem_toArray, List.getElem_cons_succ, List.getElem_cons_zero])
  (refine wpAnyH_take (i := 4) (oi := _) (v := ?v4) rfl (by kernel_rfl) (by kernel_rfl) (by kernel_rfl) (fun _ _ _ h => h) (Or.inl ⟨by kernel_rfl, ?y4⟩) (by assumption) ?_; rotate_left; (· (intro w hSw; have hw0 : w.cell? ⟨q, 0, none⟩ = some (.int .i64 c) := hSw.cell 0; have hw1 : w.cell? ⟨q, 1, none⟩ = some (.int .i64 i) := hSw.cell 1; have hw3 : w.cell? ⟨q, 3, none⟩ = some (.slice O k cap) := hSw.cell 3; clear hSw; go_simp; try with_reducible rfl)); simp only [Act.put, List.setIfInBounds_toArray, List.set_cons_zero, List.set_cons_succ, List.getElem_toArray, List.getElem_cons_succ, List.getElem_cons_zero])
  (refine wpAnyH_take (i := 5) (oi := _) (v := ?v5) rfl (by kernel_rfl) (by kernel_rfl) (by kernel_rfl) (fun _ _ _ h => h) (Or.inl ⟨by kernel_rfl, ?y5⟩) (by assumption) ?_; rotate_left; (· (intro w hSw; have hw0 : w.cell? ⟨q, 0, none⟩ = some (.int .i64 c) := hSw.cell 0; have hw1 : w.cell? ⟨q, 1, none⟩ = some (.int .i64 i) := hSw.cell 1; have hw3 : w.cell? ⟨q, 3, none⟩ = some (.slice O k cap) := hSw.cell 3; clear hSw; go_simp; try with_reducible rfl)); simp only [Act.put, List.setIfInBounds_toArray, List.set_cons_zero, List.set_cons_succ, List.getElem_toArray, List.getElem_cons_succ, List.getElem_cons_zero])
  (refine wpAnyH_take (i := 7) (oi := _) (v := ?v7) rfl (by kernel_rfl) (by kernel_rfl) (by kernel_rfl) (fun _ _ _ h => h) (Or.inl ⟨by kernel_rfl, ?y7⟩) (by assumption) ?_; rotate_left; (· (intro w hSw; have hw0 : w.cell? ⟨q, 0, none⟩ = some (.int .i64 c) := hSw.cell 0; have hw1 : w.cell? ⟨q, 1, none⟩ = some (.int .i64 i) := hSw.cell 1; have hw3 : w.cell? ⟨q, 3, none⟩ = some (.slice O k cap) := hSw.cell 3; clear hSw; go_simp; try with_reducible rfl)); simp only [Act.put, List.setIfInBounds_toArray, List.set_cons_zero, List.set_cons_succ, List.getElem_toArray, List.getElem_cons_succ, List.getElem_cons_zero])
  (refine wpAnyH_take (i := 8) (oi := _) (v := ?v8) rfl (by kernel_rfl) (by kernel_rfl) (by kernel_rfl) (fun _ _ _ h => h) (Or.inl ⟨by kernel_rfl, ?y8⟩) (by assumption) ?_; rotate_left; (· (intro w hSw; have hw0 : w.cell? ⟨q, 0, none⟩ = some (.int .i64 c) := hSw.cell 0; have hw1 : w.cell? ⟨q, 1, none⟩ = some (.int .i64 i) := hSw.cell 1; have hw3 : w.cell? ⟨q, 3, none⟩ = some (.slice O k cap) := hSw.cell 3; clear hSw; go_simp; try with_reducible rfl)); simp only [Act.put, List.setIfInBounds_toArray, List.set_cons_zero, List.set_cons_succ, List.getElem_toArray, List.getElem_cons_succ, List.getElem_cons_zero])
  (refine wpAnyH_ready (rs := [6]) (by kernel_rfl) (by simp) ?_; refine AllReadyH.cons (o := _) rfl (fun K hK => ?_) AllReadyH.nil; rw [if_pos (by kernel_rfl)])
  go_simp
  (refine hK.out _ _ ?_ (fun hHeld => ?_))
  · exact HBXW.out.alloc _
  clear hK
  (refine wpAnyH_ready (rs := [9]) (by kernel_rfl) (by simp) ?_; refine AllReadyH.cons (o := _) rfl (fun K hK => ?_) AllReadyH.nil; rw [if_pos (by kernel_rfl)])
  refine wp_optcopy _ _ (by rfl) W.heap.size (by rfl) W.heap.size (own_zero W) O k cap os (by rfl) (HOV.out.keep ((Below.refl _ _).alloc (Nat.le_refl _) _).drew) hk hcap (by simp) ?_
  intro R rc w2 hown hgrow
  have hgz := hgrow.size
  simp at hgz
  have hb2 : Blk w2 q 34 #[.int .i64 c, .int .i64 i, .int .i64 a, .slice O k cap] := ((HBXW.out.alloc (.cells #[] 65)).drew).grown hgrow (by intro e; have := Option.some.inj e; omega)
  have HOWN := Lib.hid hown; have HGROW := Lib.hid hgrow
  clear hown hgrow
  (refine hK.out _ _ ?_ (fun hHeld => ?_))
  · exact hb2
  clear hK
  (refine wpAnyH_take (i := 10) (oi := _) (v := ?v10) rfl (by kernel_rfl) (by kernel_rfl) (by kernel_rfl) (fun _ _ _ h => h) (Or.inl ⟨by kernel_rfl, ?y10⟩) (by assumption) ?_; rotate_left; (· (intro w hSw; skip; go_simp; try with_reducible rfl)); simp only [Act.put, List.setIfInBounds_toArray, List.set_cons_zero, List.set_cons_succ, List.getElem_toArray, List.getElem_cons_succ, List.getElem_cons_zero])
  (refine wpAnyH_ready (rs := [11]) (by kernel_rfl) (by simp) ?_; refine AllReadyH.cons (o := _) rfl (fun K hK => ?_) AllReadyH.nil; rw [if_pos (by kernel_rfl)])
  go_simp
  (refine hK.out _ _ ?_ (fun hHeld => ?_))
  · exact hb2.alloc _
  clear hK
  (refine wpAnyH_ready (rs := [12]) (by kernel_rfl) (by simp) ?_; refine AllReadyH.cons (o := _) rfl (fun K hK => ?_) AllReadyH.nil; rw [if_pos (by kernel_rfl)])
  go_simp
  (refine hK.out _ _ ?_ (fun hHeld => ?_))
  · exact hb2.alloc _
  clear hK
  (refine wpAnyH_ready (rs := [13]) (by kernel_rfl) (by simp) ?_; refine AllReadyH.cons (o := _) rfl (fun K hK => ?_) AllReadyH.nil; rw [if_pos (by kernel_rfl)])
  go_simp
  (refine hK.out _ _ ?_ (fun hHeld => ?_))
  · exact hb2.alloc _
  clear hK
  (refine wpAnyH_done (by kernel_rfl) ?_ _)
  clear hb2
  go_wp2_with fail
  go_ret2
  exact rtake_req_end hX HXL.out hk HOV.out.1 HGR.out HRA.out HOWN.out HGROW.out HX.out.1 HX.out.2.1 HX.out.2.2
set_option maxRecDepth 100000 in
set_option maxHeartbeats 4000000 in
theorem rtake_ind_t (X : Nat → Prop) (g : Nat) (s : TS) (c i a : Int) (O : Option Addr) (k cap : Nat) (os : List (Int × ByteArray)) (w : World) (hp : RAt w X g s) (hX : X g) (hXl : ∀ b, X b → b < w.heap.size) (ha : 0 ≤ s.ac ∧ s.ac ≤ 8) (hv : RLies w X O k os) (hk : k * 24 ≤ 140737488351232) (hcap : O = none → k = 0 ∧ cap = 0) (ho : ∀ o ∈ os, o.2.size ≤ 140737488351232) (hQ : bE c i a os = 0) (hq : reqB c = true) (h8 : 1 ≤ c ∧ c ≤ 8) (hl : 0 < s.left) (hr : reqB s.ac = false) :
    Calls Try.prog 22 #[.pointer (some ⟨g, 0, none⟩), .agg #[.int .i64 c, .int .i64 i, .int .i64 a, .slice O k cap], .bool true] w (RTkB s c i a os true X g w) := by
  have h7 : (c == 7) = false := by rw [beq_eq_false_iff_ne]; rintro rfl; revert hq; decide
  have HX := Lib.hid (show tkL s c i a os true = [(c + 1, i, 0, os)] ∧ tkE c i a os = 0 ∧ tkS s c i a os = s from by
    unfold tkL tkE tkS
    rw [if_pos hQ, if_pos hQ, if_pos hQ, if_pos hq, if_pos hq]
    unfold tReqA tReqS crs
    simp [hl, hr, ansI])
  have hw : IntKind.i64.wrap (c + 1) = c + 1 := IntWalk.i64_in _ (by omega)
  have HP := Lib.hid hp
  have hlt := hp.lt
  have HBX := Lib.hid (Blk.new w 34 #[.int .i64 c, .int .i64 i, .int .i64 a, .slice O k cap])
  have HVR := Lib.hid hv
  have HV := Lib.hid (hv.1.keep ((Below.refl w.heap.size w).alloc (Nat.le_refl _) (.cells #[.int .i64 c, .int .i64 i, .int .i64 a, .slice O k cap] 34)))
  have HO := Lib.hid ho
  clear hv ho
  go_enter Try.func22, Try.ntmps22
  go_wp2_with fail
  refine (rbap_any c i a O k cap os _ HV.out (by omega) HO.out).mono ?_
  rintro e w1 ⟨P, rfl, hb1⟩
  rw [hQ]
  have hz1 := hb1.size
  simp at hz1
  have z1 : w.heap.size < w1.heap.size := by omega
  have bel : Below w.heap.size w w1 := ((Below.refl _ _).alloc (Nat.le_refl _) _).trans (hb1.mono (by simp))
  have hrb := HBX.out.keep hb1
  have r0 : w1.cell? ⟨w.heap.size, 0, none⟩ = some (.int .i64 c) := hrb.cell 0
  have r1 : w1.cell? ⟨w.heap.size, 1, none⟩ = some (.int .i64 i) := hrb.cell 1
  have r2 : w1.cell? ⟨w.heap.size, 2, none⟩ = some (.int .i64 a) := hrb.cell 2
  have r3 : w1.cell? ⟨w.heap.size, 3, none⟩ = some (.slice O k cap) := hrb.cell 3
  have rf := hrb.frozen
  obtain ⟨L, A, n, ca, B, m, cb, h, hL0, h1, h2⟩ := HP.out.up
  have hgb := h.below bel hlt
  have hq1 := h1.keep bel
  have hq2 := h2.keep bel
  have g0 : w1.cell? ⟨g, 0, none⟩ = some (.bool (decide (0 < s.left))) := hgb.cell 0
  have g5 : w1.cell? ⟨g, 5, none⟩ = some (.bool s.fav) := hgb.cell 5
  have g9 : w1.cell? ⟨g, 9, none⟩ = some (.int .i64 s.ac) := hgb.cell 9
  have g10 : w1.cell? ⟨g, 10, none⟩ = some (.int .i64 s.ai) := hgb.cell 10
  have gf := hgb.frozen
  have hgl : g < w1.heap.size := by omega
  have hne : g ≠ w.heap.size := by omega
  have HR0 := Lib.hid (HP.out.up.keep bel)
  have HGB := Lib.hid hgb; have HRB := Lib.hid hrb; have Q1 := Lib.hid hq1; have Q2 := Lib.hid hq2; have HL := Lib.hid hL0; have HB1 := Lib.hid bel
  clear hgb hrb hq1 hq2 h h1 h2 hL0 hb1 bel
  go_wp2_with (first | (go_at_call 35; refine (rreq_any _ _).mono ?_; rintro e w' ⟨rfl, rfl⟩))
  have hgr1 : w.grownBy w1 (some g) := gr_of g HB1.out
  have hra1 : RAt w1 (UpX X w.heap.size) g s := HR0.out
  have hbx1 : Blk w1 w.heap.size 34 #[.int .i64 c, .int .i64 i, .int .i64 a, .slice O k cap] := HRB.out
  have hov : OptsAt w1 O k os := (HVR.out.own hgr1 hX).1
  generalize w1 = W at hgr1 hra1 hbx1 hov ⊢
  have hbl := hbx1.lt
  have HGR := Lib.hid hgr1; have HRA := Lib.hid hra1; have HBXW := Lib.hid hbx1; have HOV := Lib.hid hov; have HXL := Lib.hid hXl
  clear r0 r1 r2 r3 rf g0 g5 g9 g10 gf hgl hne HGB HRB HR0 Q1 Q2 HL HB1 HP HBX HVR HV HO z1 hz1 hgr1 hra1 hov hXl
  generalize hqe : w.heap.size = q at hbx1 hbl HBXW ⊢
  have HQE := Lib.hid hqe
  clear hqe
  refine wp_region_held_drew (S := fun V => Blk V q 34 #[.int .i64 c, .int .i64 i, .int .i64 a, .slice O k cap]) (by kernel_rfl) hbx1.drew (fun hHeld => ?_)
  (refine wpAnyH_take (i := 0) (oi := _) (v := ?v0) rfl (by kernel_rfl) (by kernel_rfl) (by kernel_rfl) (fun _ _ _ h => h) (Or.inl ⟨by kernel_rfl, ?y0⟩) (by assumption) ?_; rotate_left; (· (intro w hSw; have hw0 : w.cell? ⟨q, 0, none⟩ = some (.int .i64 c) := hSw.cell 0; have hw1 : w.cell? ⟨q, 1, none⟩ = some (.int .i64 i) := hSw.cell 1; have hw3 : w.cell? ⟨q, 3, none⟩ = some (.slice O k cap) := hSw.cell 3; clear hSw; go_simp; try with_reducible rfl)); simp only [Act.put, List.setIfInBounds_toArray, List.set_cons_zero, List.set_cons_succ, List.getElem_toArray, List.getElem_cons_succ, List.getElem_cons_zero])
  (refine wpAnyH_take (i := 1) (oi := _) (v := ?v1) rfl (by kernel_rfl) (by kernel_rfl) (by kernel_rfl) (fun _ _ _ h => h) (Or.inl ⟨by kernel_rfl, ?y1⟩) (by assumption) ?_; rotate_left; (· (intro w hSw; have hw0 : w.cell? ⟨q, 0, none⟩ = some (.int .i64 c) := hSw.cell 0; have hw1 : w.cell? ⟨q, 1, none⟩ = some (.int .i64 i) := hSw.cell 1; have hw3 : w.cell? ⟨q, 3, none⟩ = some (.slice O k cap) := hSw.cell 3; clear hSw; go_simp; try with_reducible rfl)); simp only [Act.put, List.setIfInBounds_toArray, List.set_cons_zero, List.set_cons_succ, List.getElem_toArray, List.getElem_cons_succ, List.getElem_cons_zero])
  (refine wpAnyH_take (i := 2) (oi := _) (v := ?v2) rfl (by kernel_rfl) (by kernel_rfl) (by kernel_rfl) (fun _ _ _ h => h) (Or.inl ⟨by kernel_rfl, ?y2⟩) (by assumption) ?_; rotate_left; (· (intro w hSw; have hw0 : w.cell? ⟨q, 0, none⟩ = some (.int .i64 c) := hSw.cell 0; have hw1 : w.cell? ⟨q, 1, none⟩ = some (.int .i64 i) := hSw.cell 1; have hw3 : w.cell? ⟨q, 3, none⟩ = some (.slice O k cap) := hSw.cell 3; clear hSw; go_simp; try with_reducible rfl)); simp only [Act.put, List.setIfInBounds_toArray, List.set_cons_zero, List.set_cons_succ, List.getElem_toArray, List.getElem_cons_succ, List.getElem_cons_zero])
  (refine wpAnyH_take (i := 3) (oi := _) (v := ?v3) rfl (by kernel_rfl) (by kernel_rfl) (by kernel_rfl) (fun _ _ _ h => h) (Or.inl ⟨by kernel_rfl, ?y3⟩) (by assumption) ?_; rotate_left; (· (intro w hSw; have hw0 : w.cell? ⟨q, 0, none⟩ = some (.int .i64 c) := hSw.cell 0; have hw1 : w.cell? ⟨q, 1, none⟩ = some (.int .i64 i) := hSw.cell 1; have hw3 : w.cell? ⟨q, 3, none⟩ = some (.slice O k cap) := hSw.cell 3; clear hSw; go_simp; try with_reducible rfl)); simp only [Act.put, List.setIfInBounds_toArray, List.set_cons_zero, List.set_cons_succ, List.getElem_toArray, List.getElem_cons_succ, List.getElem_cons_zero])
  (refine wpAnyH_take (i := 4) (oi := _) (v := ?v4) rfl (by kernel_rfl) (by kernel_rfl) (by kernel_rfl) (fun _ _ _ h => h) (Or.inl ⟨by kernel_rfl, ?y4⟩) (by assumption) ?_; rotate_left; (· (intro w hSw; have hw0 : w.cell? ⟨q, 0, none⟩ = some (.int .i64 c) := hSw.cell 0; have hw1 : w.cell? ⟨q, 1, none⟩ = some (.int .i64 i) := hSw.cell 1; have hw3 : w.cell? ⟨q, 3, none⟩ = some (.slice O k cap) := hSw.cell 3; clear hSw; go_simp; try with_reducible rfl)); simp only [Act.put, List.setIfInBounds_toArray, List.set_cons_zero, List.set_cons_succ, List.getElem_toArray, List.getElem_cons_succ, List.getElem_cons_zero])
  (refine wpAnyH_take (i := 5) (oi := _) (v := ?v5) rfl (by kernel_rfl) (by kernel_rfl) (by kernel_rfl) (fun _ _ _ h => h) (Or.inl ⟨by kernel_rfl, ?y5⟩) (by assumption) ?_; rotate_left; (· (intro w hSw; have hw0 : w.cell? ⟨q, 0, none⟩ = some (.int .i64 c) := hSw.cell 0; have hw1 : w.cell? ⟨q, 1, none⟩ = some (.int .i64 i) := hSw.cell 1; have hw3 : w.cell? ⟨q, 3, none⟩ = some (.slice O k cap) := hSw.cell 3; clear hSw; go_simp; try with_reducible rfl)); simp only [Act.put, List.setIfInBounds_toArray, List.set_cons_zero, List.set_cons_succ, List.getElem_toArray, List.getElem_cons_succ, List.getElem_cons_zero])
  (refine wpAnyH_take (i := 7) (oi := _) (v := ?v7) rfl (by kernel_rfl) (by kernel_rfl) (by kernel_rfl) (fun _ _ _ h => h) (Or.inl ⟨by kernel_rfl, ?y7⟩) (by assumption) ?_; rotate_left; (· (intro w hSw; have hw0 : w.cell? ⟨q, 0, none⟩ = some (.int .i64 c) := hSw.cell 0; have hw1 : w.cell? ⟨q, 1, none⟩ = some (.int .i64 i) := hSw.cell 1; have hw3 : w.cell? ⟨q, 3, none⟩ = some (.slice O k cap) := hSw.cell 3; clear hSw; go_simp; try with_reducible rfl)); simp only [Act.put, List.setIfInBounds_toArray, List.set_cons_zero, List.set_cons_succ, List.getElem_toArray, List.getElem_cons_succ, List.getElem_cons_zero])
  (refine wpAnyH_take (i := 8) (oi := _) (v := ?v8) rfl (by kernel_rfl) (by kernel_rfl) (by kernel_rfl) (fun _ _ _ h => h) (Or.inl ⟨by kernel_rfl, ?y8⟩) (by assumption) ?_; rotate_left; (· (intro w hSw; have hw0 : w.cell? ⟨q, 0, none⟩ = some (.int .i64 c) := hSw.cell 0; have hw1 : w.cell? ⟨q, 1, none⟩ = some (.int .i64 i) := hSw.cell 1; have hw3 : w.cell? ⟨q, 3, none⟩ = some (.slice O k cap) := hSw.cell 3; clear hSw; go_simp; try with_reducible rfl)); simp only [Act.put, List.setIfInBounds_toArray, List.set_cons_zero, List.set_cons_succ, List.getElem_toArray, List.getElem_cons_succ, List.getElem_cons_zero])
  (refine wpAnyH_ready (rs := [6]) (by kernel_rfl) (by simp) ?_; refine AllReadyH.cons (o := _) rfl (fun K hK => ?_) AllReadyH.nil; rw [if_pos (by kernel_rfl)])
  go_simp
  (refine hK.out _ _ ?_ (fun hHeld => ?_))
  · exact HBXW.out.alloc _
  clear hK
  (refine wpAnyH_ready (rs := [9]) (by kernel_rfl) (by simp) ?_; refine AllReadyH.cons (o := _) rfl (fun K hK => ?_) AllReadyH.nil; rw [if_pos (by kernel_rfl)])
  refine wp_optcopy _ _ (by rfl) W.heap.size (by rfl) W.heap.size (own_zero W) O k cap os (by rfl) (HOV.out.keep ((Below.refl _ _).alloc (Nat.le_refl _) _).drew) hk hcap (by simp) ?_
  intro R rc w2 hown hgrow
  have hgz := hgrow.size
  simp at hgz
  have hb2 : Blk w2 q 34 #[.int .i64 c, .int .i64 i, .int .i64 a, .slice O k cap] := ((HBXW.out.alloc (.cells #[] 65)).drew).grown hgrow (by intro e; have := Option.some.inj e; omega)
  have HOWN := Lib.hid hown; have HGROW := Lib.hid hgrow
  clear hown hgrow
  (refine hK.out _ _ ?_ (fun hHeld => ?_))
  · exact hb2
  clear hK
  (refine wpAnyH_take (i := 10) (oi := _) (v := ?v10) rfl (by kernel_rfl) (by kernel_rfl) (by kernel_rfl) (fun _ _ _ h => h) (Or.inl ⟨by kernel_rfl, ?y10⟩) (by assumption) ?_; rotate_left; (· (intro w hSw; skip; go_simp; try with_reducible rfl)); simp only [Act.put, List.setIfInBounds_toArray, List.set_cons_zero, List.set_cons_succ, List.getElem_toArray, List.getElem_cons_succ, List.getElem_cons_zero])
  (refine wpAnyH_ready (rs := [11]) (by kernel_rfl) (by simp) ?_; refine AllReadyH.cons (o := _) rfl (fun K hK => ?_) AllReadyH.nil; rw [if_pos (by kernel_rfl)])
  go_simp
  (refine hK.out _ _ ?_ (fun hHeld => ?_))
  · exact hb2.alloc _
  clear hK
  (refine wpAnyH_ready (rs := [12]) (by kernel_rfl) (by simp) ?_; refine AllReadyH.cons (o := _) rfl (fun K hK => ?_) AllReadyH.nil; rw [if_pos (by kernel_rfl)])
  go_simp
  (refine hK.out _ _ ?_ (fun hHeld => ?_))
  · exact hb2.alloc _
  clear hK
  (refine wpAnyH_ready (rs := [13]) (by kernel_rfl) (by simp) ?_; refine AllReadyH.cons (o := _) rfl (fun K hK => ?_) AllReadyH.nil; rw [if_pos (by kernel_rfl)])
  go_simp
  (refine hK.out _ _ ?_ (fun hHeld => ?_))
  · exact hb2.alloc _
  clear hK
  (refine wpAnyH_done (by kernel_rfl) ?_ _)
  clear hb2
  go_wp2_with fail
  go_ret2
  exact rtake_req_end hX HXL.out hk HOV.out.1 HGR.out HRA.out HOWN.out HGROW.out HX.out.1 HX.out.2.1 HX.out.2.2
set_option maxRecDepth 100000 in
set_option maxHeartbeats 4000000 in
theorem rtake_win_f (X : Nat → Prop) (g : Nat) (s : TS) (c i a : Int) (O : Option Addr) (k cap : Nat) (os : List (Int × ByteArray)) (w : World) (hp : RAt w X g s) (hX : X g) (hXl : ∀ b, X b → b < w.heap.size) (ha : 0 ≤ s.ac ∧ s.ac ≤ 8) (hv : RLies w X O k os) (hk : k * 24 ≤ 140737488351232) (hcap : O = none → k = 0 ∧ cap = 0) (ho : ∀ o ∈ os, o.2.size ≤ 140737488351232) (hQ : bE c i a os = 0) (hq : reqB c = true) (h8 : 1 ≤ c ∧ c ≤ 8) (hl : 0 < s.left) (hr : reqB s.ac = true) (hcr : crossB s.fav s.ac c = true) :
    Calls Try.prog 22 #[.pointer (some ⟨g, 0, none⟩), .agg #[.int .i64 c, .int .i64 i, .int .i64 a, .slice O k cap], .bool false] w (RTkB s c i a os false X g w) := by
  have h7 : (c == 7) = false := by rw [beq_eq_false_iff_ne]; rintro rfl; revert hq; decide
  have HX := Lib.hid (show tkL s c i a os false = [(c + 1, i, 1, os)] ∧ tkE c i a os = 0 ∧ tkS s c i a os = s from by
    unfold tkL tkE tkS
    rw [if_pos hQ, if_pos hQ, if_pos hQ, if_pos hq, if_pos hq]
    unfold tReqA tReqS crs
    simp [hl, hr, hcr, ansI])
  have hw : IntKind.i64.wrap (c + 1) = c + 1 := IntWalk.i64_in _ (by omega)
  have HP := Lib.hid hp
  have hlt := hp.lt
  have HBX := Lib.hid (Blk.new w 34 #[.int .i64 c, .int .i64 i, .int .i64 a, .slice O k cap])
  have HVR := Lib.hid hv
  have HV := Lib.hid (hv.1.keep ((Below.refl w.heap.size w).alloc (Nat.le_refl _) (.cells #[.int .i64 c, .int .i64 i, .int .i64 a, .slice O k cap] 34)))
  have HO := Lib.hid ho
  clear hv ho
  go_enter Try.func22, Try.ntmps22
  go_wp2_with fail
  refine (rbap_any c i a O k cap os _ HV.out (by omega) HO.out).mono ?_
  rintro e w1 ⟨P, rfl, hb1⟩
  rw [hQ]
  have hz1 := hb1.size
  simp at hz1
  have z1 : w.heap.size < w1.heap.size := by omega
  have bel : Below w.heap.size w w1 := ((Below.refl _ _).alloc (Nat.le_refl _) _).trans (hb1.mono (by simp))
  have hrb := HBX.out.keep hb1
  have r0 : w1.cell? ⟨w.heap.size, 0, none⟩ = some (.int .i64 c) := hrb.cell 0
  have r1 : w1.cell? ⟨w.heap.size, 1, none⟩ = some (.int .i64 i) := hrb.cell 1
  have r2 : w1.cell? ⟨w.heap.size, 2, none⟩ = some (.int .i64 a) := hrb.cell 2
  have r3 : w1.cell? ⟨w.heap.size, 3, none⟩ = some (.slice O k cap) := hrb.cell 3
  have rf := hrb.frozen
  obtain ⟨L, A, n, ca, B, m, cb, h, hL0, h1, h2⟩ := HP.out.up
  have hgb := h.below bel hlt
  have hq1 := h1.keep bel
  have hq2 := h2.keep bel
  have g0 : w1.cell? ⟨g, 0, none⟩ = some (.bool (decide (0 < s.left))) := hgb.cell 0
  have g5 : w1.cell? ⟨g, 5, none⟩ = some (.bool s.fav) := hgb.cell 5
  have g9 : w1.cell? ⟨g, 9, none⟩ = some (.int .i64 s.ac) := hgb.cell 9
  have g10 : w1.cell? ⟨g, 10, none⟩ = some (.int .i64 s.ai) := hgb.cell 10
  have gf := hgb.frozen
  have hgl : g < w1.heap.size := by omega
  have hne : g ≠ w.heap.size := by omega
  have HR0 := Lib.hid (HP.out.up.keep bel)
  have HGB := Lib.hid hgb; have HRB := Lib.hid hrb; have Q1 := Lib.hid hq1; have Q2 := Lib.hid hq2; have HL := Lib.hid hL0; have HB1 := Lib.hid bel
  clear hgb hrb hq1 hq2 h h1 h2 hL0 hb1 bel
  go_wp2_with (first | (go_at_call 35; refine (rreq_any _ _).mono ?_; rintro e w' ⟨rfl, rfl⟩))
  go_quiet ((go_at_call 38; exact Calls.quiet_of_same ((rcross_any _ _ _ _).mono (fun e w' h => ⟨h.1.trans (by rw [hcr]), h.2.symm⟩))))
  go_wp2_with fail
  have hgr1 : w.grownBy (w1.drewN nq) (some g) := gr_drewN (gr_of g HB1.out) nq
  have hra1 : RAt (w1.drewN nq) (UpX X w.heap.size) g s := HR0.out.drewN nq
  have hbx1 : Blk (w1.drewN nq) w.heap.size 34 #[.int .i64 c, .int .i64 i, .int .i64 a, .slice O k cap] := HRB.out.drewN nq
  have hov : OptsAt (w1.drewN nq) O k os := (HVR.out.own hgr1 hX).1
  generalize (w1.drewN nq) = W at hgr1 hra1 hbx1 hov ⊢
  have hbl := hbx1.lt
  have HGR := Lib.hid hgr1; have HRA := Lib.hid hra1; have HBXW := Lib.hid hbx1; have HOV := Lib.hid hov; have HXL := Lib.hid hXl
  clear r0 r1 r2 r3 rf g0 g5 g9 g10 gf hgl hne HGB HRB HR0 Q1 Q2 HL HB1 HP HBX HVR HV HO z1 hz1 hgr1 hra1 hov hXl
  generalize hqe : w.heap.size = q at hbx1 hbl HBXW ⊢
  have HQE := Lib.hid hqe
  clear hqe
  refine wp_region_held_drew (S := fun V => Blk V q 34 #[.int .i64 c, .int .i64 i, .int .i64 a, .slice O k cap]) (by kernel_rfl) hbx1.drew (fun hHeld => ?_)
  (refine wpAnyH_take (i := 0) (oi := _) (v := ?v0) rfl (by kernel_rfl) (by kernel_rfl) (by kernel_rfl) (fun _ _ _ h => h) (Or.inl ⟨by kernel_rfl, ?y0⟩) (by assumption) ?_; rotate_left; (· (intro w hSw; have hw0 : w.cell? ⟨q, 0, none⟩ = some (.int .i64 c) := hSw.cell 0; have hw1 : w.cell? ⟨q, 1, none⟩ = some (.int .i64 i) := hSw.cell 1; have hw3 : w.cell? ⟨q, 3, none⟩ = some (.slice O k cap) := hSw.cell 3; clear hSw; go_simp; try with_reducible rfl)); simp only [Act.put, List.setIfInBounds_toArray, List.set_cons_zero, List.set_cons_succ, List.getElem_toArray, List.getElem_cons_succ, List.getElem_cons_zero])
  (refine wpAnyH_take (i := 1) (oi := _) (v := ?v1) rfl (by kernel_rfl) (by kernel_rfl) (by kernel_rfl) (fun _ _ _ h => h) (Or.inl ⟨by kernel_rfl, ?y1⟩) (by assumption) ?_; rotate_left; (· (intro w hSw; have hw0 : w.cell? ⟨q, 0, none⟩ = some (.int .i64 c) := hSw.cell 0; have hw1 : w.cell? ⟨q, 1, none⟩ = some (.int .i64 i) := hSw.cell 1; have hw3 : w.cell? ⟨q, 3, none⟩ = some (.slice O k cap) := hSw.cell 3; clear hSw; go_simp; try with_reducible rfl)); simp only [Act.put, List.setIfInBounds_toArray, List.set_cons_zero, List.set_cons_succ, List.getElem_toArray, List.getElem_cons_succ, List.getElem_cons_zero])
  (refine wpAnyH_take (i := 2) (oi := _) (v := ?v2) rfl (by kernel_rfl) (by kernel_rfl) (by kernel_rfl) (fun _ _ _ h => h) (Or.inl ⟨by kernel_rfl, ?y2⟩) (by assumption) ?_; rotate_left; (· (intro w hSw; have hw0 : w.cell? ⟨q, 0, none⟩ = some (.int .i64 c) := hSw.cell 0; have hw1 : w.cell? ⟨q, 1, none⟩ = some (.int .i64 i) := hSw.cell 1; have hw3 : w.cell? ⟨q, 3, none⟩ = some (.slice O k cap) := hSw.cell 3; clear hSw; go_simp; try with_reducible rfl)); simp only [Act.put, List.setIfInBounds_toArray, List.set_cons_zero, List.set_cons_succ, List.getElem_toArray, List.getElem_cons_succ, List.getElem_cons_zero])
  (refine wpAnyH_take (i := 3) (oi := _) (v := ?v3) rfl (by kernel_rfl) (by kernel_rfl) (by kernel_rfl) (fun _ _ _ h => h) (Or.inl ⟨by kernel_rfl, ?y3⟩) (by assumption) ?_; rotate_left; (· (intro w hSw; have hw0 : w.cell? ⟨q, 0, none⟩ = some (.int .i64 c) := hSw.cell 0; have hw1 : w.cell? ⟨q, 1, none⟩ = some (.int .i64 i) := hSw.cell 1; have hw3 : w.cell? ⟨q, 3, none⟩ = some (.slice O k cap) := hSw.cell 3; clear hSw; go_simp; try with_reducible rfl)); simp only [Act.put, List.setIfInBounds_toArray, List.set_cons_zero, List.set_cons_succ, List.getElem_toArray, List.getElem_cons_succ, List.getElem_cons_zero])
  (refine wpAnyH_take (i := 4) (oi := _) (v := ?v4) rfl (by kernel_rfl) (by kernel_rfl) (by kernel_rfl) (fun _ _ _ h => h) (Or.inl ⟨by kernel_rfl, ?y4⟩) (by assumption) ?_; rotate_left; (· (intro w hSw; have hw0 : w.cell? ⟨q, 0, none⟩ = some (.int .i64 c) := hSw.cell 0; have hw1 : w.cell? ⟨q, 1, none⟩ = some (.int .i64 i) := hSw.cell 1; have hw3 : w.cell? ⟨q, 3, none⟩ = some (.slice O k cap) := hSw.cell 3; clear hSw; go_simp; try with_reducible rfl)); simp only [Act.put, List.setIfInBounds_toArray, List.set_cons_zero, List.set_cons_succ, List.getElem_toArray, List.getElem_cons_succ, List.getElem_cons_zero])
  (refine wpAnyH_take (i := 5) (oi := _) (v := ?v5) rfl (by kernel_rfl) (by kernel_rfl) (by kernel_rfl) (fun _ _ _ h => h) (Or.inl ⟨by kernel_rfl, ?y5⟩) (by assumption) ?_; rotate_left; (· (intro w hSw; have hw0 : w.cell? ⟨q, 0, none⟩ = some (.int .i64 c) := hSw.cell 0; have hw1 : w.cell? ⟨q, 1, none⟩ = some (.int .i64 i) := hSw.cell 1; have hw3 : w.cell? ⟨q, 3, none⟩ = some (.slice O k cap) := hSw.cell 3; clear hSw; go_simp; try with_reducible rfl)); simp only [Act.put, List.setIfInBounds_toArray, List.set_cons_zero, List.set_cons_succ, List.getElem_toArray, List.getElem_cons_succ, List.getElem_cons_zero])
  (refine wpAnyH_take (i := 7) (oi := _) (v := ?v7) rfl (by kernel_rfl) (by kernel_rfl) (by kernel_rfl) (fun _ _ _ h => h) (Or.inl ⟨by kernel_rfl, ?y7⟩) (by assumption) ?_; rotate_left; (· (intro w hSw; have hw0 : w.cell? ⟨q, 0, none⟩ = some (.int .i64 c) := hSw.cell 0; have hw1 : w.cell? ⟨q, 1, none⟩ = some (.int .i64 i) := hSw.cell 1; have hw3 : w.cell? ⟨q, 3, none⟩ = some (.slice O k cap) := hSw.cell 3; clear hSw; go_simp; try with_reducible rfl)); simp only [Act.put, List.setIfInBounds_toArray, List.set_cons_zero, List.set_cons_succ, List.getElem_toArray, List.getElem_cons_succ, List.getElem_cons_zero])
  (refine wpAnyH_take (i := 8) (oi := _) (v := ?v8) rfl (by kernel_rfl) (by kernel_rfl) (by kernel_rfl) (fun _ _ _ h => h) (Or.inl ⟨by kernel_rfl, ?y8⟩) (by assumption) ?_; rotate_left; (· (intro w hSw; have hw0 : w.cell? ⟨q, 0, none⟩ = some (.int .i64 c) := hSw.cell 0; have hw1 : w.cell? ⟨q, 1, none⟩ = some (.int .i64 i) := hSw.cell 1; have hw3 : w.cell? ⟨q, 3, none⟩ = some (.slice O k cap) := hSw.cell 3; clear hSw; go_simp; try with_reducible rfl)); simp only [Act.put, List.setIfInBounds_toArray, List.set_cons_zero, List.set_cons_succ, List.getElem_toArray, List.getElem_cons_succ, List.getElem_cons_zero])
  (refine wpAnyH_ready (rs := [6]) (by kernel_rfl) (by simp) ?_; refine AllReadyH.cons (o := _) rfl (fun K hK => ?_) AllReadyH.nil; rw [if_pos (by kernel_rfl)])
  go_simp
  (refine hK.out _ _ ?_ (fun hHeld => ?_))
  · exact HBXW.out.alloc _
  clear hK
  (refine wpAnyH_ready (rs := [9]) (by kernel_rfl) (by simp) ?_; refine AllReadyH.cons (o := _) rfl (fun K hK => ?_) AllReadyH.nil; rw [if_pos (by kernel_rfl)])
  refine wp_optcopy _ _ (by rfl) W.heap.size (by rfl) W.heap.size (own_zero W) O k cap os (by rfl) (HOV.out.keep ((Below.refl _ _).alloc (Nat.le_refl _) _).drew) hk hcap (by simp) ?_
  intro R rc w2 hown hgrow
  have hgz := hgrow.size
  simp at hgz
  have hb2 : Blk w2 q 34 #[.int .i64 c, .int .i64 i, .int .i64 a, .slice O k cap] := ((HBXW.out.alloc (.cells #[] 65)).drew).grown hgrow (by intro e; have := Option.some.inj e; omega)
  have HOWN := Lib.hid hown; have HGROW := Lib.hid hgrow
  clear hown hgrow
  (refine hK.out _ _ ?_ (fun hHeld => ?_))
  · exact hb2
  clear hK
  (refine wpAnyH_take (i := 10) (oi := _) (v := ?v10) rfl (by kernel_rfl) (by kernel_rfl) (by kernel_rfl) (fun _ _ _ h => h) (Or.inl ⟨by kernel_rfl, ?y10⟩) (by assumption) ?_; rotate_left; (· (intro w hSw; skip; go_simp; try with_reducible rfl)); simp only [Act.put, List.setIfInBounds_toArray, List.set_cons_zero, List.set_cons_succ, List.getElem_toArray, List.getElem_cons_succ, List.getElem_cons_zero])
  (refine wpAnyH_ready (rs := [11]) (by kernel_rfl) (by simp) ?_; refine AllReadyH.cons (o := _) rfl (fun K hK => ?_) AllReadyH.nil; rw [if_pos (by kernel_rfl)])
  go_simp
  (refine hK.out _ _ ?_ (fun hHeld => ?_))
  · exact hb2.alloc _
  clear hK
  (refine wpAnyH_ready (rs := [12]) (by kernel_rfl) (by simp) ?_; refine AllReadyH.cons (o := _) rfl (fun K hK => ?_) AllReadyH.nil; rw [if_pos (by kernel_rfl)])
  go_simp
  (refine hK.out _ _ ?_ (fun hHeld => ?_))
  · exact hb2.alloc _
  clear hK
  (refine wpAnyH_ready (rs := [13]) (by kernel_rfl) (by simp) ?_; refine AllReadyH.cons (o := _) rfl (fun K hK => ?_) AllReadyH.nil; rw [if_pos (by kernel_rfl)])
  go_simp
  (refine hK.out _ _ ?_ (fun hHeld => ?_))
  · exact hb2.alloc _
  clear hK
  (refine wpAnyH_done (by kernel_rfl) ?_ _)
  clear hb2
  go_wp2_with fail
  go_ret2
  exact rtake_req_end hX HXL.out hk HOV.out.1 HGR.out HRA.out HOWN.out HGROW.out HX.out.1 HX.out.2.1 HX.out.2.2
set_option maxRecDepth 100000 in
set_option maxHeartbeats 4000000 in
theorem rtake_lose_f (X : Nat → Prop) (g : Nat) (s : TS) (c i a : Int) (O : Option Addr) (k cap : Nat) (os : List (Int × ByteArray)) (w : World) (hp : RAt w X g s) (hX : X g) (hXl : ∀ b, X b → b < w.heap.size) (ha : 0 ≤ s.ac ∧ s.ac ≤ 8) (hv : RLies w X O k os) (hk : k * 24 ≤ 140737488351232) (hcap : O = none → k = 0 ∧ cap = 0) (ho : ∀ o ∈ os, o.2.size ≤ 140737488351232) (hQ : bE c i a os = 0) (hq : reqB c = true) (h8 : 1 ≤ c ∧ c ≤ 8) (hl : 0 < s.left) (hr : reqB s.ac = true) (hcr : crossB s.fav s.ac c = false) :
    Calls Try.prog 22 #[.pointer (some ⟨g, 0, none⟩), .agg #[.int .i64 c, .int .i64 i, .int .i64 a, .slice O k cap], .bool false] w (RTkB s c i a os false X g w) := by
  have h7 : (c == 7) = false := by rw [beq_eq_false_iff_ne]; rintro rfl; revert hq; decide
  have HX := Lib.hid (show tkL s c i a os false = [(c + 1, i, 1, os)] ∧ tkE c i a os = 0 ∧ tkS s c i a os = { s with left := 0 } from by
    unfold tkL tkE tkS
    rw [if_pos hQ, if_pos hQ, if_pos hQ, if_pos hq, if_pos hq]
    unfold tReqA tReqS crs
    simp [hl, hr, hcr, ansI])
  have hw : IntKind.i64.wrap (c + 1) = c + 1 := IntWalk.i64_in _ (by omega)
  have HP := Lib.hid hp
  have hlt := hp.lt
  have HBX := Lib.hid (Blk.new w 34 #[.int .i64 c, .int .i64 i, .int .i64 a, .slice O k cap])
  have HVR := Lib.hid hv
  have HV := Lib.hid (hv.1.keep ((Below.refl w.heap.size w).alloc (Nat.le_refl _) (.cells #[.int .i64 c, .int .i64 i, .int .i64 a, .slice O k cap] 34)))
  have HO := Lib.hid ho
  clear hv ho
  go_enter Try.func22, Try.ntmps22
  go_wp2_with fail
  refine (rbap_any c i a O k cap os _ HV.out (by omega) HO.out).mono ?_
  rintro e w1 ⟨P, rfl, hb1⟩
  rw [hQ]
  have hz1 := hb1.size
  simp at hz1
  have z1 : w.heap.size < w1.heap.size := by omega
  have bel : Below w.heap.size w w1 := ((Below.refl _ _).alloc (Nat.le_refl _) _).trans (hb1.mono (by simp))
  have hrb := HBX.out.keep hb1
  have r0 : w1.cell? ⟨w.heap.size, 0, none⟩ = some (.int .i64 c) := hrb.cell 0
  have r1 : w1.cell? ⟨w.heap.size, 1, none⟩ = some (.int .i64 i) := hrb.cell 1
  have r2 : w1.cell? ⟨w.heap.size, 2, none⟩ = some (.int .i64 a) := hrb.cell 2
  have r3 : w1.cell? ⟨w.heap.size, 3, none⟩ = some (.slice O k cap) := hrb.cell 3
  have rf := hrb.frozen
  obtain ⟨L, A, n, ca, B, m, cb, h, hL0, h1, h2⟩ := HP.out.up
  have hgb := h.below bel hlt
  have hq1 := h1.keep bel
  have hq2 := h2.keep bel
  have g0 : w1.cell? ⟨g, 0, none⟩ = some (.bool (decide (0 < s.left))) := hgb.cell 0
  have g5 : w1.cell? ⟨g, 5, none⟩ = some (.bool s.fav) := hgb.cell 5
  have g9 : w1.cell? ⟨g, 9, none⟩ = some (.int .i64 s.ac) := hgb.cell 9
  have g10 : w1.cell? ⟨g, 10, none⟩ = some (.int .i64 s.ai) := hgb.cell 10
  have gf := hgb.frozen
  have hgl : g < w1.heap.size := by omega
  have hne : g ≠ w.heap.size := by omega
  have HR0 := Lib.hid (HP.out.up.keep bel)
  have HGB := Lib.hid hgb; have HRB := Lib.hid hrb; have Q1 := Lib.hid hq1; have Q2 := Lib.hid hq2; have HL := Lib.hid hL0; have HB1 := Lib.hid bel
  clear hgb hrb hq1 hq2 h h1 h2 hL0 hb1 bel
  go_wp2_with (first | (go_at_call 35; refine (rreq_any _ _).mono ?_; rintro e w' ⟨rfl, rfl⟩))
  go_quiet ((go_at_call 38; exact Calls.quiet_of_same ((rcross_any _ _ _ _).mono (fun e w' h => ⟨h.1.trans (by rw [hcr]), h.2.symm⟩))))
  go_wp2_with fail
  have hgr1 : w.grownBy ((w1.drewN nq).setCell ⟨g, 0, none⟩ (.bool false)) (some g) := gr_set (gr_drewN (gr_of g HB1.out) nq) (.inl rfl) _
  have hra1 : RAt ((w1.drewN nq).setCell ⟨g, 0, none⟩ (.bool false)) (UpX X w.heap.size) g { s with left := 0 } := (HR0.out.drewN nq).gone (.inl hX)
  have hbx1 : Blk ((w1.drewN nq).setCell ⟨g, 0, none⟩ (.bool false)) w.heap.size 34 #[.int .i64 c, .int .i64 i, .int .i64 a, .slice O k cap] := (HRB.out.drewN nq).far (by show w.heap.size ≠ g; omega) _
  have hov : OptsAt ((w1.drewN nq).setCell ⟨g, 0, none⟩ (.bool false)) O k os := (HVR.out.own hgr1 hX).1
  generalize ((w1.drewN nq).setCell ⟨g, 0, none⟩ (.bool false)) = W at hgr1 hra1 hbx1 hov ⊢
  have hbl := hbx1.lt
  have HGR := Lib.hid hgr1; have HRA := Lib.hid hra1; have HBXW := Lib.hid hbx1; have HOV := Lib.hid hov; have HXL := Lib.hid hXl
  clear r0 r1 r2 r3 rf g0 g5 g9 g10 gf hgl hne HGB HRB HR0 Q1 Q2 HL HB1 HP HBX HVR HV HO z1 hz1 hgr1 hra1 hov hXl
  generalize hqe : w.heap.size = q at hbx1 hbl HBXW ⊢
  have HQE := Lib.hid hqe
  clear hqe
  refine wp_region_held_drew (S := fun V => Blk V q 34 #[.int .i64 c, .int .i64 i, .int .i64 a, .slice O k cap]) (by kernel_rfl) hbx1.drew (fun hHeld => ?_)
  (refine wpAnyH_take (i := 0) (oi := _) (v := ?v0) rfl (by kernel_rfl) (by kernel_rfl) (by kernel_rfl) (fun _ _ _ h => h) (Or.inl ⟨by kernel_rfl, ?y0⟩) (by assumption) ?_; rotate_left; (· (intro w hSw; have hw0 : w.cell? ⟨q, 0, none⟩ = some (.int .i64 c) := hSw.cell 0; have hw1 : w.cell? ⟨q, 1, none⟩ = some (.int .i64 i) := hSw.cell 1; have hw3 : w.cell? ⟨q, 3, none⟩ = some (.slice O k cap) := hSw.cell 3; clear hSw; go_simp; try with_reducible rfl)); simp only [Act.put, List.setIfInBounds_toArray, List.set_cons_zero, List.set_cons_succ, List.getElem_toArray, List.getElem_cons_succ, List.getElem_cons_zero])
  (refine wpAnyH_take (i := 1) (oi := _) (v := ?v1) rfl (by kernel_rfl) (by kernel_rfl) (by kernel_rfl) (fun _ _ _ h => h) (Or.inl ⟨by kernel_rfl, ?y1⟩) (by assumption) ?_; rotate_left; (· (intro w hSw; have hw0 : w.cell? ⟨q, 0, none⟩ = some (.int .i64 c) := hSw.cell 0; have hw1 : w.cell? ⟨q, 1, none⟩ = some (.int .i64 i) := hSw.cell 1; have hw3 : w.cell? ⟨q, 3, none⟩ = some (.slice O k cap) := hSw.cell 3; clear hSw; go_simp; try with_reducible rfl)); simp only [Act.put, List.setIfInBounds_toArray, List.set_cons_zero, List.set_cons_succ, List.getElem_toArray, List.getElem_cons_succ, List.getElem_cons_zero])
  (refine wpAnyH_take (i := 2) (oi := _) (v := ?v2) rfl (by kernel_rfl) (by kernel_rfl) (by kernel_rfl) (fun _ _ _ h => h) (Or.inl ⟨by kernel_rfl, ?y2⟩) (by assumption) ?_; rotate_left; (· (intro w hSw; have hw0 : w.cell? ⟨q, 0, none⟩ = some (.int .i64 c) := hSw.cell 0; have hw1 : w.cell? ⟨q, 1, none⟩ = some (.int .i64 i) := hSw.cell 1; have hw3 : w.cell? ⟨q, 3, none⟩ = some (.slice O k cap) := hSw.cell 3; clear hSw; go_simp; try with_reducible rfl)); simp only [Act.put, List.setIfInBounds_toArray, List.set_cons_zero, List.set_cons_succ, List.getElem_toArray, List.getElem_cons_succ, List.getElem_cons_zero])
  (refine wpAnyH_take (i := 3) (oi := _) (v := ?v3) rfl (by kernel_rfl) (by kernel_rfl) (by kernel_rfl) (fun _ _ _ h => h) (Or.inl ⟨by kernel_rfl, ?y3⟩) (by assumption) ?_; rotate_left; (· (intro w hSw; have hw0 : w.cell? ⟨q, 0, none⟩ = some (.int .i64 c) := hSw.cell 0; have hw1 : w.cell? ⟨q, 1, none⟩ = some (.int .i64 i) := hSw.cell 1; have hw3 : w.cell? ⟨q, 3, none⟩ = some (.slice O k cap) := hSw.cell 3; clear hSw; go_simp; try with_reducible rfl)); simp only [Act.put, List.setIfInBounds_toArray, List.set_cons_zero, List.set_cons_succ, List.getElem_toArray, List.getElem_cons_succ, List.getElem_cons_zero])
  (refine wpAnyH_take (i := 4) (oi := _) (v := ?v4) rfl (by kernel_rfl) (by kernel_rfl) (by kernel_rfl) (fun _ _ _ h => h) (Or.inl ⟨by kernel_rfl, ?y4⟩) (by assumption) ?_; rotate_left; (· (intro w hSw; have hw0 : w.cell? ⟨q, 0, none⟩ = some (.int .i64 c) := hSw.cell 0; have hw1 : w.cell? ⟨q, 1, none⟩ = some (.int .i64 i) := hSw.cell 1; have hw3 : w.cell? ⟨q, 3, none⟩ = some (.slice O k cap) := hSw.cell 3; clear hSw; go_simp; try with_reducible rfl)); simp only [Act.put, List.setIfInBounds_toArray, List.set_cons_zero, List.set_cons_succ, List.getElem_toArray, List.getElem_cons_succ, List.getElem_cons_zero])
  (refine wpAnyH_take (i := 5) (oi := _) (v := ?v5) rfl (by kernel_rfl) (by kernel_rfl) (by kernel_rfl) (fun _ _ _ h => h) (Or.inl ⟨by kernel_rfl, ?y5⟩) (by assumption) ?_; rotate_left; (· (intro w hSw; have hw0 : w.cell? ⟨q, 0, none⟩ = some (.int .i64 c) := hSw.cell 0; have hw1 : w.cell? ⟨q, 1, none⟩ = some (.int .i64 i) := hSw.cell 1; have hw3 : w.cell? ⟨q, 3, none⟩ = some (.slice O k cap) := hSw.cell 3; clear hSw; go_simp; try with_reducible rfl)); simp only [Act.put, List.setIfInBounds_toArray, List.set_cons_zero, List.set_cons_succ, List.getElem_toArray, List.getElem_cons_succ, List.getElem_cons_zero])
  (refine wpAnyH_take (i := 7) (oi := _) (v := ?v7) rfl (by kernel_rfl) (by kernel_rfl) (by kernel_rfl) (fun _ _ _ h => h) (Or.inl ⟨by kernel_rfl, ?y7⟩) (by assumption) ?_; rotate_left; (· (intro w hSw; have hw0 : w.cell? ⟨q, 0, none⟩ = some (.int .i64 c) := hSw.cell 0; have hw1 : w.cell? ⟨q, 1, none⟩ = some (.int .i64 i) := hSw.cell 1; have hw3 : w.cell? ⟨q, 3, none⟩ = some (.slice O k cap) := hSw.cell 3; clear hSw; go_simp; try with_reducible rfl)); simp only [Act.put, List.setIfInBounds_toArray, List.set_cons_zero, List.set_cons_succ, List.getElem_toArray, List.getElem_cons_succ, List.getElem_cons_zero])
  (refine wpAnyH_take (i := 8) (oi := _) (v := ?v8) rfl (by kernel_rfl) (by kernel_rfl) (by kernel_rfl) (fun _ _ _ h => h) (Or.inl ⟨by kernel_rfl, ?y8⟩) (by assumption) ?_; rotate_left; (· (intro w hSw; have hw0 : w.cell? ⟨q, 0, none⟩ = some (.int .i64 c) := hSw.cell 0; have hw1 : w.cell? ⟨q, 1, none⟩ = some (.int .i64 i) := hSw.cell 1; have hw3 : w.cell? ⟨q, 3, none⟩ = some (.slice O k cap) := hSw.cell 3; clear hSw; go_simp; try with_reducible rfl)); simp only [Act.put, List.setIfInBounds_toArray, List.set_cons_zero, List.set_cons_succ, List.getElem_toArray, List.getElem_cons_succ, List.getElem_cons_zero])
  (refine wpAnyH_ready (rs := [6]) (by kernel_rfl) (by simp) ?_; refine AllReadyH.cons (o := _) rfl (fun K hK => ?_) AllReadyH.nil; rw [if_pos (by kernel_rfl)])
  go_simp
  (refine hK.out _ _ ?_ (fun hHeld => ?_))
  · exact HBXW.out.alloc _
  clear hK
  (refine wpAnyH_ready (rs := [9]) (by kernel_rfl) (by simp) ?_; refine AllReadyH.cons (o := _) rfl (fun K hK => ?_) AllReadyH.nil; rw [if_pos (by kernel_rfl)])
  refine wp_optcopy _ _ (by rfl) W.heap.size (by rfl) W.heap.size (own_zero W) O k cap os (by rfl) (HOV.out.keep ((Below.refl _ _).alloc (Nat.le_refl _) _).drew) hk hcap (by simp) ?_
  intro R rc w2 hown hgrow
  have hgz := hgrow.size
  simp at hgz
  have hb2 : Blk w2 q 34 #[.int .i64 c, .int .i64 i, .int .i64 a, .slice O k cap] := ((HBXW.out.alloc (.cells #[] 65)).drew).grown hgrow (by intro e; have := Option.some.inj e; omega)
  have HOWN := Lib.hid hown; have HGROW := Lib.hid hgrow
  clear hown hgrow
  (refine hK.out _ _ ?_ (fun hHeld => ?_))
  · exact hb2
  clear hK
  (refine wpAnyH_take (i := 10) (oi := _) (v := ?v10) rfl (by kernel_rfl) (by kernel_rfl) (by kernel_rfl) (fun _ _ _ h => h) (Or.inl ⟨by kernel_rfl, ?y10⟩) (by assumption) ?_; rotate_left; (· (intro w hSw; skip; go_simp; try with_reducible rfl)); simp only [Act.put, List.setIfInBounds_toArray, List.set_cons_zero, List.set_cons_succ, List.getElem_toArray, List.getElem_cons_succ, List.getElem_cons_zero])
  (refine wpAnyH_ready (rs := [11]) (by kernel_rfl) (by simp) ?_; refine AllReadyH.cons (o := _) rfl (fun K hK => ?_) AllReadyH.nil; rw [if_pos (by kernel_rfl)])
  go_simp
  (refine hK.out _ _ ?_ (fun hHeld => ?_))
  · exact hb2.alloc _
  clear hK
  (refine wpAnyH_ready (rs := [12]) (by kernel_rfl) (by simp) ?_; refine AllReadyH.cons (o := _) rfl (fun K hK => ?_) AllReadyH.nil; rw [if_pos (by kernel_rfl)])
  go_simp
  (refine hK.out _ _ ?_ (fun hHeld => ?_))
  · exact hb2.alloc _
  clear hK
  (refine wpAnyH_ready (rs := [13]) (by kernel_rfl) (by simp) ?_; refine AllReadyH.cons (o := _) rfl (fun K hK => ?_) AllReadyH.nil; rw [if_pos (by kernel_rfl)])
  go_simp
  (refine hK.out _ _ ?_ (fun hHeld => ?_))
  · exact hb2.alloc _
  clear hK
  (refine wpAnyH_done (by kernel_rfl) ?_ _)
  clear hb2
  go_wp2_with fail
  go_ret2
  exact rtake_req_end hX HXL.out hk HOV.out.1 HGR.out HRA.out HOWN.out HGROW.out HX.out.1 HX.out.2.1 HX.out.2.2
set_option maxRecDepth 100000 in
set_option maxHeartbeats 4000000 in
theorem rtake_idle_f (X : Nat → Prop) (g : Nat) (s : TS) (c i a : Int) (O : Option Addr) (k cap : Nat) (os : List (Int × ByteArray)) (w : World) (hp : RAt w X g s) (hX : X g) (hXl : ∀ b, X b → b < w.heap.size) (ha : 0 ≤ s.ac ∧ s.ac ≤ 8) (hv : RLies w X O k os) (hk : k * 24 ≤ 140737488351232) (hcap : O = none → k = 0 ∧ cap = 0) (ho : ∀ o ∈ os, o.2.size ≤ 140737488351232) (hQ : bE c i a os = 0) (hq : reqB c = true) (h8 : 1 ≤ c ∧ c ≤ 8) (hl : ¬ 0 < s.left) :
    Calls Try.prog 22 #[.pointer (some ⟨g, 0, none⟩), .agg #[.int .i64 c, .int .i64 i, .int .i64 a, .slice O k cap], .bool false] w (RTkB s c i a os false X g w) := by
  have h7 : (c == 7) = false := by rw [beq_eq_false_iff_ne]; rintro rfl; revert hq; decide
  have HX := Lib.hid (show tkL s c i a os false = [(c + 1, i, 1, os)] ∧ tkE c i a os = 0 ∧ tkS s c i a os = s from by
    unfold tkL tkE tkS
    rw [if_pos hQ, if_pos hQ, if_pos hQ, if_pos hq, if_pos hq]
    unfold tReqA tReqS crs
    simp [hl, ansI])
  have hw : IntKind.i64.wrap (c + 1) = c + 1 := IntWalk.i64_in _ (by omega)
  have HP := Lib.hid hp
  have hlt := hp.lt
  have HBX := Lib.hid (Blk.new w 34 #[.int .i64 c, .int .i64 i, .int .i64 a, .slice O k cap])
  have HVR := Lib.hid hv
  have HV := Lib.hid (hv.1.keep ((Below.refl w.heap.size w).alloc (Nat.le_refl _) (.cells #[.int .i64 c, .int .i64 i, .int .i64 a, .slice O k cap] 34)))
  have HO := Lib.hid ho
  clear hv ho
  go_enter Try.func22, Try.ntmps22
  go_wp2_with fail
  refine (rbap_any c i a O k cap os _ HV.out (by omega) HO.out).mono ?_
  rintro e w1 ⟨P, rfl, hb1⟩
  rw [hQ]
  have hz1 := hb1.size
  simp at hz1
  have z1 : w.heap.size < w1.heap.size := by omega
  have bel : Below w.heap.size w w1 := ((Below.refl _ _).alloc (Nat.le_refl _) _).trans (hb1.mono (by simp))
  have hrb := HBX.out.keep hb1
  have r0 : w1.cell? ⟨w.heap.size, 0, none⟩ = some (.int .i64 c) := hrb.cell 0
  have r1 : w1.cell? ⟨w.heap.size, 1, none⟩ = some (.int .i64 i) := hrb.cell 1
  have r2 : w1.cell? ⟨w.heap.size, 2, none⟩ = some (.int .i64 a) := hrb.cell 2
  have r3 : w1.cell? ⟨w.heap.size, 3, none⟩ = some (.slice O k cap) := hrb.cell 3
  have rf := hrb.frozen
  obtain ⟨L, A, n, ca, B, m, cb, h, hL0, h1, h2⟩ := HP.out.up
  have hgb := h.below bel hlt
  have hq1 := h1.keep bel
  have hq2 := h2.keep bel
  have g0 : w1.cell? ⟨g, 0, none⟩ = some (.bool (decide (0 < s.left))) := hgb.cell 0
  have g5 : w1.cell? ⟨g, 5, none⟩ = some (.bool s.fav) := hgb.cell 5
  have g9 : w1.cell? ⟨g, 9, none⟩ = some (.int .i64 s.ac) := hgb.cell 9
  have g10 : w1.cell? ⟨g, 10, none⟩ = some (.int .i64 s.ai) := hgb.cell 10
  have gf := hgb.frozen
  have hgl : g < w1.heap.size := by omega
  have hne : g ≠ w.heap.size := by omega
  have HR0 := Lib.hid (HP.out.up.keep bel)
  have HGB := Lib.hid hgb; have HRB := Lib.hid hrb; have Q1 := Lib.hid hq1; have Q2 := Lib.hid hq2; have HL := Lib.hid hL0; have HB1 := Lib.hid bel
  clear hgb hrb hq1 hq2 h h1 h2 hL0 hb1 bel
  go_wp2_with (first | (go_at_call 35; refine (rreq_any _ _).mono ?_; rintro e w' ⟨rfl, rfl⟩))
  have hgr1 : w.grownBy w1 (some g) := gr_of g HB1.out
  have hra1 : RAt w1 (UpX X w.heap.size) g s := HR0.out
  have hbx1 : Blk w1 w.heap.size 34 #[.int .i64 c, .int .i64 i, .int .i64 a, .slice O k cap] := HRB.out
  have hov : OptsAt w1 O k os := (HVR.out.own hgr1 hX).1
  generalize w1 = W at hgr1 hra1 hbx1 hov ⊢
  have hbl := hbx1.lt
  have HGR := Lib.hid hgr1; have HRA := Lib.hid hra1; have HBXW := Lib.hid hbx1; have HOV := Lib.hid hov; have HXL := Lib.hid hXl
  clear r0 r1 r2 r3 rf g0 g5 g9 g10 gf hgl hne HGB HRB HR0 Q1 Q2 HL HB1 HP HBX HVR HV HO z1 hz1 hgr1 hra1 hov hXl
  generalize hqe : w.heap.size = q at hbx1 hbl HBXW ⊢
  have HQE := Lib.hid hqe
  clear hqe
  refine wp_region_held_drew (S := fun V => Blk V q 34 #[.int .i64 c, .int .i64 i, .int .i64 a, .slice O k cap]) (by kernel_rfl) hbx1.drew (fun hHeld => ?_)
  (refine wpAnyH_take (i := 0) (oi := _) (v := ?v0) rfl (by kernel_rfl) (by kernel_rfl) (by kernel_rfl) (fun _ _ _ h => h) (Or.inl ⟨by kernel_rfl, ?y0⟩) (by assumption) ?_; rotate_left; (· (intro w hSw; have hw0 : w.cell? ⟨q, 0, none⟩ = some (.int .i64 c) := hSw.cell 0; have hw1 : w.cell? ⟨q, 1, none⟩ = some (.int .i64 i) := hSw.cell 1; have hw3 : w.cell? ⟨q, 3, none⟩ = some (.slice O k cap) := hSw.cell 3; clear hSw; go_simp; try with_reducible rfl)); simp only [Act.put, List.setIfInBounds_toArray, List.set_cons_zero, List.set_cons_succ, List.getElem_toArray, List.getElem_cons_succ, List.getElem_cons_zero])
  (refine wpAnyH_take (i := 1) (oi := _) (v := ?v1) rfl (by kernel_rfl) (by kernel_rfl) (by kernel_rfl) (fun _ _ _ h => h) (Or.inl ⟨by kernel_rfl, ?y1⟩) (by assumption) ?_; rotate_left; (· (intro w hSw; have hw0 : w.cell? ⟨q, 0, none⟩ = some (.int .i64 c) := hSw.cell 0; have hw1 : w.cell? ⟨q, 1, none⟩ = some (.int .i64 i) := hSw.cell 1; have hw3 : w.cell? ⟨q, 3, none⟩ = some (.slice O k cap) := hSw.cell 3; clear hSw; go_simp; try with_reducible rfl)); simp only [Act.put, List.setIfInBounds_toArray, List.set_cons_zero, List.set_cons_succ, List.getElem_toArray, List.getElem_cons_succ, List.getElem_cons_zero])
  (refine wpAnyH_take (i := 2) (oi := _) (v := ?v2) rfl (by kernel_rfl) (by kernel_rfl) (by kernel_rfl) (fun _ _ _ h => h) (Or.inl ⟨by kernel_rfl, ?y2⟩) (by assumption) ?_; rotate_left; (· (intro w hSw; have hw0 : w.cell? ⟨q, 0, none⟩ = some (.int .i64 c) := hSw.cell 0; have hw1 : w.cell? ⟨q, 1, none⟩ = some (.int .i64 i) := hSw.cell 1; have hw3 : w.cell? ⟨q, 3, none⟩ = some (.slice O k cap) := hSw.cell 3; clear hSw; go_simp; try with_reducible rfl)); simp only [Act.put, List.setIfInBounds_toArray, List.set_cons_zero, List.set_cons_succ, List.getElem_toArray, List.getElem_cons_succ, List.getElem_cons_zero])
  (refine wpAnyH_take (i := 3) (oi := _) (v := ?v3) rfl (by kernel_rfl) (by kernel_rfl) (by kernel_rfl) (fun _ _ _ h => h) (Or.inl ⟨by kernel_rfl, ?y3⟩) (by assumption) ?_; rotate_left; (· (intro w hSw; have hw0 : w.cell? ⟨q, 0, none⟩ = some (.int .i64 c) := hSw.cell 0; have hw1 : w.cell? ⟨q, 1, none⟩ = some (.int .i64 i) := hSw.cell 1; have hw3 : w.cell? ⟨q, 3, none⟩ = some (.slice O k cap) := hSw.cell 3; clear hSw; go_simp; try with_reducible rfl)); simp only [Act.put, List.setIfInBounds_toArray, List.set_cons_zero, List.set_cons_succ, List.getElem_toArray, List.getElem_cons_succ, List.getElem_cons_zero])
  (refine wpAnyH_take (i := 4) (oi := _) (v := ?v4) rfl (by kernel_rfl) (by kernel_rfl) (by kernel_rfl) (fun _ _ _ h => h) (Or.inl ⟨by kernel_rfl, ?y4⟩) (by assumption) ?_; rotate_left; (· (intro w hSw; have hw0 : w.cell? ⟨q, 0, none⟩ = some (.int .i64 c) := hSw.cell 0; have hw1 : w.cell? ⟨q, 1, none⟩ = some (.int .i64 i) := hSw.cell 1; have hw3 : w.cell? ⟨q, 3, none⟩ = some (.slice O k cap) := hSw.cell 3; clear hSw; go_simp; try with_reducible rfl)); simp only [Act.put, List.setIfInBounds_toArray, List.set_cons_zero, List.set_cons_succ, List.getElem_toArray, List.getElem_cons_succ, List.getElem_cons_zero])
  (refine wpAnyH_take (i := 5) (oi := _) (v := ?v5) rfl (by kernel_rfl) (by kernel_rfl) (by kernel_rfl) (fun _ _ _ h => h) (Or.inl ⟨by kernel_rfl, ?y5⟩) (by assumption) ?_; rotate_left; (· (intro w hSw; have hw0 : w.cell? ⟨q, 0, none⟩ = some (.int .i64 c) := hSw.cell 0; have hw1 : w.cell? ⟨q, 1, none⟩ = some (.int .i64 i) := hSw.cell 1; have hw3 : w.cell? ⟨q, 3, none⟩ = some (.slice O k cap) := hSw.cell 3; clear hSw; go_simp; try with_reducible rfl)); simp only [Act.put, List.setIfInBounds_toArray, List.set_cons_zero, List.set_cons_succ, List.getElem_toArray, List.getElem_cons_succ, List.getElem_cons_zero])
  (refine wpAnyH_take (i := 7) (oi := _) (v := ?v7) rfl (by kernel_rfl) (by kernel_rfl) (by kernel_rfl) (fun _ _ _ h => h) (Or.inl ⟨by kernel_rfl, ?y7⟩) (by assumption) ?_; rotate_left; (· (intro w hSw; have hw0 : w.cell? ⟨q, 0, none⟩ = some (.int .i64 c) := hSw.cell 0; have hw1 : w.cell? ⟨q, 1, none⟩ = some (.int .i64 i) := hSw.cell 1; have hw3 : w.cell? ⟨q, 3, none⟩ = some (.slice O k cap) := hSw.cell 3; clear hSw; go_simp; try with_reducible rfl)); simp only [Act.put, List.setIfInBounds_toArray, List.set_cons_zero, List.set_cons_succ, List.getElem_toArray, List.getElem_cons_succ, List.getElem_cons_zero])
  (refine wpAnyH_take (i := 8) (oi := _) (v := ?v8) rfl (by kernel_rfl) (by kernel_rfl) (by kernel_rfl) (fun _ _ _ h => h) (Or.inl ⟨by kernel_rfl, ?y8⟩) (by assumption) ?_; rotate_left; (· (intro w hSw; have hw0 : w.cell? ⟨q, 0, none⟩ = some (.int .i64 c) := hSw.cell 0; have hw1 : w.cell? ⟨q, 1, none⟩ = some (.int .i64 i) := hSw.cell 1; have hw3 : w.cell? ⟨q, 3, none⟩ = some (.slice O k cap) := hSw.cell 3; clear hSw; go_simp; try with_reducible rfl)); simp only [Act.put, List.setIfInBounds_toArray, List.set_cons_zero, List.set_cons_succ, List.getElem_toArray, List.getElem_cons_succ, List.getElem_cons_zero])
  (refine wpAnyH_ready (rs := [6]) (by kernel_rfl) (by simp) ?_; refine AllReadyH.cons (o := _) rfl (fun K hK => ?_) AllReadyH.nil; rw [if_pos (by kernel_rfl)])
  go_simp
  (refine hK.out _ _ ?_ (fun hHeld => ?_))
  · exact HBXW.out.alloc _
  clear hK
  (refine wpAnyH_ready (rs := [9]) (by kernel_rfl) (by simp) ?_; refine AllReadyH.cons (o := _) rfl (fun K hK => ?_) AllReadyH.nil; rw [if_pos (by kernel_rfl)])
  refine wp_optcopy _ _ (by rfl) W.heap.size (by rfl) W.heap.size (own_zero W) O k cap os (by rfl) (HOV.out.keep ((Below.refl _ _).alloc (Nat.le_refl _) _).drew) hk hcap (by simp) ?_
  intro R rc w2 hown hgrow
  have hgz := hgrow.size
  simp at hgz
  have hb2 : Blk w2 q 34 #[.int .i64 c, .int .i64 i, .int .i64 a, .slice O k cap] := ((HBXW.out.alloc (.cells #[] 65)).drew).grown hgrow (by intro e; have := Option.some.inj e; omega)
  have HOWN := Lib.hid hown; have HGROW := Lib.hid hgrow
  clear hown hgrow
  (refine hK.out _ _ ?_ (fun hHeld => ?_))
  · exact hb2
  clear hK
  (refine wpAnyH_take (i := 10) (oi := _) (v := ?v10) rfl (by kernel_rfl) (by kernel_rfl) (by kernel_rfl) (fun _ _ _ h => h) (Or.inl ⟨by kernel_rfl, ?y10⟩) (by assumption) ?_; rotate_left; (· (intro w hSw; skip; go_simp; try with_reducible rfl)); simp only [Act.put, List.setIfInBounds_toArray, List.set_cons_zero, List.set_cons_succ, List.getElem_toArray, List.getElem_cons_succ, List.getElem_cons_zero])
  (refine wpAnyH_ready (rs := [11]) (by kernel_rfl) (by simp) ?_; refine AllReadyH.cons (o := _) rfl (fun K hK => ?_) AllReadyH.nil; rw [if_pos (by kernel_rfl)])
  go_simp
  (refine hK.out _ _ ?_ (fun hHeld => ?_))
  · exact hb2.alloc _
  clear hK
  (refine wpAnyH_ready (rs := [12]) (by kernel_rfl) (by simp) ?_; refine AllReadyH.cons (o := _) rfl (fun K hK => ?_) AllReadyH.nil; rw [if_pos (by kernel_rfl)])
  go_simp
  (refine hK.out _ _ ?_ (fun hHeld => ?_))
  · exact hb2.alloc _
  clear hK
  (refine wpAnyH_ready (rs := [13]) (by kernel_rfl) (by simp) ?_; refine AllReadyH.cons (o := _) rfl (fun K hK => ?_) AllReadyH.nil; rw [if_pos (by kernel_rfl)])
  go_simp
  (refine hK.out _ _ ?_ (fun hHeld => ?_))
  · exact hb2.alloc _
  clear hK
  (refine wpAnyH_done (by kernel_rfl) ?_ _)
  clear hb2
  go_wp2_with fail
  go_ret2
  exact rtake_req_end hX HXL.out hk HOV.out.1 HGR.out HRA.out HOWN.out HGROW.out HX.out.1 HX.out.2.1 HX.out.2.2
set_option maxRecDepth 100000 in
set_option maxHeartbeats 4000000 in
theorem rtake_ind_f (X : Nat → Prop) (g : Nat) (s : TS) (c i a : Int) (O : Option Addr) (k cap : Nat) (os : List (Int × ByteArray)) (w : World) (hp : RAt w X g s) (hX : X g) (hXl : ∀ b, X b → b < w.heap.size) (ha : 0 ≤ s.ac ∧ s.ac ≤ 8) (hv : RLies w X O k os) (hk : k * 24 ≤ 140737488351232) (hcap : O = none → k = 0 ∧ cap = 0) (ho : ∀ o ∈ os, o.2.size ≤ 140737488351232) (hQ : bE c i a os = 0) (hq : reqB c = true) (h8 : 1 ≤ c ∧ c ≤ 8) (hl : 0 < s.left) (hr : reqB s.ac = false) :
    Calls Try.prog 22 #[.pointer (some ⟨g, 0, none⟩), .agg #[.int .i64 c, .int .i64 i, .int .i64 a, .slice O k cap], .bool false] w (RTkB s c i a os false X g w) := by
  have h7 : (c == 7) = false := by rw [beq_eq_false_iff_ne]; rintro rfl; revert hq; decide
  have HX := Lib.hid (show tkL s c i a os false = [(c + 1, i, 1, os)] ∧ tkE c i a os = 0 ∧ tkS s c i a os = s from by
    unfold tkL tkE tkS
    rw [if_pos hQ, if_pos hQ, if_pos hQ, if_pos hq, if_pos hq]
    unfold tReqA tReqS crs
    simp [hl, hr, ansI])
  have hw : IntKind.i64.wrap (c + 1) = c + 1 := IntWalk.i64_in _ (by omega)
  have HP := Lib.hid hp
  have hlt := hp.lt
  have HBX := Lib.hid (Blk.new w 34 #[.int .i64 c, .int .i64 i, .int .i64 a, .slice O k cap])
  have HVR := Lib.hid hv
  have HV := Lib.hid (hv.1.keep ((Below.refl w.heap.size w).alloc (Nat.le_refl _) (.cells #[.int .i64 c, .int .i64 i, .int .i64 a, .slice O k cap] 34)))
  have HO := Lib.hid ho
  clear hv ho
  go_enter Try.func22, Try.ntmps22
  go_wp2_with fail
  refine (rbap_any c i a O k cap os _ HV.out (by omega) HO.out).mono ?_
  rintro e w1 ⟨P, rfl, hb1⟩
  rw [hQ]
  have hz1 := hb1.size
  simp at hz1
  have z1 : w.heap.size < w1.heap.size := by omega
  have bel : Below w.heap.size w w1 := ((Below.refl _ _).alloc (Nat.le_refl _) _).trans (hb1.mono (by simp))
  have hrb := HBX.out.keep hb1
  have r0 : w1.cell? ⟨w.heap.size, 0, none⟩ = some (.int .i64 c) := hrb.cell 0
  have r1 : w1.cell? ⟨w.heap.size, 1, none⟩ = some (.int .i64 i) := hrb.cell 1
  have r2 : w1.cell? ⟨w.heap.size, 2, none⟩ = some (.int .i64 a) := hrb.cell 2
  have r3 : w1.cell? ⟨w.heap.size, 3, none⟩ = some (.slice O k cap) := hrb.cell 3
  have rf := hrb.frozen
  obtain ⟨L, A, n, ca, B, m, cb, h, hL0, h1, h2⟩ := HP.out.up
  have hgb := h.below bel hlt
  have hq1 := h1.keep bel
  have hq2 := h2.keep bel
  have g0 : w1.cell? ⟨g, 0, none⟩ = some (.bool (decide (0 < s.left))) := hgb.cell 0
  have g5 : w1.cell? ⟨g, 5, none⟩ = some (.bool s.fav) := hgb.cell 5
  have g9 : w1.cell? ⟨g, 9, none⟩ = some (.int .i64 s.ac) := hgb.cell 9
  have g10 : w1.cell? ⟨g, 10, none⟩ = some (.int .i64 s.ai) := hgb.cell 10
  have gf := hgb.frozen
  have hgl : g < w1.heap.size := by omega
  have hne : g ≠ w.heap.size := by omega
  have HR0 := Lib.hid (HP.out.up.keep bel)
  have HGB := Lib.hid hgb; have HRB := Lib.hid hrb; have Q1 := Lib.hid hq1; have Q2 := Lib.hid hq2; have HL := Lib.hid hL0; have HB1 := Lib.hid bel
  clear hgb hrb hq1 hq2 h h1 h2 hL0 hb1 bel
  go_wp2_with (first | (go_at_call 35; refine (rreq_any _ _).mono ?_; rintro e w' ⟨rfl, rfl⟩))
  have hgr1 : w.grownBy w1 (some g) := gr_of g HB1.out
  have hra1 : RAt w1 (UpX X w.heap.size) g s := HR0.out
  have hbx1 : Blk w1 w.heap.size 34 #[.int .i64 c, .int .i64 i, .int .i64 a, .slice O k cap] := HRB.out
  have hov : OptsAt w1 O k os := (HVR.out.own hgr1 hX).1
  generalize w1 = W at hgr1 hra1 hbx1 hov ⊢
  have hbl := hbx1.lt
  have HGR := Lib.hid hgr1; have HRA := Lib.hid hra1; have HBXW := Lib.hid hbx1; have HOV := Lib.hid hov; have HXL := Lib.hid hXl
  clear r0 r1 r2 r3 rf g0 g5 g9 g10 gf hgl hne HGB HRB HR0 Q1 Q2 HL HB1 HP HBX HVR HV HO z1 hz1 hgr1 hra1 hov hXl
  generalize hqe : w.heap.size = q at hbx1 hbl HBXW ⊢
  have HQE := Lib.hid hqe
  clear hqe
  refine wp_region_held_drew (S := fun V => Blk V q 34 #[.int .i64 c, .int .i64 i, .int .i64 a, .slice O k cap]) (by kernel_rfl) hbx1.drew (fun hHeld => ?_)
  (refine wpAnyH_take (i := 0) (oi := _) (v := ?v0) rfl (by kernel_rfl) (by kernel_rfl) (by kernel_rfl) (fun _ _ _ h => h) (Or.inl ⟨by kernel_rfl, ?y0⟩) (by assumption) ?_; rotate_left; (· (intro w hSw; have hw0 : w.cell? ⟨q, 0, none⟩ = some (.int .i64 c) := hSw.cell 0; have hw1 : w.cell? ⟨q, 1, none⟩ = some (.int .i64 i) := hSw.cell 1; have hw3 : w.cell? ⟨q, 3, none⟩ = some (.slice O k cap) := hSw.cell 3; clear hSw; go_simp; try with_reducible rfl)); simp only [Act.put, List.setIfInBounds_toArray, List.set_cons_zero, List.set_cons_succ, List.getElem_toArray, List.getElem_cons_succ, List.getElem_cons_zero])
  (refine wpAnyH_take (i := 1) (oi := _) (v := ?v1) rfl (by kernel_rfl) (by kernel_rfl) (by kernel_rfl) (fun _ _ _ h => h) (Or.inl ⟨by kernel_rfl, ?y1⟩) (by assumption) ?_; rotate_left; (· (intro w hSw; have hw0 : w.cell? ⟨q, 0, none⟩ = some (.int .i64 c) := hSw.cell 0; have hw1 : w.cell? ⟨q, 1, none⟩ = some (.int .i64 i) := hSw.cell 1; have hw3 : w.cell? ⟨q, 3, none⟩ = some (.slice O k cap) := hSw.cell 3; clear hSw; go_simp; try with_reducible rfl)); simp only [Act.put, List.setIfInBounds_toArray, List.set_cons_zero, List.set_cons_succ, List.getElem_toArray, List.getElem_cons_succ, List.getElem_cons_zero])
  (refine wpAnyH_take (i := 2) (oi := _) (v := ?v2) rfl (by kernel_rfl) (by kernel_rfl) (by kernel_rfl) (fun _ _ _ h => h) (Or.inl ⟨by kernel_rfl, ?y2⟩) (by assumption) ?_; rotate_left; (· (intro w hSw; have hw0 : w.cell? ⟨q, 0, none⟩ = some (.int .i64 c) := hSw.cell 0; have hw1 : w.cell? ⟨q, 1, none⟩ = some (.int .i64 i) := hSw.cell 1; have hw3 : w.cell? ⟨q, 3, none⟩ = some (.slice O k cap) := hSw.cell 3; clear hSw; go_simp; try with_reducible rfl)); simp only [Act.put, List.setIfInBounds_toArray, List.set_cons_zero, List.set_cons_succ, List.getElem_toArray, List.getElem_cons_succ, List.getElem_cons_zero])
  (refine wpAnyH_take (i := 3) (oi := _) (v := ?v3) rfl (by kernel_rfl) (by kernel_rfl) (by kernel_rfl) (fun _ _ _ h => h) (Or.inl ⟨by kernel_rfl, ?y3⟩) (by assumption) ?_; rotate_left; (· (intro w hSw; have hw0 : w.cell? ⟨q, 0, none⟩ = some (.int .i64 c) := hSw.cell 0; have hw1 : w.cell? ⟨q, 1, none⟩ = some (.int .i64 i) := hSw.cell 1; have hw3 : w.cell? ⟨q, 3, none⟩ = some (.slice O k cap) := hSw.cell 3; clear hSw; go_simp; try with_reducible rfl)); simp only [Act.put, List.setIfInBounds_toArray, List.set_cons_zero, List.set_cons_succ, List.getElem_toArray, List.getElem_cons_succ, List.getElem_cons_zero])
  (refine wpAnyH_take (i := 4) (oi := _) (v := ?v4) rfl (by kernel_rfl) (by kernel_rfl) (by kernel_rfl) (fun _ _ _ h => h) (Or.inl ⟨by kernel_rfl, ?y4⟩) (by assumption) ?_; rotate_left; (· (intro w hSw; have hw0 : w.cell? ⟨q, 0, none⟩ = some (.int .i64 c) := hSw.cell 0; have hw1 : w.cell? ⟨q, 1, none⟩ = some (.int .i64 i) := hSw.cell 1; have hw3 : w.cell? ⟨q, 3, none⟩ = some (.slice O k cap) := hSw.cell 3; clear hSw; go_simp; try with_reducible rfl)); simp only [Act.put, List.setIfInBounds_toArray, List.set_cons_zero, List.set_cons_succ, List.getElem_toArray, List.getElem_cons_succ, List.getElem_cons_zero])
  (refine wpAnyH_take (i := 5) (oi := _) (v := ?v5) rfl (by kernel_rfl) (by kernel_rfl) (by kernel_rfl) (fun _ _ _ h => h) (Or.inl ⟨by kernel_rfl, ?y5⟩) (by assumption) ?_; rotate_left; (· (intro w hSw; have hw0 : w.cell? ⟨q, 0, none⟩ = some (.int .i64 c) := hSw.cell 0; have hw1 : w.cell? ⟨q, 1, none⟩ = some (.int .i64 i) := hSw.cell 1; have hw3 : w.cell? ⟨q, 3, none⟩ = some (.slice O k cap) := hSw.cell 3; clear hSw; go_simp; try with_reducible rfl)); simp only [Act.put, List.setIfInBounds_toArray, List.set_cons_zero, List.set_cons_succ, List.getElem_toArray, List.getElem_cons_succ, List.getElem_cons_zero])
  (refine wpAnyH_take (i := 7) (oi := _) (v := ?v7) rfl (by kernel_rfl) (by kernel_rfl) (by kernel_rfl) (fun _ _ _ h => h) (Or.inl ⟨by kernel_rfl, ?y7⟩) (by assumption) ?_; rotate_left; (· (intro w hSw; have hw0 : w.cell? ⟨q, 0, none⟩ = some (.int .i64 c) := hSw.cell 0; have hw1 : w.cell? ⟨q, 1, none⟩ = some (.int .i64 i) := hSw.cell 1; have hw3 : w.cell? ⟨q, 3, none⟩ = some (.slice O k cap) := hSw.cell 3; clear hSw; go_simp; try with_reducible rfl)); simp only [Act.put, List.setIfInBounds_toArray, List.set_cons_zero, List.set_cons_succ, List.getElem_toArray, List.getElem_cons_succ, List.getElem_cons_zero])
  (refine wpAnyH_take (i := 8) (oi := _) (v := ?v8) rfl (by kernel_rfl) (by kernel_rfl) (by kernel_rfl) (fun _ _ _ h => h) (Or.inl ⟨by kernel_rfl, ?y8⟩) (by assumption) ?_; rotate_left; (· (intro w hSw; have hw0 : w.cell? ⟨q, 0, none⟩ = some (.int .i64 c) := hSw.cell 0; have hw1 : w.cell? ⟨q, 1, none⟩ = some (.int .i64 i) := hSw.cell 1; have hw3 : w.cell? ⟨q, 3, none⟩ = some (.slice O k cap) := hSw.cell 3; clear hSw; go_simp; try with_reducible rfl)); simp only [Act.put, List.setIfInBounds_toArray, List.set_cons_zero, List.set_cons_succ, List.getElem_toArray, List.getElem_cons_succ, List.getElem_cons_zero])
  (refine wpAnyH_ready (rs := [6]) (by kernel_rfl) (by simp) ?_; refine AllReadyH.cons (o := _) rfl (fun K hK => ?_) AllReadyH.nil; rw [if_pos (by kernel_rfl)])
  go_simp
  (refine hK.out _ _ ?_ (fun hHeld => ?_))
  · exact HBXW.out.alloc _
  clear hK
  (refine wpAnyH_ready (rs := [9]) (by kernel_rfl) (by simp) ?_; refine AllReadyH.cons (o := _) rfl (fun K hK => ?_) AllReadyH.nil; rw [if_pos (by kernel_rfl)])
  refine wp_optcopy _ _ (by rfl) W.heap.size (by rfl) W.heap.size (own_zero W) O k cap os (by rfl) (HOV.out.keep ((Below.refl _ _).alloc (Nat.le_refl _) _).drew) hk hcap (by simp) ?_
  intro R rc w2 hown hgrow
  have hgz := hgrow.size
  simp at hgz
  have hb2 : Blk w2 q 34 #[.int .i64 c, .int .i64 i, .int .i64 a, .slice O k cap] := ((HBXW.out.alloc (.cells #[] 65)).drew).grown hgrow (by intro e; have := Option.some.inj e; omega)
  have HOWN := Lib.hid hown; have HGROW := Lib.hid hgrow
  clear hown hgrow
  (refine hK.out _ _ ?_ (fun hHeld => ?_))
  · exact hb2
  clear hK
  (refine wpAnyH_take (i := 10) (oi := _) (v := ?v10) rfl (by kernel_rfl) (by kernel_rfl) (by kernel_rfl) (fun _ _ _ h => h) (Or.inl ⟨by kernel_rfl, ?y10⟩) (by assumption) ?_; rotate_left; (· (intro w hSw; skip; go_simp; try with_reducible rfl)); simp only [Act.put, List.setIfInBounds_toArray, List.set_cons_zero, List.set_cons_succ, List.getElem_toArray, List.getElem_cons_succ, List.getElem_cons_zero])
  (refine wpAnyH_ready (rs := [11]) (by kernel_rfl) (by simp) ?_; refine AllReadyH.cons (o := _) rfl (fun K hK => ?_) AllReadyH.nil; rw [if_pos (by kernel_rfl)])
  go_simp
  (refine hK.out _ _ ?_ (fun hHeld => ?_))
  · exact hb2.alloc _
  clear hK
  (refine wpAnyH_ready (rs := [12]) (by kernel_rfl) (by simp) ?_; refine AllReadyH.cons (o := _) rfl (fun K hK => ?_) AllReadyH.nil; rw [if_pos (by kernel_rfl)])
  go_simp
  (refine hK.out _ _ ?_ (fun hHeld => ?_))
  · exact hb2.alloc _
  clear hK
  (refine wpAnyH_ready (rs := [13]) (by kernel_rfl) (by simp) ?_; refine AllReadyH.cons (o := _) rfl (fun K hK => ?_) AllReadyH.nil; rw [if_pos (by kernel_rfl)])
  go_simp
  (refine hK.out _ _ ?_ (fun hHeld => ?_))
  · exact hb2.alloc _
  clear hK
  (refine wpAnyH_done (by kernel_rfl) ?_ _)
  clear hb2
  go_wp2_with fail
  go_ret2
  exact rtake_req_end hX HXL.out hk HOV.out.1 HGR.out HRA.out HOWN.out HGROW.out HX.out.1 HX.out.2.1 HX.out.2.2
end Go.Proofs.Ytckbbfdllflmjaa
