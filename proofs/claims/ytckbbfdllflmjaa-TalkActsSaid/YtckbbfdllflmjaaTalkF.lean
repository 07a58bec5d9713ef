/- The contract of package bap's Take. No condition but memory's own limits. -/
import Derived.Test.YtckbbfdllflmjaaTalkE
namespace Go.Proofs.Ytckbbfdllflmjaa
open Go.RowKit
set_option linter.unusedVariables false
set_option linter.unusedSimpArgs false
attribute [local go_sem] conv1 conv1d conv1n conv1a conv1ad conv1an conv2 conv2d conv2n conv2a conv2ad conv2an conv4 conv4d conv4n conv4a conv4ad conv4an conv5 conv5d conv5n conv5a conv5ad conv5an size_nums byt_fold
def tkE (c i a : Int) (os : List (Int × ByteArray)) : Int := if bE c i a os = 0 then 0 else 2200
def tkL (s : TS) (c i a : Int) (os : List (Int × ByteArray)) (yes : Bool) : List (Int × Int × Int × List (Int × ByteArray)) :=
  if bE c i a os = 0 then (if reqB c then [(c + 1, i, tReqA s c yes, os)] else if c = 7 then [(8, i, 0, [])] else []) else []
def endB (s : TS) (c i : Int) : Bool := decide (0 < s.left) && decide (c = s.ac + 1) && decide (i = s.ai)
def tkS (s : TS) (c i a : Int) (os : List (Int × ByteArray)) : TS :=
  if bE c i a os = 0 then (if reqB c then tReqS s c else if c = 7 then s else if endB s c i then { s with left := 0, lc := c, li := i, la := a, ll := os } else s) else s
/-- A list of no or one datagram. -/
def ListB (w w' : World) (X : Nat → Prop) (g : Nat) (S : TS) (v : Value) (l : List (Int × Int × Int × List (Int × ByteArray))) : Prop :=
  (l = [] ∧ v = .slice none 0 0 ∧ TAt w' X g S) ∨ (∃ c i a os b R n rc, l = [(c, i, a, os)] ∧ v = .slice (some ⟨b, 0, none⟩) 1 1 ∧ One w w' b c i a R n rc os ∧ TAt w' (OwnR X b R) g S)
def TkB (s : TS) (c i a : Int) (os : List (Int × ByteArray)) (yes : Bool) (X : Nat → Prop) (g : Nat) (w : World) (e : Ending) (w' : World) : Prop :=
  ∃ v, e = .returned (.tuple #[v, .int .i64 (tkE c i a os)]) ∧ ListB w w' X g (tkS s c i a os) v (tkL s c i a os yes) ∧ w.grownBy w' (some g)
theorem TkB.nil {s S : TS} {c i a x : Int} {os : List (Int × ByteArray)} {yes : Bool} {X : Nat → Prop} {g : Nat} {w w' : World} (h1 : tkL s c i a os yes = []) (h2 : tkE c i a os = x) (h3 : tkS s c i a os = S) (ht : TAt w' X g S) (hg : w.grownBy w' (some g)) :
    TkB s c i a os yes X g w (.returned (.tuple #[.slice none 0 0, .int .i64 x])) w' := by
  refine ⟨_, by rw [h2], ?_, hg⟩
  rw [h1, h3]
  exact .inl ⟨rfl, rfl, ht⟩
theorem One.mono {w w1 w' : World} {b : Nat} {c i a : Int} {R : Option Addr} {n rc : Nat} {os : List (Int × ByteArray)} (h : One w1 w' b c i a R n rc os) (hs : w.heap.size ≤ w1.heap.size) : One w w' b c i a R n rc os :=
  ⟨Nat.le_trans hs h.1, h.2.1, h.2.2.1.mono hs, h.2.2.2⟩
theorem tsClast (s : TS) (A : Option Addr) (n ca : Nat) (B : Option Addr) (m cb : Nat) (c i a : Int) (R : Option Addr) (k rc : Nat) (os : List (Int × ByteArray)) : (((((tsC s A n ca B m cb).setIfInBounds 4 (.int .i64 0)).setIfInBounds 8 (.int .i64 c)).setIfInBounds 9 (.int .i64 i)).setIfInBounds 10 (.int .i64 a)).setIfInBounds 11 (.slice R k rc) = tsC { s with left := 0, lc := c, li := i, la := a, ll := os } A n ca R k rc := rfl
theorem bE_code {c i a : Int} {os : List (Int × ByteArray)} (h : bE c i a os = 0) : 1 ≤ c ∧ c ≤ 8 := by
  unfold bE at h
  cases hg : bGood c i a os
  · rw [hg] at h; cases h
  · unfold bGood at hg
    simp only [Bool.and_eq_true] at hg
    have := may_yes hg.1.1.1
    omega
set_option maxRecDepth 100000 in
set_option maxHeartbeats 4000000 in
theorem ttake_any (X : Nat → Prop) (g : Nat) (s : TS) (c i a : Int) (O : Option Addr) (k cap : Nat) (os : List (Int × ByteArray)) (yes : Bool) (w : World) (hp : TAt w X g s) (hX : X g) (hXl : ∀ b, X b → b < w.heap.size) (ha : 0 ≤ s.ac ∧ s.ac ≤ 8) (hv : Lies w X O k cap os) :
    Calls Try.prog 21 #[.pointer (some ⟨g, 0, none⟩), .agg #[.int .i64 c, .int .i64 i, .int .i64 a, .slice O k cap], .bool yes] w (TkB s c i a os yes X g w) := by
  have hlt := hp.lt
  have hk := hv.2.1
  have HP := Lib.hid hp; have HV := Lib.hid hv
  clear hp hv
  obtain ⟨P, hP⟩ : ∃ P, bS c i a os = P := ⟨_, rfl⟩
  obtain ⟨Q, hQ⟩ : ∃ Q, bE c i a os = Q := ⟨_, rfl⟩
  have hbx := Blk.new w 34 #[.int .i64 c, .int .i64 i, .int .i64 a, .slice O k cap]
  have HBX := Lib.hid hbx; clear hbx
  have hw : IntKind.i64.wrap (s.ac + 1) = s.ac + 1 := IntWalk.i64_in _ (by omega)
  go_enter Try.func21, Try.ntmps21
  go_wp2_with fail
  refine (bapput_any c i a O k cap os _ (HV.out.alloc _).1 (by omega)).mono ?_
  rintro e w2 ⟨rfl, hb2⟩
  rw [hP, hQ]
  have hz2 := hb2.size
  simp at hz2
  have hbel2 : Below w.heap.size w w2 := below_step ((Below.refl _ w).alloc (Nat.le_refl _) _) hb2 (by simp)
  have hz3 : w.heap.size < w2.heap.size := by omega
  have hg3 : g < w2.heap.size := by omega
  have hgw : g ≠ w.heap.size := by omega
  have hbx2 := HBX.out.keep hb2
  have hp2 := HP.out.keep (hbel2.mono (Nat.le_refl _))
  have hv2 := HV.out.keep (hbel2.mono (Nat.le_refl _))
  have hgr2 := gr_of g hbel2
  have b0 : w2.cell? ⟨w.heap.size, 0, none⟩ = some (.int .i64 c) := hbx2.cell 0
  have b1 : w2.cell? ⟨w.heap.size, 1, none⟩ = some (.int .i64 i) := hbx2.cell 1
  have b2 : w2.cell? ⟨w.heap.size, 2, none⟩ = some (.int .i64 a) := hbx2.cell 2
  have b3 : w2.cell? ⟨w.heap.size, 3, none⟩ = some (.slice O k cap) := hbx2.cell 3
  have HBX2 := Lib.hid hbx2; have HP2 := Lib.hid hp2; have HV2 := Lib.hid hv2; have HGR2 := Lib.hid hgr2
  clear hbx2 hp2 hv2 hgr2
  by_cases hQ0 : Q = 0
  case neg =>
    have hQn : (Q != 0) = true := by simpa using hQ0
    have HX := Lib.hid (show bE c i a os ≠ 0 from by rw [hQ]; exact hQ0)
    clear hQ hQ0
    go_wp2_with fail
    go_ret2
    exact TkB.nil (by unfold tkL; rw [if_neg HX.out]) (by unfold tkE; rw [if_neg HX.out]) (by unfold tkS; rw [if_neg HX.out]) HP2.out HGR2.out
  subst hQ0
  have hcc := bE_code hQ
  have HX := Lib.hid hQ; clear hQ
  have HE := Lib.hid (show tkE c i a os = 0 from by unfold tkE; rw [if_pos HX.out])
  cases hr : reqB c
  case true =>
    go_wp2_with (first | (go_at_call 32; refine (req_any _ _).mono ?_; rintro e w' ⟨rfl, rfl⟩))
    refine (trequest_any X g s c i a O k cap os yes _ HP2.out hX (by omega) HV2.out).mono ?_
    rintro e w3 ⟨b, R, n, rc, rfl, hone, ht3, hg3⟩
    have HO := Lib.hid hone; have HT := Lib.hid ht3; have HG := Lib.hid hg3; clear hone ht3 hg3
    go_wp2_with fail
    go_ret2
    refine ⟨.slice (some ⟨b, 0, none⟩) 1 1, by rw [HE.out]; rfl, ?_, gr_trans HGR2.out HG.out⟩
    have e1 : tkL s c i a os yes = [(c + 1, i, tReqA s c yes, os)] := by unfold tkL; rw [if_pos HX.out, hr]; rfl
    have e2 : tkS s c i a os = tReqS s c := by unfold tkS; rw [if_pos HX.out, hr]; rfl
    rw [e1, e2]
    exact .inr ⟨_, _, _, _, b, R, n, rc, rfl, rfl, HO.out.mono (by omega), HT.out⟩
  by_cases h7 : c = 7
  · subst h7
    go_wp2_with (first | (go_at_call 32; refine (req_any _ _).mono ?_; rintro e w' ⟨rfl, rfl⟩))
    go_ret2
    refine ⟨.slice (some ⟨w2.heap.size, 0, none⟩) 1 1, by rw [HE.out]; rfl, ?_, gr_alloc HGR2.out _⟩
    have e1 : tkL s 7 i a os yes = [(8, i, 0, [])] := by unfold tkL; rw [if_pos HX.out, hr]; rfl
    have e2 : tkS s 7 i a os = s := by unfold tkS; rw [if_pos HX.out, hr]; rfl
    rw [e1, e2]
    refine .inr ⟨8, i, 0, [], w2.heap.size, none, 0, 0, rfl, rfl, ⟨by omega, Blk.new w2 _ _, MadeO.nil _ _, fun r hr => by cases hr⟩, ?_⟩
    refine TAt.ownR (w := w) ?_ (by omega) (rn := 0) (rc := 0) (rl := []) (MadeO.nil _ _)
    exact ((HP.out.up).keep (hbel2.mono (Nat.le_refl _))).alloc _
  have e7 : (c == 7) = false := by simpa using h7
  obtain ⟨A, n, ca, B, m, cb, h, h1, h2⟩ := HP2.out
  have c0 : w2.cell? ⟨g, 0, none⟩ = some (.int .i64 s.ac) := h.cell 0
  have c1 : w2.cell? ⟨g, 1, none⟩ = some (.int .i64 s.ai) := h.cell 1
  have c4 : w2.cell? ⟨g, 4, none⟩ = some (.int .i64 s.left) := h.cell 4
  have fg := h.frozen
  have HH := Lib.hid h; have H1 := Lib.hid h1; have H2 := Lib.hid h2
  clear h h1 h2
  have e1 : tkL s c i a os yes = [] := by unfold tkL; rw [if_pos HX.out, hr, if_neg h7]; rfl
  have E1 := Lib.hid e1; clear e1
  cases hend : endB s c i
  case false =>
    have e2 : tkS s c i a os = s := by unfold tkS; rw [if_pos HX.out, hr, if_neg h7, hend]; rfl
    have E2 := Lib.hid e2; clear e2
    have hc3 : decide (0 < s.left) = false ∨ (0 < s.left ∧ (c == s.ac + 1) = false) ∨ (0 < s.left ∧ (c == s.ac + 1) = true ∧ (i == s.ai) = false) := by
      unfold endB at hend
      by_cases q1 : 0 < s.left
      · by_cases q2 : c = s.ac + 1
        · right; right; refine ⟨q1, by simp [q2], ?_⟩
          simp [q1, q2] at hend; simp [hend]
        · right; left; exact ⟨q1, by simp [q2]⟩
      · left; exact decide_eq_false q1
    clear hend
    rcases hc3 with q1 | ⟨q1, q2⟩ | ⟨q1, q2, q3⟩
    all_goals
      go_wp2_with (first | (go_at_call 32; refine (req_any _ _).mono ?_; rintro e w' ⟨rfl, rfl⟩))
      go_quiet (fail)
      go_wp2_with fail
      go_ret2
      exact TkB.nil E1.out (by unfold tkE; rw [if_pos HX.out]) E2.out (HP2.out.drewN _) (gr_drewN HGR2.out _)
  case true =>
    have e2 : tkS s c i a os = { s with left := 0, lc := c, li := i, la := a, ll := os } := by unfold tkS; rw [if_pos HX.out, hr, if_neg h7, hend]; rfl
    have E2 := Lib.hid e2; clear e2
    obtain ⟨q1, q2, q3⟩ : 0 < s.left ∧ (c == s.ac + 1) = true ∧ (i == s.ai) = true := by
      unfold endB at hend; simp at hend; simp; omega
    clear hend
    go_wp2_with (first | (go_at_call 32; refine (req_any _ _).mono ?_; rintro e w' ⟨rfl, rfl⟩))
    go_quiet (fail)
    go_wp2_with fail
    refine (clone_any c i a O k cap os _ (HV2.out.drewN _).1 hk HV2.out.2.2.1).mono ?_
    rintro e w3 ⟨R, rc, rfl, hm, hb3⟩
    have hz4 := hb3.size
    have hg4 := (HH.out.drewN nq).keep hb3
    have hq1 := (H1.out.drewN nq).keep hb3
    have hgr3 := gr_below (gr_drewN HGR2.out nq) hb3
    have d4 : w3.cell? ⟨g, 4, none⟩ = some (.int .i64 s.left) := hg4.cell 4
    have d8 : w3.cell? ⟨g, 8, none⟩ = some (.int .i64 s.lc) := hg4.cell 8
    have d9 : w3.cell? ⟨g, 9, none⟩ = some (.int .i64 s.li) := hg4.cell 9
    have d10 : w3.cell? ⟨g, 10, none⟩ = some (.int .i64 s.la) := hg4.cell 10
    have d11 : w3.cell? ⟨g, 11, none⟩ = some (.slice B m cb) := hg4.cell 11
    have fg4 := hg4.frozen
    have HG4 := Lib.hid hg4; have HQ1 := Lib.hid hq1; have HGR3 := Lib.hid hgr3; have HM := Lib.hid hm
    clear hg4 hq1 hgr3 hm
    go_wp2_with fail
    go_ret2
    have hgd : g < (w2.drewN nq).heap.size := hg3
    have hm7 : MadeO (w2.drewN nq) (((((w3.setCell ⟨g, 4, none⟩ (.int .i64 0)).setCell ⟨g, 8, none⟩ (.int .i64 c)).setCell ⟨g, 9, none⟩ (.int .i64 i)).setCell ⟨g, 10, none⟩ (.int .i64 a)).setCell ⟨g, 11, none⟩ (.slice R k rc)) R k rc os := (by repeat' (first | (with_reducible exact HM.out) | (with_reducible refine MadeO.far ?_ (by first | omega | (simp; done) | (simp; omega)) _) | (with_reducible refine MadeO.alloc ?_ _) | (with_reducible refine MadeO.drew ?_) | (with_reducible refine MadeO.drewN ?_ _)))
    have hr7 : Lies (((((w3.setCell ⟨g, 4, none⟩ (.int .i64 0)).setCell ⟨g, 8, none⟩ (.int .i64 c)).setCell ⟨g, 9, none⟩ (.int .i64 i)).setCell ⟨g, 10, none⟩ (.int .i64 a)).setCell ⟨g, 11, none⟩ (.slice R k rc)) X R k rc os := hm7.lies (fun b hb => Nat.lt_of_lt_of_le (hXl b hb) (by show w.heap.size ≤ w2.heap.size; omega))
    have ha7 : Lies (((((w3.setCell ⟨g, 4, none⟩ (.int .i64 0)).setCell ⟨g, 8, none⟩ (.int .i64 c)).setCell ⟨g, 9, none⟩ (.int .i64 i)).setCell ⟨g, 10, none⟩ (.int .i64 a)).setCell ⟨g, 11, none⟩ (.slice R k rc)) X A n ca s.al := ((((HQ1.out.far hX _).far hX _).far hX _).far hX _).far hX _
    have hb7 : Blk (((((w3.setCell ⟨g, 4, none⟩ (.int .i64 0)).setCell ⟨g, 8, none⟩ (.int .i64 c)).setCell ⟨g, 9, none⟩ (.int .i64 i)).setCell ⟨g, 10, none⟩ (.int .i64 a)).setCell ⟨g, 11, none⟩ (.slice R k rc)) g 73 (tsC { s with left := 0, lc := c, li := i, la := a, ll := os } A n ca R k rc) := by
      have h := Blk.set_ (Blk.set_ (Blk.set_ (Blk.set_ (Blk.set_ HG4.out 4 (.int .i64 0)) 8 (.int .i64 c)) 9 (.int .i64 i)) 10 (.int .i64 a)) 11 (.slice R k rc)
      rw [tsClast s A n ca B m cb c i a R k rc os] at h
      exact h
    exact TkB.nil E1.out HE.out E2.out ⟨A, n, ca, R, k, rc, hb7, ha7, hr7⟩ (by repeat' (first | (with_reducible exact HGR3.out) | (with_reducible exact gr_refl _ _) | (with_reducible refine gr_set ?_ (by first | (left; rfl) | (right; simp; done) | (right; simp; omega) | (left; omega)) _) | (with_reducible refine gr_alloc ?_ _) | (with_reducible refine gr_drew ?_) | (with_reducible refine gr_drewN ?_ _)))
end Go.Proofs.Ytckbbfdllflmjaa
