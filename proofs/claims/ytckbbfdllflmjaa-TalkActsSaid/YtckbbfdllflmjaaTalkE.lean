/- The contract of package bap's request. No condition but memory's own limits. -/
import Derived.Test.YtckbbfdllflmjaaTalkD
namespace Go.Proofs.Ytckbbfdllflmjaa
open Go.RowKit
set_option linter.unusedVariables false
set_option linter.unusedSimpArgs false
attribute [local go_sem] conv1 conv1d conv1n conv1a conv1ad conv1an conv2 conv2d conv2n conv2a conv2ad conv2an conv4 conv4d conv4n conv4a conv4ad conv4an conv5 conv5d conv5n conv5a conv5ad conv5an size_nums byt_fold
def ansI (yes : Bool) : Int := if yes then 0 else 1
def crs (s : TS) (c : Int) : Bool := decide (0 < s.left) && reqB s.ac
def tReqA (s : TS) (c : Int) (yes : Bool) : Int := if crs s c && crossB s.fav s.ac c then 1 else ansI yes
def tReqS (s : TS) (c : Int) : TS := if crs s c && !crossB s.fav s.ac c then { s with left := 0 } else s
/-- Blocks of a list of one datagram, and of its options. -/
def OwnR (X : Nat → Prop) (b : Nat) (R : Option Addr) : Nat → Prop := fun x => X x ∨ x = b ∨ ∃ r, R = some r ∧ r.block = x
theorem TAt.ownR {w w' : World} {X : Nat → Prop} {g b rn rc : Nat} {s : TS} {R : Option Addr} {rl : List (Int × ByteArray)} (h : TAt w' (UpX X w.heap.size) g s) (hb : w.heap.size ≤ b) (hm : MadeO w w' R rn rc rl) : TAt w' (OwnR X b R) g s := h.mono fun x _ hx => by
  rcases hx with hx | rfl | ⟨r, hr, e⟩
  · exact .inl hx
  · exact .inr hb
  · have := (hm.new r hr).1; right; omega
def One (w w' : World) (b : Nat) (c i a : Int) (R : Option Addr) (n rc : Nat) (os : List (Int × ByteArray)) : Prop := w.heap.size ≤ b ∧ Blk w' b 34 #[.int .i64 c, .int .i64 i, .int .i64 a, .slice R n rc] ∧ MadeO w w' R n rc os ∧ ∀ r, R = some r → r.block ≠ b
def ReqB (s : TS) (c i : Int) (os : List (Int × ByteArray)) (yes : Bool) (X : Nat → Prop) (g : Nat) (w : World) (e : Ending) (w' : World) : Prop :=
  ∃ b R n rc, e = .returned (.slice (some ⟨b, 0, none⟩) 1 1) ∧ One w w' b (c + 1) i (tReqA s c yes) R n rc os ∧ TAt w' (OwnR X b R) g (tReqS s c) ∧ w.grownBy w' (some g)
set_option maxRecDepth 100000 in
set_option maxHeartbeats 4000000 in
theorem trequest_any (X : Nat → Prop) (g : Nat) (s : TS) (c i a : Int) (O : Option Addr) (k cap : Nat) (os : List (Int × ByteArray)) (yes : Bool) (w : World) (hp : TAt w X g s) (hX : X g) (hc : 0 ≤ c ∧ c ≤ 8) (hv : Lies w X O k cap os) :
    Calls Try.prog 37 #[.pointer (some ⟨g, 0, none⟩), .agg #[.int .i64 c, .int .i64 i, .int .i64 a, .slice O k cap], .bool yes] w (ReqB s c i os yes X g w) := by
  have hY : UpX X w.heap.size g := .inl hX
  obtain ⟨A, n, ca, B, m, cb, h, h1, h2⟩ := hp.up
  have c0 : w.cell? ⟨g, 0, none⟩ = some (.int .i64 s.ac) := h.cell 0
  have c4 : w.cell? ⟨g, 4, none⟩ = some (.int .i64 s.left) := h.cell 4
  have c5 : w.cell? ⟨g, 5, none⟩ = some (.bool s.fav) := h.cell 5
  have hlt := h.lt
  have hfr := h.frozen
  have hgw : g ≠ w.heap.size := by omega
  have hk := hv.2.1
  have HH := Lib.hid h; have H1 := Lib.hid h1; have H2 := Lib.hid h2; have HV := Lib.hid hv
  clear h h1 h2 hv
  have hw : IntKind.i64.wrap (c + 1) = c + 1 := IntWalk.i64_in _ (by omega)
  have hbx := Blk.new w 34 #[.int .i64 c, .int .i64 i, .int .i64 a, .slice O k cap]
  have HBX := Lib.hid hbx; clear hbx
  have hcase : (crs s c = true ∧ crossB s.fav s.ac c = true) ∨ (crs s c = true ∧ crossB s.fav s.ac c = false) ∨ crs s c = false := by
    cases crs s c <;> cases crossB s.fav s.ac c <;> simp
  cases hy : yes
  all_goals subst hy
  all_goals rcases hcase with ⟨hx, hcr⟩ | ⟨hx, hcr⟩ | hx
  · have hx2 : 0 < s.left ∧ reqB s.ac = true := by unfold crs at hx; simpa using hx
    obtain ⟨hl, hr⟩ := hx2
    go_enter Try.func37, Try.ntmps37
    go_wp2_with (first | (go_at_call 32; refine (req_any _ _).mono ?_; rintro e w' ⟨rfl, rfl⟩))
    go_quiet ((go_at_call 44; exact Calls.quiet_of_same ((cross_any _ _ _ _).mono (fun e w' h => ⟨h.1.trans (by rw [hcr]), h.2.symm⟩))))
    go_wp2_with (first | (go_at_call 32; refine (req_any _ _).mono ?_; rintro e w' ⟨rfl, rfl⟩))
    have hts : tReqS s c = s := by unfold tReqS; rw [hx, hcr]; rfl
    have hS : TAt ((w.alloc (.cells #[.int .i64 c, .int .i64 i, .int .i64 a, .slice O k cap] 34)).drewN nq) (UpX X w.heap.size) g (tReqS s c) := by rw [hts]; exact TAt.drewN (TAt.alloc ⟨A, n, ca, B, m, cb, HH.out, H1.out, H2.out⟩ _) _
    have hbx : Blk ((w.alloc (.cells #[.int .i64 c, .int .i64 i, .int .i64 a, .slice O k cap] 34)).drewN nq) w.heap.size 34 #[.int .i64 c, .int .i64 i, .int .i64 a, .slice O k cap] := HBX.out.drewN _
    have hgr : w.grownBy ((w.alloc (.cells #[.int .i64 c, .int .i64 i, .int .i64 a, .slice O k cap] 34)).drewN nq) (some g) := gr_drewN (gr_alloc (gr_refl _ _) _) _
    have hvA : Lies ((w.alloc (.cells #[.int .i64 c, .int .i64 i, .int .i64 a, .slice O k cap] 34)).drewN nq) X O k cap os := (HV.out.alloc _).drewN _
    generalize ((w.alloc (.cells #[.int .i64 c, .int .i64 i, .int .i64 a, .slice O k cap] 34)).drewN nq) = WA at hS hbx hgr hvA ⊢
    have hzA : w.heap.size < WA.heap.size := hbx.lt
    have b0 : WA.cell? ⟨w.heap.size, 0, none⟩ = some (.int .i64 c) := hbx.cell 0
    have b1 : WA.cell? ⟨w.heap.size, 1, none⟩ = some (.int .i64 i) := hbx.cell 1
    have b3 : WA.cell? ⟨w.heap.size, 3, none⟩ = some (.slice O k cap) := hbx.cell 3
    have HS := Lib.hid hS; have HGR := Lib.hid hgr; have HVA := Lib.hid hvA; have HZ := Lib.hid (show tReqA s c false = 1 from by unfold tReqA; rw [hx, hcr]; rfl)
    clear hS hbx hgr hvA c0 c4 c5 hfr
    go_region_held3 (fun W => Below WA.heap.size WA W ∧ W.cell? ⟨w.heap.size, 0, none⟩ = some (.int .i64 c) ∧ W.cell? ⟨w.heap.size, 1, none⟩ = some (.int .i64 i) ∧ W.cell? ⟨w.heap.size, 3, none⟩ = some (.slice O k cap))
      (first | exact ⟨(Below.refl _ _).drew, b0, b1, b3⟩ | (have hB := below_call ((Below.refl _ WA).drew) hbu (Nat.le_refl _); exact ⟨hB, (hB.cell hzA).trans b0, (hB.cell hzA).trans b1, (hB.cell hzA).trans b3⟩) | (have hA := below_call ((Below.refl _ WA).drew) hbu (Nat.le_refl _); have hB := hA.alloc hA.size (.cells #[.int .i64 (c + 1), .int .i64 i, .int .i64 1, .slice R k rc] 34); exact ⟨hB, (hB.cell hzA).trans b0, (hB.cell hzA).trans b1, (hB.cell hzA).trans b3⟩))
      (first | (go_at_call 30; refine (sclone_any O k cap os _ HVA.out.drew.1 hk HVA.out.2.2.1).mono ?_; rintro e u ⟨R, rc, rfl, hmade, hbu⟩))
    have hA := below_call ((Below.refl _ WA).drew) hbu (Nat.le_refl _)
    have hsu := hA.size
    go_wp2_with fail
    go_ret
    rename_i hHeld
    refine ⟨u.heap.size, R, k, rc, rfl, ⟨by omega, ?_, (hmade.mono (by show w.heap.size ≤ WA.heap.size; omega)).alloc _, fun r hr => by have := (hmade.new r hr).2; omega⟩, TAt.ownR ((HS.out.keep hA).alloc _) (by omega) ((hmade.mono (by show w.heap.size ≤ WA.heap.size; omega)).alloc _), gr_alloc (gr_below HGR.out hA) _⟩
    rw [HZ.out]
    exact Blk.new u _ _
  · have hx2 : 0 < s.left ∧ reqB s.ac = true := by unfold crs at hx; simpa using hx
    obtain ⟨hl, hr⟩ := hx2
    go_enter Try.func37, Try.ntmps37
    go_wp2_with (first | (go_at_call 32; refine (req_any _ _).mono ?_; rintro e w' ⟨rfl, rfl⟩))
    go_quiet ((go_at_call 44; exact Calls.quiet_of_same ((cross_any _ _ _ _).mono (fun e w' h => ⟨h.1.trans (by rw [hcr]), h.2.symm⟩))))
    go_wp2_with (first | (go_at_call 32; refine (req_any _ _).mono ?_; rintro e w' ⟨rfl, rfl⟩))
    have hts : tReqS s c = { s with left := 0 } := by unfold tReqS; rw [hx, hcr]; rfl
    have hS : TAt (((w.alloc (.cells #[.int .i64 c, .int .i64 i, .int .i64 a, .slice O k cap] 34)).drewN nq).setCell ⟨g, 4, none⟩ (.int .i64 0)) (UpX X w.heap.size) g (tReqS s c) := by
      rw [hts]
      refine ⟨A, n, ca, B, m, cb, ?_, ((H1.out.alloc _).drewN _).far hY _, ((H2.out.alloc _).drewN _).far hY _⟩
      have h := Blk.set_ ((HH.out.alloc (.cells #[.int .i64 c, .int .i64 i, .int .i64 a, .slice O k cap] 34)).drewN nq) 4 (.int .i64 0)
      rw [tsC4] at h
      exact h
    have hbx : Blk (((w.alloc (.cells #[.int .i64 c, .int .i64 i, .int .i64 a, .slice O k cap] 34)).drewN nq).setCell ⟨g, 4, none⟩ (.int .i64 0)) w.heap.size 34 #[.int .i64 c, .int .i64 i, .int .i64 a, .slice O k cap] := (by repeat' (first | (with_reducible exact HBX.out) | (with_reducible refine Blk.far ?_ (by first | omega | (simp; done) | (simp; omega)) _) | (with_reducible refine Blk.alloc ?_ _) | (with_reducible refine Blk.drew ?_) | (with_reducible refine Blk.drewN ?_ _)))
    have hgr : w.grownBy (((w.alloc (.cells #[.int .i64 c, .int .i64 i, .int .i64 a, .slice O k cap] 34)).drewN nq).setCell ⟨g, 4, none⟩ (.int .i64 0)) (some g) := (by repeat' (first | (with_reducible exact gr_refl w g) | (with_reducible exact gr_refl _ _) | (with_reducible refine gr_set ?_ (by first | (left; rfl) | (right; simp; done) | (right; simp; omega) | (left; omega)) _) | (with_reducible refine gr_alloc ?_ _) | (with_reducible refine gr_drew ?_) | (with_reducible refine gr_drewN ?_ _)))
    have hvA : Lies (((w.alloc (.cells #[.int .i64 c, .int .i64 i, .int .i64 a, .slice O k cap] 34)).drewN nq).setCell ⟨g, 4, none⟩ (.int .i64 0)) X O k cap os := ((HV.out.alloc _).drewN _).far hX _
    generalize (((w.alloc (.cells #[.int .i64 c, .int .i64 i, .int .i64 a, .slice O k cap] 34)).drewN nq).setCell ⟨g, 4, none⟩ (.int .i64 0)) = WA at hS hbx hgr hvA ⊢
    have hzA : w.heap.size < WA.heap.size := hbx.lt
    have b0 : WA.cell? ⟨w.heap.size, 0, none⟩ = some (.int .i64 c) := hbx.cell 0
    have b1 : WA.cell? ⟨w.heap.size, 1, none⟩ = some (.int .i64 i) := hbx.cell 1
    have b3 : WA.cell? ⟨w.heap.size, 3, none⟩ = some (.slice O k cap) := hbx.cell 3
    have HS := Lib.hid hS; have HGR := Lib.hid hgr; have HVA := Lib.hid hvA; have HZ := Lib.hid (show tReqA s c false = 1 from by unfold tReqA ansI; rw [hx, hcr]; rfl)
    clear hS hbx hgr hvA c0 c4 c5 hfr
    go_region_held3 (fun W => Below WA.heap.size WA W ∧ W.cell? ⟨w.heap.size, 0, none⟩ = some (.int .i64 c) ∧ W.cell? ⟨w.heap.size, 1, none⟩ = some (.int .i64 i) ∧ W.cell? ⟨w.heap.size, 3, none⟩ = some (.slice O k cap))
      (first | exact ⟨(Below.refl _ _).drew, b0, b1, b3⟩ | (have hB := below_call ((Below.refl _ WA).drew) hbu (Nat.le_refl _); exact ⟨hB, (hB.cell hzA).trans b0, (hB.cell hzA).trans b1, (hB.cell hzA).trans b3⟩) | (have hA := below_call ((Below.refl _ WA).drew) hbu (Nat.le_refl _); have hB := hA.alloc hA.size (.cells #[.int .i64 (c + 1), .int .i64 i, .int .i64 1, .slice R k rc] 34); exact ⟨hB, (hB.cell hzA).trans b0, (hB.cell hzA).trans b1, (hB.cell hzA).trans b3⟩))
      (first | (go_at_call 30; refine (sclone_any O k cap os _ HVA.out.drew.1 hk HVA.out.2.2.1).mono ?_; rintro e u ⟨R, rc, rfl, hmade, hbu⟩))
    have hA := below_call ((Below.refl _ WA).drew) hbu (Nat.le_refl _)
    have hsu := hA.size
    go_wp2_with fail
    go_ret
    rename_i hHeld
    refine ⟨u.heap.size, R, k, rc, rfl, ⟨by omega, ?_, (hmade.mono (by show w.heap.size ≤ WA.heap.size; omega)).alloc _, fun r hr => by have := (hmade.new r hr).2; omega⟩, TAt.ownR ((HS.out.keep hA).alloc _) (by omega) ((hmade.mono (by show w.heap.size ≤ WA.heap.size; omega)).alloc _), gr_alloc (gr_below HGR.out hA) _⟩
    rw [HZ.out]
    exact Blk.new u _ _
  · have hx2 : ¬ 0 < s.left ∨ (0 < s.left ∧ reqB s.ac = false) := by unfold crs at hx; by_cases hl : 0 < s.left <;> simp_all
    have hts : tReqS s c = s := by unfold tReqS; rw [hx]; rfl
    rcases hx2 with hl | ⟨hl, hr⟩
    all_goals
      go_enter Try.func37, Try.ntmps37
      go_wp2_with (first | (go_at_call 32; refine (req_any _ _).mono ?_; rintro e w' ⟨rfl, rfl⟩))
      have hS : TAt (w.alloc (.cells #[.int .i64 c, .int .i64 i, .int .i64 a, .slice O k cap] 34)) (UpX X w.heap.size) g (tReqS s c) := by rw [hts]; exact TAt.alloc ⟨A, n, ca, B, m, cb, HH.out, H1.out, H2.out⟩ _
      have hbx : Blk (w.alloc (.cells #[.int .i64 c, .int .i64 i, .int .i64 a, .slice O k cap] 34)) w.heap.size 34 #[.int .i64 c, .int .i64 i, .int .i64 a, .slice O k cap] := HBX.out
      have hgr : w.grownBy (w.alloc (.cells #[.int .i64 c, .int .i64 i, .int .i64 a, .slice O k cap] 34)) (some g) := gr_alloc (gr_refl _ _) _
      have hvA : Lies (w.alloc (.cells #[.int .i64 c, .int .i64 i, .int .i64 a, .slice O k cap] 34)) X O k cap os := HV.out.alloc _
      generalize (w.alloc (.cells #[.int .i64 c, .int .i64 i, .int .i64 a, .slice O k cap] 34)) = WA at hS hbx hgr hvA ⊢
      have hzA : w.heap.size < WA.heap.size := hbx.lt
      have b0 : WA.cell? ⟨w.heap.size, 0, none⟩ = some (.int .i64 c) := hbx.cell 0
      have b1 : WA.cell? ⟨w.heap.size, 1, none⟩ = some (.int .i64 i) := hbx.cell 1
      have b3 : WA.cell? ⟨w.heap.size, 3, none⟩ = some (.slice O k cap) := hbx.cell 3
      have HS := Lib.hid hS; have HGR := Lib.hid hgr; have HVA := Lib.hid hvA; have HZ := Lib.hid (show tReqA s c false = 1 from by unfold tReqA ansI; rw [hx]; rfl)
      clear hS hbx hgr hvA c0 c4 c5 hfr
      go_region_held3 (fun W => Below WA.heap.size WA W ∧ W.cell? ⟨w.heap.size, 0, none⟩ = some (.int .i64 c) ∧ W.cell? ⟨w.heap.size, 1, none⟩ = some (.int .i64 i) ∧ W.cell? ⟨w.heap.size, 3, none⟩ = some (.slice O k cap))
        (first | exact ⟨(Below.refl _ _).drew, b0, b1, b3⟩ | (have hB := below_call ((Below.refl _ WA).drew) hbu (Nat.le_refl _); exact ⟨hB, (hB.cell hzA).trans b0, (hB.cell hzA).trans b1, (hB.cell hzA).trans b3⟩) | (have hA := below_call ((Below.refl _ WA).drew) hbu (Nat.le_refl _); have hB := hA.alloc hA.size (.cells #[.int .i64 (c + 1), .int .i64 i, .int .i64 1, .slice R k rc] 34); exact ⟨hB, (hB.cell hzA).trans b0, (hB.cell hzA).trans b1, (hB.cell hzA).trans b3⟩))
        (first | (go_at_call 30; refine (sclone_any O k cap os _ HVA.out.drew.1 hk HVA.out.2.2.1).mono ?_; rintro e u ⟨R, rc, rfl, hmade, hbu⟩))
      have hA := below_call ((Below.refl _ WA).drew) hbu (Nat.le_refl _)
      have hsu := hA.size
      go_wp2_with fail
      go_ret
      rename_i hHeld
      refine ⟨u.heap.size, R, k, rc, rfl, ⟨by omega, ?_, (hmade.mono (by show w.heap.size ≤ WA.heap.size; omega)).alloc _, fun r hr => by have := (hmade.new r hr).2; omega⟩, TAt.ownR ((HS.out.keep hA).alloc _) (by omega) ((hmade.mono (by show w.heap.size ≤ WA.heap.size; omega)).alloc _), gr_alloc (gr_below HGR.out hA) _⟩
      rw [HZ.out]
      exact Blk.new u _ _
  · have hx2 : 0 < s.left ∧ reqB s.ac = true := by unfold crs at hx; simpa using hx
    obtain ⟨hl, hr⟩ := hx2
    go_enter Try.func37, Try.ntmps37
    go_wp2_with (first | (go_at_call 32; refine (req_any _ _).mono ?_; rintro e w' ⟨rfl, rfl⟩))
    go_quiet ((go_at_call 44; exact Calls.quiet_of_same ((cross_any _ _ _ _).mono (fun e w' h => ⟨h.1.trans (by rw [hcr]), h.2.symm⟩))))
    go_wp2_with (first | (go_at_call 32; refine (req_any _ _).mono ?_; rintro e w' ⟨rfl, rfl⟩))
    have hts : tReqS s c = s := by unfold tReqS; rw [hx, hcr]; rfl
    have hS : TAt ((w.alloc (.cells #[.int .i64 c, .int .i64 i, .int .i64 a, .slice O k cap] 34)).drewN nq) (UpX X w.heap.size) g (tReqS s c) := by rw [hts]; exact TAt.drewN (TAt.alloc ⟨A, n, ca, B, m, cb, HH.out, H1.out, H2.out⟩ _) _
    have hbx : Blk ((w.alloc (.cells #[.int .i64 c, .int .i64 i, .int .i64 a, .slice O k cap] 34)).drewN nq) w.heap.size 34 #[.int .i64 c, .int .i64 i, .int .i64 a, .slice O k cap] := HBX.out.drewN _
    have hgr : w.grownBy ((w.alloc (.cells #[.int .i64 c, .int .i64 i, .int .i64 a, .slice O k cap] 34)).drewN nq) (some g) := gr_drewN (gr_alloc (gr_refl _ _) _) _
    have hvA : Lies ((w.alloc (.cells #[.int .i64 c, .int .i64 i, .int .i64 a, .slice O k cap] 34)).drewN nq) X O k cap os := (HV.out.alloc _).drewN _
    generalize ((w.alloc (.cells #[.int .i64 c, .int .i64 i, .int .i64 a, .slice O k cap] 34)).drewN nq) = WA at hS hbx hgr hvA ⊢
    have hzA : w.heap.size < WA.heap.size := hbx.lt
    have b0 : WA.cell? ⟨w.heap.size, 0, none⟩ = some (.int .i64 c) := hbx.cell 0
    have b1 : WA.cell? ⟨w.heap.size, 1, none⟩ = some (.int .i64 i) := hbx.cell 1
    have b3 : WA.cell? ⟨w.heap.size, 3, none⟩ = some (.slice O k cap) := hbx.cell 3
    have HS := Lib.hid hS; have HGR := Lib.hid hgr; have HVA := Lib.hid hvA; have HZ := Lib.hid (show tReqA s c true = 1 from by unfold tReqA; rw [hx, hcr]; rfl)
    clear hS hbx hgr hvA c0 c4 c5 hfr
    go_region_held3 (fun W => Below WA.heap.size WA W ∧ W.cell? ⟨w.heap.size, 0, none⟩ = some (.int .i64 c) ∧ W.cell? ⟨w.heap.size, 1, none⟩ = some (.int .i64 i) ∧ W.cell? ⟨w.heap.size, 3, none⟩ = some (.slice O k cap))
      (first | exact ⟨(Below.refl _ _).drew, b0, b1, b3⟩ | (have hB := below_call ((Below.refl _ WA).drew) hbu (Nat.le_refl _); exact ⟨hB, (hB.cell hzA).trans b0, (hB.cell hzA).trans b1, (hB.cell hzA).trans b3⟩) | (have hA := below_call ((Below.refl _ WA).drew) hbu (Nat.le_refl _); have hB := hA.alloc hA.size (.cells #[.int .i64 (c + 1), .int .i64 i, .int .i64 1, .slice R k rc] 34); exact ⟨hB, (hB.cell hzA).trans b0, (hB.cell hzA).trans b1, (hB.cell hzA).trans b3⟩))
      (first | (go_at_call 30; refine (sclone_any O k cap os _ HVA.out.drew.1 hk HVA.out.2.2.1).mono ?_; rintro e u ⟨R, rc, rfl, hmade, hbu⟩))
    have hA := below_call ((Below.refl _ WA).drew) hbu (Nat.le_refl _)
    have hsu := hA.size
    go_wp2_with fail
    go_ret
    rename_i hHeld
    refine ⟨u.heap.size, R, k, rc, rfl, ⟨by omega, ?_, (hmade.mono (by show w.heap.size ≤ WA.heap.size; omega)).alloc _, fun r hr => by have := (hmade.new r hr).2; omega⟩, TAt.ownR ((HS.out.keep hA).alloc _) (by omega) ((hmade.mono (by show w.heap.size ≤ WA.heap.size; omega)).alloc _), gr_alloc (gr_below HGR.out hA) _⟩
    rw [HZ.out]
    exact Blk.new u _ _
  · have hx2 : 0 < s.left ∧ reqB s.ac = true := by unfold crs at hx; simpa using hx
    obtain ⟨hl, hr⟩ := hx2
    go_enter Try.func37, Try.ntmps37
    go_wp2_with (first | (go_at_call 32; refine (req_any _ _).mono ?_; rintro e w' ⟨rfl, rfl⟩))
    go_quiet ((go_at_call 44; exact Calls.quiet_of_same ((cross_any _ _ _ _).mono (fun e w' h => ⟨h.1.trans (by rw [hcr]), h.2.symm⟩))))
    go_wp2_with (first | (go_at_call 32; refine (req_any _ _).mono ?_; rintro e w' ⟨rfl, rfl⟩))
    have hts : tReqS s c = { s with left := 0 } := by unfold tReqS; rw [hx, hcr]; rfl
    have hS : TAt (((w.alloc (.cells #[.int .i64 c, .int .i64 i, .int .i64 a, .slice O k cap] 34)).drewN nq).setCell ⟨g, 4, none⟩ (.int .i64 0)) (UpX X w.heap.size) g (tReqS s c) := by
      rw [hts]
      refine ⟨A, n, ca, B, m, cb, ?_, ((H1.out.alloc _).drewN _).far hY _, ((H2.out.alloc _).drewN _).far hY _⟩
      have h := Blk.set_ ((HH.out.alloc (.cells #[.int .i64 c, .int .i64 i, .int .i64 a, .slice O k cap] 34)).drewN nq) 4 (.int .i64 0)
      rw [tsC4] at h
      exact h
    have hbx : Blk (((w.alloc (.cells #[.int .i64 c, .int .i64 i, .int .i64 a, .slice O k cap] 34)).drewN nq).setCell ⟨g, 4, none⟩ (.int .i64 0)) w.heap.size 34 #[.int .i64 c, .int .i64 i, .int .i64 a, .slice O k cap] := (by repeat' (first | (with_reducible exact HBX.out) | (with_reducible refine Blk.far ?_ (by first | omega | (simp; done) | (simp; omega)) _) | (with_reducible refine Blk.alloc ?_ _) | (with_reducible refine Blk.drew ?_) | (with_reducible refine Blk.drewN ?_ _)))
    have hgr : w.grownBy (((w.alloc (.cells #[.int .i64 c, .int .i64 i, .int .i64 a, .slice O k cap] 34)).drewN nq).setCell ⟨g, 4, none⟩ (.int .i64 0)) (some g) := (by repeat' (first | (with_reducible exact gr_refl w g) | (with_reducible exact gr_refl _ _) | (with_reducible refine gr_set ?_ (by first | (left; rfl) | (right; simp; done) | (right; simp; omega) | (left; omega)) _) | (with_reducible refine gr_alloc ?_ _) | (with_reducible refine gr_drew ?_) | (with_reducible refine gr_drewN ?_ _)))
    have hvA : Lies (((w.alloc (.cells #[.int .i64 c, .int .i64 i, .int .i64 a, .slice O k cap] 34)).drewN nq).setCell ⟨g, 4, none⟩ (.int .i64 0)) X O k cap os := ((HV.out.alloc _).drewN _).far hX _
    generalize (((w.alloc (.cells #[.int .i64 c, .int .i64 i, .int .i64 a, .slice O k cap] 34)).drewN nq).setCell ⟨g, 4, none⟩ (.int .i64 0)) = WA at hS hbx hgr hvA ⊢
    have hzA : w.heap.size < WA.heap.size := hbx.lt
    have b0 : WA.cell? ⟨w.heap.size, 0, none⟩ = some (.int .i64 c) := hbx.cell 0
    have b1 : WA.cell? ⟨w.heap.size, 1, none⟩ = some (.int .i64 i) := hbx.cell 1
    have b3 : WA.cell? ⟨w.heap.size, 3, none⟩ = some (.slice O k cap) := hbx.cell 3
    have HS := Lib.hid hS; have HGR := Lib.hid hgr; have HVA := Lib.hid hvA; have HZ := Lib.hid (show tReqA s c true = 0 from by unfold tReqA ansI; rw [hx, hcr]; rfl)
    clear hS hbx hgr hvA c0 c4 c5 hfr
    go_region_held3 (fun W => Below WA.heap.size WA W ∧ W.cell? ⟨w.heap.size, 0, none⟩ = some (.int .i64 c) ∧ W.cell? ⟨w.heap.size, 1, none⟩ = some (.int .i64 i) ∧ W.cell? ⟨w.heap.size, 3, none⟩ = some (.slice O k cap))
      (first | exact ⟨(Below.refl _ _).drew, b0, b1, b3⟩ | (have hB := below_call ((Below.refl _ WA).drew) hbu (Nat.le_refl _); exact ⟨hB, (hB.cell hzA).trans b0, (hB.cell hzA).trans b1, (hB.cell hzA).trans b3⟩) | (have hA := below_call ((Below.refl _ WA).drew) hbu (Nat.le_refl _); have hB := hA.alloc hA.size (.cells #[.int .i64 (c + 1), .int .i64 i, .int .i64 0, .slice R k rc] 34); exact ⟨hB, (hB.cell hzA).trans b0, (hB.cell hzA).trans b1, (hB.cell hzA).trans b3⟩))
      (first | (go_at_call 30; refine (sclone_any O k cap os _ HVA.out.drew.1 hk HVA.out.2.2.1).mono ?_; rintro e u ⟨R, rc, rfl, hmade, hbu⟩))
    have hA := below_call ((Below.refl _ WA).drew) hbu (Nat.le_refl _)
    have hsu := hA.size
    go_wp2_with fail
    go_ret
    rename_i hHeld
    refine ⟨u.heap.size, R, k, rc, rfl, ⟨by omega, ?_, (hmade.mono (by show w.heap.size ≤ WA.heap.size; omega)).alloc _, fun r hr => by have := (hmade.new r hr).2; omega⟩, TAt.ownR ((HS.out.keep hA).alloc _) (by omega) ((hmade.mono (by show w.heap.size ≤ WA.heap.size; omega)).alloc _), gr_alloc (gr_below HGR.out hA) _⟩
    rw [HZ.out]
    exact Blk.new u _ _
  · have hx2 : ¬ 0 < s.left ∨ (0 < s.left ∧ reqB s.ac = false) := by unfold crs at hx; by_cases hl : 0 < s.left <;> simp_all
    have hts : tReqS s c = s := by unfold tReqS; rw [hx]; rfl
    rcases hx2 with hl | ⟨hl, hr⟩
    all_goals
      go_enter Try.func37, Try.ntmps37
      go_wp2_with (first | (go_at_call 32; refine (req_any _ _).mono ?_; rintro e w' ⟨rfl, rfl⟩))
      have hS : TAt (w.alloc (.cells #[.int .i64 c, .int .i64 i, .int .i64 a, .slice O k cap] 34)) (UpX X w.heap.size) g (tReqS s c) := by rw [hts]; exact TAt.alloc ⟨A, n, ca, B, m, cb, HH.out, H1.out, H2.out⟩ _
      have hbx : Blk (w.alloc (.cells #[.int .i64 c, .int .i64 i, .int .i64 a, .slice O k cap] 34)) w.heap.size 34 #[.int .i64 c, .int .i64 i, .int .i64 a, .slice O k cap] := HBX.out
      have hgr : w.grownBy (w.alloc (.cells #[.int .i64 c, .int .i64 i, .int .i64 a, .slice O k cap] 34)) (some g) := gr_alloc (gr_refl _ _) _
      have hvA : Lies (w.alloc (.cells #[.int .i64 c, .int .i64 i, .int .i64 a, .slice O k cap] 34)) X O k cap os := HV.out.alloc _
      generalize (w.alloc (.cells #[.int .i64 c, .int .i64 i, .int .i64 a, .slice O k cap] 34)) = WA at hS hbx hgr hvA ⊢
      have hzA : w.heap.size < WA.heap.size := hbx.lt
      have b0 : WA.cell? ⟨w.heap.size, 0, none⟩ = some (.int .i64 c) := hbx.cell 0
      have b1 : WA.cell? ⟨w.heap.size, 1, none⟩ = some (.int .i64 i) := hbx.cell 1
      have b3 : WA.cell? ⟨w.heap.size, 3, none⟩ = some (.slice O k cap) := hbx.cell 3
      have HS := Lib.hid hS; have HGR := Lib.hid hgr; have HVA := Lib.hid hvA; have HZ := Lib.hid (show tReqA s c true = 0 from by unfold tReqA ansI; rw [hx]; rfl)
      clear hS hbx hgr hvA c0 c4 c5 hfr
      go_region_held3 (fun W => Below WA.heap.size WA W ∧ W.cell? ⟨w.heap.size, 0, none⟩ = some (.int .i64 c) ∧ W.cell? ⟨w.heap.size, 1, none⟩ = some (.int .i64 i) ∧ W.cell? ⟨w.heap.size, 3, none⟩ = some (.slice O k cap))
        (first | exact ⟨(Below.refl _ _).drew, b0, b1, b3⟩ | (have hB := below_call ((Below.refl _ WA).drew) hbu (Nat.le_refl _); exact ⟨hB, (hB.cell hzA).trans b0, (hB.cell hzA).trans b1, (hB.cell hzA).trans b3⟩) | (have hA := below_call ((Below.refl _ WA).drew) hbu (Nat.le_refl _); have hB := hA.alloc hA.size (.cells #[.int .i64 (c + 1), .int .i64 i, .int .i64 0, .slice R k rc] 34); exact ⟨hB, (hB.cell hzA).trans b0, (hB.cell hzA).trans b1, (hB.cell hzA).trans b3⟩))
        (first | (go_at_call 30; refine (sclone_any O k cap os _ HVA.out.drew.1 hk HVA.out.2.2.1).mono ?_; rintro e u ⟨R, rc, rfl, hmade, hbu⟩))
      have hA := below_call ((Below.refl _ WA).drew) hbu (Nat.le_refl _)
      have hsu := hA.size
      go_wp2_with fail
      go_ret
      rename_i hHeld
      refine ⟨u.heap.size, R, k, rc, rfl, ⟨by omega, ?_, (hmade.mono (by show w.heap.size ≤ WA.heap.size; omega)).alloc _, fun r hr => by have := (hmade.new r hr).2; omega⟩, TAt.ownR ((HS.out.keep hA).alloc _) (by omega) ((hmade.mono (by show w.heap.size ≤ WA.heap.size; omega)).alloc _), gr_alloc (gr_below HGR.out hA) _⟩
      rw [HZ.out]
      exact Blk.new u _ _
end Go.Proofs.Ytckbbfdllflmjaa
