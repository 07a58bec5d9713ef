/- The walk of the law ProofActs. No condition but sizes. -/
import Derived.Test.YtdfefpbpfneahaaPrfU
import Derived.Test.YtdfefpbpfneahaaActsOpen16
import Derived.Test.YtdfefpbpfneahaaQReg
namespace Go.Proofs.Ytdfefpbpfneahaa
open Go.RowKit
set_option linter.unusedVariables false
set_option linter.unusedSimpArgs false
attribute [local go_sem] conv1 conv1d conv1n conv1a conv1ad conv1an conv2 conv2d conv2n conv2a conv2ad conv2an conv4 conv4d conv4n conv4a conv4ad conv4an conv5 conv5d conv5n conv5a conv5ad conv5an size_nums byt_fold
def actC (k : Int) (s : ByteArray) (c i : Int) (v n : ByteArray) (r : Bool) : Array Value := #[.int .i64 k, .string s, .int .i64 c, .int .i64 i, .string v, .string n, .bool r]
theorem actC_cells {w : World} {b : Nat} {t : TypeId} {k c i : Int} {s v n : ByteArray} {r : Bool} (h : Blk w b t (actC k s c i v n r)) : w.cell? ⟨b, 0, none⟩ = some (.int .i64 k) ∧ w.cell? ⟨b, 1, none⟩ = some (.string s) ∧ w.cell? ⟨b, 2, none⟩ = some (.int .i64 c) ∧ w.cell? ⟨b, 3, none⟩ = some (.int .i64 i) ∧ w.cell? ⟨b, 4, none⟩ = some (.string v) ∧ w.cell? ⟨b, 5, none⟩ = some (.string n) ∧ w.cell? ⟨b, 6, none⟩ = some (.bool r) :=
  ⟨h.cell 0, h.cell 1, h.cell 2, h.cell 3, h.cell 4, h.cell 5, h.cell 6⟩
theorem Blk.new_at (w : World) (b : Nat) (hb : b = w.heap.size) (t : TypeId) (cs : Array Value) : Blk (w.alloc (.cells cs t)) b t cs := by subst hb; exact Blk.new w t cs
/-- What a round keeps. -/
def PaR (gp gr B : Nat) (ex : ByteArray) (w : World) (k : Nat) (s : PS) (wr : World) : Prop := PAt wr gp s ∧ RAt wr gr s ∧ Inv s ∧ Below B w wr
set_option maxRecDepth 100000 in
set_option maxHeartbeats 8000000 in
theorem acts_walk (nm se ex : ByteArray) (tries : Int) (A : Option Addr) (n cap : Nat) (rows : List (List Value)) (hnm : nm.size ≤ 140737488351232) (hse : se.size ≤ 140737488351232) (hex : ex.size ≤ 140737488351232) (htr : (Lit.int .i64 tries).wf = true) (hA : A = none → n = 0 ∧ cap = 0) (hnc : n ≤ cap) (hz : n * 80 ≤ 140737488351232 ∧ ∀ r ∈ rows, ActRow 140737488351232 r) (w : World) (hv : RowsAt w A n 7 rows) :
    Calls Try.prog 6 #[.string nm, .string se, .string ex, .int .i64 tries, .slice A n cap] w fun e w' => e = .returned (.bool true) ∧ Below w.heap.size w w' := by
  have HV := Lib.hid hv; clear hv
  cases hN : newB nm se ex tries
  case false =>
    have HN := Lib.hid hN; clear hN
    go_enter Try.func6, Try.ntmps6
    go_wp2_with (first | (go_at_call 12; refine (num_any _ _).mono ?_; rintro e w' ⟨rfl, rfl⟩) | (go_at_call 10; refine (pnew_bad _ _ _ _ _ HN.out).mono ?_; rintro e w' ⟨rfl, rfl⟩) | (go_at_call 19; refine (rnew_bad _ _ _ _ _ HN.out).mono ?_; rintro e w' ⟨rfl, rfl⟩))
    refine (awake_any _).mono ?_
    rintro e w0 ⟨rfl, hb0⟩
    go_wp2_with (first | (go_at_call 12; refine (num_any _ _).mono ?_; rintro e w' ⟨rfl, rfl⟩))
    go_ret
    exact ⟨rfl, hb0⟩
  have hexs : ex.size ≤ 64 := (inv_new _ _ _ _ hN).ex
  have HN := Lib.hid hN; clear hN
  go_enter Try.func6, Try.ntmps6
  go_wp2_with (first | (go_at_call 12; refine (num_any _ _).mono ?_; rintro e w' ⟨rfl, rfl⟩))
  refine (pnew_ok _ _ _ _ _ HN.out).mono ?_
  rintro e w1 ⟨rfl, hp1, hb1⟩
  have hz1 : w.heap.size < w1.heap.size := Blk.lt hp1
  have HP1 := Lib.hid hp1; clear hp1
  go_wp2_with (first | (go_at_call 12; refine (num_any _ _).mono ?_; rintro e w' ⟨rfl, rfl⟩))
  refine (rnew_ok _ _ _ _ _ HN.out).mono ?_
  rintro e w2 ⟨rfl, hr2, hb2⟩
  have hz2 : w1.heap.size < w2.heap.size := Blk.lt hr2
  have bel2 : Below w.heap.size w w2 := below_step hb1 hb2 (by omega)
  have hp2 : PAt w2 w.heap.size _ := Blk.keep HP1.out hb2
  have hpar : PaR w.heap.size w1.heap.size w.heap.size ex w 0 ⟨ex, ⟨#[]⟩, tries, false, false, nm, se, false, false⟩ w2 := ⟨hp2, hr2, inv_new _ _ _ _ HN.out, bel2⟩
  have HPAR := Lib.hid hpar; clear hp2 hr2 hpar
  go_wp2_with (first | (go_at_call 12; refine (num_any _ _).mono ?_; rintro e w' ⟨rfl, rfl⟩))
  go_loopw [15, 16] (fun chal i wr => ∃ (k : Nat) (s : PS), i = .int .i64 k ∧ k ≤ 60 ∧ chal = .string s.ch ∧ PaR w.heap.size w1.heap.size w.heap.size ex w k s wr) (fun _ i _ => 100 - (intOf i).toNat)
  case atStart => exact ⟨0, _, rfl, by omega, rfl, HPAR.out⟩
  case round =>
    obtain ⟨k, s, rfl, hk, rfl, hp, hr, hi, hbel⟩ := hrel
    have hgp := hp.lt; have hgr := hr.lt
    have HP := Lib.hid hp; have HR := Lib.hid hr; clear hp hr
    have hsz := hbel.size
    by_cases hlt : k < n ∧ k < 60
    case neg =>
      by_cases y1 : (k : Int) < (n : Int)
      · have y2 : ¬ (k : Int) < 60 := by omega
        go_wp2_with (first | (go_at_call 12; refine (num_any _ _).mono ?_; rintro e w' ⟨rfl, rfl⟩))
        refine (awake_any _).mono ?_
        rintro e w0 ⟨rfl, hb0⟩
        go_wp2_with (first | (go_at_call 12; refine (num_any _ _).mono ?_; rintro e w' ⟨rfl, rfl⟩))
        go_ret
        exact ⟨rfl, below_step hbel hb0 hsz⟩
      · go_wp2_with (first | (go_at_call 12; refine (num_any _ _).mono ?_; rintro e w' ⟨rfl, rfl⟩))
        refine (awake_any _).mono ?_
        rintro e w0 ⟨rfl, hb0⟩
        go_wp2_with (first | (go_at_call 12; refine (num_any _ _).mono ?_; rintro e w' ⟨rfl, rfl⟩))
        go_ret
        exact ⟨rfl, below_step hbel hb0 hsz⟩
    obtain ⟨hkn, hk60⟩ := hlt
    obtain ⟨b, off, r, rfl, hb, hr, hrm, hc⟩ := (HV.out.below hbel (Nat.le_refl _)).at_ k hkn
    obtain ⟨kd, S, c, i, v, m, rt, rfl, hS, hvz, hmz⟩ := hz.2 r hrm
    have y1 : (k : Int) < (n : Int) := by omega
    have y2 : (k : Int) < 60 := by omega
    have q0 := hc 0 _ rfl; have q1 := hc 1 _ rfl; have q2 := hc 2 _ rfl; have q3 := hc 3 _ rfl; have q4 := hc 4 _ rfl; have q5 := hc 5 _ rfl; have q6 := hc 6 _ rfl
    simp only [Nat.add_zero] at q0
    have ha := Blk.new wr 48 (actC kd S c i v m rt)
    have HA := Lib.hid ha
    clear hc hr hrm ha
    by_cases hk2 : kd < 2
    · go_wp2_with (first | (go_at_call 12; refine (num_any _ _).mono ?_; rintro e w' ⟨rfl, rfl⟩))
      obtain ⟨x, y, u, z, hV⟩ := stV_form s S
      obtain ⟨E, hE⟩ : ∃ E, pStE s S = E := ⟨_, rfl⟩
      refine (start_any w.heap.size s S _ (Blk.alloc HP.out _)).mono ?_
      rintro e wa ⟨rfl, hpa, hga⟩
      rw [hV, hE]
      unfold chV
      have hza := hga.size
      simp at hza
      have hra : RAt wa w1.heap.size s := Blk.grown (Blk.alloc HR.out _) hga (by simp; omega)
      have haa : Blk wa wr.heap.size 48 (actC kd S c i v m rt) := Blk.grown HA.out hga (by simp; omega)
      have bela : Below w.heap.size w wa := below_gr (hbel.alloc hsz _) hga (by simp; omega) (Nat.le_refl _)
      obtain ⟨a0, a1, -⟩ := actC_cells haa
      have hzz : wr.heap.size < wa.heap.size := by omega
      have HPA := Lib.hid hpa; have HRA := Lib.hid hra; have HAA := Lib.hid haa; clear hpa hra haa
      go_wp2_with (first | (go_at_call 12; refine (num_any _ _).mono ?_; rintro e w' ⟨rfl, rfl⟩))
      refine (rstart_any w1.heap.size s S _ (Blk.alloc HRA.out _) hi).mono ?_
      rintro e wb ⟨rfl, hrb, hgb⟩
      rw [hV, hE]
      unfold chV
      have hzb := hgb.size
      simp at hzb
      have hpb : PAt wb w.heap.size (pSt s S) := Blk.grown (Blk.alloc HPA.out _) hgb (by simp; omega)
      have hab : Blk wb wr.heap.size 48 (actC kd S c i v m rt) := Blk.grown (Blk.alloc HAA.out _) hgb (by simp; omega)
      have hcb : Blk wb wa.heap.size 33 (chC x y u z) := Blk.grown (Blk.new wa _ _) hgb (by simp; omega)
      have belb : Below w.heap.size w wb := below_gr (bela.alloc bela.size _) hgb (by simp; omega) (by omega)
      obtain ⟨b0, b1, -⟩ := actC_cells hab
      obtain ⟨d0, d1, d2, d3⟩ := chC_cells hcb
      have hy1 : wr.heap.size < wb.heap.size := by omega
      have hy2 : wa.heap.size < wb.heap.size := by omega
      have hy3 : w1.heap.size < wb.heap.size := by omega
      have hinv := inv_st hi S
      have hch := st_ch s S
      have HPB := Lib.hid hpb; have HRB := Lib.hid hrb; have HBB := Lib.hid belb; have HINV := Lib.hid hinv; have HCH := Lib.hid hch
      clear hpb hrb belb hinv hch hab hcb
      by_cases hE0 : E = 0
      · subst hE0
        have hcs : (pSt s S).ch = S := by rw [HCH.out, if_pos hE]
        go_wp2_with (first | (go_at_call 12; refine (num_any _ _).mono ?_; rintro e w' ⟨rfl, rfl⟩))
        obtain ⟨r0, r1, r2, -⟩ := RAt.cells (s := (pSt s S)) HRB.out
        go_quiet (first | (go_at_call 15; exact Calls.quiet_of_same ((proved_any _ (pSt s S) _ (Blk.drewN (Blk.alloc HPB.out _) _)).mono (fun e w' h => ⟨h.1, h.2.symm⟩))) | (go_at_call 16; exact Calls.quiet_of_same ((taken_any _ (pSt s S) _ (Blk.drewN (Blk.alloc HPB.out _) _)).mono (fun e w' h => ⟨h.1, h.2.symm⟩))) | (go_at_call 17; exact Calls.quiet_of_same ((failed_any _ (pSt s S) _ (Blk.drewN (Blk.alloc HPB.out _) _)).mono (fun e w' h => ⟨h.1, h.2.symm⟩))))
        go_wp2_with (first | (go_at_call 12; refine (num_any _ _).mono ?_; rintro e w' ⟨rfl, rfl⟩))
        go_roundw
        case rel => exact ⟨k + 1, (pSt s S), by go_num, by omega, by rw [hcs], Blk.drewN (Blk.alloc HPB.out _) _, Blk.drewN (Blk.alloc HRB.out _) _, HINV.out, below_drewN (HBB.out.alloc HBB.out.size _) _⟩
        case measure => simp [intOf]; omega
      · have hEn : (E == 0) = false := by simpa using hE0
        have hcs : (pSt s S).ch = s.ch := by rw [HCH.out, if_neg (by rw [hE]; exact hE0)]
        go_wp2_with (first | (go_at_call 12; refine (num_any _ _).mono ?_; rintro e w' ⟨rfl, rfl⟩))
        obtain ⟨r0, r1, r2, -⟩ := RAt.cells (s := (pSt s S)) HRB.out
        go_quiet (first | (go_at_call 15; exact Calls.quiet_of_same ((proved_any _ (pSt s S) _ (Blk.drewN (Blk.alloc HPB.out _) _)).mono (fun e w' h => ⟨h.1, h.2.symm⟩))) | (go_at_call 16; exact Calls.quiet_of_same ((taken_any _ (pSt s S) _ (Blk.drewN (Blk.alloc HPB.out _) _)).mono (fun e w' h => ⟨h.1, h.2.symm⟩))) | (go_at_call 17; exact Calls.quiet_of_same ((failed_any _ (pSt s S) _ (Blk.drewN (Blk.alloc HPB.out _) _)).mono (fun e w' h => ⟨h.1, h.2.symm⟩))))
        go_wp2_with (first | (go_at_call 12; refine (num_any _ _).mono ?_; rintro e w' ⟨rfl, rfl⟩))
        go_roundw
        case rel => exact ⟨k + 1, (pSt s S), by go_num, by omega, by rw [hcs], Blk.drewN (Blk.alloc HPB.out _) _, Blk.drewN (Blk.alloc HRB.out _) _, HINV.out, below_drewN (HBB.out.alloc HBB.out.size _) _⟩
        case measure => simp [intOf]; omega
    by_cases hk4 : kd < 4
    · go_wp2_with (first | (go_at_call 12; refine (num_any _ _).mono ?_; rintro e w' ⟨rfl, rfl⟩))
      obtain ⟨x, y, u, z, hV⟩ := agV_form s
      obtain ⟨E, hE⟩ : ∃ E, pAgE s = E := ⟨_, rfl⟩
      refine (again_any w.heap.size s _ (Blk.alloc HP.out _) hi.left).mono ?_
      rintro e wa ⟨rfl, hpa, hga⟩
      rw [hV, hE]
      unfold chV
      have hza := hga.size
      simp at hza
      have hra : RAt wa w1.heap.size s := Blk.grown (Blk.alloc HR.out _) hga (by simp; omega)
      have bela : Below w.heap.size w wa := below_gr (hbel.alloc hsz _) hga (by simp; omega) (Nat.le_refl _)
      have HPA := Lib.hid hpa; have HRA := Lib.hid hra; clear hpa hra
      go_wp2_with (first | (go_at_call 12; refine (num_any _ _).mono ?_; rintro e w' ⟨rfl, rfl⟩))
      refine (ragain_any w1.heap.size s _ (Blk.alloc HRA.out _) hi).mono ?_
      rintro e wb ⟨rfl, hrb, hgb⟩
      rw [hV, hE]
      unfold chV
      have hzb := hgb.size
      simp at hzb
      have hpb : PAt wb w.heap.size (pAg s) := Blk.grown (Blk.alloc HPA.out _) hgb (by simp; omega)
      have hcb : Blk wb wa.heap.size 33 (chC x y u z) := Blk.grown (Blk.new wa _ _) hgb (by simp; omega)
      have belb : Below w.heap.size w wb := below_gr (bela.alloc bela.size _) hgb (by simp; omega) (by omega)
      obtain ⟨d0, d1, d2, d3⟩ := chC_cells hcb
      have hy2 : wa.heap.size < wb.heap.size := by omega
      have hy3 : w1.heap.size < wb.heap.size := by omega
      have hinv := inv_ag hi
      have hcs := ag_ch s
      have HPB := Lib.hid hpb; have HRB := Lib.hid hrb; have HBB := Lib.hid belb; have HINV := Lib.hid hinv; have HCH := Lib.hid hcs
      clear hpb hrb belb hinv hcs hcb
      go_wp2_with (first | (go_at_call 12; refine (num_any _ _).mono ?_; rintro e w' ⟨rfl, rfl⟩))
      obtain ⟨r0, r1, r2, -⟩ := RAt.cells (s := (pAg s)) HRB.out
      go_quiet (first | (go_at_call 15; exact Calls.quiet_of_same ((proved_any _ (pAg s) _ (Blk.drewN (Blk.alloc HPB.out _) _)).mono (fun e w' h => ⟨h.1, h.2.symm⟩))) | (go_at_call 16; exact Calls.quiet_of_same ((taken_any _ (pAg s) _ (Blk.drewN (Blk.alloc HPB.out _) _)).mono (fun e w' h => ⟨h.1, h.2.symm⟩))) | (go_at_call 17; exact Calls.quiet_of_same ((failed_any _ (pAg s) _ (Blk.drewN (Blk.alloc HPB.out _) _)).mono (fun e w' h => ⟨h.1, h.2.symm⟩))))
      go_wp2_with (first | (go_at_call 12; refine (num_any _ _).mono ?_; rintro e w' ⟨rfl, rfl⟩))
      go_roundw
      case rel => exact ⟨k + 1, (pAg s), by go_num, by omega, by rw [HCH.out], Blk.drewN (Blk.alloc HPB.out _) _, Blk.drewN (Blk.alloc HRB.out _) _, HINV.out, below_drewN (HBB.out.alloc HBB.out.size _) _⟩
      case measure => simp [intOf]; omega
    obtain ⟨a0, a1, a2, a3, a4, a5, a6⟩ := actC_cells HA.out
    cases hrt : rt
    case false =>
      subst hrt
      have hpz : PAt ((wr.alloc (.cells (actC kd S c i v m false) 48)).alloc (.cells (chC c i v m) 33)) w.heap.size s := Blk.alloc (Blk.alloc HP.out _) _
      have hrz : RAt ((wr.alloc (.cells (actC kd S c i v m false) 48)).alloc (.cells (chC c i v m) 33)) w1.heap.size s := Blk.alloc (Blk.alloc HR.out _) _
      have hmz : Blk ((wr.alloc (.cells (actC kd S c i v m false) 48)).alloc (.cells (chC c i v m) 33)) (wr.heap.size + 1) 33 (chC c i v m) := Blk.new_at _ _ (by simp) _ _
      have hbz : Below w.heap.size w ((wr.alloc (.cells (actC kd S c i v m false) 48)).alloc (.cells (chC c i v m) 33)) := (hbel.alloc hsz _).alloc (by simp; omega) _
      have HPZ := Lib.hid hpz; have HRZ := Lib.hid hrz; have HMZ := Lib.hid hmz; have HBZ := Lib.hid hbz; clear hpz hrz hmz hbz
      go_wp2_with (first | (go_at_call 12; refine (num_any _ _).mono ?_; rintro e w' ⟨rfl, rfl⟩))
      obtain ⟨L, hL⟩ : ∃ L, tL s c i v m = L := ⟨_, rfl⟩
      obtain ⟨q, hq⟩ : ∃ q, L.length = q := ⟨_, rfl⟩
      have hq1 : q ≤ 1 := by rw [← hq, ← hL]; exact tL_len _ _ _ _ _
      obtain ⟨E, hE⟩ : ∃ E, tE c i v m = E := ⟨_, rfl⟩
      refine (take_any w.heap.size s c i v m _ HPZ.out hi.ex hi.ch hi.se).mono ?_
      rintro e wa ⟨⟨A1, cap1, rfl, hl1, hA1⟩, hpa, hga⟩
      rw [hL] at hl1 ⊢
      rw [hq] at hl1 ⊢
      rw [hE]
      have hza := hga.size
      simp at hza
      have hra : RAt wa w1.heap.size s := Blk.grown HRZ.out hga (by simp; omega)
      have hma : Blk wa (wr.heap.size + 1) 33 (chC c i v m) := Blk.grown HMZ.out hga (by simp; omega)
      have bela : Below w.heap.size w wa := below_gr HBZ.out hga (by first | omega | (simp; omega)) (Nat.le_refl _)
      obtain ⟨g0, g1, g2, g3⟩ := chC_cells hma
      have hyy : wr.heap.size + 1 < wa.heap.size := by omega
      have HPA := Lib.hid hpa; have HRA := Lib.hid hra; have HLA := Lib.hid hl1; clear hpa hra hma hl1
      go_wp2_with (first | (go_at_call 12; refine (num_any _ _).mono ?_; rintro e w' ⟨rfl, rfl⟩))
      refine (rtake_any w1.heap.size s c i v m _ HRA.out hi).mono ?_
      rintro e wb ⟨⟨A2, cap2, rfl, hl2, hA2⟩, hrb, hgb⟩
      rw [hL] at hl2 ⊢
      rw [hq] at hl2 ⊢
      rw [hE]
      have hzb := hgb.size
      have hpb : PAt wb w.heap.size (tS s c i v m) := Blk.grown HPA.out hgb (by simp; omega)
      have hlb : ChapsAt wb A1 q L := HLA.out.grown hgb (hA1.ne (by first | omega | (simp; omega)))
      have belb : Below w.heap.size w wb := below_gr bela hgb (by omega) (by omega)
      have hinv := inv_tk hi c i v m
      have hcs := tk_ch s c i v m
      have HPC := Lib.hid hpb; have HRC := Lib.hid hrb; have HBC := Lib.hid belb; have HINV := Lib.hid hinv; have HCH := Lib.hid hcs; have HLB := Lib.hid hlb; have HLC := Lib.hid hl2
      clear hpb hrb belb hinv hcs hlb hl2
      go_wp2_with (first | (go_at_call 12; refine (num_any _ _).mono ?_; rintro e w' ⟨rfl, rfl⟩))
      refine (samec_any _ _ q _ _ L _ HLB.out HLC.out (by omega)).mono ?_
      rintro e wd ⟨rfl, hbd⟩
      have hpd : PAt wd w.heap.size (tS s c i v m) := Blk.keep HPC.out hbd
      have hrd : RAt wd w1.heap.size (tS s c i v m) := Blk.keep HRC.out hbd
      have hzd := hbd.size
      have beld : Below w.heap.size w wd := below_step HBC.out hbd (by omega)
      have hy3 : w1.heap.size < wd.heap.size := by omega
      have HPB := Lib.hid hpd; have HRB := Lib.hid hrd; have HBB := Lib.hid beld; clear hpd hrd beld
      go_wp2_with (first | (go_at_call 12; refine (num_any _ _).mono ?_; rintro e w' ⟨rfl, rfl⟩))
      obtain ⟨r0, r1, r2, -⟩ := RAt.cells (s := (tS s c i v m)) HRB.out
      go_quiet (first | (go_at_call 15; exact Calls.quiet_of_same ((proved_any _ (tS s c i v m) _ (Blk.drewN HPB.out _)).mono (fun e w' h => ⟨h.1, h.2.symm⟩))) | (go_at_call 16; exact Calls.quiet_of_same ((taken_any _ (tS s c i v m) _ (Blk.drewN HPB.out _)).mono (fun e w' h => ⟨h.1, h.2.symm⟩))) | (go_at_call 17; exact Calls.quiet_of_same ((failed_any _ (tS s c i v m) _ (Blk.drewN HPB.out _)).mono (fun e w' h => ⟨h.1, h.2.symm⟩))))
      go_wp2_with (first | (go_at_call 12; refine (num_any _ _).mono ?_; rintro e w' ⟨rfl, rfl⟩))
      go_roundw
      case rel => exact ⟨k + 1, (tS s c i v m), by go_num, by omega, by rw [HCH.out], Blk.drewN HPB.out _, Blk.drewN HRB.out _, HINV.out, below_drewN HBB.out _⟩
      case measure => simp [intOf]; omega
    case true =>
      subst hrt
      obtain ⟨D, hD⟩ : ∃ D, md5 (chapT 1 ex s.ch) = D := ⟨_, rfl⟩
      have hic := hi.ch
      go_wp2_with (first | (go_at_call 12; refine (num_any _ _).mono ?_; rintro e w' ⟨rfl, rfl⟩))
      refine (rchap_any 1 ex s.ch _ (by omega) (by omega)).mono ?_
      rintro e w3 ⟨rfl, hb3⟩
      rw [hD]
      have hz3 := hb3.size
      simp at hz3
      have hp3 : Blk w3 w.heap.size 66 (psC s) := Blk.keep (Blk.alloc (Blk.alloc HP.out _) _) hb3
      have hr3 : Blk w3 w1.heap.size 56 (rsC s) := Blk.keep (Blk.alloc (Blk.alloc HR.out _) _) hb3
      have hm3 : Blk w3 (wr.heap.size + 1) 33 (chC c i v m) := Blk.keep (Blk.new_at _ _ (by simp) _ _) hb3
      have bel3 : Below w.heap.size w w3 := below_step ((hbel.alloc hsz (.cells (actC kd S c i v m true) 48)).alloc (by simp; omega) (.cells (chC c i v m) 33)) hb3 (by simp; omega)
      obtain ⟨g0, g1, g2, g3⟩ := chC_cells hm3
      have hf3 := hm3.frozen
      have HP3 := Lib.hid hp3; have HR3 := Lib.hid hr3; have HM3 := Lib.hid hm3; have HB3 := Lib.hid bel3; clear hp3 hr3 hm3 bel3
      go_wp2_with (first | (go_at_call 12; refine (num_any _ _).mono ?_; rintro e w' ⟨rfl, rfl⟩))
      have hpz : PAt ((((w3.setCell ⟨wr.heap.size + 1, 0, none⟩ (.int .i64 2)).setCell ⟨wr.heap.size + 1, 1, none⟩ (.int .i64 1)).setCell ⟨wr.heap.size + 1, 2, none⟩ (.string D)).setCell ⟨wr.heap.size + 1, 3, none⟩ (.string ⟨#[110]⟩)) w.heap.size s := show Blk _ w.heap.size 66 (psC s) from (by repeat' (first | (with_reducible exact HP3.out) | (with_reducible refine Blk.far ?_ (by first | omega | (simp; done) | (simp; omega)) _) | (with_reducible refine Blk.alloc ?_ _) | (with_reducible refine Blk.drew ?_) | (with_reducible refine Blk.drewN ?_ _)))
      have hrz : RAt ((((w3.setCell ⟨wr.heap.size + 1, 0, none⟩ (.int .i64 2)).setCell ⟨wr.heap.size + 1, 1, none⟩ (.int .i64 1)).setCell ⟨wr.heap.size + 1, 2, none⟩ (.string D)).setCell ⟨wr.heap.size + 1, 3, none⟩ (.string ⟨#[110]⟩)) w1.heap.size s := show Blk _ w1.heap.size 56 (rsC s) from (by repeat' (first | (with_reducible exact HR3.out) | (with_reducible refine Blk.far ?_ (by first | omega | (simp; done) | (simp; omega)) _) | (with_reducible refine Blk.alloc ?_ _) | (with_reducible refine Blk.drew ?_) | (with_reducible refine Blk.drewN ?_ _)))
      have hmz : Blk ((((w3.setCell ⟨wr.heap.size + 1, 0, none⟩ (.int .i64 2)).setCell ⟨wr.heap.size + 1, 1, none⟩ (.int .i64 1)).setCell ⟨wr.heap.size + 1, 2, none⟩ (.string D)).setCell ⟨wr.heap.size + 1, 3, none⟩ (.string ⟨#[110]⟩)) (wr.heap.size + 1) 33 (chC 2 1 D ⟨#[110]⟩) := by
        have h := Blk.set_ (Blk.set_ (Blk.set_ (Blk.set_ HM3.out 0 (.int .i64 2)) 1 (.int .i64 1)) 2 (.string D)) 3 (.string ⟨#[110]⟩)
        exact h
      have hbz : Below w.heap.size w ((((w3.setCell ⟨wr.heap.size + 1, 0, none⟩ (.int .i64 2)).setCell ⟨wr.heap.size + 1, 1, none⟩ (.int .i64 1)).setCell ⟨wr.heap.size + 1, 2, none⟩ (.string D)).setCell ⟨wr.heap.size + 1, 3, none⟩ (.string ⟨#[110]⟩)) := (((HB3.out.setCell (by show w.heap.size ≤ wr.heap.size + 1; omega) _).setCell (by show w.heap.size ≤ wr.heap.size + 1; omega) _).setCell (by show w.heap.size ≤ wr.heap.size + 1; omega) _).setCell (by show w.heap.size ≤ wr.heap.size + 1; omega) _
      have HPZ := Lib.hid hpz; have HRZ := Lib.hid hrz; have HMZ := Lib.hid hmz; have HBZ := Lib.hid hbz; clear hpz hrz hmz hbz
      obtain ⟨L, hL⟩ : ∃ L, tL s 2 1 D ⟨#[110]⟩ = L := ⟨_, rfl⟩
      obtain ⟨q, hq⟩ : ∃ q, L.length = q := ⟨_, rfl⟩
      have hq1 : q ≤ 1 := by rw [← hq, ← hL]; exact tL_len _ _ _ _ _
      obtain ⟨E, hE⟩ : ∃ E, tE 2 1 D ⟨#[110]⟩ = E := ⟨_, rfl⟩
      refine (take_any w.heap.size s 2 1 D ⟨#[110]⟩ _ HPZ.out hi.ex hi.ch hi.se).mono ?_
      rintro e wa ⟨⟨A1, cap1, rfl, hl1, hA1⟩, hpa, hga⟩
      rw [hL] at hl1 ⊢
      rw [hq] at hl1 ⊢
      rw [hE]
      have hza := hga.size
      simp at hza
      have hra : RAt wa w1.heap.size s := Blk.grown HRZ.out hga (by simp; omega)
      have hma : Blk wa (wr.heap.size + 1) 33 (chC 2 1 D ⟨#[110]⟩) := Blk.grown HMZ.out hga (by simp; omega)
      have bela : Below w.heap.size w wa := below_gr HBZ.out hga (by first | omega | (simp; omega)) (Nat.le_refl _)
      obtain ⟨g0, g1, g2, g3⟩ := chC_cells hma
      have hyy : wr.heap.size + 1 < wa.heap.size := by omega
      have HPA := Lib.hid hpa; have HRA := Lib.hid hra; have HLA := Lib.hid hl1; clear hpa hra hma hl1
      go_wp2_with (first | (go_at_call 12; refine (num_any _ _).mono ?_; rintro e w' ⟨rfl, rfl⟩))
      refine (rtake_any w1.heap.size s 2 1 D ⟨#[110]⟩ _ HRA.out hi).mono ?_
      rintro e wb ⟨⟨A2, cap2, rfl, hl2, hA2⟩, hrb, hgb⟩
      rw [hL] at hl2 ⊢
      rw [hq] at hl2 ⊢
      rw [hE]
      have hzb := hgb.size
      have hpb : PAt wb w.heap.size (tS s 2 1 D ⟨#[110]⟩) := Blk.grown HPA.out hgb (by simp; omega)
      have hlb : ChapsAt wb A1 q L := HLA.out.grown hgb (hA1.ne (by first | omega | (simp; omega)))
      have belb : Below w.heap.size w wb := below_gr bela hgb (by omega) (by omega)
      have hinv := inv_tk hi 2 1 D ⟨#[110]⟩
      have hcs := tk_ch s 2 1 D ⟨#[110]⟩
      have HPC := Lib.hid hpb; have HRC := Lib.hid hrb; have HBC := Lib.hid belb; have HINV := Lib.hid hinv; have HCH := Lib.hid hcs; have HLB := Lib.hid hlb; have HLC := Lib.hid hl2
      clear hpb hrb belb hinv hcs hlb hl2
      go_wp2_with (first | (go_at_call 12; refine (num_any _ _).mono ?_; rintro e w' ⟨rfl, rfl⟩))
      refine (samec_any _ _ q _ _ L _ HLB.out HLC.out (by omega)).mono ?_
      rintro e wd ⟨rfl, hbd⟩
      have hpd : PAt wd w.heap.size (tS s 2 1 D ⟨#[110]⟩) := Blk.keep HPC.out hbd
      have hrd : RAt wd w1.heap.size (tS s 2 1 D ⟨#[110]⟩) := Blk.keep HRC.out hbd
      have hzd := hbd.size
      have beld : Below w.heap.size w wd := below_step HBC.out hbd (by omega)
      have hy3 : w1.heap.size < wd.heap.size := by omega
      have HPB := Lib.hid hpd; have HRB := Lib.hid hrd; have HBB := Lib.hid beld; clear hpd hrd beld
      go_wp2_with (first | (go_at_call 12; refine (num_any _ _).mono ?_; rintro e w' ⟨rfl, rfl⟩))
      obtain ⟨r0, r1, r2, -⟩ := RAt.cells (s := (tS s 2 1 D ⟨#[110]⟩)) HRB.out
      go_quiet (first | (go_at_call 15; exact Calls.quiet_of_same ((proved_any _ (tS s 2 1 D ⟨#[110]⟩) _ (Blk.drewN HPB.out _)).mono (fun e w' h => ⟨h.1, h.2.symm⟩))) | (go_at_call 16; exact Calls.quiet_of_same ((taken_any _ (tS s 2 1 D ⟨#[110]⟩) _ (Blk.drewN HPB.out _)).mono (fun e w' h => ⟨h.1, h.2.symm⟩))) | (go_at_call 17; exact Calls.quiet_of_same ((failed_any _ (tS s 2 1 D ⟨#[110]⟩) _ (Blk.drewN HPB.out _)).mono (fun e w' h => ⟨h.1, h.2.symm⟩))))
      go_wp2_with (first | (go_at_call 12; refine (num_any _ _).mono ?_; rintro e w' ⟨rfl, rfl⟩))
      go_roundw
      case rel => exact ⟨k + 1, (tS s 2 1 D ⟨#[110]⟩), by go_num, by omega, by rw [HCH.out], Blk.drewN HPB.out _, Blk.drewN HRB.out _, HINV.out, below_drewN HBB.out _⟩
      case measure => simp [intOf]; omega
end Go.Proofs.Ytdfefpbpfneahaa
