/- Contracts of withylaw0's KeptOpts and SpoilOpts. No condition but memory's own limits. -/
import Derived.Test.YtckbbfdllflmjaaOptSame
namespace Go.Proofs.Ytckbbfdllflmjaa
open Go.RowKit
set_option linter.unusedVariables false
set_option linter.unusedSimpArgs false
attribute [local go_sem] conv1 conv1d conv1n conv1a conv1ad conv1an conv2 conv2d conv2n conv2a conv2ad conv2an conv4 conv4d conv4n conv4a conv4ad conv4an conv5 conv5d conv5n conv5a conv5ad conv5an size_nums byt_fold
set_option maxRecDepth 100000 in
set_option maxHeartbeats 1000000 in
theorem kept_any (g n cap cap' : Nat) (A : Option Addr) (os : List (Int × ByteArray)) (w : World) (hl : OptsAt w (some ⟨g, 0, none⟩) (n + 2) (lentOf os)) (hv : OptsAt w A n os) (hcap : n + 2 ≤ cap) (hcm : cap ≤ 9223372036854775807) :
    Calls Try.prog 27 #[.slice (some ⟨g, 0, none⟩) n cap, .slice A n cap'] w fun e w' => e = .returned (.bool true) ∧ Below w.heap.size w w' := by
  have hos := hv.1
  have hh : OptsAt w (some ⟨g, 0, none⟩) n os := OptsAt.head hl hos
  have HV := Lib.hid hv; clear hv
  have HH := Lib.hid hh; clear hh
  obtain ⟨b1, off1, k1, d1, e1, hb1, o1, c1, c2⟩ := hl.at_ n (by omega)
  obtain ⟨b2, off2, k2, d2, e2, hb2, o2, c3, c4⟩ := hl.at_ (n + 1) (by omega)
  injection e1 with e1
  injection e1 with e1 e1'
  injection e2 with e2
  injection e2 with e2 e2'
  subst e1 e1' e2 e2'
  have r1 : (k1, d1) = ((77777 : Int), (⟨#[]⟩ : ByteArray)) := by
    unfold lentOf at o1
    rw [List.getElem?_append_right (by omega), hos] at o1
    simpa using o1.symm
  have r2 : (k2, d2) = ((77777 : Int), (⟨#[]⟩ : ByteArray)) := by
    unfold lentOf at o2
    rw [List.getElem?_append_right (by omega), hos, show n + 1 - n = 1 by omega] at o2
    simpa using o2.symm
  injection r1 with r1 r1'
  injection r2 with r2 r2'
  subst r1 r1' r2 r2'
  simp only [Nat.zero_add] at c1 c2 c3 c4
  clear hl o1 o2 hos
  go_enter Try.func27, Try.ntmps27
  go_wp2_with fail
  refine (same_any _ _ _ _ _ _ os os w HH.out HV.out (by omega)).mono ?_
  rintro e w1 ⟨rfl, hbel⟩
  rw [same_refl]
  have g1 := (hbel.cell (p := ⟨g, n * 2, none⟩) hb1).trans c1
  have g2 := (hbel.cell (p := ⟨g, n * 2 + 1, none⟩) hb1).trans c2
  have g3 := (hbel.cell (p := ⟨g, (n + 1) * 2, none⟩) hb1).trans c3
  have g4 := (hbel.cell (p := ⟨g, (n + 1) * 2 + 1, none⟩) hb1).trans c4
  go_wp2
  go_ret
  exact ⟨rfl, hbel⟩

theorem optCells_set : ∀ (ps : List (Int × ByteArray)) (k : Nat) (y : Int) (h : k < ps.length), (optCells ps).set (k * 2) (.int .i64 y) = optCells (ps.set k (y, (ps[k]).2))
  | [], k, y, h => by simp at h
  | o :: os, 0, y, _ => by simp [optCells]
  | o :: os, k + 1, y, h => by
    have ih := optCells_set os k y (by simpa using h)
    have e : ∀ (o : Int × ByteArray) l, optCells (o :: l) = .int .i64 o.1 :: .string o.2 :: optCells l := fun o l => by simp [optCells]
    rw [e, show (k + 1) * 2 = (k * 2 + 1) + 1 by omega, List.set_cons_succ, List.set_cons_succ, ih, List.set_cons_succ, e]
    simp
def SpR (base n : Nat) (w : World) (v : Value) (wr : World) : Prop := w.grownBy wr v.ownBlock ∧ ∃ ps : List (Int × ByteArray), ps.length = n ∧ wr.ownsRow base 65 2 v n (optCells ps)
theorem sp_step {base n cap g k : Nat} {w wr : World} {ps : List (Int × ByteArray)} {y : Int} (hg : w.grownBy wr (some g)) (hp : ps.length = n) (hk : k < n) (ho : wr.ownsRow base 65 2 (.slice (some ⟨g, 0, none⟩) n cap) n (optCells ps)) :
    SpR base n w (.slice (some ⟨g, 0, none⟩) n cap) (wr.setCell ⟨g, k * 2, none⟩ (.int .i64 y)) := by
  refine ⟨⟨hg.os, hg.tape, hg.output, by simpa [World.setCell] using hg.size, fun j hj hne => ?_⟩, ps.set k (y, (ps[k]'(by omega)).2), by simpa using hp, ?_⟩
  · rw [Below.heap_setCell _ _ _ _ (fun e => hne (by simp [Value.ownBlock, e]))]
    exact hg.block j hj hne
  · rw [← optCells_set ps k y (by omega)]
    exact (ho.stored (k * 2) _).1
set_option maxRecDepth 100000 in
set_option maxHeartbeats 1000000 in
theorem spoil_any (base : Nat) (A : Option Addr) (n cap : Nat) (os : List (Int × ByteArray)) (w : World) (hv : w.ownsRow base 65 2 (.slice A n cap) n (optCells os)) (hlen : os.length = n) (hn : n ≤ 9223372036854775807) :
    Calls Try.prog 18 #[.slice A n cap] w fun e w' => e = .returned (.tuple #[]) ∧ w.grownBy w' (Value.slice A n cap).ownBlock := by
  have HV := Lib.hid hv; clear hv
  go_enter Try.func18, Try.ntmps18
  go_wp2_with fail
  go_loopw [2] (fun i wr => ∃ k : Nat, i = .int .i64 k ∧ k ≤ n ∧ SpR base n w (.slice A n cap) wr) (fun i _ => n - (intOf i).toNat)
  case atStart => exact ⟨0, rfl, by omega, ⟨rfl, rfl, rfl, Nat.le_refl _, fun _ _ _ => rfl⟩, os, hlen, HV.out⟩
  case round =>
    obtain ⟨k, rfl, hkn, hgr, ps, hps, hown⟩ := hrel
    have HG := Lib.hid hgr; clear hgr
    have HP := Lib.hid hps; clear hps
    by_cases hlt : k < n
    · obtain ⟨g, rfl⟩ : ∃ g, A = some ⟨g, 0, none⟩ := by
        rcases HV.out.2 with ⟨_, h0⟩ | ⟨g, cap', cur, hv, _⟩
        · omega
        · injection hv with hA _ _
          exact ⟨g, hA⟩
      have HOWN := Lib.hid hown; clear hown
      obtain ⟨a1, a2⟩ := optCells_at ps k (by rw [HP.out]; exact hlt)
      have c1 := (HOWN.out.cellAt (k * 2) (by omega)).trans a1
      have f1 := HOWN.out.frozenAt (k * 2)
      clear a1 a2
      obtain ⟨x, hx⟩ : ∃ x, (ps[k]'(by rw [HP.out]; exact hlt)).1 = x := ⟨_, rfl⟩
      rw [hx] at c1
      clear hx
      go_wp2_with fail
      go_roundw
      case rel => exact ⟨k + 1, by go_num, by omega, sp_step HG.out HP.out hlt HOWN.out⟩
      case measure => simp [intOf]; omega
    · go_wp2_with fail
      go_end0
      exact ⟨rfl, HG.out⟩
end Go.Proofs.Ytckbbfdllflmjaa
