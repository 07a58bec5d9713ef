/- The contract of container/heap.up. No condition. -/
import Derived.Test.YtjhcengdaclihaaTimP
import Derived.Lib.Hide
namespace Go.Proofs.Ytjhcengdaclihaa
open Go.RowKit
set_option linter.unusedVariables false
set_option linter.unusedSimpArgs false
open Go.Maps
theorem wrap_in {z : Int} (h1 : -9223372036854775808 ≤ z) (h2 : z ≤ 9223372036854775807) : wrap64 z = z := by unfold wrap64; omega
theorem par_walk (k : Nat) (h1 : 1 ≤ k) (h2 : k ≤ 256) : ∃ m p : Nat, wrap64 ((k : Int) - 1) = (m : Int) ∧ (m : Int).tdiv 2 = (p : Int) ∧ wrap64 (p : Int) = (p : Int) ∧ ((p : Int) == (k : Int)) = false ∧ p = par k ∧ p < k := by
  refine ⟨k - 1, par k, ?_, ?_, ?_, ?_, rfl, par_lt h1⟩
  · rw [wrap_in (by omega) (by omega)]; omega
  · unfold par
    rw [Int.tdiv_eq_ediv_of_nonneg (by omega)]
    omega
  · have := par_lt h1
    rw [wrap_in (by omega) (by omega)]
  · have := par_lt h1
    simp; omega
abbrev ifc (g : Nat) : Value := .iface 61 (.pointer (some ⟨g, 0, none⟩))
theorem hmL (g : Nat) (w : World) : (method 188 61 (.pointer (some ⟨g, 0, none⟩)) "Less").run Try.prog w = .ok (43, .pointer (some ⟨g, 0, none⟩)) w := by kernel_rfl
theorem hmS (g : Nat) (w : World) : (method 188 61 (.pointer (some ⟨g, 0, none⟩)) "Swap").run Try.prog w = .ok (46, .pointer (some ⟨g, 0, none⟩)) w := by kernel_rfl
def PoUp (ts0 : List Tm) (n g mb : Nat) (v : Value) (w0 w : World) (j : Nat) : Prop := ∃ D ts, PileAt w g mb v D ts ∧ Mv w0 w g mb v v ∧ Mov ts0 ts n ∧ UpI ts n j ∧ j < n ∧ n ≤ ts.length
def HpR (ts0 : List Tm) (n g mb : Nat) (v : Value) (w0 w : World) : Prop := ∃ D ts, PileAt w g mb v D ts ∧ Mv w0 w g mb v v ∧ Mov ts0 ts n ∧ Heap ts n
set_option maxRecDepth 100000 in
theorem up_any (g mb j n : Nat) (v : Value) (D : DU) (ts0 : List Tm) (w : World) (h : PileAt w g mb v D ts0) (hu : UpI ts0 n j) (hj : j < n) (hn : n ≤ ts0.length) : Calls Try.prog 26 #[ifc g, .int .i64 (j : Int)] w fun e w' => e = .returned (.tuple #[]) ∧ HpR ts0 n g mb v w w' := by
  have h0 : PoUp ts0 n g mb v w w j := ⟨D, ts0, h, Mv.refl _ _ _ _, Mov.refl _ _, hu, hj, hn⟩
  clear h hu
  have hmL := hmL g
  have hmS := hmS g
  go_enter Try.func26, Try.ntmps26
  go_wp2_with fail
  go_loopw [1] (fun j wr => ∃ k : Nat, j = .int .i64 k ∧ PoUp ts0 n g mb v w wr k) (fun j _ => (intOf j).toNat)
  case atStart => exact ⟨j, rfl, h0⟩
  case round =>
    obtain ⟨k, rfl, D1, ts, hp, hv, hm, hu, hk, hnl⟩ := hrel
    have hle := hp.le
    have HP := Lib.hid hp
    have HV := Lib.hid hv
    have HM := Lib.hid hm
    have HU := Lib.hid hu
    clear hp hv hm hu h0
    by_cases k0 : k = 0
    · subst k0
      go_wp2_with fail
      go_end0
      exact ⟨rfl, D1, ts, HP.out, HV.out, HM.out, HU.out.end0⟩
    · obtain ⟨m, p, q⟩ := par_walk k (by omega) (by omega)
      have Q := Lib.hid q
      have hpk : p < k := q.2.2.2.2.2
      have hpar := Lib.hid q.2.2.2.2.1
      clear q
      have HLE := Lib.hid hle
      clear hle
      have n1 : ¬ p = k := by omega
      have n2 : ¬ (p : Int) = (k : Int) := by omega
      have hxk : ts[k]? = some (el ts k) := el_at (by omega)
      have hxp : ts[p]? = some (el ts p) := el_at (by omega)
      obtain ⟨q1, q2, q3, -⟩ := Q.out
      go_wp2_with fail
      refine (less_any g mb k p v D1 ts wr _ _ HP.out hxk hxp).mono ?_
      rintro e w1 ⟨rfl, hb⟩
      have HB := Lib.hid hb
      clear hb
      cases hl : lt (el ts k) (el ts p) with
      | false =>
        have HL := Lib.hid hl
        clear hl
        go_wp2_with fail
        go_end0
        refine ⟨rfl, D1, ts, HP.out.keep HB.out, HV.out.trans (Mv.below HB.out), HM.out, ?_⟩
        exact HU.out.end_ (hpar.out ▸ HL.out)
      | true =>
        have HL := Lib.hid hl
        clear hl
        go_wp2_with fail
        refine (swap_any g mb p k v D1 ts w1 _ _ (HP.out.keep HB.out) hxp hxk).mono ?_
        rintro e w2 ⟨rfl, D2, hp2, hv2⟩
        have HP2 := Lib.hid hp2
        have HV2 := Lib.hid hv2
        clear hp2 hv2
        go_wp2_with fail
        go_roundw
        case rel =>
          clear q1 q2 q3
          refine ⟨p, rfl, D2, _, HP2.out, (HV.out.trans (Mv.below HB.out)).trans HV2.out, HM.out.swp (by omega) hk hnl, ?_, by omega, by rw [swp_len]; exact hnl⟩
          have e := hpar.out
          subst e
          exact HU.out.step hnl (by omega) hk HL.out
        case measure =>
          clear q1 q2 q3
          simp [intOf]; omega
end Go.Proofs.Ytjhcengdaclihaa
