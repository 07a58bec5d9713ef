/- The contract of container/heap.Remove. No condition. -/
import Derived.Test.YtjhcengdaclihaaTimO
namespace Go.Proofs.Ytjhcengdaclihaa
open Go.RowKit
set_option linter.unusedVariables false
set_option linter.unusedSimpArgs false
open Go.Maps
set_option maxHeartbeats 1000000 in
set_option maxRecDepth 100000 in
theorem hrem_any (g mb n i : Nat) (v : Value) (D : DU) (ts : List Tm) (w : World) (h : PileAt w g mb v D ts) (hh : Heap ts ts.length) (hl : ts.length = n + 1) (hi : i ≤ n) : Calls Try.prog 23 #[ifc g, .int .i64 (i : Int)] w fun e w' => e = .returned (.iface 59 (.agg #[.int .i64 (el ts i).1, .int .i64 (el ts i).2])) ∧ PoR ts (el ts i) g mb v w w' := by
  have hle := h.le
  have HN := Lib.hid (show n ≤ 256 by omega)
  have hwn : wrap64 (n : Int) = (n : Int) := wrap_in (by omega) (by omega)
  have H := Lib.hid h
  have HH := Lib.hid hh
  have HL := Lib.hid hl
  clear h hh hle
  have hmN := hmN g
  have hmS := hmS g
  have hmO := hmO g
  by_cases hin : n = i
  · subst hin
    have PB := Lib.hid (poB (x := el ts n) H.out (Mv.refl _ _ _ _) HL.out (el_at (by have := HL.out; omega)) (fun c a b => HH.out c a (by have := HL.out; omega)) (List.Perm.refl _))
    go_enter Try.func23, Try.ntmps23
    go_wp2_with fail
    refine (len_any g mb v D ts w H.out).mono ?_
    rintro e w' ⟨rfl, rfl⟩
    rw [hl]
    clear hl
    go_wp2_with fail
    refine PB.out.pop.mono ?_
    rintro e w3 ⟨rfl, h3⟩
    have H3 := Lib.hid h3
    clear h3
    go_wp2_with fail
    go_ret
    exact ⟨rfl, H3.out⟩
  · have hne : ¬ (n : Int) = (i : Int) := by omega
    have hq : ((n : Int) == (i : Int)) = false := by simpa using hne
    have hil : i < ts.length := by omega
    have hnl : n < ts.length := by omega
    have HI := Lib.hid hil
    have HK := Lib.hid hnl
    have HIN := Lib.hid (show i < n by omega)
    clear hil hnl hin hi
    go_enter Try.func23, Try.ntmps23
    go_wp2_with fail
    refine (len_any g mb v D ts w H.out).mono ?_
    rintro e w' ⟨rfl, rfl⟩
    rw [hl]
    clear hl
    go_wp2_with fail
    refine (swap_any g mb i n v D ts w _ _ H.out (el_at HI.out) (el_at HK.out)).mono ?_
    rintro e w1 ⟨rfl, D1, hp, hv⟩
    have HP := Lib.hid hp
    have HV := Lib.hid hv
    clear hp hv
    have PBf := Lib.hid (fun w' (h : HpR (swp ts i n (el ts i) (el ts n)) n g mb v w1 w') => poB_of h HV.out (by rw [swp_len]; exact HL.out) (swp_at (el_at HI.out) (el_at HK.out)).2 (swp_perm (el_at HI.out) (el_at HK.out)))
    go_wp2_with fail
    refine (down_any g mb i n v D1 _ w1 HP.out (swap_dn HL.out (Nat.le_of_lt HIN.out) HH.out) (by rw [swp_len]; exact Nat.le_of_lt HK.out) (by have := HN.out; have := HIN.out; omega)).mono ?_
    rintro e w2 ⟨b, rfl, D2, ts2, a1, a2, a3, a4, a5⟩
    cases b with
    | true =>
      have PB := Lib.hid (PBf.out w2 ⟨D2, ts2, a1, a2, a3, a4 rfl⟩)
      clear a1 a2 a3 a4 a5
      go_wp2_with fail
      refine PB.out.pop.mono ?_
      rintro e w3 ⟨rfl, h3⟩
      have H3 := Lib.hid h3
      clear h3
      go_wp2_with fail
      go_ret
      exact ⟨rfl, H3.out⟩
    | false =>
      have A1 := Lib.hid a1
      have A2 := Lib.hid a2
      have A3 := Lib.hid a3
      have A5 := Lib.hid (a5 rfl)
      clear a1 a2 a3 a4 a5
      go_wp2_with fail
      refine (up_any g mb i n v D2 ts2 w2 A1.out A5.out HIN.out (by rw [A3.out.2.1, swp_len]; exact Nat.le_of_lt HK.out)).mono ?_
      rintro e w4 ⟨rfl, h4⟩
      have PB := Lib.hid (PBf.out w4 (h4.up A2.out A3.out))
      clear h4
      go_wp2_with fail
      refine PB.out.pop.mono ?_
      rintro e w3 ⟨rfl, h3⟩
      have H3 := Lib.hid h3
      clear h3
      go_wp2_with fail
      go_ret
      exact ⟨rfl, H3.out⟩
end Go.Proofs.Ytjhcengdaclihaa
