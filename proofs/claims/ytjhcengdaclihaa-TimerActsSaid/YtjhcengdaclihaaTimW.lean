/- What all laws of chapter 11 ask first: it returns true. No condition. -/
import Derived.Test.YtjhcengdaclihaaTimT
namespace Go.Proofs.Ytjhcengdaclihaa
open Go.RowKit
set_option linter.unusedVariables false
set_option linter.unusedSimpArgs false
open Go.Maps
set_option maxHeartbeats 1000000 in
set_option maxRecDepth 100000 in
theorem awake_any (w : World) : Calls Try.prog 19 #[] w fun e w' => e = .returned (.bool true) ∧ Below w.heap.size w w' := by
  go_enter Try.func19, Try.ntmps19
  go_wp2_with fail
  refine (new_to (Below.refl w.heap.size w)).mono ?_
  rintro e w1 ⟨rfl, h1, -⟩
  generalize w.heap.size + 1 = g at *
  generalize hmb : w.heap.size = mb at h1
  have H1 := Lib.hid h1; clear h1 hmb
  go_wp2_with fail
  refine (set_to 5 10 H1.out (by decide)).mono ?_
  rintro e w2 ⟨rfl, v2, h2, -⟩
  have H2 := Lib.hid h2; clear h2
  rw [show setC 5 10 [] = 0 from by decide]
  rw [show setA 5 10 [] = [(5, 10)] from by decide] at H2
  go_wp2_with fail
  refine (set_to 3 10 H2.out (by decide)).mono ?_
  rintro e w3 ⟨rfl, v3, h3, -⟩
  have H3 := Lib.hid h3; clear h3
  rw [show setC 3 10 [(5, 10)] = 0 from by decide]
  rw [show setA 3 10 [(5, 10)] = [(3, 10), (5, 10)] from by decide] at H3
  go_wp2_with fail
  refine (next_to H3.out).mono ?_
  rintro e w4 ⟨rfl, h4, -⟩
  have H4 := Lib.hid h4; clear h4
  go_wp2_with fail
  refine (due_to 9 H4.out).mono ?_
  rintro e w5 ⟨A5, cap5, rfl, -, v5, h5, -⟩
  rw [show dueL 9 [(3, 10), (5, 10)] = [] from by decide]
  rw [show restL 9 [(3, 10), (5, 10)] = [(3, 10), (5, 10)] from by decide] at h5
  have H5 := Lib.hid h5; clear h5
  go_wp2_with fail
  refine (due_to 10 H5.out).mono ?_
  rintro e w6 ⟨A6, cap6, rfl, ho, v6, h6, -⟩
  rw [show dueL 10 [(3, 10), (5, 10)] = [3, 5] from by decide] at ho ⊢
  rw [show restL 10 [(3, 10), (5, 10)] = [] from by decide] at h6
  have H6 := Lib.hid h6; clear h6
  have HO := Lib.hid (IntsAt.own ho); clear ho
  go_wp2_with fail
  refine (stop_not g mb v6 [] 5 w6 H6.out.ta (by decide) (by decide)).mono ?_
  rintro e w7 ⟨rfl, rfl⟩
  go_wp2_with fail
  refine (next_to0 H6.out).mono ?_
  rintro e w7 ⟨rfl, rfl⟩
  have HV := Lib.hid (IntsAt.made_at w6 _ rfl [3, 5] #[.int .i64 3, .int .i64 5] 3 2 rfl rfl)
  have HU := Lib.hid (HO.out.keep ((Below.refl w6.heap.size w6).alloc (Nat.le_refl _) (.cells #[.int .i64 3, .int .i64 5] 3)))
  go_wp2_with (first | (go_at_call 10; refine (num_any _ _).mono ?_; rintro e w' ⟨rfl, rfl⟩))
  refine (same_any _ _ _ _ _ _ [3, 5] [3, 5] _ HU.out HV.out (by decide)).mono ?_
  rintro e w8 ⟨rfl, hb8⟩
  have HB := Lib.hid (H6.out.bel.trans ((((Below.refl w6.heap.size w6).alloc (Nat.le_refl _) _).trans (hb8.mono (by simp))).mono H6.out.bel.size))
  clear hb8
  rw [same_refl]
  go_wp2_with (first | (go_at_call 10; refine (num_any _ _).mono ?_; rintro e w' ⟨rfl, rfl⟩))
  go_ret
  exact ⟨rfl, HB.out⟩
theorem own_to {w0 w w' : World} {g mb base n : Nat} {v v' u : Value} {S : List Tm} {xs : List Value} (h : TO w0 w g mb v S) (ho : w.ownsRow base 3 1 u n xs) (hm : Mv w w' g mb v v') : w'.ownsRow base 3 1 u n xs := by
  obtain ⟨D, ts, hp, -⟩ := h.ta
  exact own_mv hp ho hm
end Go.Proofs.Ytjhcengdaclihaa
