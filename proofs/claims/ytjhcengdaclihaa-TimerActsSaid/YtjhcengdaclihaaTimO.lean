/- The contracts of container/heap.Pop, Remove. No condition. -/
import Derived.Test.YtjhcengdaclihaaTimF
namespace Go.Proofs.Ytjhcengdaclihaa
open Go.RowKit
set_option linter.unusedVariables false
set_option linter.unusedSimpArgs false
open Go.Maps
def PoR (ts : List Tm) (x : Tm) (g mb : Nat) (v : Value) (w0 w : World) : Prop := ∃ v' D' ts', PileAt w g mb v' D' ts' ∧ Mv w0 w g mb v v' ∧ (x :: ts').Perm ts ∧ Heap ts' ts'.length
/-- Ahead of the pile's Pop: the last one is x, the others are a heap. -/
def PoB (ts : List Tm) (x : Tm) (g mb : Nat) (v : Value) (w0 w : World) : Prop := ∃ D' ts', PileAt w g mb v D' (ts' ++ [x]) ∧ Mv w0 w g mb v v ∧ (x :: ts').Perm ts ∧ Heap ts' ts'.length
theorem cut_last {ts : List Tm} {n : Nat} {x : Tm} (hl : ts.length = n + 1) (hx : ts[n]? = some x) : ts = ts.take n ++ [x] := by
  have h1 : ts.drop n = [x] := by
    rw [List.drop_eq_getElem_cons (by omega), List.drop_eq_nil_of_le (by omega)]
    have := (List.getElem?_eq_some_iff.1 hx).2
    rw [this]
  conv => lhs; rw [← List.take_append_drop n ts, h1]
theorem heap_take {ts : List Tm} {n : Nat} (h : Heap ts n) (hl : n ≤ ts.length) : Heap (ts.take n) (ts.take n).length := by
  have e : (ts.take n).length = n := by rw [List.length_take]; omega
  have he : ∀ c, c < n → el (ts.take n) c = el ts c := fun c hc => by
    unfold el
    rw [List.getD_eq_getElem?_getD, List.getD_eq_getElem?_getD, List.getElem?_take, if_pos hc]
  rw [e]
  intro c a b
  have := par_lt a
  rw [he c b, he (par c) (by omega)]
  exact h c a b
theorem poB {ts0 ts : List Tm} {n g mb : Nat} {x : Tm} {v : Value} {w0 w : World} {D : DU} (hp : PileAt w g mb v D ts) (hv : Mv w0 w g mb v v) (hl : ts.length = n + 1) (hx : ts[n]? = some x) (hh : Heap ts n) (hpm : ts.Perm ts0) : PoB ts0 x g mb v w0 w := by
  have e := cut_last hl hx
  refine ⟨D, ts.take n, by rw [← e]; exact hp, hv, ?_, heap_take hh (by omega)⟩
  rw [e] at hpm
  exact (List.perm_append_singleton x (ts.take n)).symm.trans hpm
theorem poB_of {ts0 ts1 : List Tm} {n g mb : Nat} {x : Tm} {v : Value} {w0 w1 w : World} (h : HpR ts1 n g mb v w1 w) (hv : Mv w0 w1 g mb v v) (hl : ts1.length = n + 1) (hx : ts1[n]? = some x) (hpm : ts1.Perm ts0) : PoB ts0 x g mb v w0 w := by
  obtain ⟨D, ts, h1, h2, h3, h4⟩ := h
  exact poB h1 (hv.trans h2) (h3.2.1.trans hl) ((h3.2.2 n (Nat.le_refl _)).trans hx) h4 (h3.1.trans hpm)
theorem PoB.pop {ts : List Tm} {x : Tm} {g mb : Nat} {v : Value} {w0 w : World} (h : PoB ts x g mb v w0 w) : Calls Try.prog 44 #[.pointer (some ⟨g, 0, none⟩)] w fun e w' => e = .returned (.iface 59 (.agg #[.int .i64 x.1, .int .i64 x.2])) ∧ PoR ts x g mb v w0 w' := by
  obtain ⟨D, ts', h1, h2, h3, h4⟩ := h
  refine (pop_any g mb v D ts' w x h1).mono ?_
  rintro e w' ⟨rfl, v', D', h5, h6⟩
  exact ⟨rfl, v', D', ts', h5, h2.trans h6, h3, h4⟩
theorem swap_dn {ts : List Tm} {n i : Nat} (hl : ts.length = n + 1) (hi : i ≤ n) (h : Heap ts ts.length) : DnI (swp ts i n (el ts i) (el ts n)) n i i := by
  refine DnI.of h (by omega) (fun c hc hn => ?_)
  rw [el_swp (by omega) (by omega), if_neg (by omega), if_neg hn]
set_option maxHeartbeats 1000000 in
set_option maxRecDepth 100000 in
theorem hpop_any (g mb n : Nat) (v : Value) (D : DU) (ts : List Tm) (w : World) (h : PileAt w g mb v D ts) (hh : Heap ts ts.length) (hl : ts.length = n + 1) : Calls Try.prog 24 #[ifc g] w fun e w' => e = .returned (.iface 59 (.agg #[.int .i64 (el ts 0).1, .int .i64 (el ts 0).2])) ∧ PoR ts (el ts 0) g mb v w w' := by
  have hle := h.le
  have HN := Lib.hid (show n ≤ 256 by omega)
  have hwn : wrap64 (n : Int) = (n : Int) := wrap_in (by omega) (by omega)
  have H := Lib.hid h
  have HH := Lib.hid hh
  have HL := Lib.hid hl
  clear h hh hle
  have hmN := hmN g
  have hmS := hmS g
  have hmO := hmO g
  go_enter Try.func24, Try.ntmps24
  go_wp2_with fail
  refine (len_any g mb v D ts w H.out).mono ?_
  rintro e w' ⟨rfl, rfl⟩
  rw [hl]
  clear hl
  go_wp2_with fail
  refine (swap_any g mb 0 n v D ts w _ _ H.out (el_at (by have := HL.out; omega)) (el_at (by have := HL.out; omega))).mono ?_
  rintro e w1 ⟨rfl, D1, hp, hv⟩
  have HP := Lib.hid hp
  have HV := Lib.hid hv
  clear hp hv
  go_wp2_with fail
  refine (down_any g mb 0 n v D1 _ w1 HP.out (swap_dn HL.out (by omega) HH.out) (by rw [swp_len]; have := HL.out; omega) (by omega)).mono ?_
  rintro e w2 ⟨b, rfl, h2⟩
  have H2 := Lib.hid (show HpR (swp ts 0 n (el ts 0) (el ts n)) n g mb v w1 w2 from by
    obtain ⟨D2, ts2, a1, a2, a3, a4, a5⟩ := h2
    refine ⟨D2, ts2, a1, a2, a3, ?_⟩
    cases b with
    | true => exact a4 rfl
    | false => exact (a5 rfl).end0)
  clear h2
  have hn1 : n < ts.length := by have := HL.out; omega
  have PB := Lib.hid (poB_of H2.out HV.out (by rw [swp_len]; exact HL.out) (swp_at (el_at (by omega)) (el_at hn1)).2 (swp_perm (el_at (by omega)) (el_at hn1)))
  clear hn1
  go_wp2_with fail
  refine PB.out.pop.mono ?_
  rintro e w3 ⟨rfl, h3⟩
  have H3 := Lib.hid h3
  clear h3
  go_wp2_with fail
  go_ret
  exact ⟨rfl, H3.out⟩
end Go.Proofs.Ytjhcengdaclihaa
