/- The contracts of container/heap.Fix, Push, Pop, Remove. No condition. -/
import Derived.Test.YtjhcengdaclihaaTimR
namespace Go.Proofs.Ytjhcengdaclihaa
open Go.RowKit
set_option linter.unusedVariables false
set_option linter.unusedSimpArgs false
open Go.Maps
theorem DnI.of {ts ts' : List Tm} {n N k : Nat} (h : Heap ts N) (hn : n ≤ N) (he : ∀ c, c < n → c ≠ k → el ts' c = el ts c) : DnI ts' n k k := by
  refine ⟨fun c a b d e => ?_, fun c a b d e => ?_, Nat.le_refl _, fun a => absurd a (Nat.lt_irrefl _)⟩
  · have := par_lt a
    rw [he c b d, he (par c) (by omega) e]
    exact h c a (by omega)
  · have hc := par_lt a
    have hp := par_lt e
    rw [he c b (by omega), he (par k) (by omega) (by omega)]
    have h1 := h c a (by omega)
    rw [d] at h1
    exact le_tr (h k e (by omega)) h1
theorem UpI.app {ts : List Tm} (h : Heap ts ts.length) (t : Tm) : UpI (ts ++ [t]) (ts.length + 1) ts.length := by
  have he : ∀ c, c < ts.length → el (ts ++ [t]) c = el ts c := fun c hc => by
    unfold el
    rw [List.getD_eq_getElem?_getD, List.getD_eq_getElem?_getD, List.getElem?_append_left hc]
  refine ⟨fun c a b d => ?_, fun c a b d e => ?_⟩
  · have := par_lt a
    rw [he c (by omega), he (par c) (by omega)]
    exact h c a (by omega)
  · rcases child a d with e | e <;> omega
theorem hmN (g : Nat) (w : World) : (method 188 61 (.pointer (some ⟨g, 0, none⟩)) "Len").run Try.prog w = .ok (48, .pointer (some ⟨g, 0, none⟩)) w := by kernel_rfl
theorem hmP (g : Nat) (w : World) : (method 188 61 (.pointer (some ⟨g, 0, none⟩)) "Push").run Try.prog w = .ok (45, .pointer (some ⟨g, 0, none⟩)) w := by kernel_rfl
theorem hmO (g : Nat) (w : World) : (method 188 61 (.pointer (some ⟨g, 0, none⟩)) "Pop").run Try.prog w = .ok (44, .pointer (some ⟨g, 0, none⟩)) w := by kernel_rfl
theorem HpR.up {ts0 ts1 : List Tm} {n g mb : Nat} {v : Value} {w0 w1 w : World} (h : HpR ts1 n g mb v w1 w) (hv : Mv w0 w1 g mb v v) (hm : Mov ts0 ts1 n) : HpR ts0 n g mb v w0 w := by
  obtain ⟨D, ts, h1, h2, h3, h4⟩ := h
  exact ⟨D, ts, h1, hv.trans h2, ⟨h3.1.trans hm.1, h3.2.1.trans hm.2.1, fun c hc => (h3.2.2 c hc).trans (hm.2.2 c hc)⟩, h4⟩
set_option maxHeartbeats 1000000 in
set_option maxRecDepth 100000 in
theorem fix_any (g mb k n : Nat) (v : Value) (D : DU) (ts : List Tm) (w : World) (h : PileAt w g mb v D ts) (hd : DnI ts n k k) (hn : n = ts.length) (hk : k < n) : Calls Try.prog 20 #[ifc g, .int .i64 (k : Int)] w fun e w' => e = .returned (.tuple #[]) ∧ HpR ts n g mb v w w' := by
  subst hn
  have hle := h.le
  have HLE := Lib.hid (show k ≤ 256 by omega)
  have HD := Lib.hid hd
  have H := Lib.hid h
  clear h hd hle
  have hmN := hmN g
  go_enter Try.func20, Try.ntmps20
  go_wp2_with fail
  refine (len_any g mb v D ts w H.out).mono ?_
  rintro e w' ⟨rfl, rfl⟩
  go_wp2_with fail
  refine (down_any g mb k ts.length v D ts w H.out HD.out (Nat.le_refl _) HLE.out).mono ?_
  rintro e w1 ⟨b, rfl, D1, ts1, hp, hv, hm, h1, h2⟩
  have HP := Lib.hid hp
  have HV := Lib.hid hv
  have HM := Lib.hid hm
  clear hp hv hm
  cases b with
  | true =>
    have H1 := Lib.hid (h1 rfl)
    clear h1 h2
    go_wp2_with fail
    go_end0
    exact ⟨rfl, D1, ts1, HP.out, HV.out, HM.out, H1.out⟩
  | false =>
    have H2 := Lib.hid (h2 rfl)
    clear h1 h2
    go_wp2_with fail
    refine (up_any g mb k ts.length v D1 ts1 w1 HP.out H2.out hk (by have := HM.out.2.1; omega)).mono ?_
    rintro e w2 ⟨rfl, h3⟩
    have H3 := Lib.hid (h3.up HV.out HM.out)
    clear h3
    go_wp2_with fail
    go_end0
    exact ⟨rfl, H3.out⟩
def PuR (ts : List Tm) (t : Tm) (g mb : Nat) (v : Value) (w0 w : World) : Prop := ∃ v' D' ts', PileAt w g mb v' D' ts' ∧ Mv w0 w g mb v v' ∧ ts'.Perm (ts ++ [t]) ∧ Heap ts' ts'.length
set_option maxHeartbeats 1000000 in
set_option maxRecDepth 100000 in
theorem hpush_any (g mb : Nat) (v : Value) (D : DU) (ts : List Tm) (w : World) (t : Tm) (h : PileAt w g mb v D ts) (hh : Heap ts ts.length) (hlen : ts.length < 256) (hw : (Lit.int .i64 t.1).wf = true) (hnew : ts.any (fun x => x.1 == t.1) = false) : Calls Try.prog 21 #[ifc g, .iface 59 (.agg #[.int .i64 t.1, .int .i64 t.2])] w fun e w' => e = .returned (.tuple #[]) ∧ PuR ts t g mb v w w' := by
  have H := Lib.hid h
  have HH := Lib.hid hh
  have HL := Lib.hid hlen
  clear h hh hlen
  have hmN := hmN g
  have hmP := hmP g
  go_enter Try.func21, Try.ntmps21
  go_wp2_with fail
  refine (push_any g mb v D ts w t H.out HL.out hw hnew).mono ?_
  rintro e w1 ⟨rfl, v1, D1, hp, hv⟩
  have HP := Lib.hid hp
  have HV := Lib.hid hv
  clear hp hv
  go_wp2_with fail
  refine (len_any g mb v1 D1 (ts ++ [t]) w1 HP.out).mono ?_
  rintro e w' ⟨rfl, rfl⟩
  have e1 : (ts ++ [t]).length = ts.length + 1 := by simp
  have hwn : wrap64 (ts.length : Int) = (ts.length : Int) := by have := HL.out; exact wrap_in (by omega) (by omega)
  rw [e1]
  clear e1
  go_wp2_with fail
  refine (up_any g mb ts.length (ts.length + 1) v1 D1 (ts ++ [t]) w1 HP.out (UpI.app HH.out t) (by omega) (by simp)).mono ?_
  rintro e w2 ⟨rfl, D2, ts2, h1, h2, h3, h4⟩
  have H3 := Lib.hid (show PuR ts t g mb v w w2 from ⟨v1, D2, ts2, h1, HV.out.trans h2, h3.1, by have := h3.2.1; simp at this; rw [this]; exact h4⟩)
  clear h1 h2 h3 h4
  go_wp2_with fail
  go_end0
  exact ⟨rfl, H3.out⟩
end Go.Proofs.Ytjhcengdaclihaa
