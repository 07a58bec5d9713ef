/- The contracts of Timers.Len, Next, Set, Stop. No condition. -/
import Derived.Test.YtjhcengdaclihaaTimL
namespace Go.Proofs.Ytjhcengdaclihaa
open Go.RowKit
set_option linter.unusedVariables false
set_option linter.unusedSimpArgs false
open Go.Maps
theorem tlen_any (g mb : Nat) (v : Value) (S : List Tm) (w : World) (h : TA w g mb v S) : Calls Try.prog 18 #[.pointer (some ⟨g, 0, none⟩)] w fun e w' => e = .returned (.int .i64 (S.length : Int)) ∧ w = w' := by
  obtain ⟨D, ts, hp, -, hpm, -, -⟩ := h
  have el := hpm.length_eq
  obtain ⟨A, cap, hv⟩ := own_form hp.row
  have c0 : w.cell? ⟨g, 0, none⟩ = some (.slice A ts.length cap) := by rw [← hv]; exact hp.blk.cell 0
  rw [el] at c0
  clear hp hpm hv el
  go_enter Try.func18, Try.ntmps18
  go_wp2
  go_ret
  exact ⟨rfl, rfl⟩
theorem next_none (g mb : Nat) (v : Value) (w : World) (h : TA w g mb v []) : Calls Try.prog 17 #[.pointer (some ⟨g, 0, none⟩)] w fun e w' => e = .returned (.tuple #[.int .i64 0, .int .i64 0, .int .i64 1101]) ∧ w = w' := by
  obtain ⟨D, ts, hp, -, hpm, -, -⟩ := h
  have el := hpm.length_eq
  obtain ⟨A, cap, hv⟩ := own_form hp.row
  have c0 : w.cell? ⟨g, 0, none⟩ = some (.slice A ts.length cap) := by rw [← hv]; exact hp.blk.cell 0
  rw [el] at c0
  clear hp hpm hv el
  go_enter Try.func17, Try.ntmps17
  go_wp2
  refine bodyPost_ret (v := .tuple #[.int .i64 0, .int .i64 0, .int .i64 1101]) (by simp [results, Try.results17, go_sem]) rfl ?_
  exact ⟨rfl, rfl⟩
/-- The row of one that is not empty. -/
theorem TA.row {w : World} {g mb : Nat} {v : Value} {x : Tm} {S : List Tm} (h : TA w g mb v (x :: S)) : ∃ r cap, v = .slice (some ⟨r, 0, none⟩) (S.length + 1) cap ∧ w.cell? ⟨g, 0, none⟩ = some (.slice (some ⟨r, 0, none⟩) (S.length + 1) cap) ∧ w.cell? ⟨r, 0, none⟩ = some (.int .i64 x.1) ∧ w.cell? ⟨r, 1, none⟩ = some (.int .i64 x.2) := by
  obtain ⟨D, ts, hp, hh, hpm, hs, -⟩ := h
  have el := hpm.length_eq
  have e1 : (x :: S).length = S.length + 1 := rfl
  rw [e1] at el
  obtain ⟨r, cap, hv, -, hc, -⟩ := hp.open_ (by omega)
  have hx := head_ hh hpm hs
  obtain ⟨x0, x1⟩ := hc 0 x (by rw [← hx]; exact el_at (by omega))
  have c0 := hp.blk.cell 0
  rw [hv, el] at c0
  exact ⟨r, cap, by rw [hv, el], c0, by simpa using x0, by simpa using x1⟩
set_option maxRecDepth 100000 in
theorem next_some (g mb : Nat) (v : Value) (x : Tm) (S : List Tm) (w : World) (h : TA w g mb v (x :: S)) : Calls Try.prog 17 #[.pointer (some ⟨g, 0, none⟩)] w fun e w' => e = .returned (.tuple #[.int .i64 x.1, .int .i64 x.2, .int .i64 0]) ∧ ∃ m, w' = w.drewN m := by
  obtain ⟨r, cap, -, c0, x0, x1⟩ := h.row
  have hq : (((S.length + 1 : Nat) : Int) == 0) = false := by simp; omega
  have hi : (0 : Int) < ((S.length + 1 : Nat) : Int) := by omega
  clear h
  go_enter Try.func17, Try.ntmps17
  go_wp2_with fail
  go_quiet (fail)
  go_wp2_with fail
  refine bodyPost_ret (v := .tuple #[.int .i64 x.1, .int .i64 x.2, .int .i64 0]) (by simp [results, Try.results17, go_sem]) rfl ?_
  exact ⟨rfl, _, rfl⟩
theorem place_look {w : World} {g mb : Nat} {v : Value} {D : DU} {ts : List Tm} (h : PileAt w g mb v D ts) {id : Int} (hw : (Lit.int .i64 id).wf = true) :
    ∃ c : Int, (Instr.lookup 51 (.map (some mb)) (.int .i64 id) true).run Try.prog w = .ok (.tuple #[.int .i64 c, .bool (hasT id ts)]) w ∧ (hasT id ts = true → ∃ (k : Nat) (x : Tm), c = (k : Int) ∧ ts[k]? = some x ∧ x.1 = id) := by
  have hz : (zeroValue 3).run Try.prog w = .ok (.int .i64 0) w := by kernel_rfl
  obtain ⟨u, ps, h1, h2⟩ := h.map_.look_ok lawK Try.underlying51 hz (zd := zD) (zp := []) (plainElem_int Try.underlying3 (by decide)) (keyOf_int_mk Try.underlying3 hw)
  obtain ⟨c, rfl, hc, -⟩ := plainElem_int_inv Try.underlying3 h2
  have e : Maps.has D (.int .i64 id) = hasT id ts := h.ok.has id
  rw [e] at h1
  refine ⟨c, h1, fun hh => ?_⟩
  obtain ⟨x, hx, hxe⟩ := List.any_eq_true.1 hh
  have hxe : x.1 = id := by simpa using hxe
  obtain ⟨k, hk⟩ := List.mem_iff_getElem?.1 hx
  have ha := h.ok.at_ k x hk
  rw [hxe] at ha
  have hc2 : D.atKey (keyD id) zD = .lit (.int .i64 c) := (Prod.mk.inj hc).1
  rw [ha] at hc2
  injection hc2 with hc2
  injection hc2 with _ hc2
  exact ⟨k, x, hc2.symm, hk, hxe⟩
end Go.Proofs.Ytjhcengdaclihaa
