/- The contracts of Timers.Set, Stop. No condition. -/
import Derived.Test.YtjhcengdaclihaaTimA
namespace Go.Proofs.Ytjhcengdaclihaa
open Go.RowKit
set_option linter.unusedVariables false
set_option linter.unusedSimpArgs false
open Go.Maps
theorem set_bad (g mb : Nat) (v : Value) (S : List Tm) (id at_ : Int) (w : World) (h : TA w g mb v S) (hw : (Lit.int .i64 id).wf = true) (hb : id < 0 ∨ at_ < 0) : Calls Try.prog 9 #[.pointer (some ⟨g, 0, none⟩), .int .i64 id, .int .i64 at_] w fun e w' => e = .returned (.int .i64 1100) ∧ w = w' := by
  obtain ⟨D, ts, hp, -⟩ := h
  have c1 : w.cell? ⟨g, 1, none⟩ = some (.map (some mb)) := hp.blk.cell 1
  obtain ⟨c, hl, -⟩ := place_look hp hw
  clear hp
  by_cases hid : id < 0
  · clear hb
    go_enter Try.func9, Try.ntmps9
    go_wp2
    go_ret
    exact ⟨rfl, rfl⟩
  · have hat : at_ < 0 := by omega
    clear hb
    go_enter Try.func9, Try.ntmps9
    go_wp2
    go_ret
    exact ⟨rfl, rfl⟩
set_option maxRecDepth 100000 in
theorem set_full (g mb : Nat) (v : Value) (S : List Tm) (id at_ : Int) (w : World) (h : TA w g mb v S) (hw : (Lit.int .i64 id).wf = true) (h1 : ¬ id < 0) (h2 : ¬ at_ < 0) (hn : hasT id S = false) (hfull : 256 ≤ S.length) : Calls Try.prog 9 #[.pointer (some ⟨g, 0, none⟩), .int .i64 id, .int .i64 at_] w fun e w' => e = .returned (.int .i64 1102) ∧ w = w' := by
  obtain ⟨D, ts, hp, -, hpm, -⟩ := h
  obtain ⟨A, cap, hv⟩ := own_form hp.row
  have el := hpm.length_eq
  have c0 : w.cell? ⟨g, 0, none⟩ = some (.slice A ts.length cap) := by rw [← hv]; exact hp.blk.cell 0
  have c1 : w.cell? ⟨g, 1, none⟩ = some (.map (some mb)) := hp.blk.cell 1
  obtain ⟨c, hl, -⟩ := place_look hp hw
  rw [has_perm id hpm, hn] at hl
  have h256 : (256 : Int) ≤ (ts.length : Int) := by omega
  clear hp hpm hv
  go_enter Try.func9, Try.ntmps9
  go_wp2
  go_ret
  exact ⟨rfl, rfl⟩
def SeR (g mb : Nat) (v : Value) (S' : List Tm) (w0 w : World) : Prop := ∃ v', TA w g mb v' S' ∧ Mv w0 w g mb v v'
set_option maxRecDepth 100000 in
theorem set_fresh (g mb : Nat) (v : Value) (S : List Tm) (id at_ : Int) (w : World) (h : TA w g mb v S) (hw : (Lit.int .i64 id).wf = true) (h1 : ¬ id < 0) (h2 : ¬ at_ < 0) (hn : hasT id S = false) (hfree : S.length < 256) : Calls Try.prog 9 #[.pointer (some ⟨g, 0, none⟩), .int .i64 id, .int .i64 at_] w fun e w' => e = .returned (.int .i64 0) ∧ SeR g mb v (setT id at_ S) w w' := by
  obtain ⟨D, ts, hp, hh, hpm, hs, hi⟩ := h
  obtain ⟨A, cap, hv⟩ := own_form hp.row
  have el := hpm.length_eq
  have c0 : w.cell? ⟨g, 0, none⟩ = some (.slice A ts.length cap) := by rw [← hv]; exact hp.blk.cell 0
  have c1 : w.cell? ⟨g, 1, none⟩ = some (.map (some mb)) := hp.blk.cell 1
  obtain ⟨c, hl, -⟩ := place_look hp hw
  rw [has_perm id hpm, hn] at hl
  have hlen : ts.length < 256 := by omega
  have hnt : ts.any (fun x => x.1 == id) = false := (has_perm id hpm).trans hn
  have h256 : ¬ (256 : Int) ≤ (ts.length : Int) := by omega
  have H := Lib.hid hp
  have HH := Lib.hid hh
  have HNT := Lib.hid hnt
  have HLEN := Lib.hid hlen
  have FIN := Lib.hid (fun (w' : World) (hq : PuR ts (id, at_) g mb v w w') => show SeR g mb v (setT id at_ S) w w' from by
    obtain ⟨v', D', ts', a1, a2, a3, a4⟩ := hq
    exact ⟨v', ⟨D', ts', a1, a4, set_new hpm hn a3, set_srt hs, set_ids hi⟩, a2⟩)
  clear hp hh hpm hs hi hv hnt hlen hn hfree el
  go_enter Try.func9, Try.ntmps9
  go_wp2_with fail
  refine (hpush_any g mb v D ts w (id, at_) H.out HH.out HLEN.out hw HNT.out).mono ?_
  rintro e w1 ⟨rfl, hq⟩
  have Q := Lib.hid (FIN.out w1 hq)
  clear hq
  go_wp2_with fail
  go_ret
  exact ⟨rfl, Q.out⟩
theorem turn_ok {D : DU} {ts : List Tm} {k : Nat} {x t : Tm} (h : PlaceOk D ts) (hx : ts[k]? = some x) (he : t.1 = x.1) : PlaceOk D (ts.set k t) := by
  have hk := (List.getElem?_eq_some_iff.1 hx).1
  have hm : (ts.set k t).map Prod.fst = ts.map Prod.fst := by
    apply List.ext_getElem?
    intro i
    rw [List.getElem?_map, List.getElem?_map, List.getElem?_set]
    by_cases e : k = i
    · subst e; rw [if_pos rfl, if_pos hk, hx]; simp [he]
    · rw [if_neg e]
  have hany : ∀ (l : List Tm) (id : Int), l.any (fun t => t.1 == id) = (l.map Prod.fst).any (fun q => q == id) := fun l id => by
    rw [List.any_map]; rfl
  refine ⟨h.tidy, by rw [List.length_set]; exact h.size, fun id => ?_, fun i y hy => ?_, fun y hy => ?_⟩
  · rw [h.has, hany, hany, hm]
  · rw [List.getElem?_set] at hy
    split at hy
    · rename_i e
      obtain rfl := Option.some.inj hy
      subst e
      rw [he]
      exact h.at_ k x hx
    · exact h.at_ i y hy
  · rcases List.mem_or_eq_of_mem_set hy with hy | rfl
    · exact h.wf y hy
    · rw [he]; exact h.wf x (List.mem_of_getElem? hx)
theorem turn_pile {w : World} {g mb r cap k : Nat} {D : DU} {ts : List Tm} {x : Tm} (at_ : Int) (h : PileAt w g mb (.slice (some ⟨r, 0, none⟩) ts.length cap) D ts) (hrg : r ≠ g) (hrm : r ≠ mb) (hx : ts[k]? = some x) :
    PileAt (w.setCell ⟨r, k * 2 + 1, none⟩ (.int .i64 at_)) g mb (.slice (some ⟨r, 0, none⟩) ts.length cap) D (ts.set k (x.1, at_)) ∧ Mv w (w.setCell ⟨r, k * 2 + 1, none⟩ (.int .i64 at_)) g mb (.slice (some ⟨r, 0, none⟩) ts.length cap) (.slice (some ⟨r, 0, none⟩) ts.length cap) := by
  have hk := (List.getElem?_eq_some_iff.1 hx).1
  have hs := h.row.stored (k * 2 + 1) (.int .i64 at_)
  have e1 : (tmC ts).set (k * 2) (.int .i64 x.1) = tmC ts := by
    have h1 := (tmC_at hx).1
    apply List.ext_getElem?
    intro i
    rw [List.getElem?_set]
    by_cases e : k * 2 = i
    · subst e; rw [if_pos rfl, h1, if_pos (List.getElem?_eq_some_iff.1 h1).1]
    · rw [if_neg e]
  have e2 : tmC (ts.set k (x.1, at_)) = (tmC ts).set (k * 2 + 1) (.int .i64 at_) := by rw [tmC_set _ hk, e1]
  refine ⟨⟨h.blk.grown hs.2 (by simpa using hrg.symm), ?_, h.map_.kept hs.2 (by simpa using hrm.symm), turn_ok h.ok hx rfl, by rw [List.length_set]; exact h.le⟩, ⟨⟨hs.2.os, hs.2.tape, hs.2.output, hs.2.size, fun i hi n1 n2 n3 => hs.2.block i hi (fun e => n3 e.symm)⟩, fun q hq => .inl hq⟩⟩
  rw [e2, List.length_set]
  exact hs.1
theorem el_turn {ts : List Tm} {k : Nat} (t : Tm) : ∀ c, c < ts.length → c ≠ k → el (ts.set k t) c = el ts c := fun c _ hn => by
  unfold el
  rw [List.getD_eq_getElem?_getD, List.getD_eq_getElem?_getD, List.getElem?_set, if_neg (Ne.symm hn)]
set_option maxRecDepth 100000 in
theorem set_turn (g mb : Nat) (v : Value) (S : List Tm) (id at_ : Int) (w : World) (h : TA w g mb v S) (hw : (Lit.int .i64 id).wf = true) (h1 : ¬ id < 0) (h2 : ¬ at_ < 0) (hn : hasT id S = true) : Calls Try.prog 9 #[.pointer (some ⟨g, 0, none⟩), .int .i64 id, .int .i64 at_] w fun e w' => e = .returned (.int .i64 0) ∧ SeR g mb v (setT id at_ S) w w' := by
  obtain ⟨D, ts, hp, hh, hpm, hs, hi⟩ := h
  obtain ⟨c, hl, hk⟩ := place_look hp hw
  rw [has_perm id hpm, hn] at hl
  obtain ⟨k, x, rfl, hx, hxe⟩ := hk (by rw [has_perm id hpm]; exact hn)
  have hkl := (List.getElem?_eq_some_iff.1 hx).1
  obtain ⟨r, cap, hv, hcap, hcells, hfr, hrg, hrm, hrl⟩ := hp.open_ (by omega)
  subst hv
  have c0 : w.cell? ⟨g, 0, none⟩ = some (.slice (some ⟨r, 0, none⟩) ts.length cap) := hp.blk.cell 0
  have c1 : w.cell? ⟨g, 1, none⟩ = some (.map (some mb)) := hp.blk.cell 1
  obtain ⟨x0, x1⟩ := hcells k x hx
  have hkn : (k : Int) < (ts.length : Int) := by omega
  obtain ⟨hp2, hv2⟩ := turn_pile at_ hp hrg hrm hx
  have HP2 := Lib.hid hp2
  have HV2 := Lib.hid hv2
  have HD := Lib.hid (show DnI (ts.set k (x.1, at_)) ts.length k k from DnI.of hh (Nat.le_refl _) (el_turn _))
  have FIN := Lib.hid (fun (w1 w' : World) (hv1 : Mv w w1 g mb (.slice (some ⟨r, 0, none⟩) ts.length cap) (.slice (some ⟨r, 0, none⟩) ts.length cap)) (hq : HpR (ts.set k (x.1, at_)) ts.length g mb (.slice (some ⟨r, 0, none⟩) ts.length cap) w1 w') => show SeR g mb (.slice (some ⟨r, 0, none⟩) ts.length cap) (setT id at_ S) w w' from by
    obtain ⟨D', ts', a1, a2, a3, a4⟩ := hq
    have e : ts'.length = ts.length := by rw [a3.2.1, List.length_set]
    exact ⟨_, ⟨D', ts', a1, by rw [e]; exact a4, set_of hp.ok.uniq hpm hx hxe (by rw [← hxe]; exact a3.1), set_srt hs, set_ids hi⟩, hv1.trans a2⟩)
  clear hp hh hpm hs hi hcells hp2 hv2 hx hn hcap
  go_enter Try.func9, Try.ntmps9
  go_wp2_with fail
  generalize w.setCell ⟨r, k * 2 + 1, none⟩ (.int .i64 at_) = w1 at *
  refine (fix_any g mb k ts.length _ D _ w1 HP2.out HD.out (by simp) hkl).mono ?_
  rintro e w2 ⟨rfl, hq⟩
  have Q := Lib.hid (FIN.out w1 w2 HV2.out hq)
  clear hq c0 c1 x0 x1 hfr hl hk FIN HP2 HV2 HD
  go_wp2_with fail
  go_ret
  exact ⟨rfl, Q.out⟩
theorem stop_not (g mb : Nat) (v : Value) (S : List Tm) (id : Int) (w : World) (h : TA w g mb v S) (hw : (Lit.int .i64 id).wf = true) (hn : hasT id S = false) : Calls Try.prog 12 #[.pointer (some ⟨g, 0, none⟩), .int .i64 id] w fun e w' => e = .returned (.int .i64 1101) ∧ w = w' := by
  obtain ⟨D, ts, hp, -, hpm, -⟩ := h
  have c1 : w.cell? ⟨g, 1, none⟩ = some (.map (some mb)) := hp.blk.cell 1
  obtain ⟨c, hl, -⟩ := place_look hp hw
  rw [has_perm id hpm, hn] at hl
  clear hp hpm
  go_enter Try.func12, Try.ntmps12
  go_wp2
  go_ret
  exact ⟨rfl, rfl⟩
set_option maxRecDepth 100000 in
theorem stop_ok (g mb : Nat) (v : Value) (S : List Tm) (id : Int) (w : World) (h : TA w g mb v S) (hw : (Lit.int .i64 id).wf = true) (hn : hasT id S = true) : Calls Try.prog 12 #[.pointer (some ⟨g, 0, none⟩), .int .i64 id] w fun e w' => e = .returned (.int .i64 0) ∧ SeR g mb v (stopT id S) w w' := by
  obtain ⟨D, ts, hp, hh, hpm, hs, hi⟩ := h
  obtain ⟨c, hl, hk⟩ := place_look hp hw
  rw [has_perm id hpm, hn] at hl
  obtain ⟨k, x, rfl, hx, hxe⟩ := hk (by rw [has_perm id hpm]; exact hn)
  have hkl := (List.getElem?_eq_some_iff.1 hx).1
  have c1 : w.cell? ⟨g, 1, none⟩ = some (.map (some mb)) := hp.blk.cell 1
  have hex := el_of hx
  have H := Lib.hid hp
  have HH := Lib.hid hh
  have HL := Lib.hid (show ts.length = (ts.length - 1) + 1 by omega)
  have HK := Lib.hid (show k ≤ ts.length - 1 by omega)
  have FIN := Lib.hid (fun (w' : World) (hq : PoR ts (el ts k) g mb v w w') => show SeR g mb v (stopT id S) w w' from by
    obtain ⟨v', D', ts', a1, a2, a3, a4⟩ := hq
    rw [hex] at a3
    have e := rem_perm a3 hp.ok.uniq hpm
    rw [hxe] at e
    exact ⟨v', ⟨D', ts', a1, a4, e, stop_srt _ hs, stop_ids _ hi⟩, a2⟩)
  clear hp hh hpm hs hi hx hn hk hex hkl
  go_enter Try.func12, Try.ntmps12
  go_wp2_with fail
  refine (hrem_any g mb (ts.length - 1) k v D ts w H.out HH.out HL.out HK.out).mono ?_
  rintro e w2 ⟨rfl, hq⟩
  have Q := Lib.hid (FIN.out w2 hq)
  clear hq FIN H HH HL HK c1 hl
  go_wp2_with fail
  go_ret
  exact ⟨rfl, Q.out⟩
end Go.Proofs.Ytjhcengdaclihaa
