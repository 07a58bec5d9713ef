/- The contract of the pile's Pop. No condition. -/
import Derived.Test.YtjhcengdaclihaaTimQ
namespace Go.Proofs.Ytjhcengdaclihaa
open Go.RowKit
set_option linter.unusedVariables false
set_option linter.unusedSimpArgs false
open Go.Maps
theorem own_cut {w : World} {r n cap m : Nat} {xs : List Value} {e : TypeId} {size : Nat} (h : w.ownsRow 0 e size (.slice (some ⟨r, 0, none⟩) n cap) n xs) (hm : m ≤ n) : w.ownsRow 0 e size (.slice (some ⟨r, 0, none⟩) m cap) m (xs.take (m * size)) := by
  have hl := h.1
  have hmn : m * size ≤ n * size := Nat.mul_le_mul_right _ hm
  refine ⟨by rw [List.length_take]; omega, ?_⟩
  rcases h.2 with ⟨h', _⟩ | ⟨r', cap', cur, h', hq, hh, hnc, hcm, hcs, htk⟩
  · cases h'
  · injection h' with e1 _ e2
    injection e1 with e1
    injection e1 with e1
    subst e1 e2
    refine .inr ⟨_, _, cur, rfl, hq, hh, Nat.le_trans hm hnc, hcm, hcs, ?_⟩
    rw [← htk, List.take_take, Nat.min_eq_left hmn]
theorem pop_ok {D : DU} {ts : List Tm} {t : Tm} (h : PlaceOk D (ts ++ [t])) : PlaceOk (D.del (keyD t.1)) ts := by
  have hat : (ts ++ [t])[ts.length]? = some t := by simp
  have hno : ∀ x ∈ ts, x.1 ≠ t.1 := fun x hx e => by
    obtain ⟨i, hi⟩ := List.mem_iff_getElem?.1 hx
    have hil := (List.getElem?_eq_some_iff.1 hi).1
    have := h.ids (by rw [List.getElem?_append_left hil]; exact hi) hat e
    omega
  have hh : Maps.has D (keyD t.1) = true := by rw [h.has]; exact List.any_eq_true.2 ⟨t, by simp, by simp⟩
  refine ⟨h.tidy.del _, ?_, fun id => ?_, fun j x hx => ?_, fun x hx => h.wf x (by simp [hx])⟩
  · have := size_del h.tidy (k := keyD t.1)
    rw [hh, h.size] at this
    simp at this
    exact this
  · by_cases e : id = t.1
    · subst e
      rw [has_del_same]
      symm
      rw [List.any_eq_false]
      intro x hx
      simp [hno x hx]
    · rw [has_del_other (key_ne e), h.has, List.any_append]
      simp [Ne.symm e]
  · have hjl := (List.getElem?_eq_some_iff.1 hx).1
    rw [atKey_del_other (key_ne (hno x (List.mem_of_getElem? hx)))]
    exact h.at_ j x (by rw [List.getElem?_append_left hjl]; exact hx)
theorem place_del {w : World} {mb : Nat} {D : DU} (h : w.ownsMap Try.prog 3 intR mb (Maps.size D) D) {c : Int} (hc : (Lit.int .i64 c).wf = true) (ty : TypeId) :
    ∃ w', (Builtin.delete_ #[51, 3] ty #[.map (some mb), .int .i64 c]).run Try.prog w = .ok (.tuple #[]) w' ∧ w'.ownsMap Try.prog 3 intR mb (Maps.size D) (D.del (keyD c)) ∧ w.grownBy w' (some mb) := by
  obtain ⟨w', h1, h2, h3⟩ := h.drop lawK Try.underlying51 (keyOf_int_mk Try.underlying3 hc) ty
  exact ⟨w', h1, h2, h3.grown⟩
/-- Behind the cut, ahead of the delete. -/
def PoA (w w2 : World) (g mb r cap b : Nat) (D : DU) (ts : List Tm) (t : Tm) : Prop :=
  Blk w2 g 56 #[.slice (some ⟨r, 0, none⟩) ts.length cap, .map (some mb)] ∧ w2.ownsRow 0 59 2 (.slice (some ⟨r, 0, none⟩) ts.length cap) ts.length (tmC ts) ∧ w2.ownsMap Try.prog 3 intR mb (Maps.size D) D ∧ Blk w2 b 59 #[.int .i64 t.1, .int .i64 t.2] ∧ Mv w w2 g mb (.slice (some ⟨r, 0, none⟩) (ts.length + 1) cap) (.slice (some ⟨r, 0, none⟩) ts.length cap)
theorem poA {w w1 : World} {g mb r cap b : Nat} {D : DU} {ts : List Tm} {t : Tm} (h : PileAt w1 g mb (.slice (some ⟨r, 0, none⟩) (ts.length + 1) cap) D (ts ++ [t])) (h0 : Below w.heap.size w w1) (hrg : r ≠ g) (hrm : r ≠ mb) (hb : Blk w1 b 59 #[.int .i64 t.1, .int .i64 t.2]) (hbg : b ≠ g) (hrl : r < w.heap.size) :
    PoA w (w1.setCell ⟨g, 0, none⟩ (.slice (some ⟨r, 0, none⟩) ts.length cap)) g mb r cap b D ts t := by
  have hrow := h.row
  have e1 : (ts ++ [t]).length = ts.length + 1 := by simp
  rw [e1] at hrow
  have hc := own_cut hrow (m := ts.length) (by omega)
  have e2 : (tmC (ts ++ [t])).take (ts.length * 2) = tmC ts := by rw [← tmC_take]; simp
  rw [e2] at hc
  refine ⟨by simpa using h.blk.set_ 0 _, ?_, World.ownsMap.setCell h.map_ (by simpa using h.gm.symm) _, hb.far (by simpa using hbg) _, ⟨⟨h0.os, h0.tape, h0.output, by simpa using h0.size, fun i hi n1 n2 n3 => ?_⟩, fun q hq => .inl hq⟩⟩
  · refine ⟨hc.1, ?_⟩
    rcases hc.2 with ⟨h', _⟩ | ⟨r', cap', cur, h', hq, hh, r''⟩
    · cases h'
    · refine .inr ⟨r', cap', cur, h', hq, ?_, r''⟩
      injection h' with e1 _ _
      injection e1 with e1
      injection e1 with e1
      subst e1
      exact (Below.heap_setCell w1 ⟨g, 0, none⟩ _ r hrg).trans hh
  · exact (Below.heap_setCell w1 ⟨g, 0, none⟩ _ i n1).trans (h0.block i hi)
theorem PoA.fin {w w2 w3 : World} {g mb r cap b : Nat} {D : DU} {ts : List Tm} {t : Tm} (h : PoA w w2 g mb r cap b D ts t) (ok : PlaceOk D (ts ++ [t])) (hgm : g ≠ mb) (hrm : r ≠ mb) (hle : ts.length ≤ 256) (hm : w3.ownsMap Try.prog 3 intR mb (Maps.size D) (D.del (keyD t.1))) (hg : w2.drew.grownBy w3 (some mb)) :
    ∃ v' D', PileAt w3 g mb v' D' ts ∧ Mv w w3 g mb (.slice (some ⟨r, 0, none⟩) (ts.length + 1) cap) v' := by
  obtain ⟨h1, h2, -, -, h4⟩ := h
  refine ⟨_, _, ⟨h1.drew.grown hg (by simpa using hgm), World.ownsRow.kept' (w := w2.drew) h2 hg hrm, shrink hm, pop_ok ok, hle⟩, h4.trans ⟨⟨hg.os, hg.tape, hg.output, hg.size, fun i hi n1 n2 n3 => hg.block i hi (by simpa using n2)⟩, fun q hq => .inl hq⟩⟩
theorem PoA.far {w w2 w3 : World} {g mb r cap b : Nat} {D : DU} {ts : List Tm} {t : Tm} (h : PoA w w2 g mb r cap b D ts t) (hbm : b ≠ mb) (hg : w2.drew.grownBy w3 (some mb)) : Blk w3 b 59 #[.int .i64 t.1, .int .i64 t.2] := h.2.2.2.1.drew.grown hg (by simpa using hbm)
set_option maxRecDepth 100000 in
theorem pop_any (g mb : Nat) (v : Value) (D : DU) (ts : List Tm) (w : World) (t : Tm) (h : PileAt w g mb v D (ts ++ [t])) : Calls Try.prog 44 #[.pointer (some ⟨g, 0, none⟩)] w fun e w' => e = .returned (.iface 59 (.agg #[.int .i64 t.1, .int .i64 t.2])) ∧ ∃ v' D', PileAt w' g mb v' D' ts ∧ Mv w w' g mb v v' := by
  obtain ⟨r, cap, hv, hcap, hcells, hfr, hrg, hrm, hrl⟩ := h.open_ (by simp)
  subst hv
  have hle := h.le
  have hw := h.ok.wf t (by simp)
  have e1 : (ts ++ [t]).length = ts.length + 1 := by simp
  have hrow := h.row
  rw [e1] at hle hcap hrow
  have hn : wrap64 (ts.length : Int) = (ts.length : Int) := wrap_in (by omega) (by omega)
  have hn2 : IntKind.i64.wrap (ts.length : Int) = (ts.length : Int) := IntWalk.i64_in _ (by omega)
  have hi : (ts.length : Int) < (ts.length : Int) + 1 := by omega
  have hc1 : (ts.length : Int) ≤ (cap : Int) := by omega
  have hc2 : ts.length ≤ cap := by omega
  obtain ⟨x0, x1⟩ := hcells ts.length t (by simp)
  have c0 : w.cell? ⟨g, 0, none⟩ = some (.slice (some ⟨r, 0, none⟩) (ts ++ [t]).length cap) := h.blk.cell 0
  have c1 : w.cell? ⟨g, 1, none⟩ = some (.map (some mb)) := h.blk.cell 1
  have hgl := h.blk.lt
  have hgf := h.blk.frozen
  rw [e1] at c0
  have HW := Lib.hid hw
  have HR := Lib.hid hrow
  have HF := Lib.hid hfr
  have H := Lib.hid h
  clear h hcells hfr hw e1 hle hcap hrow
  go_enter Try.func44, Try.ntmps44
  go_wp2_with fail
  go_region
  obtain ⟨b, hb⟩ : ∃ b, b = w.heap.size := ⟨_, rfl⟩
  have hbel : Below w.heap.size w ((w.alloc (.cells #[.int .i64 t.1, .int .i64 t.2] 59)).drew) := ((Below.refl w.heap.size w).alloc (Nat.le_refl _) _).drew
  have hbb : Blk ((w.alloc (.cells #[.int .i64 t.1, .int .i64 t.2] 59)).drew) w.heap.size 59 #[.int .i64 t.1, .int .i64 t.2] := (Blk.new _ _ _).drew
  rw [← hb] at hbb ⊢
  have H0 := Lib.hid H.out
  have hml := World.ownsMap.lt H.out.map_
  have hbg : b ≠ g := by omega
  have hbm : b ≠ mb := by omega
  have h1 := H.out.keep hbel
  generalize (w.alloc (.cells #[.int .i64 t.1, .int .i64 t.2] 59)).drew = w1 at *
  have e1 : (ts ++ [t]).length = ts.length + 1 := by simp
  rw [e1] at h1
  have PA := Lib.hid (poA h1 hbel hrg hrm hbb hbg hrl)
  have c0 : w1.cell? ⟨g, 0, none⟩ = some (.slice (some ⟨r, 0, none⟩) (ts.length + 1) cap) := h1.blk.cell 0
  have hgf := h1.blk.frozen
  clear h1 hbb hbel hgl hml x0 x1 hrl
  go_wp2_with fail
  go_region
  have PA2 : Hid (PoA w (w1.setCell ⟨g, 0, none⟩ (.slice (some ⟨r, 0, none⟩) ts.length cap)).drew g mb r cap b D ts t) := PA
  clear PA
  generalize (w1.setCell ⟨g, 0, none⟩ (.slice (some ⟨r, 0, none⟩) ts.length cap)).drew = w2 at *
  have c1 : w2.cell? ⟨g, 1, none⟩ = some (.map (some mb)) := PA2.out.1.cell 1
  have b0 : w2.cell? ⟨b, 0, none⟩ = some (.int .i64 t.1) := PA2.out.2.2.2.1.cell 0
  clear c0 hgf
  have hgm := H.out.gm
  have hle := H.out.le
  have ok := Lib.hid H.out.ok
  rw [e1] at hle
  clear e1 hb
  obtain ⟨w3, hdel, hm3, hg3⟩ := place_del (w := w2.drew) PA2.out.2.2.1 HW.out 0
  have hb3 := PA2.out.far hbm hg3
  have FIN := Lib.hid (PA2.out.fin ok.out hgm hrm (by omega) hm3 hg3)
  clear hm3 hg3 hle
  go_wp2_with fail
  go_region
  have d0 : w3.cell? ⟨b, 0, none⟩ = some (.int .i64 t.1) := hb3.cell 0
  have d1 : w3.cell? ⟨b, 1, none⟩ = some (.int .i64 t.2) := hb3.cell 1
  clear hdel
  go_wp2_with fail
  go_ret
  exact ⟨rfl, by simpa using FIN.out⟩
end Go.Proofs.Ytjhcengdaclihaa
