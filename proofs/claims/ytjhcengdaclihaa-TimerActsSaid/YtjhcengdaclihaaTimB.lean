/- The contract of the pile's Swap. No condition. -/
import Derived.Test.YtjhcengdaclihaaTim
import Derived.Deep.RegionHeld3
namespace Go.Proofs.Ytjhcengdaclihaa
open Go.RowKit
set_option linter.unusedVariables false
set_option linter.unusedSimpArgs false
open Go.Maps
theorem has_cell {w : World} {r n cap j : Nat} {e : TypeId} {size : Nat} {xs : List Value} (h : w.ownsRow 0 e size (.slice (some ⟨r, 0, none⟩) n cap) n xs) (hj : j < xs.length) : ∃ z, w.cell? ⟨r, j, none⟩ = some z := by
  rcases h.2 with ⟨h', _⟩ | ⟨g', cap', cur, h', hb, hg, hnc, hcm, hcs, htake⟩
  · cases h'
  · injection h' with e1 _ e2
    injection e1 with e1
    injection e1 with e1
    subst e1 e2
    rw [cell_of_row w r j cur _ _ hg]
    have hlen : j < cur.size := by
      have h1 := h.1
      have h2 : n * size ≤ cap * size := Nat.mul_le_mul_right _ hnc
      omega
    exact ⟨_, Array.getElem?_eq_getElem hlen⟩
theorem _root_.Go.World.grownBy.trans' {a w w' : World} {row : Option Nat} (h : a.grownBy w row) (hb : w.grownBy w' row) : a.grownBy w' row :=
  ⟨hb.os.trans h.os, hb.tape.trans h.tape, hb.output.trans h.output, Nat.le_trans h.size hb.size, fun i hi hne => (hb.block i (Nat.lt_of_lt_of_le hi h.size) hne).trans (h.block i hi hne)⟩
def swp (ts : List Tm) (i k : Nat) (x y : Tm) : List Tm := (ts.set i y).set k x
theorem swp_len (ts : List Tm) (i k : Nat) (x y : Tm) : (swp ts i k x y).length = ts.length := by unfold swp; simp
theorem swp_cells {ts : List Tm} {i k : Nat} {x y : Tm} (hi : i < ts.length) (hk : k < ts.length) : tmC (swp ts i k x y) = (((((tmC ts).set (i * 2) (.int .i64 y.1)).set (i * 2 + 1) (.int .i64 y.2)).set (k * 2) (.int .i64 x.1)).set (k * 2 + 1) (.int .i64 x.2)) := by
  unfold swp
  rw [tmC_set _ (by simpa using hk), tmC_set _ hi]
theorem swp_at {ts : List Tm} {i k : Nat} {x y : Tm} (hx : ts[i]? = some x) (hy : ts[k]? = some y) : (swp ts i k x y)[i]? = some y ∧ (swp ts i k x y)[k]? = some x := by
  have hi := (List.getElem?_eq_some_iff.1 hx).1
  have hk := (List.getElem?_eq_some_iff.1 hy).1
  unfold swp
  constructor
  · rw [List.getElem?_set]
    split
    · rename_i e
      subst e
      rw [hx] at hy
      obtain rfl := Option.some.inj hy
      simp; omega
    · rw [List.getElem?_set]; simp; omega
  · rw [List.getElem?_set]; simp; omega
def SwS (g mb r i k : Nat) (v : Value) (x y : Tm) (W : World) : Prop := W.cell? ⟨g, 0, none⟩ = some v ∧ W.cell? ⟨g, 1, none⟩ = some (.map (some mb)) ∧ W.cell? ⟨r, i * 2, none⟩ = some (.int .i64 y.1) ∧ W.cell? ⟨r, k * 2, none⟩ = some (.int .i64 x.1)
theorem SwS.grown {g mb r i k : Nat} {v : Value} {x y : Tm} {W W' : World} (h : SwS g mb r i k v x y W) (hg : W.grownBy W' (some mb)) (h1 : g ≠ mb) (h2 : r ≠ mb) : SwS g mb r i k v x y W' := by
  obtain ⟨a0, a1, a2, a3⟩ := h
  have e : ∀ b o u, b ≠ mb → W.cell? ⟨b, o, none⟩ = some u → W'.cell? ⟨b, o, none⟩ = some u := by
    intro b o u hb hc
    have hlt : b < W.heap.size := by
      unfold World.cell? at hc
      cases hh : W.heap[b]? with
      | none => simp [hh] at hc
      | some ob => exact (Array.getElem?_eq_some_iff.1 hh).1
    rw [← hc]
    unfold World.cell?
    rw [hg.block b hlt (by simpa using hb)]
  exact ⟨e _ _ _ h1 a0, e _ _ _ h1 a1, e _ _ _ h2 a2, e _ _ _ h2 a3⟩
theorem swp_get {ts : List Tm} {i k : Nat} {x y : Tm} (hi : i < ts.length) (hk : k < ts.length) (j : Nat) : (swp ts i k x y)[j]? = if j = k then some x else if j = i then some y else ts[j]? := by
  unfold swp
  rw [List.getElem?_set, List.getElem?_set]
  by_cases e1 : k = j
  · subst e1; simp [hk]
  · rw [if_neg e1, if_neg (Ne.symm e1)]
    by_cases e2 : i = j
    · subst e2; simp [hi]
    · rw [if_neg e2, if_neg (Ne.symm e2)]
theorem _root_.Go.World.ownsRow.kept' {w w' : World} {base r n cap size b : Nat} {e : TypeId} {xs : List Value} (h : w.ownsRow base e size (.slice (some ⟨r, 0, none⟩) n cap) n xs) (hg : w.grownBy w' (some b)) (hb : r ≠ b) : w'.ownsRow base e size (.slice (some ⟨r, 0, none⟩) n cap) n xs := by
  refine ⟨h.1, ?_⟩
  rcases h.2 with ⟨h', _⟩ | ⟨g', cap', cur, h', hb', hg', r'⟩
  · cases h'
  · refine .inr ⟨g', cap', cur, h', hb', ?_, r'⟩
    injection h' with e1 _ _
    injection e1 with e1
    injection e1 with e1
    subst e1
    exact (hg.block r (Array.getElem?_eq_some_iff.1 hg').1 (by simpa using hb)).trans hg'
theorem swap_mid {w w1 : World} {g mb r i k cap : Nat} {D : DU} {ts : List Tm} {x y : Tm} (h : PileAt w g mb (.slice (some ⟨r, 0, none⟩) ts.length cap) D ts) (hrg : r ≠ g) (hrm : r ≠ mb)
    (hr : w1.ownsRow 0 59 2 (.slice (some ⟨r, 0, none⟩) ts.length cap) ts.length (tmC (swp ts i k x y))) (hg : w.grownBy w1 (some r)) (n1 : (swp ts i k x y)[i]? = some y) (n2 : (swp ts i k x y)[k]? = some x) (hx : ts[i]? = some x) (hy : ts[k]? = some y) :
    w1.cell? ⟨g, 0, none⟩ = some (.slice (some ⟨r, 0, none⟩) ts.length cap) ∧ w1.cell? ⟨g, 1, none⟩ = some (.map (some mb)) ∧ w1.cell? ⟨r, i * 2, none⟩ = some (.int .i64 y.1) ∧ w1.cell? ⟨r, k * 2, none⟩ = some (.int .i64 x.1) ∧
    (∃ (s : Nat) (v : Value) (w2 w3 : World), (Instr.mapEntry 51 (.map (some mb)) (.int .i64 y.1)).run Try.prog w1.drew.drew = .ok (.tuple #[v, .int .i64 (s : Int)]) w2 ∧ (Instr.entryStore 51 (.map (some mb)) (.int .i64 (s : Int)) (.int .i64 (i : Int))).run Try.prog w2 = .ok () w3 ∧ w3.ownsMap Try.prog 3 intR mb (Maps.size D + 1) (D.put (keyD y.1) (.lit (.int .i64 (i : Int)))) ∧ w1.drew.drew.grownBy w3 (some mb) ∧ w1.drew.drew.grownBy w2 (some mb)) ∧
    (∀ W, W.ownsMap Try.prog 3 intR mb (Maps.size D + 1) (D.put (keyD y.1) (.lit (.int .i64 (i : Int)))) → ∃ (s : Nat) (v : Value) (w2 w3 : World), (Instr.mapEntry 51 (.map (some mb)) (.int .i64 x.1)).run Try.prog W = .ok (.tuple #[v, .int .i64 (s : Int)]) w2 ∧ (Instr.entryStore 51 (.map (some mb)) (.int .i64 (s : Int)) (.int .i64 (k : Int))).run Try.prog w2 = .ok () w3 ∧ w3.ownsMap Try.prog 3 intR mb (Maps.size D + 1 + 1) ((D.put (keyD y.1) (.lit (.int .i64 (i : Int)))).put (keyD x.1) (.lit (.int .i64 (k : Int)))) ∧ W.grownBy w3 (some mb) ∧ W.grownBy w2 (some mb)) ∧ i < ts.length ∧ k < ts.length := by
  have hi := (List.getElem?_eq_some_iff.1 hx).1
  have hk := (List.getElem?_eq_some_iff.1 hy).1
  have hle := h.le
  have hsz := h.ok.size
  have hb : Blk w1 g _ _ := h.blk.grown hg (by simpa using hrg.symm)
  have hm := h.map_.kept hg (by simpa using hrm.symm)
  have cells : ∀ (j : Nat) (t : Tm), (swp ts i k x y)[j]? = some t → w1.cell? ⟨r, j * 2, none⟩ = some (.int .i64 t.1) := by
    intro j t ht
    have hj := (List.getElem?_eq_some_iff.1 ht).1
    rw [swp_len] at hj
    rw [hr.cellAt (j * 2) (by omega), (tmC_at ht).1]
  have hwx := h.ok.wf x (List.mem_of_getElem? hx)
  have hwy := h.ok.wf y (List.mem_of_getElem? hy)
  have hz : ∀ W : World, (zeroValue 3).run Try.prog W = .ok (.int .i64 0) W := fun W => by kernel_rfl
  have wfn : ∀ n : Nat, n < 256 → (Lit.int .i64 (n : Int)).wf = true := fun n hn => WalkArith.wf_i64 (by omega)
  refine ⟨hb.cell 0, hb.cell 1, cells i y n1, cells k x n2, ?_, fun W hW => ?_, hi, hk⟩
  · exact entry_pair (w := w1.drew.drew) hm.drew.drew lawK Try.underlying51 (hz _) (by rw [hsz]; unfold maxLen; omega) (keyOf_int_mk Try.underlying3 hwy) (plainElem_int Try.underlying3 (wfn i (by omega)))
  · exact entry_pair hW lawK Try.underlying51 (hz _) (by rw [hsz]; unfold maxLen; omega) (keyOf_int_mk Try.underlying3 hwx) (plainElem_int Try.underlying3 (wfn k (by omega)))
theorem key_ne {a b : Int} (h : a ≠ b) : keyD a ≠ keyD b := by
  intro e
  injection e with _ e2
  exact h e2
theorem PlaceOk.ids {D : DU} {ts : List Tm} (h : PlaceOk D ts) {i k : Nat} {x y : Tm} (hx : ts[i]? = some x) (hy : ts[k]? = some y) (he : x.1 = y.1) : i = k := by
  have h1 := h.at_ i x hx
  have h2 := h.at_ k y hy
  rw [he, h2] at h1
  injection h1 with h1
  injection h1 with _ h1
  omega
theorem swap_ok {D : DU} {ts : List Tm} {i k : Nat} {x y : Tm} (h : PlaceOk D ts) (hx : ts[i]? = some x) (hy : ts[k]? = some y) : PlaceOk ((D.put (keyD y.1) (.lit (.int .i64 (i : Int)))).put (keyD x.1) (.lit (.int .i64 (k : Int)))) (swp ts i k x y) := by
  have hi := (List.getElem?_eq_some_iff.1 hx).1
  have hk := (List.getElem?_eq_some_iff.1 hy).1
  obtain ⟨n1, n2⟩ := swp_at hx hy
  have K : ∀ z : Int, WideAt.IsKeyLit (keyD z) := fun z => trivial
  have hany : ∀ (j : Nat) (t : Tm), ts[j]? = some t → Maps.has D (keyD t.1) = true := fun j t ht => by
    rw [h.has]
    exact List.any_eq_true.2 ⟨t, List.mem_of_getElem? ht, by simp⟩
  have t1 := h.tidy.put (K y.1) (.lit (.int .i64 (i : Int)))
  have hmem : ∀ t, t ∈ swp ts i k x y ↔ t ∈ ts := by
    intro t
    rw [List.mem_iff_getElem?, List.mem_iff_getElem?]
    constructor
    · rintro ⟨j, hj⟩
      rw [swp_get hi hk] at hj
      split at hj
      · obtain rfl := Option.some.inj hj; exact ⟨i, hx⟩
      · split at hj
        · obtain rfl := Option.some.inj hj; exact ⟨k, hy⟩
        · exact ⟨j, hj⟩
    · rintro ⟨j, hj⟩
      by_cases e1 : j = i
      · subst e1
        rw [hx] at hj
        obtain rfl := Option.some.inj hj
        exact ⟨k, n2⟩
      · by_cases e2 : j = k
        · subst e2
          rw [hy] at hj
          obtain rfl := Option.some.inj hj
          exact ⟨i, n1⟩
        · exact ⟨j, by rw [swp_get hi hk, if_neg e2, if_neg e1]; exact hj⟩
  refine ⟨t1.put (K x.1) _, ?_, fun id => ?_, fun j t ht => ?_, fun t ht => h.wf t ((hmem t).1 ht)⟩
  · rw [size_put t1, size_put h.tidy, swp_len, hany k y hy]
    have hh : Maps.has (D.put (keyD y.1) (.lit (.int .i64 (i : Int)))) (keyD x.1) = true := by
      by_cases e : x.1 = y.1
      · rw [e, has_put_same h.tidy.isMap (K _)]
      · rw [has_put_other (key_ne e)]; exact hany i x hx
    rw [hh]
    exact h.size
  · have e1 : Maps.has ((D.put (keyD y.1) (.lit (.int .i64 (i : Int)))).put (keyD x.1) (.lit (.int .i64 (k : Int)))) (keyD id) = Maps.has D (keyD id) := by
      by_cases e : id = x.1
      · subst e
        rw [has_put_same t1.isMap (K _), hany i x hx]
      · rw [has_put_other (key_ne e)]
        by_cases e2 : id = y.1
        · subst e2
          rw [has_put_same h.tidy.isMap (K _), hany k y hy]
        · rw [has_put_other (key_ne e2)]
    rw [e1, h.has, Bool.eq_iff_iff, List.any_eq_true, List.any_eq_true]
    constructor
    · rintro ⟨t, ht, he⟩; exact ⟨t, (hmem t).2 ht, he⟩
    · rintro ⟨t, ht, he⟩; exact ⟨t, (hmem t).1 ht, he⟩
  · rw [swp_get hi hk] at ht
    split at ht
    · rename_i e
      obtain rfl := Option.some.inj ht
      subst e
      rw [atKey_put_same t1.isMap (K _)]
    · rename_i e
      split at ht
      · rename_i e2
        have e0 := Option.some.inj ht
        have hne : y.1 ≠ x.1 := fun he => e (e2.trans (h.ids hy hx he).symm)
        rw [← e0, e2, atKey_put_other (key_ne hne), atKey_put_same h.tidy.isMap (K _)]
      · rename_i e2
        have hne : t.1 ≠ x.1 := fun he => e2 (h.ids ht hx he)
        have hne2 : t.1 ≠ y.1 := fun he => e (h.ids ht hy he)
        rw [atKey_put_other (key_ne hne), atKey_put_other (key_ne hne2)]
        exact h.at_ j t ht
theorem swap_fin {w w1 w3 w5 : World} {g mb r i k cap : Nat} {D : DU} {ts : List Tm} {x y : Tm} (h : PileAt w g mb (.slice (some ⟨r, 0, none⟩) ts.length cap) D ts) (hrg : r ≠ g) (hrm : r ≠ mb)
    (hr : w1.ownsRow 0 59 2 (.slice (some ⟨r, 0, none⟩) ts.length cap) ts.length (tmC (swp ts i k x y))) (hg : w.grownBy w1 (some r)) (hx : ts[i]? = some x) (hy : ts[k]? = some y)
    (e4 : w1.drew.drew.grownBy w3 (some mb)) (f3 : w5.ownsMap Try.prog 3 intR mb (Maps.size D + 1 + 1) ((D.put (keyD y.1) (.lit (.int .i64 (i : Int)))).put (keyD x.1) (.lit (.int .i64 (k : Int))))) (f4 : w3.grownBy w5 (some mb)) :
    ∃ D', PileAt w5 g mb (.slice (some ⟨r, 0, none⟩) ts.length cap) D' (swp ts i k x y) ∧ Mv w w5 g mb (.slice (some ⟨r, 0, none⟩) ts.length cap) (.slice (some ⟨r, 0, none⟩) ts.length cap) := by
  have hg2 : w1.grownBy w5 (some mb) := ⟨f4.os.trans e4.os, f4.tape.trans e4.tape, f4.output.trans e4.output, Nat.le_trans e4.size f4.size, fun q hq hn => (f4.block q (Nat.lt_of_lt_of_le hq e4.size) hn).trans (e4.block q hq hn)⟩
  have ok := swap_ok h.ok hx hy
  have hblk := h.blk.grown hg (by simpa using hrg.symm)
  refine ⟨_, ⟨hblk.grown hg2 (by simpa using h.gm), ?_, shrink f3, ok, by rw [swp_len]; exact h.le⟩, ⟨⟨hg2.os.trans hg.os, hg2.tape.trans hg.tape, hg2.output.trans hg.output, Nat.le_trans hg.size hg2.size, fun q hq g1 g2 g3 => (hg2.block q (Nat.lt_of_lt_of_le hq hg.size) (by simpa using g2)).trans (hg.block q hq (fun e => g3 e.symm))⟩, fun q hq => .inl hq⟩⟩
  rw [swp_len]
  exact hr.kept' hg2 hrm
set_option maxRecDepth 100000 in
theorem swap_any (g mb i k : Nat) (v : Value) (D : DU) (ts : List Tm) (w : World) (x y : Tm) (h : PileAt w g mb v D ts) (hx : ts[i]? = some x) (hy : ts[k]? = some y) : Calls Try.prog 46 #[.pointer (some ⟨g, 0, none⟩), .int .i64 (i : Int), .int .i64 (k : Int)] w fun e w' => e = .returned (.tuple #[]) ∧ ∃ D', PileAt w' g mb v D' (swp ts i k x y) ∧ Mv w w' g mb v v := by
  have hi := (List.getElem?_eq_some_iff.1 hx).1
  have hk := (List.getElem?_eq_some_iff.1 hy).1
  obtain ⟨r, cap, hv, hcap, hcells, hfr, hrg, hrm, hrl⟩ := h.open_ (by omega)
  have hrow := h.row
  subst hv
  have c0 : w.cell? ⟨g, 0, none⟩ = some (.slice (some ⟨r, 0, none⟩) ts.length cap) := h.blk.cell 0
  have c1 : w.cell? ⟨g, 1, none⟩ = some (.map (some mb)) := h.blk.cell 1
  obtain ⟨x0, x1⟩ := hcells i x hx
  obtain ⟨y0, y1⟩ := hcells k y hy
  have i1 : (i : Int) < (ts.length : Int) := by omega
  have k1 : (k : Int) < (ts.length : Int) := by omega
  have hs1 := hrow.stored (i * 2) (.int .i64 y.1)
  have hs2 := hs1.1.stored (i * 2 + 1) (.int .i64 y.2)
  have hs3 := hs2.1.stored (k * 2) (.int .i64 x.1)
  have hs4 := hs3.1.stored (k * 2 + 1) (.int .i64 x.2)
  obtain ⟨z0, t0⟩ := has_cell hs1.1 (j := k * 2) (by simp [tmC_len]; omega)
  obtain ⟨z1, t1⟩ := has_cell hs2.1 (j := k * 2 + 1) (by simp [tmC_len]; omega)
  have HR := Lib.hid (show _ ∧ _ from ⟨hs4.1, (((hs1.2.trans' hs2.2).trans' hs3.2).trans' hs4.2)⟩)
  have H := Lib.hid h
  clear h hcells hs1 hs2 hs3 hs4 hrow
  go_enter Try.func46, Try.ntmps46
  go_wp2_with fail
  go_region
  obtain ⟨w1, hw1⟩ : ∃ w1, w1 = ((((w.setCell ⟨r, i * 2, none⟩ (.int .i64 y.1)).setCell ⟨r, i * 2 + 1, none⟩ (.int .i64 y.2)).setCell ⟨r, k * 2, none⟩ (.int .i64 x.1)).setCell ⟨r, k * 2 + 1, none⟩ (.int .i64 x.2)) := ⟨_, rfl⟩
  rw [← hw1]
  have hr := HR.out
  rw [← hw1] at hr
  obtain ⟨hr, hg1⟩ := hr
  clear HR c0 c1 x0 x1 y0 y1 t0 t1 hfr
  rw [← swp_cells hi hk] at hr
  obtain ⟨n1, n2⟩ := swp_at hx hy
  obtain ⟨a0, a1, a2, a3, a4, a5, hx1, hx2⟩ := swap_mid H.out hrg hrm hr hg1 n1 n2 hx hy
  obtain ⟨s1, v1, w2, w3, e1, e2, e3, e4, e5⟩ := a4
  obtain ⟨s2, v2, w4, w5, f1, f2, f3, f4, f5⟩ := a5 w3 e3
  clear a5
  have FIN := Lib.hid (swap_fin H.out hrg hrm hr hg1 hx hy e4 f3 f4)
  have hSS : ∀ W, SwS g mb r i k (.slice (some ⟨r, 0, none⟩) ts.length cap) x y W → ∀ W', W.grownBy W' (some mb) → SwS g mb r i k (.slice (some ⟨r, 0, none⟩) ts.length cap) x y W' := fun W h W' hg => h.grown hg H.out.gm hrm
  have S0 : SwS g mb r i k (.slice (some ⟨r, 0, none⟩) ts.length cap) x y w1.drew.drew := ⟨a0, a1, a2, a3⟩
  have S2 := Lib.hid (hSS _ S0 _ e5)
  have S3 := Lib.hid (hSS _ S0 _ e4)
  have S4 := Lib.hid (hSS _ S3.out _ f5)
  have S5 := Lib.hid (hSS _ S3.out _ f4)
  clear e3 e4 f3 f4 hw1 e5 f5 hSS a0 a1 a2 a3
  go_wp2_with fail
  refine wp_region_held_drew (S := SwS g mb r i k (.slice (some ⟨r, 0, none⟩) ts.length cap) x y) (by kernel_rfl) S0 (fun hHeld => ?_)
  (refine wpAnyH_take (i := 0) (oi := _) (v := ?v0) rfl (by kernel_rfl) (by kernel_rfl) (by kernel_rfl) (fun _ _ _ h => h) (Or.inl ⟨by kernel_rfl, ?y0⟩) (by assumption) ?_; rotate_left; (· (intro w hSw; obtain ⟨q0, q1, q2, q3⟩ := hSw; go_simp; try with_reducible rfl)); simp only [Act.put, List.setIfInBounds_toArray, List.set_cons_zero, List.set_cons_succ, List.getElem_toArray, List.getElem_cons_succ, List.getElem_cons_zero])
  (refine wpAnyH_take (i := 1) (oi := _) (v := ?v1) rfl (by kernel_rfl) (by kernel_rfl) (by kernel_rfl) (fun _ _ _ h => h) (Or.inl ⟨by kernel_rfl, ?y1⟩) (by assumption) ?_; rotate_left; (· (intro w hSw; obtain ⟨q0, q1, q2, q3⟩ := hSw; go_simp; try with_reducible rfl)); simp only [Act.put, List.setIfInBounds_toArray, List.set_cons_zero, List.set_cons_succ, List.getElem_toArray, List.getElem_cons_succ, List.getElem_cons_zero])
  (refine wpAnyH_take (i := 2) (oi := _) (v := ?v2) rfl (by kernel_rfl) (by kernel_rfl) (by kernel_rfl) (fun _ _ _ h => h) (Or.inl ⟨by kernel_rfl, ?y2⟩) (by assumption) ?_; rotate_left; (· (intro w hSw; obtain ⟨q0, q1, q2, q3⟩ := hSw; go_simp; try with_reducible rfl)); simp only [Act.put, List.setIfInBounds_toArray, List.set_cons_zero, List.set_cons_succ, List.getElem_toArray, List.getElem_cons_succ, List.getElem_cons_zero])
  (refine wpAnyH_take (i := 3) (oi := _) (v := ?v3) rfl (by kernel_rfl) (by kernel_rfl) (by kernel_rfl) (fun _ _ _ h => h) (Or.inl ⟨by kernel_rfl, ?y3⟩) (by assumption) ?_; rotate_left; (· (intro w hSw; obtain ⟨q0, q1, q2, q3⟩ := hSw; go_simp; try with_reducible rfl)); simp only [Act.put, List.setIfInBounds_toArray, List.set_cons_zero, List.set_cons_succ, List.getElem_toArray, List.getElem_cons_succ, List.getElem_cons_zero])
  (refine wpAnyH_take (i := 4) (oi := _) (v := ?v4) rfl (by kernel_rfl) (by kernel_rfl) (by kernel_rfl) (fun _ _ _ h => h) (Or.inl ⟨by kernel_rfl, ?y4⟩) (by assumption) ?_; rotate_left; (· (intro w hSw; obtain ⟨q0, q1, q2, q3⟩ := hSw; go_simp; try with_reducible rfl)); simp only [Act.put, List.setIfInBounds_toArray, List.set_cons_zero, List.set_cons_succ, List.getElem_toArray, List.getElem_cons_succ, List.getElem_cons_zero])
  (refine wpAnyH_take (i := 5) (oi := _) (v := ?v5) rfl (by kernel_rfl) (by kernel_rfl) (by kernel_rfl) (fun _ _ _ h => h) (Or.inl ⟨by kernel_rfl, ?y5⟩) (by assumption) ?_; rotate_left; (· (intro w hSw; obtain ⟨q0, q1, q2, q3⟩ := hSw; go_simp; try with_reducible rfl)); simp only [Act.put, List.setIfInBounds_toArray, List.set_cons_zero, List.set_cons_succ, List.getElem_toArray, List.getElem_cons_succ, List.getElem_cons_zero])
  (refine wpAnyH_take (i := 6) (oi := _) (v := ?v6) rfl (by kernel_rfl) (by kernel_rfl) (by kernel_rfl) (fun _ _ _ h => h) (Or.inl ⟨by kernel_rfl, ?y6⟩) (by assumption) ?_; rotate_left; (· (intro w hSw; obtain ⟨q0, q1, q2, q3⟩ := hSw; go_simp; try with_reducible rfl)); simp only [Act.put, List.setIfInBounds_toArray, List.set_cons_zero, List.set_cons_succ, List.getElem_toArray, List.getElem_cons_succ, List.getElem_cons_zero])
  (refine wpAnyH_take (i := 7) (oi := _) (v := ?v7) rfl (by kernel_rfl) (by kernel_rfl) (by kernel_rfl) (fun _ _ _ h => h) (Or.inl ⟨by kernel_rfl, ?y7⟩) (by assumption) ?_; rotate_left; (· (intro w hSw; obtain ⟨q0, q1, q2, q3⟩ := hSw; go_simp; try with_reducible rfl)); simp only [Act.put, List.setIfInBounds_toArray, List.set_cons_zero, List.set_cons_succ, List.getElem_toArray, List.getElem_cons_succ, List.getElem_cons_zero])
  (refine wpAnyH_take (i := 8) (oi := _) (v := ?v8) rfl (by kernel_rfl) (by kernel_rfl) (by kernel_rfl) (fun _ _ _ h => h) (Or.inl ⟨by kernel_rfl, ?y8⟩) (by assumption) ?_; rotate_left; (· (intro w hSw; obtain ⟨q0, q1, q2, q3⟩ := hSw; go_simp; try with_reducible rfl)); simp only [Act.put, List.setIfInBounds_toArray, List.set_cons_zero, List.set_cons_succ, List.getElem_toArray, List.getElem_cons_succ, List.getElem_cons_zero])
  (refine wpAnyH_take (i := 9) (oi := _) (v := ?v9) rfl (by kernel_rfl) (by kernel_rfl) (by kernel_rfl) (fun _ _ _ h => h) (Or.inl ⟨by kernel_rfl, ?y9⟩) (by assumption) ?_; rotate_left; (· (intro w hSw; obtain ⟨q0, q1, q2, q3⟩ := hSw; go_simp; try with_reducible rfl)); simp only [Act.put, List.setIfInBounds_toArray, List.set_cons_zero, List.set_cons_succ, List.getElem_toArray, List.getElem_cons_succ, List.getElem_cons_zero])
  (refine wpAnyH_take (i := 10) (oi := _) (v := ?v10) rfl (by kernel_rfl) (by kernel_rfl) (by kernel_rfl) (fun _ _ _ h => h) (Or.inl ⟨by kernel_rfl, ?y10⟩) (by assumption) ?_; rotate_left; (· (intro w hSw; obtain ⟨q0, q1, q2, q3⟩ := hSw; go_simp; try with_reducible rfl)); simp only [Act.put, List.setIfInBounds_toArray, List.set_cons_zero, List.set_cons_succ, List.getElem_toArray, List.getElem_cons_succ, List.getElem_cons_zero])
  (refine wpAnyH_take (i := 11) (oi := _) (v := ?v11) rfl (by kernel_rfl) (by kernel_rfl) (by kernel_rfl) (fun _ _ _ h => h) (Or.inl ⟨by kernel_rfl, ?y11⟩) (by assumption) ?_; rotate_left; (· (intro w hSw; obtain ⟨q0, q1, q2, q3⟩ := hSw; go_simp; try with_reducible rfl)); simp only [Act.put, List.setIfInBounds_toArray, List.set_cons_zero, List.set_cons_succ, List.getElem_toArray, List.getElem_cons_succ, List.getElem_cons_zero])
  (refine wpAnyH_take (i := 12) (oi := _) (v := ?v12) rfl (by kernel_rfl) (by kernel_rfl) (by kernel_rfl) (fun _ _ _ h => h) (Or.inl ⟨by kernel_rfl, ?y12⟩) (by assumption) ?_; rotate_left; (· (intro w hSw; obtain ⟨q0, q1, q2, q3⟩ := hSw; go_simp; try with_reducible rfl)); simp only [Act.put, List.setIfInBounds_toArray, List.set_cons_zero, List.set_cons_succ, List.getElem_toArray, List.getElem_cons_succ, List.getElem_cons_zero])
  (refine wpAnyH_take (i := 13) (oi := _) (v := ?v13) rfl (by kernel_rfl) (by kernel_rfl) (by kernel_rfl) (fun _ _ _ h => h) (Or.inl ⟨by kernel_rfl, ?y13⟩) (by assumption) ?_; rotate_left; (· (intro w hSw; obtain ⟨q0, q1, q2, q3⟩ := hSw; go_simp; try with_reducible rfl)); simp only [Act.put, List.setIfInBounds_toArray, List.set_cons_zero, List.set_cons_succ, List.getElem_toArray, List.getElem_cons_succ, List.getElem_cons_zero])
  (refine wpAnyH_take (i := 14) (oi := _) (v := ?v14) rfl (by kernel_rfl) (by kernel_rfl) (by kernel_rfl) (fun _ _ _ h => h) (Or.inl ⟨by kernel_rfl, ?y14⟩) (by assumption) ?_; rotate_left; (· (intro w hSw; obtain ⟨q0, q1, q2, q3⟩ := hSw; go_simp; try with_reducible rfl)); simp only [Act.put, List.setIfInBounds_toArray, List.set_cons_zero, List.set_cons_succ, List.getElem_toArray, List.getElem_cons_succ, List.getElem_cons_zero])
  (refine wpAnyH_take (i := 15) (oi := _) (v := ?v15) rfl (by kernel_rfl) (by kernel_rfl) (by kernel_rfl) (fun _ _ _ h => h) (Or.inl ⟨by kernel_rfl, ?y15⟩) (by assumption) ?_; rotate_left; (· (intro w hSw; obtain ⟨q0, q1, q2, q3⟩ := hSw; go_simp; try with_reducible rfl)); simp only [Act.put, List.setIfInBounds_toArray, List.set_cons_zero, List.set_cons_succ, List.getElem_toArray, List.getElem_cons_succ, List.getElem_cons_zero])
  (refine wpAnyH_take (i := 16) (oi := _) (v := ?v16) rfl (by kernel_rfl) (by kernel_rfl) (by kernel_rfl) (fun _ _ _ h => h) (Or.inl ⟨by kernel_rfl, ?y16⟩) (by assumption) ?_; rotate_left; (· (intro w hSw; obtain ⟨q0, q1, q2, q3⟩ := hSw; go_simp; try with_reducible rfl)); simp only [Act.put, List.setIfInBounds_toArray, List.set_cons_zero, List.set_cons_succ, List.getElem_toArray, List.getElem_cons_succ, List.getElem_cons_zero])
  (refine wpAnyH_take (i := 17) (oi := _) (v := ?v17) rfl (by kernel_rfl) (by kernel_rfl) (by kernel_rfl) (fun _ _ _ h => h) (Or.inl ⟨by kernel_rfl, ?y17⟩) (by assumption) ?_; rotate_left; (· (intro w hSw; obtain ⟨q0, q1, q2, q3⟩ := hSw; go_simp; try with_reducible rfl)); simp only [Act.put, List.setIfInBounds_toArray, List.set_cons_zero, List.set_cons_succ, List.getElem_toArray, List.getElem_cons_succ, List.getElem_cons_zero])
  (refine wpAnyH_take (i := 18) (oi := _) (v := ?v18) rfl (by kernel_rfl) (by kernel_rfl) (by kernel_rfl) (fun _ _ _ h => h) (Or.inl ⟨by kernel_rfl, ?y18⟩) (by assumption) ?_; rotate_left; (· (intro w hSw; obtain ⟨q0, q1, q2, q3⟩ := hSw; go_simp; try with_reducible rfl)); simp only [Act.put, List.setIfInBounds_toArray, List.set_cons_zero, List.set_cons_succ, List.getElem_toArray, List.getElem_cons_succ, List.getElem_cons_zero])
  (refine wpAnyH_take (i := 19) (oi := _) (v := ?v19) rfl (by kernel_rfl) (by kernel_rfl) (by kernel_rfl) (fun _ _ _ h => h) (Or.inl ⟨by kernel_rfl, ?y19⟩) (by assumption) ?_; rotate_left; (· (intro w hSw; obtain ⟨q0, q1, q2, q3⟩ := hSw; go_simp; try with_reducible rfl)); simp only [Act.put, List.setIfInBounds_toArray, List.set_cons_zero, List.set_cons_succ, List.getElem_toArray, List.getElem_cons_succ, List.getElem_cons_zero])
  (refine wpAnyH_take (i := 20) (oi := _) (v := ?v20) rfl (by kernel_rfl) (by kernel_rfl) (by kernel_rfl) (fun _ _ _ h => h) (Or.inl ⟨by kernel_rfl, ?y20⟩) (by assumption) ?_; rotate_left; (· (intro w hSw; obtain ⟨q0, q1, q2, q3⟩ := hSw; go_simp; try with_reducible rfl)); simp only [Act.put, List.setIfInBounds_toArray, List.set_cons_zero, List.set_cons_succ, List.getElem_toArray, List.getElem_cons_succ, List.getElem_cons_zero])
  (refine wpAnyH_take (i := 21) (oi := _) (v := ?v21) rfl (by kernel_rfl) (by kernel_rfl) (by kernel_rfl) (fun _ _ _ h => h) (Or.inl ⟨by kernel_rfl, ?y21⟩) (by assumption) ?_; rotate_left; (· (intro w hSw; obtain ⟨q0, q1, q2, q3⟩ := hSw; go_simp; try with_reducible rfl)); simp only [Act.put, List.setIfInBounds_toArray, List.set_cons_zero, List.set_cons_succ, List.getElem_toArray, List.getElem_cons_succ, List.getElem_cons_zero])
  (refine wpAnyH_take (i := 22) (oi := _) (v := ?v22) rfl (by kernel_rfl) (by kernel_rfl) (by kernel_rfl) (fun _ _ _ h => h) (Or.inl ⟨by kernel_rfl, ?y22⟩) (by assumption) ?_; rotate_left; (· (intro w hSw; obtain ⟨q0, q1, q2, q3⟩ := hSw; go_simp; try with_reducible rfl)); simp only [Act.put, List.setIfInBounds_toArray, List.set_cons_zero, List.set_cons_succ, List.getElem_toArray, List.getElem_cons_succ, List.getElem_cons_zero])
  (refine wpAnyH_take (i := 23) (oi := _) (v := ?v23) rfl (by kernel_rfl) (by kernel_rfl) (by kernel_rfl) (fun _ _ _ h => h) (Or.inl ⟨by kernel_rfl, ?y23⟩) (by assumption) ?_; rotate_left; (· (intro w hSw; obtain ⟨q0, q1, q2, q3⟩ := hSw; go_simp; try with_reducible rfl)); simp only [Act.put, List.setIfInBounds_toArray, List.set_cons_zero, List.set_cons_succ, List.getElem_toArray, List.getElem_cons_succ, List.getElem_cons_zero])
  (refine wpAnyH_take (i := 24) (oi := _) (v := ?v24) rfl (by kernel_rfl) (by kernel_rfl) (by kernel_rfl) (fun _ _ _ h => h) (Or.inl ⟨by kernel_rfl, ?y24⟩) (by assumption) ?_; rotate_left; (· (intro w hSw; obtain ⟨q0, q1, q2, q3⟩ := hSw; go_simp; try with_reducible rfl)); simp only [Act.put, List.setIfInBounds_toArray, List.set_cons_zero, List.set_cons_succ, List.getElem_toArray, List.getElem_cons_succ, List.getElem_cons_zero])
  (refine wpAnyH_take (i := 25) (oi := _) (v := ?v25) rfl (by kernel_rfl) (by kernel_rfl) (by kernel_rfl) (fun _ _ _ h => h) (Or.inl ⟨by kernel_rfl, ?y25⟩) (by assumption) ?_; rotate_left; (· (intro w hSw; obtain ⟨q0, q1, q2, q3⟩ := hSw; go_simp; try with_reducible rfl)); simp only [Act.put, List.setIfInBounds_toArray, List.set_cons_zero, List.set_cons_succ, List.getElem_toArray, List.getElem_cons_succ, List.getElem_cons_zero])
  (refine wpAnyH_ready (rs := [26]) (by kernel_rfl) (by simp) ?_; refine AllReadyH.cons (o := _) rfl (fun K hK => ?_) AllReadyH.nil; rw [if_pos (by kernel_rfl)])
  go_simp
  (refine hK.out _ _ ?_ (fun hHeld => ?_))
  · exact S2.out
  clear hK
  (refine wpAnyH_ready (rs := [27]) (by kernel_rfl) (by simp) ?_; refine AllReadyH.cons (o := _) rfl (fun K hK => ?_) AllReadyH.nil; rw [if_pos (by kernel_rfl)])
  go_simp
  (refine hK.out _ _ ?_ (fun hHeld => ?_))
  · exact S2.out
  clear hK
  (refine wpAnyH_ready (rs := [28]) (by kernel_rfl) (by simp) ?_; refine AllReadyH.cons (o := _) rfl (fun K hK => ?_) AllReadyH.nil; rw [if_pos (by kernel_rfl)])
  go_simp
  (refine hK.out _ _ ?_ (fun hHeld => ?_))
  · exact S3.out
  clear hK
  (refine wpAnyH_ready (rs := [29]) (by kernel_rfl) (by simp) ?_; refine AllReadyH.cons (o := _) rfl (fun K hK => ?_) AllReadyH.nil; rw [if_pos (by kernel_rfl)])
  go_simp
  (refine hK.out _ _ ?_ (fun hHeld => ?_))
  · exact S4.out
  clear hK
  (refine wpAnyH_ready (rs := [30]) (by kernel_rfl) (by simp) ?_; refine AllReadyH.cons (o := _) rfl (fun K hK => ?_) AllReadyH.nil; rw [if_pos (by kernel_rfl)])
  go_simp
  (refine hK.out _ _ ?_ (fun hHeld => ?_))
  · exact S4.out
  clear hK
  (refine wpAnyH_ready (rs := [31]) (by kernel_rfl) (by simp) ?_; refine AllReadyH.cons (o := _) rfl (fun K hK => ?_) AllReadyH.nil; rw [if_pos (by kernel_rfl)])
  go_simp
  (refine hK.out _ _ ?_ (fun hHeld => ?_))
  · exact S5.out
  clear hK
  (refine wpAnyH_done (by kernel_rfl) ?_ _)
  go_wp2_with fail
  go_end0
  exact ⟨rfl, FIN.out⟩
end Go.Proofs.Ytjhcengdaclihaa
