/- The contracts of the pile's Push and Pop. No condition. -/
import Derived.Test.YtjhcengdaclihaaTimD
import Derived.Deep.AppendLies
import Derived.Deep.RegionLaw
namespace Go.Proofs.Ytjhcengdaclihaa
open Go.RowKit
set_option linter.unusedVariables false
set_option linter.unusedSimpArgs false
open Go.Maps
theorem info_tm : (Try.prog.info? 59).map (fun i => (i.zero, i.size, i.bytes)) = some (some (.agg #[.int .i64 0, .int .i64 0]), 2, 16) := by kernel_rfl
theorem place_put {w : World} {g mb : Nat} {v : Value} {D : DU} {ts : List Tm} (h : PileAt w g mb v D ts) {c : Int} (hc : (Lit.int .i64 c).wf = true) (n : Nat) (hn : n ≤ 256) :
    ∃ w', (Instr.mapUpdate 51 (.map (some mb)) (.int .i64 c) (.int .i64 (n : Int))).run Try.prog w = .ok () w' ∧ w'.ownsMap Try.prog 3 intR mb (Maps.size D + 1) (D.put (keyD c) (.lit (.int .i64 (n : Int)))) ∧ w.grownBy w' (some mb) := by
  have hsz := h.ok.size
  have hle := h.le
  exact h.map_.update lawK Try.underlying51 (by rw [hsz]; unfold maxLen; omega) (keyOf_int_mk Try.underlying3 hc) (plainElem_int Try.underlying3 (WalkArith.wf_i64 (by omega)))
theorem row2 {w1 w2 : World} {g mb : Nat} {v : Value} {D : DU} {ts : List Tm} (h : PileAt w1 g mb v D ts) (hg : w1.drew.grownBy w2 (some mb)) : w2.ownsRow 0 59 2 v ts.length (tmC ts) := by
  refine ⟨h.row.1, ?_⟩
  rcases h.row.2 with h' | ⟨r, cap, cur, rfl, hq, hh, r'⟩
  · exact .inl h'
  · refine .inr ⟨r, cap, cur, rfl, hq, ?_, r'⟩
    have hne : r ≠ mb := by
      rintro rfl
      obtain ⟨es, clock, hb, -⟩ := h.map_
      rw [hh] at hb
      cases hb
    exact (hg.block r (Array.getElem?_eq_some_iff.1 hh).1 (by simpa using hne)).trans hh
theorem PileAt.apart {w : World} {g mb : Nat} {v : Value} {D : DU} {ts : List Tm} (h : PileAt w g mb v D ts) : v.ownBlock ≠ some g ∧ v.ownBlock ≠ some mb ∧ ∀ r, v.ownBlock = some r → r < w.heap.size := by
  rcases h.row.2 with ⟨rfl, -⟩ | ⟨r, cap, cur, rfl, hq, hh, r'⟩
  · exact ⟨by simp [Value.ownBlock], by simp [Value.ownBlock], by simp [Value.ownBlock]⟩
  · have hl := (Array.getElem?_eq_some_iff.1 hh).1
    refine ⟨?_, ?_, ?_⟩
    · simp only [Value.ownBlock, Option.map_some, ne_eq, Option.some.injEq]
      rintro rfl
      have h2 := h.blk
      unfold Blk at h2
      rw [hh] at h2
      injection h2 with h3
      injection h3 with _ h4
      exact absurd h4 (by decide)
    · simp only [Value.ownBlock, Option.map_some, ne_eq, Option.some.injEq]
      rintro rfl
      obtain ⟨es, clock, hb, -⟩ := h.map_
      rw [hh] at hb
      cases hb
    · intro q hq
      simp only [Value.ownBlock, Option.map_some, Option.some.injEq] at hq
      omega
/-- Behind the entry in the map, ahead of the append. -/
def PuA (w1 w2 : World) (g mb b : Nat) (v : Value) (D D' : DU) (ts : List Tm) (t : Tm) : Prop :=
  PileAt w1 g mb v D ts ∧ w1.drew.grownBy w2 (some mb) ∧ w2.ownsMap Try.prog 3 intR mb (Maps.size D + 1) D' ∧ mb < b ∧ Blk w1 b 59 #[.int .i64 t.1, .int .i64 t.2]
theorem PuA.cells {w1 w2 : World} {g mb b : Nat} {v : Value} {D D' : DU} {ts : List Tm} {t : Tm} (h : PuA w1 w2 g mb b v D D' ts t) : w2.cell? ⟨g, 0, none⟩ = some v ∧ w2.cell? ⟨b, 0, none⟩ = some (.int .i64 t.1) ∧ w2.cell? ⟨b, 1, none⟩ = some (.int .i64 t.2) ∧ g < w2.heap.size := by
  obtain ⟨h1, h2, -, h3, h4⟩ := h
  have a := h1.blk.drew.grown h2 (by simpa using h1.gm)
  have c := h4.drew.grown h2 (by simp; omega)
  exact ⟨a.cell 0, c.cell 0, c.cell 1, a.lt⟩
theorem PuA.row {w1 w2 : World} {g mb b : Nat} {v : Value} {D D' : DU} {ts : List Tm} {t : Tm} (h : PuA w1 w2 g mb b v D D' ts t) : w2.ownsRow 0 59 2 v ts.length (tmC ts) := row2 h.1 h.2.1
theorem PuA.mid {w1 w2 : World} {g mb b : Nat} {v : Value} {D D' : DU} {ts : List Tm} {t : Tm} (h : PuA w1 w2 g mb b v D D' ts t) {X : Obj} {w3 : World} (hg : ((w2.alloc X).drew).grownBy w3 v.ownBlock) : w3.cell? ⟨g, 0, none⟩ = some v ∧ w3.frozen? ⟨g, 0, none⟩ = false := by
  obtain ⟨h1, h2, -, h3, h4⟩ := h
  have a := ((h1.blk.drew.grown h2 (by simpa using h1.gm)).alloc X).drew.grown hg h1.apart.1.symm
  exact ⟨a.cell 0, a.frozen 0⟩
theorem push_ok {D : DU} {ts : List Tm} (h : PlaceOk D ts) {t : Tm} (hw : (Lit.int .i64 t.1).wf = true) (hnew : ts.any (fun x => x.1 == t.1) = false) : PlaceOk (D.put (keyD t.1) (.lit (.int .i64 (ts.length : Int)))) (ts ++ [t]) := by
  have K : ∀ z : Int, WideAt.IsKeyLit (keyD z) := fun z => trivial
  have hh : Maps.has D (keyD t.1) = false := by rw [h.has, hnew]
  refine ⟨h.tidy.put (K _) _, ?_, fun id => ?_, fun j x hx => ?_, fun x hx => ?_⟩
  · rw [size_put h.tidy, hh]
    simp [h.size]
  · rw [List.any_append]
    by_cases e : id = t.1
    · subst e
      rw [has_put_same h.tidy.isMap (K _)]
      simp
    · rw [has_put_other (key_ne e), h.has]
      simp [Ne.symm e]
  · rw [List.getElem?_append] at hx
    split at hx
    · have hne : x.1 ≠ t.1 := fun e => by
        have : ts.any (fun x => x.1 == t.1) = true := List.any_eq_true.2 ⟨x, List.mem_of_getElem? hx, by simp [e]⟩
        rw [hnew] at this
        cases this
      rw [atKey_put_other (key_ne hne)]
      exact h.at_ j x hx
    · have hj : j - ts.length < 1 := (List.getElem?_eq_some_iff.1 hx).1
      have e : j = ts.length := by omega
      subst e
      simp at hx
      subst hx
      rw [atKey_put_same h.tidy.isMap (K _)]
  · rw [List.mem_append] at hx
    rcases hx with hx | hx
    · exact h.wf x hx
    · simp at hx; subst hx; exact hw
theorem PuA.fin {w w1 w2 : World} {g mb : Nat} {v : Value} {D : DU} {ts : List Tm} {t : Tm} (h : PuA w1 w2 g mb w.heap.size v D (D.put (keyD t.1) (.lit (.int .i64 (ts.length : Int)))) ts t) (h0 : Below w.heap.size w w1) (hp : PileAt w g mb v D ts) (hlen : ts.length < 256) (hw : (Lit.int .i64 t.1).wf = true) (hnew : ts.any (fun x => x.1 == t.1) = false) {X : Obj} {w3 : World} {gg cap H : Nat} (hH : H = w2.heap.size + 1)
    (hown : w3.ownsRow 0 59 2 (.slice (some ⟨gg, 0, none⟩) (ts.length + 1) cap) (ts.length + 1) (tmC ts ++ [.int .i64 t.1, .int .i64 t.2])) (hg : ((w2.alloc X).drew).grownBy w3 v.ownBlock) (hat : v.ownBlock = some gg ∨ gg = H) :
    ∃ v' D', PileAt (w3.setCell ⟨g, 0, none⟩ (.slice (some ⟨gg, 0, none⟩) (ts.length + 1) cap)) g mb v' D' (ts ++ [t]) ∧ Mv w (w3.setCell ⟨g, 0, none⟩ (.slice (some ⟨gg, 0, none⟩) (ts.length + 1) cap)) g mb v v' := by
  obtain ⟨h1, h2, hm, h3, h4⟩ := h
  have a := ((h1.blk.drew.grown h2 (by simpa using h1.gm)).alloc X).drew.grown hg h1.apart.1.symm
  have hsz2 : w1.heap.size ≤ w2.heap.size := h2.size
  have hsz1 : w.heap.size ≤ w1.heap.size := h0.size
  have hgl := hp.blk.lt
  have hggg : gg ≠ g := by
    rcases hat with e | e
    · intro e2; subst e2; exact hp.apart.1 e
    · omega
  have ok := push_ok hp.ok hw hnew
  have hsz3 : w2.heap.size + 1 ≤ w3.heap.size := by have := hg.size; simpa using this
  refine ⟨.slice (some ⟨gg, 0, none⟩) (ts.length + 1) cap, _, ⟨by simpa using a.set_ 0 _, ?_, ?_, ok, by simp; omega⟩, ⟨⟨?_, ?_, ?_, ?_, fun i hi n1 n2 n3 => ?_⟩, fun r hr => ?_⟩⟩
  · have e : tmC (ts ++ [t]) = tmC ts ++ [.int .i64 t.1, .int .i64 t.2] := by rw [tmC_app]; rfl
    rw [e]
    have e2 : (ts ++ [t]).length = ts.length + 1 := by simp
    rw [e2]
    refine ⟨hown.1, ?_⟩
    rcases hown.2 with ⟨h', _⟩ | ⟨r, cap', cur, h', hq, hh, r'⟩
    · cases h'
    · refine .inr ⟨r, cap', cur, h', hq, ?_, r'⟩
      injection h' with e1 _ _
      injection e1 with e1
      injection e1 with e1
      subst e1
      exact (Below.heap_setCell w3 ⟨g, 0, none⟩ _ gg hggg).trans hh
  · have hm2 := shrink (((World.ownsMap.alloc hm X).drew).kept hg hp.apart.2.1.symm)
    exact World.ownsMap.setCell hm2 (by simpa using hp.gm.symm) _
  · exact (hg.os).trans (h2.os.trans h0.os)
  · exact (hg.tape).trans (h2.tape.trans h0.tape)
  · exact (hg.output).trans (h2.output.trans h0.output)
  · simp; omega
  · rw [Below.heap_setCell w3 ⟨g, 0, none⟩ _ i n1]
    rw [hg.block i (by simp; omega) (fun e => n3 e.symm)]
    exact (Below.heap_alloc w2 X i (by omega)).trans ((h2.block i (by simp; omega) (by simpa using n2)).trans (h0.block i hi))
  · simp only [Value.ownBlock, Option.map_some, Option.some.injEq] at hr
    subst hr
    rcases hat with e | e
    · exact .inl e
    · right; omega
set_option maxRecDepth 100000 in
theorem push_any (g mb : Nat) (v : Value) (D : DU) (ts : List Tm) (w : World) (t : Tm) (h : PileAt w g mb v D ts) (hlen : ts.length < 256) (hw : (Lit.int .i64 t.1).wf = true) (hnew : ts.any (fun x => x.1 == t.1) = false) : Calls Try.prog 45 #[.pointer (some ⟨g, 0, none⟩), .iface 59 (.agg #[.int .i64 t.1, .int .i64 t.2])] w fun e w' => e = .returned (.tuple #[]) ∧ ∃ v' D', PileAt w' g mb v' D' (ts ++ [t]) ∧ Mv w w' g mb v v' := by
  obtain ⟨A, cap, hv⟩ := own_form h.row
  subst hv
  have hta : ∀ W : World, (Instr.typeAssert (.iface 59 (.agg #[.int .i64 t.1, .int .i64 t.2])) 20 59 true).run Try.prog W = .ok (.tuple #[.agg #[.int .i64 t.1, .int .i64 t.2], .bool true]) W := fun W => by kernel_rfl
  have h1 := h.keep ((Below.refl w.heap.size w).alloc (Nat.le_refl _) (.cells #[.int .i64 t.1, .int .i64 t.2] 59))
  have hb1 : Blk (w.alloc (.cells #[.int .i64 t.1, .int .i64 t.2] 59)) w.heap.size 59 #[.int .i64 t.1, .int .i64 t.2] := Blk.new _ _ _
  have hg1 : Below w.heap.size w (w.alloc (.cells #[.int .i64 t.1, .int .i64 t.2] 59)) := (Below.refl w.heap.size w).alloc (Nat.le_refl _) _
  have H := Lib.hid h
  have hmb := World.ownsMap.lt h.map_
  clear h
  go_enter Try.func45, Try.ntmps45
  go_wp2_with fail
  generalize w.alloc (.cells #[.int .i64 t.1, .int .i64 t.2] 59) = w1 at *
  obtain ⟨b, hb⟩ : ∃ b, b = w.heap.size := ⟨_, rfl⟩
  rw [← hb] at hmb hb1 hg1 ⊢
  have HMB := Lib.hid hmb
  have HB0 := Lib.hid hb
  clear hmb hb
  have c0 : w1.cell? ⟨g, 0, none⟩ = some (.slice A ts.length cap) := h1.blk.cell 0
  have c1 : w1.cell? ⟨g, 1, none⟩ = some (.map (some mb)) := h1.blk.cell 1
  have b0 : w1.cell? ⟨b, 0, none⟩ = some (.int .i64 t.1) := hb1.cell 0
  have b1 : w1.cell? ⟨b, 1, none⟩ = some (.int .i64 t.2) := hb1.cell 1
  have HG1 := Lib.hid hg1
  clear hg1
  have HD := h1.keep ((Below.refl w1.heap.size w1).drew)
  obtain ⟨w2, hup, hm2, hg2⟩ := place_put HD hw ts.length (by omega)
  have M2 := Lib.hid hm2
  have G2 := Lib.hid hg2
  have H1 := Lib.hid h1
  have HB1 := Lib.hid hb1
  clear hm2 hg2 h1 hb1 HD
  go_region
  have PU := Lib.hid (show PuA w1 w2 g mb b (.slice A ts.length cap) D _ ts t from ⟨H1.out, G2.out, M2.out, HMB.out, HB1.out⟩)
  obtain ⟨c0', b0', b1', hgw2⟩ := PU.out.cells
  have HR := Lib.hid PU.out.row
  have MID := Lib.hid (fun (X : Obj) (w3 : World) => PU.out.mid (X := X) (w3 := w3))
  obtain ⟨i0, hi, hz0, hz1, hz2⟩ := info_parts info_tm
  have HZ1 := Lib.hid hz1; have HZ2 := Lib.hid hz2; have HZ0 := Lib.hid hz0; have HI := Lib.hid hi
  clear c0 c1 b0 b1 hup hz1 hz2 hz0 hi
  go_wp2_with fail
  go_region_law (refine step_append_lies _ (by rfl) _ _ _ (by rfl) 0 59 i0 _ 2 16 Try.underlying52 HI.out HZ0.out HZ1.out HZ2.out rfl (by omega) (.slice A ts.length cap) ts.length (tmC ts) (by rfl) ((HR.out.alloc _).drew) ⟨w2.heap.size, 0, none⟩ 1 1 [.int .i64 t.1, .int .i64 t.2] (by rfl) (by rfl) (World.news_of_block (cs := #[.int .i64 t.1, .int .i64 t.2]) (t := 59) (fr := (0, 0)) (heap_alloc_new w2 _)) (by simp [Value.oneCell']) (by omega) (by unfold maxLen; omega) (by omega) (by omega) (w2.heap.size + 1) (by simp) ?_; intro gg cap2 w3 hown hgrow hat hlt2; obtain ⟨k0, k1⟩ := MID.out _ _ hgrow)
  all_goals
    go_wp2_with fail
    go_end0
    have e := HB0.out
    subst e
    exact ⟨rfl, PU.out.fin HG1.out H.out hlen hw hnew rfl hown hgrow hat⟩
end Go.Proofs.Ytjhcengdaclihaa
