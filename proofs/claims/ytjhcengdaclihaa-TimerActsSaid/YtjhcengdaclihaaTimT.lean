/- New, and the contracts of Timers as a law sees them; awake. -/
import Derived.Test.YtjhcengdaclihaaTimV
import Derived.Test.YtjhcengdaclihaaNum
namespace Go.Proofs.Ytjhcengdaclihaa
open Go.RowKit
set_option linter.unusedVariables false
set_option linter.unusedSimpArgs false
open Go.Maps
theorem place_nil : PlaceOk (.map [] : DU) [] := ⟨tidy_empty, rfl, fun id => rfl, fun i t h => by simp at h, fun t h => by simp at h⟩
theorem heap_nil : Heap [] ([] : List Tm).length := fun c a b => by simp at b
structure TO (w0 w : World) (g mb : Nat) (v : Value) (S : List Tm) : Prop where
  ta : TA w g mb v S
  bel : Below w0.heap.size w0 w
  hg : w0.heap.size ≤ g
  hm : w0.heap.size ≤ mb
  hv : ∀ r, v.ownBlock = some r → w0.heap.size ≤ r
theorem TO.mv {w0 w w' : World} {g mb : Nat} {v v' : Value} {S S' : List Tm} (h : TO w0 w g mb v S) (ht : TA w' g mb v' S') (hm : Mv w w' g mb v v') : TO w0 w' g mb v' S' := by
  obtain ⟨⟨a1, a2, a3, a4, a5⟩, a6⟩ := hm
  have hs := h.bel.size
  refine ⟨ht, ⟨a1.trans h.bel.os, a2.trans h.bel.tape, a3.trans h.bel.output, Nat.le_trans h.bel.size a4, fun i hi => ?_⟩, h.hg, h.hm, fun r hr => ?_⟩
  · rw [a5 i (by omega) (by have := h.hg; omega) (by have := h.hm; omega) (fun e => by have := h.hv i e; omega)]
    exact h.bel.block i hi
  · rcases a6 r hr with e | e
    · exact h.hv r e
    · omega
theorem TO.keep {w0 w w' : World} {g mb : Nat} {v : Value} {S : List Tm} (h : TO w0 w g mb v S) (hb : Below w.heap.size w w') : TO w0 w' g mb v S := ⟨h.ta.keep hb, h.bel.trans (hb.mono h.bel.size), h.hg, h.hm, h.hv⟩
theorem new_to {w0 w : World} (hb : Below w0.heap.size w0 w) : Calls Try.prog 8 #[] w fun e w' => e = .returned (.pointer (some ⟨w.heap.size + 1, 0, none⟩)) ∧ TO w0 w' (w.heap.size + 1) w.heap.size (.slice none 0 0) [] ∧ Below w.heap.size w w' := by
  have hmm := @run_makeMap Try.prog
  have hblk : Blk ((w.alloc (.map #[] 0)).alloc (.cells #[.slice none 0 0, .map (some w.heap.size)] 56)) (w.heap.size + 1) 56 #[.slice none 0 0, .map (some w.heap.size)] := by
    have h := Blk.new (w.alloc (.map #[] 0)) 56 #[.slice none 0 0, .map (some w.heap.size)]
    have e : (w.alloc (.map #[] 0)).heap.size = w.heap.size + 1 := by simp
    rw [e] at h
    exact h
  have hbel : Below w.heap.size w ((w.alloc (.map #[] 0)).alloc (.cells #[.slice none 0 0, .map (some w.heap.size)] 56)) := ((Below.refl _ w).alloc (Nat.le_refl _) _).alloc (by simp) _
  have hsz := hb.size
  have H := Lib.hid (show TO w0 ((w.alloc (.map #[] 0)).alloc (.cells #[.slice none 0 0, .map (some w.heap.size)] 56)) (w.heap.size + 1) w.heap.size (.slice none 0 0) [] from
    ⟨⟨.map [], [], ⟨hblk, World.ownsRow_nil _ _ _ _, (World.ownsMap_made w _ _ _).alloc _, place_nil, by simp⟩, heap_nil, List.Perm.refl _, List.Pairwise.nil, List.Pairwise.nil⟩, hb.trans (hbel.mono hsz), by omega, hsz, by simp [Value.ownBlock]⟩)
  have HB := Lib.hid hbel
  clear hblk hbel
  go_enter Try.func8, Try.ntmps8
  go_wp2
  go_ret
  exact ⟨rfl, H.out, HB.out⟩
def setC (id at_ : Int) (S : List Tm) : Int := if id < 0 ∨ at_ < 0 then 1100 else if hasT id S = false ∧ 256 ≤ S.length then 1102 else 0
def setA (id at_ : Int) (S : List Tm) : List Tm := if setC id at_ S = 0 then setT id at_ S else S
theorem set_to {w0 w : World} {g mb : Nat} {v : Value} {S : List Tm} (id at_ : Int) (h : TO w0 w g mb v S) (hw : (Lit.int .i64 id).wf = true) : Calls Try.prog 9 #[.pointer (some ⟨g, 0, none⟩), .int .i64 id, .int .i64 at_] w fun e w' => e = .returned (.int .i64 (setC id at_ S)) ∧ ∃ v', TO w0 w' g mb v' (setA id at_ S) ∧ Mv w w' g mb v v' := by
  unfold setA setC
  by_cases h1 : id < 0 ∨ at_ < 0
  · rw [if_pos h1]
    refine (set_bad g mb v S id at_ w h.ta hw h1).mono ?_
    rintro e w' ⟨rfl, rfl⟩
    exact ⟨rfl, v, h, Mv.refl _ _ _ _⟩
  · rw [if_neg h1]
    have h2 : ¬ id < 0 := fun e => h1 (.inl e)
    have h3 : ¬ at_ < 0 := fun e => h1 (.inr e)
    cases hh : hasT id S with
    | true =>
      rw [if_neg (by simp)]
      refine (set_turn g mb v S id at_ w h.ta hw h2 h3 hh).mono ?_
      rintro e w' ⟨rfl, v', hq, hm⟩
      exact ⟨rfl, v', h.mv hq hm, hm⟩
    | false =>
      by_cases h4 : 256 ≤ S.length
      · rw [if_pos ⟨rfl, h4⟩]
        refine (set_full g mb v S id at_ w h.ta hw h2 h3 hh h4).mono ?_
        rintro e w' ⟨rfl, rfl⟩
        exact ⟨rfl, v, h, Mv.refl _ _ _ _⟩
      · rw [if_neg (fun e => h4 e.2)]
        refine (set_fresh g mb v S id at_ w h.ta hw h2 h3 hh (by omega)).mono ?_
        rintro e w' ⟨rfl, v', hq, hm⟩
        exact ⟨rfl, v', h.mv hq hm, hm⟩
def stopC (id : Int) (S : List Tm) : Int := if hasT id S = true then 0 else 1101
theorem stop_to {w0 w : World} {g mb : Nat} {v : Value} {S : List Tm} (id : Int) (h : TO w0 w g mb v S) (hw : (Lit.int .i64 id).wf = true) : Calls Try.prog 12 #[.pointer (some ⟨g, 0, none⟩), .int .i64 id] w fun e w' => e = .returned (.int .i64 (stopC id S)) ∧ ∃ v', TO w0 w' g mb v' (stopT id S) ∧ Mv w w' g mb v v' := by
  unfold stopC
  cases hh : hasT id S with
  | true =>
    refine (stop_ok g mb v S id w h.ta hw hh).mono ?_
    rintro e w' ⟨rfl, v', hq, hm⟩
    exact ⟨rfl, v', h.mv hq hm, hm⟩
  | false =>
    rw [stop_none hh]
    refine (stop_not g mb v S id w h.ta hw hh).mono ?_
    rintro e w' ⟨rfl, rfl⟩
    exact ⟨rfl, v, h, Mv.refl _ _ _ _⟩
theorem due_to {w0 w : World} {g mb : Nat} {v : Value} {S : List Tm} (now : Int) (h : TO w0 w g mb v S) : Calls Try.prog 14 #[.pointer (some ⟨g, 0, none⟩), .int .i64 now] w fun e w' => ∃ A cap, e = .returned (.slice A (dueL now S).length cap) ∧ w'.ownsRow w.heap.size 3 1 (.slice A (dueL now S).length cap) (dueL now S).length (intCells (dueL now S)) ∧ ∃ v', TO w0 w' g mb v' (restL now S) ∧ Mv w w' g mb v v' := by
  refine (due_any g mb v S now w h.ta).mono ?_
  rintro e w' ⟨u, rfl, v', h1, h2, h3⟩
  obtain ⟨A, cap, rfl⟩ := own_form h3
  exact ⟨A, cap, rfl, h3, v', h.mv h1 h2, h2⟩
theorem tlen_to {w0 w : World} {g mb : Nat} {v : Value} {S : List Tm} (h : TO w0 w g mb v S) : Calls Try.prog 18 #[.pointer (some ⟨g, 0, none⟩)] w fun e w' => e = .returned (.int .i64 (S.length : Int)) ∧ w = w' := tlen_any g mb v S w h.ta
theorem next_to {w0 w : World} {g mb : Nat} {v : Value} {x : Tm} {S : List Tm} (h : TO w0 w g mb v (x :: S)) : Calls Try.prog 17 #[.pointer (some ⟨g, 0, none⟩)] w fun e w' => e = .returned (.tuple #[.int .i64 x.1, .int .i64 x.2, .int .i64 0]) ∧ TO w0 w' g mb v (x :: S) ∧ Below w.heap.size w w' := by
  refine (next_some g mb v x S w h.ta).mono ?_
  rintro e w' ⟨rfl, m, rfl⟩
  have hb : Below w.heap.size w (w.drewN m) := below_drewN (Below.refl _ _) m
  exact ⟨rfl, h.keep hb, hb⟩
theorem next_to0 {w0 w : World} {g mb : Nat} {v : Value} (h : TO w0 w g mb v []) : Calls Try.prog 17 #[.pointer (some ⟨g, 0, none⟩)] w fun e w' => e = .returned (.tuple #[.int .i64 0, .int .i64 0, .int .i64 1101]) ∧ w = w' := next_none g mb v w h.ta
theorem IntsAt.made_at (w : World) (b : Nat) (hb : b = w.heap.size) (zs : List Int) (cs : Array Value) (t : TypeId) (n : Nat) (hn : zs.length = n) (h : cs.toList = intCells zs) : IntsAt (w.alloc (.cells cs t)) (some ⟨b, 0, none⟩) n zs := by
  subst hb
  refine ⟨hn, fun _ => ⟨w.heap.size, 0, rfl, by simp, fun j hj => ?_⟩⟩
  rw [cell_of_row _ _ _ _ _ _ (heap_alloc_new w (.cells cs t))]
  have a1 : (intCells zs)[j]? = some (.int .i64 zs[j]) := by unfold intCells; rw [List.getElem?_map, List.getElem?_eq_getElem hj]; rfl
  rw [← h] at a1
  simp only [Nat.zero_add]
  simpa using a1
end Go.Proofs.Ytjhcengdaclihaa
