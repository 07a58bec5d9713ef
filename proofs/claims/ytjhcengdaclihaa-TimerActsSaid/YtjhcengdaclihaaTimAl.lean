/- TimerAll: two arrays beside the timers; plain facts. No condition. -/
import Derived.Test.YtjhcengdaclihaaTimPt
namespace Go.Proofs.Ytjhcengdaclihaa
open Go.RowKit
set_option linter.unusedVariables false
set_option linter.unusedSimpArgs false
open Go.Maps
/-- An array of 64 in a block of its own. -/
def IB (w : World) (b : Nat) (t : TypeId) (f : Nat → Value) : Prop := ∃ cs : Array Value, Blk w b t cs ∧ cs.size = 64 ∧ ∀ k, k < 64 → cs[k]? = some (f k)
theorem IB.cell {w : World} {b : Nat} {t : TypeId} {f : Nat → Value} (h : IB w b t f) {k : Nat} (hk : k < 64) : w.cell? ⟨b, k, none⟩ = some (f k) := by
  obtain ⟨cs, h1, -, h2⟩ := h
  rw [h1.cell k]
  exact h2 k hk
theorem IB.frozen {w : World} {b : Nat} {t : TypeId} {f : Nat → Value} (h : IB w b t f) (k : Nat) : w.frozen? ⟨b, k, none⟩ = false := by
  obtain ⟨cs, h1, -⟩ := h
  exact h1.frozen k
theorem IB.lt {w : World} {b : Nat} {t : TypeId} {f : Nat → Value} (h : IB w b t f) : b < w.heap.size := by
  obtain ⟨cs, h1, -⟩ := h
  exact h1.lt
theorem IB.set {w : World} {b : Nat} {t : TypeId} {f : Nat → Value} (h : IB w b t f) (k : Nat) (u : Value) : IB (w.setCell ⟨b, k, none⟩ u) b t (fun j => if j = k then u else f j) := by
  obtain ⟨cs, h1, h2, h3⟩ := h
  refine ⟨_, h1.set_ k u, by simpa using h2, fun j hj => ?_⟩
  rw [Array.getElem?_setIfInBounds]
  by_cases e : k = j
  · subst e
    simp [h2, hj]
  · rw [if_neg e, h3 j hj]
    show some (f j) = some (if j = k then u else f j)
    rw [if_neg (Ne.symm e)]
theorem IB.far {w : World} {b : Nat} {t : TypeId} {f : Nat → Value} (h : IB w b t f) {p : Addr} (hp : b ≠ p.block) (u : Value) : IB (w.setCell p u) b t f := by
  obtain ⟨cs, h1, h2⟩ := h
  exact ⟨cs, h1.far hp u, h2⟩
theorem IB.keep {w w' : World} {b : Nat} {t : TypeId} {f : Nat → Value} (h : IB w b t f) (hb : Below w.heap.size w w') : IB w' b t f := by
  obtain ⟨cs, h1, h2⟩ := h
  exact ⟨cs, h1.keep hb, h2⟩
theorem IB.apart {w : World} {g mb b : Nat} {t : TypeId} {f : Nat → Value} {v : Value} {D : DU} {ts : List Tm} (h : IB w b t f) (hp : PileAt w g mb v D ts) (h1 : t ≠ 56) (h2 : t ≠ 59) : b ≠ g ∧ b ≠ mb ∧ v.ownBlock ≠ some b := by
  obtain ⟨cs, hb, -⟩ := h
  unfold Blk at hb
  refine ⟨?_, ?_, fun e => ?_⟩
  · rintro rfl
    have h3 := hp.blk
    unfold Blk at h3
    rw [hb] at h3
    injection h3 with h3
    injection h3 with _ h4
    exact h1 h4
  · rintro rfl
    obtain ⟨es, c, hm, -⟩ := hp.map_
    rw [hb] at hm
    cases hm
  · rcases hp.row.2 with ⟨rfl, -⟩ | ⟨q, cap, cur, rfl, -, hh, -⟩
    · simp [Value.ownBlock] at e
    · simp only [Value.ownBlock, Option.map_some, Option.some.injEq] at e
      subst e
      rw [hb] at hh
      injection hh with h3
      injection h3 with _ h4
      exact h2 h4
theorem IB.mv {w0 w w' : World} {g mb b : Nat} {t : TypeId} {f : Nat → Value} {v v' : Value} {S : List Tm} (h : IB w b t f) (ht : TO w0 w g mb v S) (h1 : t ≠ 56) (h2 : t ≠ 59) (hm : Mv w w' g mb v v') : IB w' b t f := by
  obtain ⟨D, ts, hp, -⟩ := ht.ta
  obtain ⟨a1, a2, a3⟩ := h.apart hp h1 h2
  obtain ⟨cs, hb, hr⟩ := h
  exact ⟨cs, (hm.1.2.2.2.2 b hb.lt a1 a2 a3).trans hb, hr⟩
theorem TO.store {w0 w : World} {g mb b : Nat} {t : TypeId} {f : Nat → Value} {v : Value} {S : List Tm} (h : TO w0 w g mb v S) (hi : IB w b t f) (h1 : t ≠ 56) (h2 : t ≠ 59) (hb : w0.heap.size ≤ b) (k : Nat) (u : Value) : TO w0 (w.setCell ⟨b, k, none⟩ u) g mb v S := by
  obtain ⟨D, ts, hp, hr⟩ := h.ta
  obtain ⟨a1, a2, a3⟩ := hi.apart hp h1 h2
  refine ⟨⟨D, ts, hp.same (Below.heap_setCell w ⟨b, k, none⟩ u g (Ne.symm a1)) (Below.heap_setCell w ⟨b, k, none⟩ u mb (Ne.symm a2)) (fun r hr => Below.heap_setCell w ⟨b, k, none⟩ u r (fun e => a3 (by rw [← show r = b from e]; exact hr))), hr⟩, h.bel.setCell hb u, h.hg, h.hm, h.hv⟩
theorem IB.made (w : World) (t : TypeId) (z : Value) : IB (w.alloc (.cells (madeCells #[z] 64) t)) w.heap.size t (fun _ => z) := by
  refine ⟨_, Blk.new _ _ _, ?_, fun k hk => ?_⟩
  · have h := congrArg List.length (toList_madeCells_one z 64)
    simpa using h
  · rw [← Array.getElem?_toList, toList_madeCells_one, List.getElem?_replicate, if_pos hk]
theorem info_bool : (Try.prog.info? 4).map (fun i => (i.zero, i.size, i.bytes)) = some (some (.bool false), 1, 1) := by kernel_rfl
theorem run_mk64 (w : World) : (Instr.makeSlice 37 (.int .i64 64) (.int .i64 64)).run Try.prog w = .ok (.slice (some ⟨w.heap.size, 0, none⟩) 64 64) (w.alloc (.cells (madeCells #[.int .i64 0] 64) 3)) := by
  obtain ⟨i0, hi, hz0, hz1, hz2⟩ := info_parts info_int
  have h := run_make (P := Try.prog) w 37 3 i0 (.int .i64 0) Try.underlying37 hi hz0 .i64 .i64 64 64 (by omega) (by omega) (by rw [hz2]; omega) (by omega)
  rw [hz1] at h
  simpa [Value.cells] using h
theorem run_mkb64 (w : World) : (Instr.makeSlice 47 (.int .i64 64) (.int .i64 64)).run Try.prog w = .ok (.slice (some ⟨w.heap.size, 0, none⟩) 64 64) (w.alloc (.cells (madeCells #[.bool false] 64) 4)) := by
  obtain ⟨i0, hi, hz0, hz1, hz2⟩ := info_parts info_bool
  have h := run_make (P := Try.prog) w 47 4 i0 (.bool false) Try.underlying47 hi hz0 .i64 .i64 64 64 (by omega) (by omega) (by rw [hz2]; omega) (by omega)
  rw [hz1] at h
  simpa [Value.cells] using h
def cnt (p : Nat → Bool) : Nat → Nat
  | 0 => 0
  | n + 1 => cnt p n + (if p n = true then 1 else 0)
theorem cnt_le (p : Nat → Bool) (n : Nat) : cnt p n ≤ n := by
  induction n with
  | zero => exact Nat.le_refl _
  | succ n ih => unfold cnt; split <;> omega
theorem cnt_none {p : Nat → Bool} (n : Nat) (h : ∀ k, p k = false) : cnt p n = 0 := by
  induction n with
  | zero => rfl
  | succ n ih => unfold cnt; rw [ih, h n]; rfl
theorem cnt_one {p q : Nat → Bool} {j : Nat} (hq : ∀ k, q k = (decide (k = j) || p k)) (hj : p j = false) (n : Nat) : cnt q n = cnt p n + (if j < n then 1 else 0) := by
  induction n with
  | zero => simp [cnt]
  | succ n ih =>
    unfold cnt
    rw [ih, hq n]
    by_cases e : n = j
    · subst e
      rw [hj]
      simp
    · simp only [e, decide_false, Bool.false_or]
      by_cases e2 : j < n
      · rw [if_pos e2, if_pos (show j < n + 1 by omega)]; omega
      · rw [if_neg e2, if_neg (show ¬ j < n + 1 by omega)]; omega
def InR (S : List Tm) : Prop := ∀ x ∈ S, ∃ j : Nat, j < 64 ∧ x.1 = (j : Int)
theorem cnt_all {S : List Tm} (hr : InR S) (hi : Ids S) : cnt (fun k => hasT (k : Int) S) 64 = S.length := by
  induction S with
  | nil => exact cnt_none 64 (fun k => rfl)
  | cons x S ih =>
    obtain ⟨j, hj, hx⟩ := hr x (by simp)
    have hi' := List.pairwise_cons.1 hi
    have h1 := ih (fun y hy => hr y (by simp [hy])) hi'.2
    have h2 := cnt_one (p := fun k => hasT (k : Int) S) (q := fun k => hasT (k : Int) (x :: S)) (j := j) (fun k => by
      show ((x.1 == (k : Int)) || S.any _) = _
      rw [hx]
      have : ((j : Int) == (k : Int)) = decide (k = j) := by
        rw [Bool.eq_iff_iff]; simp; omega
      rw [this]
      rfl) (by
      show S.any _ = false
      rw [List.any_eq_false]
      intro y hy
      have := hi'.1 y hy
      rw [hx] at this
      simpa using Ne.symm this) 64
    rw [h2, h1, if_pos hj]
    rfl
end Go.Proofs.Ytjhcengdaclihaa
