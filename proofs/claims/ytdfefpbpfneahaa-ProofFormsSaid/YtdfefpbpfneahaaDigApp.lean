/- A slice of bytes of the call's own whose row may bear a mark behind its end (what the conversion of a string leaves): one byte appended. No condition but memory's own limits. -/
import Derived.Test.YtdfefpbpfneahaaDigRefA
import Derived.Laws.IdiomStrings
namespace Go.Proofs.Ytdfefpbpfneahaa
open Go.RowKit
set_option linter.unusedVariables false
set_option linter.unusedSimpArgs false
def Own8 (w : World) (base : Nat) (v : Value) (n : Nat) (xs : List Value) : Prop :=
  xs.length = n ∧ ∃ g cap cur fz, v = .slice (some ⟨g, 0, none⟩) n cap ∧ base ≤ g ∧ w.heap[g]? = some (.cells cur 5 fz) ∧ (cur.size ≤ fz.1 ∨ fz.2 = 0) ∧ n ≤ cap ∧ cap ≤ maxLen ∧ cur.size = cap ∧ cur.toList.take n = xs
theorem Own8.lt {w : World} {base n : Nat} {v : Value} {xs : List Value} (h : Own8 w base v n xs) : ∀ k, v.ownBlock = some k → base ≤ k ∧ k < w.heap.size := by
  obtain ⟨_, g, cap, cur, fz, rfl, hb, hg, _⟩ := h
  intro k hk
  have : g = k := by simpa [Value.ownBlock] using hk
  subst this
  exact ⟨hb, (Array.getElem?_eq_some_iff.1 hg).1⟩
theorem Own8.keep {w w' : World} {base n : Nat} {v : Value} {xs : List Value} (h : Own8 w base v n xs) (hb : Below w.heap.size w w') : Own8 w' base v n xs := by
  obtain ⟨h1, g, cap, cur, fz, rfl, hbg, hg, r⟩ := h
  exact ⟨h1, g, cap, cur, fz, rfl, hbg, (hb.block g (Array.getElem?_eq_some_iff.1 hg).1).trans hg, r⟩
theorem Own8.grown {w w' : World} {base n : Nat} {v : Value} {xs : List Value} {row : Option Nat} (h : Own8 w base v n xs) (hb : w.grownBy w' row) (hne : v.ownBlock ≠ row) : Own8 w' base v n xs := by
  obtain ⟨h1, g, cap, cur, fz, rfl, hbg, hg, r⟩ := h
  exact ⟨h1, g, cap, cur, fz, rfl, hbg, (hb.block g (Array.getElem?_eq_some_iff.1 hg).1 hne).trans hg, r⟩
theorem Own8.cell {w : World} {base n : Nat} {v : Value} {xs : List Value} (h : Own8 w base v n xs) : ∃ g cap, v = .slice (some ⟨g, 0, none⟩) n cap ∧ g < w.heap.size ∧ base ≤ g ∧ n ≤ cap ∧ cap ≤ maxLen ∧ ∀ j u, xs[j]? = some u → w.cell? ⟨g, j, none⟩ = some u := by
  obtain ⟨h1, g, cap, cur, fz, rfl, hbg, hg, hf, hn, hm, hs, ht⟩ := h
  refine ⟨g, cap, rfl, (Array.getElem?_eq_some_iff.1 hg).1, hbg, hn, hm, fun j u hj => ?_⟩
  rw [cell_of_row w g j cur _ fz hg]
  rw [← ht, List.getElem?_take] at hj
  split at hj
  · simpa using hj
  · cases hj
theorem append8 (w : World) (base n : Nat) (v : Value) (xs : List Value) (y : Int) (ty : TypeId) (a : Addr) (c : Nat) (hown : Own8 w base v n xs) (hnew : w.cell? a = some (.int .u8 y)) (hn : n + 1 ≤ 140737488355328) (hbase : base ≤ w.heap.size) :
    ∃ v' w', (Builtin.append_ #[41, 41] ty #[v, .slice (some a) 1 c]).run Try.prog w = .ok v' w' ∧ Own8 w' base v' (n + 1) (xs ++ [.int .u8 y]) ∧ w.grownBy w' v.ownBlock := by
  obtain ⟨i, hi, hz0, hz1, hz2⟩ := info_parts info_u8
  obtain ⟨h1, g, cap, cur, fz, rfl, hbg, hg, hfz, hnc, hcm, hcs, htk⟩ := hown
  have hnews : ∀ j u, [Value.int .u8 y][j]? = some u → w.cell? (a.add j) = some u := by
    intro j u hj
    cases j with
    | zero => have : Value.int .u8 y = u := by simpa using hj
              subst this; simpa [Addr.add] using hnew
    | succ j => simp at hj
  by_cases hroom : n + 1 ≤ cap
  · have hcell : w.cell? ⟨g, n, none⟩ = some cur[n] := by rw [cell_of_row w g n cur _ fz hg, Array.getElem?_eq_getElem (by omega)]
    have hfro : w.frozen? ⟨g, n, none⟩ = false := by
      obtain ⟨lo, hi'⟩ := fz
      simp only [World.frozen?, hg, Bool.and_eq_false_iff, decide_eq_false_iff_not]
      simp only at hfz
      rcases hfz with h | h
      · left; omega
      · right; omega
    have hst : (storeCells ⟨g, n, none⟩ [Value.int .u8 y] 0).run Try.prog w = .ok () (w.setRow g (cur.setIfInBounds n (.int .u8 y))) := by
      have hs : (store (⟨g, n, none⟩ : Addr) (.int .u8 y)).run Try.prog w = .ok () (w.setRow g (cur.setIfInBounds n (.int .u8 y))) := by
        rw [run_store Try.prog w _ _ _ rfl, hcell]
        simp [hfro, setCell_eq_setRow w g n cur _ fz _ hg]
      have hadd : (⟨g, n, none⟩ : Addr).add 0 = ⟨g, n, none⟩ := by simp [Addr.add]
      simp only [storeCells, hadd, Sem.run_bind, hs, Result.andThen_ok]
      rfl
    have hf := run_firstCells_some (P := Try.prog) w i.size 1 a 1 c [Value.int .u8 y] (by rw [hz1]; rfl) hnews
    rw [hz1] at hf
    refine ⟨.slice (some ⟨g, 0, none⟩) (n + 1) cap, w.setRow g (cur.setIfInBounds n (.int .u8 y)), ?_, ⟨by simp [h1], g, cap, _, fz, rfl, hbg, setRow_heap w g cur _ _ fz hg, by simpa using hfz, hroom, hcm, by simpa using hcs, ?_⟩, ⟨rfl, rfl, rfl, by simp, fun k _ hk => setRow_other w g k _ (fun e => hk (by simp [Value.ownBlock, e]))⟩⟩
    · simp [Builtin.append_, run_underlying Try.underlying41, sizeOf, typeInfo, hi, Builtin.lenOf, hroom, hf, Addr.add_lit, hz1, hst]
    · rw [Array.toList_setIfInBounds, ← htk]
      apply List.ext_getElem?
      intro j
      rw [List.getElem?_take, List.getElem?_set]
      by_cases hj : j < n
      · rw [if_pos (by omega), if_neg (by omega), List.getElem?_append_left (by rw [List.length_take]; simp; omega), List.getElem?_take, if_pos hj]
      · by_cases hj2 : j = n
        · subst hj2
          rw [if_pos (by omega), if_pos rfl, List.getElem?_append_right (by rw [List.length_take]; omega)]
          have e : j - (cur.toList.take j).length = 0 := by rw [List.length_take]; simp; omega
          rw [e, if_pos (by simp; omega)]; rfl
        · rw [if_neg (by omega), List.getElem?_eq_none (by rw [List.length_append, List.length_take]; simp; omega)]
  · have hge := grownCap_ge w (n + 1) cap 5
    have hmx : n + 1 ≤ maxLen := by unfold maxLen; omega
    have hgm := grownCap_le_maxLen w (n + 1) cap 5 hmx
    have holds : ∀ j u, xs[j]? = some u → w.cell? ((⟨g, 0, none⟩ : Addr).add j) = some u := by
      intro j u hj
      have hadd : (⟨g, 0, none⟩ : Addr).add j = ⟨g, j, none⟩ := by unfold Addr.add; split <;> simp_all
      rw [hadd, cell_of_row w g j cur _ fz hg]
      rw [← htk, List.getElem?_take] at hj
      split at hj
      · simpa using hj
      · cases hj
    have hr := run_append_grow (P := Try.prog) w 41 ty 5 i _ Try.underlying41 hi hz0 ⟨g, 0, none⟩ n cap xs (by rw [hz1, h1]; omega) holds a 1 c [Value.int .u8 y] (by rw [hz1]; rfl) hnews (by omega) (by omega) (growslice_fits (by omega) (by rw [hz2]; omega))
    refine ⟨_, _, hr, ⟨by simp [h1], w.heap.size, _, _, (0, 0), rfl, hbase, heap_alloc_new w.drew _, .inr rfl, hge, hgm, ?_, ?_⟩, ⟨rfl, rfl, rfl, by simp, fun k hk _ => Below.heap_alloc w.drew _ k hk⟩⟩
    · simp only [Array.size_append, List.size_toArray, size_zeroCells, h1]
      show n + 1 + _ * 1 = _
      omega
    · simp only [Array.toList_append, List.append_assoc]
      rw [← List.append_assoc]
      have : n + 1 = (xs ++ [Value.int .u8 y]).length := by simp [h1]
      rw [this]
      exact List.take_left
theorem wpList_append8 {ops : Array Oper} {rest : List Oper} {o : Oper} {a : Act} {w : World} {Q : Exit → Act → World → Prop} (hgd : o.guard = none) (s x : Operand)
    (ho : o.op = .call { callee := .builtin .append, args := #[s, x], argTypes := #[41, 41] })
    (base n : Nat) (v : Value) (xs : List Value) (y : Int) (hs : a.eval s = v) (hown : Own8 w base v n xs) (ad : Addr) (c : Nat) (hx : a.eval x = .slice (some ad) 1 c) (hnew : w.cell? ad = some (.int .u8 y)) (hn : n + 1 ≤ 140737488355328) (hbase : base ≤ w.heap.size)
    (h : ∀ v' w', Own8 w' base v' (n + 1) (xs ++ [.int .u8 y]) → w.grownBy w' v.ownBlock → wpList Try.prog ops Q rest (a.put o.dst v') w') : wpList Try.prog ops Q (o :: rest) a w :=
  wpList_plain hgd fun _ hK => by
    obtain ⟨v', w', hr, h2, h3⟩ := append8 w base n v xs y o.type ad c hown hnew hn hbase
    unfold Oper.wp execOp
    simp only [ho, resolve, invoke, builtin, Sem.run_bind, Sem.run_pure, Result.andThen_ok, List.map_toArray, List.map_cons, List.map_nil, hs, hx, hr]
    exact hK _ _ (h v' w' h2 h3)
theorem own8_conv (W : World) (s : ByteArray) (c : Nat) (hc : s.size ≤ c) (hm : c ≤ maxLen) (base b : Nat) (hbb : b = W.heap.size) (hb : base ≤ W.heap.size) :
    Own8 (W.alloc (.cells (bytesRow s c) 5 ((bytesRow s c).size, (bytesRow s c).size + 1))) base (.slice (some ⟨b, 0, none⟩) s.size c) s.size (((List.range s.size).map (byt s)).map (Value.int .u8)) := by
  subst hbb
  have hsz : (bytesRow s c).size = c := by unfold bytesRow; simp; omega
  refine ⟨by simp, W.heap.size, c, _, _, rfl, hb, heap_alloc_new W _, .inl (Nat.le_refl _), hc, hm, hsz, ?_⟩
  unfold bytesRow
  rw [Array.toList_append, List.take_append_of_le_length (by simp)]
  apply List.ext_getElem
  · simp
  · intro j a b
    simp at a
    have a2 : j < s.data.size := a
    simp only [List.getElem_take, List.getElem_map, List.getElem_range, Array.getElem_toList, Array.getElem_map]
    unfold byt
    rw [getD_lt _ _ _ (by simpa using a2)]
    simp
theorem and255u (X : Int) (h0 : 0 ≤ X) (h1 : X < 18446744073709551616) : bits .and .u64 X 255 = X % 256 := by
  obtain ⟨n, rfl⟩ := Int.eq_ofNat_of_zero_le h0
  show IntKind.u64.wrap ((BitVec.ofInt 64 (n : Int) &&& BitVec.ofInt 64 255).toNat : Nat) = _
  have e : (BitVec.ofInt 64 255).toNat = 2 ^ 8 - 1 := by decide
  rw [BitVec.toNat_and, e, Nat.and_two_pow_sub_one_eq_mod, BitVec.ofInt_natCast, BitVec.toNat_ofNat, IntKind.wrap_u64]
  omega
end Go.Proofs.Ytdfefpbpfneahaa
