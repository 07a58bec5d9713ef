/- TimerAll walked: it returns true. No condition. -/
import Derived.Test.YtjhcengdaclihaaTimAl
import Derived.BigQuiet
namespace Go.Proofs.Ytjhcengdaclihaa
open Go.RowKit
set_option linter.unusedVariables false
set_option linter.unusedSimpArgs false
open Go.Maps
structure AlI (w0 w : World) (g mb bl bh : Nat) (v : Value) (S : List Tm) (L : Nat → Int) : Prop where
  to : TO w0 w g mb v S
  li : IB w bl 3 (fun k => .int .i64 (L k))
  hi : IB w bh 4 (fun k => .bool (hasT (k : Int) S))
  lb : w0.heap.size ≤ bl
  hb : w0.heap.size ≤ bh
  ne : bl ≠ bh
  inr : InR S
  at_ : ∀ x ∈ S, ∀ j : Nat, x.1 = (j : Int) → x.2 = L j
  le : ∀ x ∈ S, x.2 ≤ 1023
theorem TO.ids {w0 w : World} {g mb : Nat} {v : Value} {S : List Tm} (h : TO w0 w g mb v S) : Srt S ∧ Ids S := by
  obtain ⟨_, _, _, _, _, h1, h2⟩ := h.ta
  exact ⟨h1, h2⟩
theorem AlI.keep {w0 w w' : World} {g mb bl bh : Nat} {v : Value} {S : List Tm} {L : Nat → Int} (h : AlI w0 w g mb bl bh v S L) (hb : Below w.heap.size w w') : AlI w0 w' g mb bl bh v S L := ⟨h.to.keep hb, h.li.keep hb, h.hi.keep hb, h.lb, h.hb, h.ne, h.inr, h.at_, h.le⟩
theorem AlI.code {w0 w : World} {g mb bl bh : Nat} {v : Value} {S : List Tm} {L : Nat → Int} (h : AlI w0 w g mb bl bh v S L) (x y : Nat) : setC (x : Int) (y : Int) S = 0 := by
  have h1 := cnt_all h.inr h.to.ids.2
  have h2 := cnt_le (fun k => hasT (k : Int) S) 64
  unfold setC
  rw [if_neg (by omega), if_neg (by omega)]
theorem mem_setT {id a : Int} {S : List Tm} {x : Tm} (h : x ∈ setT id a S) : x = (id, a) ∨ (x ∈ S ∧ x.1 ≠ id) := by
  rcases List.mem_cons.1 ((insT_perm (id, a) (stopT id S)).mem_iff.1 h) with e | e
  · exact .inl e
  · exact .inr ⟨(List.mem_filter.1 e).1, stop_no x e⟩
theorem has_setT {id a : Int} {S : List Tm} (j : Int) : hasT j (setT id a S) = (decide (j = id) || hasT j S) := by
  unfold hasT
  rw [Bool.eq_iff_iff, Bool.or_eq_true, List.any_eq_true, List.any_eq_true, decide_eq_true_iff]
  constructor
  · rintro ⟨x, hx, e⟩
    rcases mem_setT hx with rfl | ⟨h1, -⟩
    · left; have e : id = j := by simpa using e
      exact e.symm
    · exact .inr ⟨x, h1, e⟩
  · rintro (e | ⟨x, hx, e⟩)
    · exact ⟨(id, a), (insT_perm _ _).mem_iff.2 (by simp), by simp [e]⟩
    · by_cases h : x.1 = id
      · refine ⟨(id, a), (insT_perm _ _).mem_iff.2 (by simp), ?_⟩
        have e : x.1 = j := by simpa using e
        simp [← e, h]
      · exact ⟨x, (insT_perm _ _).mem_iff.2 (List.mem_cons_of_mem _ (List.mem_filter.2 ⟨hx, by simpa using h⟩)), e⟩
theorem AlI.step {w0 w w2 : World} {g mb bl bh : Nat} {v v2 : Value} {S : List Tm} {L : Nat → Int} (h : AlI w0 w g mb bl bh v S L) {x y : Nat} (hx : x < 64) (hy : y < 1024) (h2 : TO w0 w2 g mb v2 (setA (x : Int) (y : Int) S)) (hm : Mv w w2 g mb v v2) :
    AlI w0 ((w2.setCell ⟨bl, x, none⟩ (.int .i64 (y : Int))).setCell ⟨bh, x, none⟩ (.bool true)) g mb bl bh v2 (setT (x : Int) (y : Int) S) (fun j => if j = x then (y : Int) else L j) ∧ IB w2 bl 3 (fun k => .int .i64 (L k)) ∧ IB w2 bh 4 (fun k => .bool (hasT (k : Int) S)) := by
  have e : setA (x : Int) (y : Int) S = setT (x : Int) (y : Int) S := by unfold setA; rw [if_pos (h.code x y)]
  rw [e] at h2
  have li2 := h.li.mv h.to (by decide) (by decide) hm
  have hi2 := h.hi.mv h.to (by decide) (by decide) hm
  have t1 := h2.store li2 (by decide) (by decide) h.lb x (.int .i64 (y : Int))
  have li3 := li2.set x (.int .i64 (y : Int))
  have hi3 := hi2.far (p := ⟨bl, x, none⟩) (Ne.symm h.ne) (.int .i64 (y : Int))
  have t2 := t1.store hi3 (by decide) (by decide) h.hb x (.bool true)
  have li4 := li3.far (p := ⟨bh, x, none⟩) h.ne (.bool true)
  have hi4 := hi3.set x (.bool true)
  refine ⟨⟨t2, ?_, ?_, h.lb, h.hb, h.ne, fun z hz => ?_, fun z hz j hj => ?_, fun z hz => ?_⟩, li2, hi2⟩
  · obtain ⟨cs, a1, a2, a3⟩ := li4
    refine ⟨cs, a1, a2, fun k hk => ?_⟩
    rw [a3 k hk]
    by_cases e : k = x
    · simp [e]
    · simp [e]
  · obtain ⟨cs, a1, a2, a3⟩ := hi4
    refine ⟨cs, a1, a2, fun k hk => ?_⟩
    rw [a3 k hk]
    show some (if k = x then Value.bool true else Value.bool (hasT (k : Int) S)) = some (Value.bool (hasT (k : Int) (setT (x : Int) (y : Int) S)))
    rw [has_setT]
    by_cases e : k = x
    · simp [e]
    · rw [if_neg e, decide_eq_false (show ¬ (k : Int) = (x : Int) by omega)]
      rfl
  · rcases mem_setT hz with rfl | ⟨h1, -⟩
    · exact ⟨x, hx, rfl⟩
    · exact h.inr z h1
  · rcases mem_setT hz with rfl | ⟨h1, h3⟩
    · have : x = j := by have : (x : Int) = (j : Int) := hj; omega
      subst this
      simp
    · have : ¬ j = x := fun e => h3 (by rw [hj, e])
      rw [if_neg this]
      exact h.at_ z h1 j hj
  · rcases mem_setT hz with rfl | ⟨h1, -⟩
    · show (y : Int) ≤ 1023; omega
    · exact h.le z h1
theorem due_every {now : Int} {S : List Tm} (h : ∀ x ∈ S, x.2 ≤ now) : dueL now S = S.map Prod.fst ∧ restL now S = [] := by
  induction S with
  | nil => exact ⟨rfl, rfl⟩
  | cons x S ih =>
    obtain ⟨a1, a2⟩ := due_cons (S := S) (h x (by simp))
    obtain ⟨b1, b2⟩ := ih (fun y hy => h y (by simp [hy]))
    rw [a1, a2, b1, b2]
    exact ⟨rfl, rfl⟩
/-- What two neighbours in the row say. -/
theorem row_pair {S : List Tm} {L : Nat → Int} (hs : Srt S) (hr : InR S) (ha : ∀ x ∈ S, ∀ j : Nat, x.1 = (j : Int) → x.2 = L j) {k : Nat} (hk : k + 1 < S.length) :
    ∃ j1 j2 : Nat, (S.map Prod.fst)[k]? = some (j1 : Int) ∧ (S.map Prod.fst)[k + 1]? = some (j2 : Int) ∧ j1 < 64 ∧ j2 < 64 ∧ ¬ L j2 < L j1 ∧ (L j1 = L j2 → ¬ j2 ≤ j1) := by
  have m1 : S[k] ∈ S := List.getElem_mem _
  have m2 : S[k + 1] ∈ S := List.getElem_mem _
  obtain ⟨j1, h1, e1⟩ := hr _ m1
  obtain ⟨j2, h2, e2⟩ := hr _ m2
  have l1 := ha _ m1 j1 e1
  have l2 := ha _ m2 j2 e2
  have hlt := (List.pairwise_iff_getElem.1 hs) k (k + 1) (by omega) hk (by omega)
  rw [lt_iff, l1, l2, e1, e2] at hlt
  refine ⟨j1, j2, ?_, ?_, h1, h2, by omega, fun e => by omega⟩
  · rw [List.getElem?_map, List.getElem?_eq_getElem (by omega), Option.map_some, e1]
  · rw [List.getElem?_map, List.getElem?_eq_getElem hk, Option.map_some, e2]
theorem ints_two {w : World} {A : Option Addr} {n : Nat} {zs : List Int} (h : IntsAt w A n zs) {k : Nat} {a b : Int} (ha : zs[k]? = some a) (hb : zs[k + 1]? = some b) : ∃ c off, A = some ⟨c, off, none⟩ ∧ w.cell? ⟨c, off + k, none⟩ = some (.int .i64 a) ∧ w.cell? ⟨c, off + (k + 1), none⟩ = some (.int .i64 b) := by
  have h1 := (List.getElem?_eq_some_iff.1 ha).1
  have h2 := (List.getElem?_eq_some_iff.1 hb).1
  obtain ⟨c, off, e, hlt, hc⟩ := h.2 (by have := h.1; omega)
  refine ⟨c, off, e, ?_, ?_⟩
  · rw [hc k h1, (List.getElem?_eq_some_iff.1 ha).2]
  · rw [hc (k + 1) h2, (List.getElem?_eq_some_iff.1 hb).2]
end Go.Proofs.Ytjhcengdaclihaa
