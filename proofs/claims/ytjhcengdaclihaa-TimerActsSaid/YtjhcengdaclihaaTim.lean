/- Timers in memory: a heap's row and its map of places. No condition. -/
import Derived.Test.YtjhcengdaclihaaTimE
import Derived.Test.YtjhcengdaclihaaCells
import Derived.Test.YtjhcengdaclihaaStill
import Derived.Laws.OwnMore
import Derived.BigRegion
namespace Go.Proofs.Ytjhcengdaclihaa
open Go.RowKit
set_option linter.unusedVariables false
set_option linter.unusedSimpArgs false
open Go.Maps
abbrev DU := DataW Unit
/-- id, at -/
abbrev Tm := Int × Int
def tmC : List Tm → List Value
  | [] => []
  | t :: ts => .int .i64 t.1 :: .int .i64 t.2 :: tmC ts
theorem tmC_len (ts : List Tm) : (tmC ts).length = ts.length * 2 := by
  induction ts with
  | nil => rfl
  | cons t ts ih => simp only [tmC, List.length_cons, ih]; omega
theorem tmC_app (a b : List Tm) : tmC (a ++ b) = tmC a ++ tmC b := by
  induction a with
  | nil => rfl
  | cons t a ih => simp only [List.cons_append, tmC, ih]
theorem tmC_at {ts : List Tm} {i : Nat} {t : Tm} (h : ts[i]? = some t) : (tmC ts)[i * 2]? = some (.int .i64 t.1) ∧ (tmC ts)[i * 2 + 1]? = some (.int .i64 t.2) := by
  induction ts generalizing i with
  | nil => cases h
  | cons a ts ih =>
    cases i with
    | zero => obtain rfl := Option.some.inj h; exact ⟨rfl, rfl⟩
    | succ i =>
      have e : (i + 1) * 2 = i * 2 + 1 + 1 := by omega
      rw [e]
      exact ih h
theorem tmC_set {ts : List Tm} {i : Nat} (t : Tm) (hi : i < ts.length) : tmC (ts.set i t) = ((tmC ts).set (i * 2) (.int .i64 t.1)).set (i * 2 + 1) (.int .i64 t.2) := by
  induction ts generalizing i with
  | nil => simp at hi
  | cons a ts ih =>
    cases i with
    | zero => rfl
    | succ i =>
      have e : (i + 1) * 2 = i * 2 + 1 + 1 := by omega
      rw [e]
      simp only [List.set_cons_succ, tmC]
      rw [ih (by simpa using hi)]
theorem tmC_take (ts : List Tm) (n : Nat) : tmC (ts.take n) = (tmC ts).take (n * 2) := by
  induction ts generalizing n with
  | nil => simp [tmC]
  | cons a ts ih =>
    cases n with
    | zero => rfl
    | succ n =>
      have e : (n + 1) * 2 = n * 2 + 1 + 1 := by omega
      rw [e]
      simp only [List.take_succ_cons, tmC, ih]
def lt (a b : Tm) : Bool := decide (a.2 < b.2) || (a.2 == b.2 && decide (a.1 < b.1))
def keyD (c : Int) : Lit := .int .i64 c
def zD : DU := .lit (.int .i64 0)
structure PlaceOk (D : DU) (ts : List Tm) : Prop where
  tidy : Tidy D
  size : Maps.size D = ts.length
  has : ∀ id, Maps.has D (keyD id) = ts.any (fun t => t.1 == id)
  at_ : ∀ (i : Nat) (t : Tm), ts[i]? = some t → D.atKey (keyD t.1) zD = .lit (.int .i64 (i : Int))
  wf : ∀ t ∈ ts, (Lit.int .i64 t.1).wf = true
theorem lawK : Keyed Try.prog 3 := int_keyed Try.underlying3
noncomputable abbrev intR : Value → Option (DU × List MemPlace) := plainElem Try.prog 3
structure PileAt (w : World) (g mb : Nat) (v : Value) (D : DU) (ts : List Tm) : Prop where
  blk : Blk w g 56 #[v, .map (some mb)]
  row : w.ownsRow 0 59 2 v ts.length (tmC ts)
  map_ : w.ownsMap Try.prog 3 intR mb (Maps.size D) D
  ok : PlaceOk D ts
  le : ts.length ≤ 256
theorem shrink {w : World} {b n : Nat} {D : DU} (h : w.ownsMap Try.prog 3 intR b n D) : w.ownsMap Try.prog 3 intR b (Maps.size D) D := by
  obtain ⟨es, clock, hb, F, hs, rfl⟩ := h
  exact ⟨es, clock, hb, F, by simp [Maps.size, length_sorted], rfl⟩
theorem own_form {w : World} {base : Nat} {v : Value} {n : Nat} {xs : List Value} {e : TypeId} {size : Nat} (h : w.ownsRow base e size v n xs) : ∃ A cap, v = .slice A n cap := by
  rcases h.2 with ⟨rfl, rfl⟩ | ⟨g, cap, cur, rfl, _⟩
  · exact ⟨_, _, rfl⟩
  · exact ⟨_, _, rfl⟩
/-- A row with something in it has a block of its own. -/
theorem PileAt.open_ {w : World} {g mb : Nat} {v : Value} {D : DU} {ts : List Tm} (h : PileAt w g mb v D ts) (h0 : 0 < ts.length) : ∃ r cap, v = .slice (some ⟨r, 0, none⟩) ts.length cap ∧ ts.length ≤ cap ∧ (∀ i t, ts[i]? = some t → w.cell? ⟨r, i * 2, none⟩ = some (.int .i64 t.1) ∧ w.cell? ⟨r, i * 2 + 1, none⟩ = some (.int .i64 t.2)) ∧ (∀ i, w.frozen? ⟨r, i, none⟩ = false) ∧ r ≠ g ∧ r ≠ mb ∧ r < w.heap.size := by
  rcases h.row.2 with ⟨-, h1⟩ | ⟨r, cap, cur, rfl, -, hg, hnc, hcm, hcs, htk⟩
  · omega
  · refine ⟨r, cap, rfl, hnc, fun i t ht => ?_, fun i => ?_, ?_, ?_, (Array.getElem?_eq_some_iff.1 hg).1⟩
    · have hi := (List.getElem?_eq_some_iff.1 ht).1
      have hc := tmC_at ht
      rw [← htk, List.getElem?_take, List.getElem?_take, if_pos (by omega), if_pos (by omega)] at hc
      rw [cell_of_row w r _ cur _ _ hg, cell_of_row w r _ cur _ _ hg]
      simpa using hc
    · exact frozen_of_row w r i cur _ hg
    · rintro rfl
      have h2 := h.blk
      unfold Blk at h2
      rw [hg] at h2
      injection h2 with h3
      injection h3 with _ h4
      exact absurd h4 (by decide)
    · rintro rfl
      obtain ⟨es, clock, hb, -⟩ := h.map_
      rw [hg] at hb
      cases hb
theorem PileAt.gm {w : World} {g mb : Nat} {v : Value} {D : DU} {ts : List Tm} (h : PileAt w g mb v D ts) : g ≠ mb := by
  rintro rfl
  obtain ⟨es, clock, hb, -⟩ := h.map_
  have h2 : w.heap[g]? = _ := h.blk
  rw [hb] at h2
  cases h2
/-- What a method turns: the pile's own blocks; its row may come to lie in a new one. -/
def Mv (w w' : World) (g mb : Nat) (v v' : Value) : Prop := (w'.os = w.os ∧ w'.tape = w.tape ∧ w'.output = w.output ∧ w.heap.size ≤ w'.heap.size ∧ ∀ i, i < w.heap.size → i ≠ g → i ≠ mb → v.ownBlock ≠ some i → w'.heap[i]? = w.heap[i]?) ∧ ∀ r, v'.ownBlock = some r → v.ownBlock = some r ∨ w.heap.size ≤ r
theorem Mv.trans {a w w' : World} {g mb : Nat} {v v1 v2 : Value} (h : Mv a w g mb v v1) (h2 : Mv w w' g mb v1 v2) : Mv a w' g mb v v2 := by
  obtain ⟨⟨a1, a2, a3, a4, a5⟩, a6⟩ := h
  obtain ⟨⟨b1, b2, b3, b4, b5⟩, b6⟩ := h2
  refine ⟨⟨b1.trans a1, b2.trans a2, b3.trans a3, Nat.le_trans a4 b4, fun i hi g1 g2 g3 => (b5 i (Nat.lt_of_lt_of_le hi a4) g1 g2 (fun e => ?_)).trans (a5 i hi g1 g2 g3)⟩, fun r hr => ?_⟩
  · rcases a6 i e with e | e
    · exact g3 e
    · omega
  · rcases b6 r hr with e | e
    · exact a6 r e
    · right; omega
theorem Mv.below {w w' : World} {g mb : Nat} {v : Value} (h : Below w.heap.size w w') : Mv w w' g mb v v := ⟨⟨h.os, h.tape, h.output, h.size, fun i hi _ _ _ => h.block i hi⟩, fun r hr => .inl hr⟩
theorem Mv.refl (w : World) (g mb : Nat) (v : Value) : Mv w w g mb v v := Mv.below (Below.refl _ _)
theorem PileAt.keep {w w' : World} {g mb : Nat} {v : Value} {D : DU} {ts : List Tm} (h : PileAt w g mb v D ts) (hb : Below w.heap.size w w') : PileAt w' g mb v D ts := by
  refine { blk := h.blk.keep hb, row := ?_, map_ := ?_, ok := h.ok, le := h.le }
  · refine ⟨h.row.1, ?_⟩
    rcases h.row.2 with h' | ⟨r, cap, cur, rfl, hq, hh, r'⟩
    · exact .inl h'
    · exact .inr ⟨r, cap, cur, rfl, hq, (hb.block r (Array.getElem?_eq_some_iff.1 hh).1).trans hh, r'⟩
  · obtain ⟨es, clock, hm, r'⟩ := h.map_
    exact ⟨es, clock, (hb.block mb (Array.getElem?_eq_some_iff.1 hm).1).trans hm, r'⟩
theorem len_any (g mb : Nat) (v : Value) (D : DU) (ts : List Tm) (w : World) (h : PileAt w g mb v D ts) : Calls Try.prog 48 #[.pointer (some ⟨g, 0, none⟩)] w fun e w' => e = .returned (.int .i64 (ts.length : Int)) ∧ w = w' := by
  obtain ⟨A, cap, hv⟩ := own_form h.row
  have c0 : w.cell? ⟨g, 0, none⟩ = some (.slice A ts.length cap) := by rw [← hv]; exact h.blk.cell 0
  clear h
  go_enter Try.func48, Try.ntmps48
  go_wp2
  go_ret
  exact ⟨rfl, rfl⟩
set_option maxRecDepth 100000 in
theorem less_any (g mb i k : Nat) (v : Value) (D : DU) (ts : List Tm) (w : World) (x y : Tm) (h : PileAt w g mb v D ts) (hx : ts[i]? = some x) (hy : ts[k]? = some y) : Calls Try.prog 43 #[.pointer (some ⟨g, 0, none⟩), .int .i64 (i : Int), .int .i64 (k : Int)] w fun e w' => e = .returned (.bool (lt x y)) ∧ Below w.heap.size w w' := by
  have hi := (List.getElem?_eq_some_iff.1 hx).1
  have hk := (List.getElem?_eq_some_iff.1 hy).1
  obtain ⟨r, cap, rfl, hcap, hcells, -, hrg, hrm, hrl⟩ := h.open_ (by omega)
  have c0 : w.cell? ⟨g, 0, none⟩ = some (.slice (some ⟨r, 0, none⟩) ts.length cap) := h.blk.cell 0
  obtain ⟨x0, x1⟩ := hcells i x hx
  obtain ⟨y0, y1⟩ := hcells k y hy
  have hgl := h.blk.lt
  have i1 : (i : Int) < (ts.length : Int) := by omega
  have k1 : (k : Int) < (ts.length : Int) := by omega
  clear h hcells
  obtain ⟨p, hp⟩ : ∃ p, decide (x.2 < y.2) = p := ⟨_, rfl⟩
  obtain ⟨q, hq⟩ : ∃ q, (x.2 == y.2) = q := ⟨_, rfl⟩
  unfold lt
  rw [hp, hq]
  go_enter Try.func43, Try.ntmps43
  go_wp2_with fail
  go_region
  all_goals
    clear c0 x0 x1 y0 y1
    cases p with
    | true =>
      go_wp2_with fail
      go_ret
      exact ⟨rfl, (by repeat' (first | (with_reducible exact Below.refl _ _) | (with_reducible apply Below.drew) | (with_reducible apply below_drewN) | (with_reducible apply Below.setCell) | (with_reducible apply Below.alloc) | (with_reducible refine below_step ?_ (by assumption) ?_) | omega | (simp; done) | (simp; omega)))⟩
    | false =>
      cases q with
      | true =>
        go_wp2_with fail
        go_ret
        exact ⟨rfl, (by repeat' (first | (with_reducible exact Below.refl _ _) | (with_reducible apply Below.drew) | (with_reducible apply below_drewN) | (with_reducible apply Below.setCell) | (with_reducible apply Below.alloc) | (with_reducible refine below_step ?_ (by assumption) ?_) | omega | (simp; done) | (simp; omega)))⟩
      | false =>
        go_wp2_with fail
        go_ret
        exact ⟨rfl, (by repeat' (first | (with_reducible exact Below.refl _ _) | (with_reducible apply Below.drew) | (with_reducible apply below_drewN) | (with_reducible apply Below.setCell) | (with_reducible apply Below.alloc) | (with_reducible refine below_step ?_ (by assumption) ?_) | omega | (simp; done) | (simp; omega)))⟩
end Go.Proofs.Ytjhcengdaclihaa
