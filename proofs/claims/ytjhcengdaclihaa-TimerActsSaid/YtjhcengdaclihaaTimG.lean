/- The reference's timers: state; contracts of place, Stop. No condition. -/
import Derived.Test.YtjhcengdaclihaaTimN
namespace Go.Proofs.Ytjhcengdaclihaa
open Go.RowKit
set_option linter.unusedVariables false
set_option linter.unusedSimpArgs false
open Go.Maps
structure RA (w : World) (r : Nat) (u : Value) (S : List Tm) : Prop where
  blk : Blk w r 28 #[u]
  row : w.ownsRow 0 44 2 u S.length (tmC S)
theorem RA.keep {w w' : World} {r : Nat} {u : Value} {S : List Tm} (h : RA w r u S) (hb : Below w.heap.size w w') : RA w' r u S :=
  ⟨h.blk.keep hb, own_same h.row (fun q hq => hb.block q (own_lt h.row q hq).2)⟩
theorem RA.apart {w : World} {r : Nat} {u : Value} {S : List Tm} (h : RA w r u S) : u.ownBlock ≠ some r := by
  rcases h.row.2 with ⟨rfl, -⟩ | ⟨q, cap, cur, rfl, -, hh, -⟩
  · simp [Value.ownBlock]
  · simp only [Value.ownBlock, Option.map_some, ne_eq, Option.some.injEq]
    rintro rfl
    have h2 := h.blk
    unfold Blk at h2
    rw [hh] at h2
    injection h2 with h3
    injection h3 with _ h4
    exact absurd h4 (by decide)
/-- What lies in the row at k. -/
theorem RA.at_ {w : World} {r k : Nat} {u : Value} {S : List Tm} {x : Tm} (h : RA w r u S) (hx : S[k]? = some x) : ∃ b cap, u = .slice (some ⟨b, 0, none⟩) S.length cap ∧ w.cell? ⟨r, 0, none⟩ = some (.slice (some ⟨b, 0, none⟩) S.length cap) ∧ S.length ≤ cap ∧ b < w.heap.size ∧ w.cell? ⟨b, k * 2, none⟩ = some (.int .i64 x.1) ∧ w.cell? ⟨b, k * 2 + 1, none⟩ = some (.int .i64 x.2) := by
  have hk := (List.getElem?_eq_some_iff.1 hx).1
  have c0 := h.blk.cell 0
  have hrow := h.row
  rcases h.row.2 with ⟨-, h0⟩ | ⟨b, cap, cur, rfl, -, hh, hnc, -⟩
  · omega
  · obtain ⟨a1, a2⟩ := tmC_at hx
    refine ⟨b, cap, rfl, c0, hnc, (Array.getElem?_eq_some_iff.1 hh).1, ?_, ?_⟩
    · rw [hrow.cellAt (k * 2) (by omega), a1]
    · rw [hrow.cellAt (k * 2 + 1) (by omega), a2]
def placeI (id : Int) : List Tm → Nat → Int
  | [], _ => -1
  | x :: S, k => if x.1 = id then (k : Int) else placeI id S (k + 1)
theorem place_no {id : Int} {S : List Tm} (h : hasT id S = false) (k : Nat) : placeI id S k = -1 := by
  induction S generalizing k with
  | nil => rfl
  | cons x S ih =>
    have h' : (x.1 == id) = false ∧ hasT id S = false := by
      have : ((x.1 == id) || hasT id S) = false := h
      simpa using this
    unfold placeI
    rw [if_neg (by simpa using h'.1)]
    exact ih h'.2 (k + 1)
theorem place_yes {id : Int} {S : List Tm} (h : hasT id S = true) (k : Nat) : ∃ (j : Nat) (x : Tm), placeI id S k = ((k + j : Nat) : Int) ∧ S[j]? = some x ∧ x.1 = id := by
  induction S generalizing k with
  | nil => cases h
  | cons x S ih =>
    unfold placeI
    by_cases e : x.1 = id
    · rw [if_pos e]
      exact ⟨0, x, rfl, rfl, e⟩
    · rw [if_neg e]
      have h' : hasT id S = true := by
        have : ((x.1 == id) || hasT id S) = true := h
        rw [show (x.1 == id) = false from by simpa using e] at this
        simpa using this
      obtain ⟨j, y, h1, h2, h3⟩ := ih h' (k + 1)
      exact ⟨j + 1, y, by rw [h1]; congr 1; omega, h2, h3⟩
theorem place_drop {id : Int} {S : List Tm} {k : Nat} {x : Tm} (hx : S[k]? = some x) : placeI id (S.drop k) k = if x.1 = id then (k : Int) else placeI id (S.drop (k + 1)) (k + 1) := by
  have hk := (List.getElem?_eq_some_iff.1 hx).1
  rw [List.drop_eq_getElem_cons hk, (List.getElem?_eq_some_iff.1 hx).2]
  rfl
set_option maxHeartbeats 1000000 in
set_option maxRecDepth 100000 in
theorem place_any (r : Nat) (u : Value) (S : List Tm) (id : Int) (w : World) (h : RA w r u S) (hl : S.length ≤ 256) : Calls Try.prog 22 #[.pointer (some ⟨r, 0, none⟩), .int .i64 id] w fun e w' => e = .returned (.int .i64 (placeI id S 0)) ∧ w = w' := by
  obtain ⟨A, cap, hv⟩ := own_form h.row
  have c0 : w.cell? ⟨r, 0, none⟩ = some (.slice A S.length cap) := by rw [← hv]; exact h.blk.cell 0
  have H := Lib.hid h
  have HL := Lib.hid hl
  clear h hv hl
  go_enter Try.func22, Try.ntmps22
  go_wp2_with fail
  go_loopw [5] (fun i wr => ∃ k : Nat, i = .int .i64 k ∧ k ≤ S.length ∧ placeI id (S.drop k) k = placeI id S 0 ∧ wr = w) (fun i _ => S.length - (intOf i).toNat)
  case atStart => exact ⟨0, rfl, by omega, rfl, by trivial⟩
  case round =>
    obtain ⟨k, rfl, hk, hp, rfl⟩ := hrel
    have HPL := Lib.hid hp
    clear hp
    by_cases hlt : k < S.length
    · obtain ⟨x, hx⟩ : ∃ x, S[k]? = some x := ⟨_, List.getElem?_eq_getElem hlt⟩
      obtain ⟨b, cap2, hu, c1, -, -, x0, x1⟩ := H.out.at_ hx
      have hpd := place_drop (id := id) hx
      have y1 : (k : Int) < (S.length : Int) := by omega
      have HK := Lib.hid hlt
      have HPD := Lib.hid hpd
      clear c0 hk hlt hpd
      have HW := Lib.hid (show wrap64 ((k : Int) + 1) = (k : Int) + 1 from by have := HL.out; have := HK.out; exact wrap_in (by omega) (by omega))
      by_cases he : x.1 = id
      · have he2 : (x.1 == id) = true := by simpa using he
        have e : placeI id S 0 = (k : Int) := by rw [← HPL.out, HPD.out, if_pos he]
        have E := Lib.hid e
        clear he e
        go_wp2_with fail
        go_ret
        exact ⟨by rw [E.out]; rfl, rfl⟩
      · have he2 : (x.1 == id) = false := by simpa using he
        have e : placeI id (S.drop (k + 1)) (k + 1) = placeI id S 0 := by rw [← HPL.out, HPD.out, if_neg he]
        have E := Lib.hid e
        have hw := HW.out
        clear he e
        go_wp2_with fail
        go_roundw
        case rel => exact ⟨k + 1, by rw [hw]; rfl, HK.out, E.out, by trivial⟩
        case measure =>
          show S.length - (intOf (.int .i64 (wrap64 ((k : Int) + 1)))).toNat < S.length - (intOf (.int .i64 (k : Int))).toNat
          rw [hw]
          clear hw
          have := HK.out
          show S.length - ((k : Int) + 1).toNat < S.length - (k : Int).toNat
          omega
    · have y1 : ¬ (k : Int) < (S.length : Int) := by omega
      have e : placeI id S 0 = -1 := by rw [← HPL.out, List.drop_eq_nil_of_le (by omega)]; rfl
      rw [e]
      go_wp2_with fail
      go_ret
      exact ⟨rfl, rfl⟩
end Go.Proofs.Ytjhcengdaclihaa
