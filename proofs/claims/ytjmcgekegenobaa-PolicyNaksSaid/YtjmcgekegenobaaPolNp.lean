/- Plain facts: what was naked, asked for as told. No condition. -/
import Derived.Test.YtjmcgekegenobaaPolU
import Derived.Test.YtjmcgekegenobaaPolW
namespace Go.Proofs.Ytjmcgekegenobaa
open Go.RowKit
set_option linter.unusedVariables false
set_option linter.unusedSimpArgs false
abbrev Tri := ByteArray × ByteArray × ByteArray
def up (x : Int × ByteArray) (K : Int) (d : ByteArray) : ByteArray := if x.1 = K then x.2 else d
def part (x : Int × ByteArray) (s : Tri) : Nat → Tri
  | 0 => s
  | 1 => (up x 1 s.1, s.2.1, s.2.2)
  | 2 => (up x 1 s.1, up x 5 s.2.1, s.2.2)
  | _ => (up x 1 s.1, up x 5 s.2.1, up x 17 s.2.2)
def stN (L : List (Int × ByteArray)) (s : Tri) (i : Nat) : Tri := (L.take i).foldl (fun s x => part x s 3) s
theorem stN_succ {L : List (Int × ByteArray)} {s : Tri} {i : Nat} {x : Int × ByteArray} (h : L[i]? = some x) : stN L s (i + 1) = part x (stN L s i) 3 := by
  obtain ⟨hk, rfl⟩ := List.getElem?_eq_some_iff.1 h
  unfold stN
  rw [List.take_succ_eq_append_getElem hk, List.foldl_append]
  rfl
def ls3 (s : Tri) : List (Int × ByteArray) := [(1, s.1), (5, s.2.1), (17, s.2.2)]
def cells3 (s : Tri) : Array Value := #[.int .i64 1, .string s.1, .int .i64 5, .string s.2.1, .int .i64 17, .string s.2.2]
theorem opts3 {w : World} {b : Nat} {t : TypeId} {s : Tri} (h : Blk w b t (cells3 s)) : OptsAt w (some ⟨b, 0, none⟩) 3 (ls3 s) := by
  refine ⟨rfl, fun _ => ⟨b, 0, rfl, h.lt, fun j hj => ?_⟩⟩
  have hj3 : j < 3 := hj
  rcases (by omega : j = 0 ∨ j = 1 ∨ j = 2) with rfl | rfl | rfl
  · exact ⟨h.cell 0, h.cell 1⟩
  · exact ⟨h.cell 2, h.cell 3⟩
  · exact ⟨h.cell 4, h.cell 5⟩
def ownN (G : Int) : Lk := ⟨0, G, 0, false, ⟨#[]⟩, 0⟩
theorem ls3_alone (s : Tri) : Alone (ls3 s) := by
  unfold Alone ls3
  simp
def nk (u : Int) (K : Int) : List (Int × ByteArray) := if unitB u then [] else [(K, be2 1500)]
theorem naks_first {G u v : Int} (hG : 1 ≤ G ∧ G < 4294967296) (hu : 0 ≤ u ∧ u < 65536) (hv : 0 ≤ v ∧ v < 65536) : judV (ownN G) (ls3 (be2 u, be4 G, be2 v)) = 1 ∧ judL (ownN G) (ls3 (be2 u, be4 G, be2 v)) = nk u 1 ++ ((5, be4 (flipM G)) :: nk v 17) := by
  have r1 : rightB 1 (be2 u) = true := by unfold rightB; rw [size_be2]; rfl
  have r5 : rightB 5 (be4 G) = true := by unfold rightB; rw [size_be4]; rfl
  have r17 : rightB 17 (be2 v) = true := by unfold rightB; rw [size_be2]; rfl
  have b1 : bad0 (ownN G) (1, be2 u) = false := bad0_right r1 (by show (1 : Int) ≠ 18; decide)
  have b5 : bad0 (ownN G) (5, be4 G) = false := bad0_right r5 (by show (5 : Int) ≠ 18; decide)
  have b17 : bad0 (ownN G) (17, be2 v) = false := bad0_right r17 (by show (17 : Int) ≠ 18; decide)
  have n1 : nak0 (ownN G) (1, be2 u) = nk u 1 := by
    unfold nak0; rw [b1]
    show (bettO (ownN G) 1 (be2 u)).toList = _
    unfold bettO nk
    rw [if_pos (.inl rfl), val_be2 hu.1 hu.2]
    cases unitB u <;> rfl
  have n17 : nak0 (ownN G) (17, be2 v) = nk v 17 := by
    unfold nak0; rw [b17]
    show (bettO (ownN G) 17 (be2 v)).toList = _
    unfold bettO nk
    rw [if_pos (.inr rfl), val_be2 hv.1 hv.2]
    cases unitB v <;> rfl
  have n5 : nak0 (ownN G) (5, be4 G) = [(5, be4 (flipM G))] := by
    unfold nak0; rw [b5]
    show (bettO (ownN G) 5 (be4 G)).toList = _
    unfold bettO
    rw [if_neg (by decide), if_pos rfl, val_be4 (by omega) hG.2]
    show (if (G == 0) || (G == G) then some ((5 : Int), be4 (flipM G)) else none).toList = _
    rw [beq_self_eq_true, Bool.or_true]
    rfl
  have hr : (ls3 (be2 u, be4 G, be2 v)).filter (bad0 (ownN G)) = [] := by
    show List.filter _ [((1 : Int), be2 u), (5, be4 G), (17, be2 v)] = []
    simp [b1, b5, b17]
  have hn : (ls3 (be2 u, be4 G, be2 v)).flatMap (nak0 (ownN G)) = nk u 1 ++ ((5, be4 (flipM G)) :: nk v 17) := by
    show List.flatMap _ [((1 : Int), be2 u), (5, be4 G), (17, be2 v)] = _
    simp only [List.flatMap_cons, List.flatMap_nil, n1, n5, n17, List.append_nil]
    rfl
  unfold judV judL
  rw [rej_alone (ls3_alone _), nak_alone (ls3_alone _), List.take_length, hr, hn]
  simp
theorem naks_last {G f : Int} {s : Tri} (h1 : ∃ u, s.1 = be2 u ∧ 0 ≤ u ∧ u < 65536 ∧ unitB u = true) (h5 : s.2.1 = be4 f) (hf : 1 ≤ f ∧ f < 4294967296 ∧ f ≠ G) (h17 : ∃ v, s.2.2 = be2 v ∧ 0 ≤ v ∧ v < 65536 ∧ unitB v = true) : judV (ownN G) (ls3 s) = 0 ∧ judL (ownN G) (ls3 s) = ls3 s ∧ FitsAll (ls3 s) := by
  obtain ⟨u, e1, u0, u1, hu⟩ := h1
  obtain ⟨v, e17, v0, v1, hv⟩ := h17
  obtain ⟨s1, s5, s17⟩ := s
  simp only at e1 h5 e17
  subst e1 h5 e17
  have r1 : rightB 1 (be2 u) = true := by unfold rightB; rw [size_be2]; rfl
  have r5 : rightB 5 (be4 f) = true := by unfold rightB; rw [size_be4]; rfl
  have r17 : rightB 17 (be2 v) = true := by unfold rightB; rw [size_be2]; rfl
  have b1 : bad0 (ownN G) (1, be2 u) = false := bad0_right r1 (by show (1 : Int) ≠ 18; decide)
  have b5 : bad0 (ownN G) (5, be4 f) = false := bad0_right r5 (by show (5 : Int) ≠ 18; decide)
  have b17 : bad0 (ownN G) (17, be2 v) = false := bad0_right r17 (by show (17 : Int) ≠ 18; decide)
  have n1 : nak0 (ownN G) (1, be2 u) = [] := nak0_none (by show bettO (ownN G) 1 (be2 u) = none; unfold bettO; rw [if_pos (.inl rfl), val_be2 u0 u1, hu]; rfl)
  have n17 : nak0 (ownN G) (17, be2 v) = [] := nak0_none (by show bettO (ownN G) 17 (be2 v) = none; unfold bettO; rw [if_pos (.inr rfl), val_be2 v0 v1, hv]; rfl)
  have n5 : nak0 (ownN G) (5, be4 f) = [] := nak0_none (by
    show bettO (ownN G) 5 (be4 f) = none
    unfold bettO
    rw [if_neg (by decide), if_pos rfl, val_be4 (by omega) hf.2.1]
    have z0 : (f == 0) = false := decide_eq_false (by omega)
    have z1 : (f == G) = false := decide_eq_false hf.2.2
    show (if (f == 0) || (f == G) then some ((5 : Int), be4 (flipM G)) else none) = none
    rw [z0, z1]; rfl)
  have hr : (ls3 (be2 u, be4 f, be2 v)).filter (bad0 (ownN G)) = [] := by
    show List.filter _ [((1 : Int), be2 u), (5, be4 f), (17, be2 v)] = []
    simp [b1, b5, b17]
  have hn : (ls3 (be2 u, be4 f, be2 v)).flatMap (nak0 (ownN G)) = [] := by
    show List.flatMap _ [((1 : Int), be2 u), (5, be4 f), (17, be2 v)] = _
    simp only [List.flatMap_cons, List.flatMap_nil, n1, n5, n17, List.append_nil]
  refine ⟨?_, ?_, ?_⟩
  · unfold judV
    rw [rej_alone (ls3_alone _), nak_alone (ls3_alone _), List.take_length, hr, hn]; rfl
  · unfold judL
    rw [rej_alone (ls3_alone _), nak_alone (ls3_alone _), List.take_length, hr, hn]; rfl
  · intro k o ho
    have hm := List.mem_of_getElem? ho
    unfold ls3 at hm
    simp only [List.mem_cons, List.not_mem_nil, or_false] at hm
    rcases hm with rfl | rfl | rfl
    · exact ⟨by show (0 : Int) ≤ 1; decide, by show (1 : Int) ≤ 255; decide, by show (be2 u).size ≤ 253; rw [size_be2]; decide⟩
    · exact ⟨by show (0 : Int) ≤ 5; decide, by show (5 : Int) ≤ 255; decide, by show (be4 f).size ≤ 253; rw [size_be4]; decide⟩
    · exact ⟨by show (0 : Int) ≤ 17; decide, by show (17 : Int) ≤ 255; decide, by show (be2 v).size ≤ 253; rw [size_be2]; decide⟩
theorem naks_end {G u v : Int} (hG : 0 ≤ G ∧ G ≤ 4294967295) (hu : 0 ≤ u ∧ u < 65536) (hv : 0 ≤ v ∧ v < 65536) (s : Tri) (hs : s = stN (nk u 1 ++ ((5, be4 (flipM G)) :: nk v 17)) (be2 u, be4 G, be2 v) (nk u 1 ++ ((5, be4 (flipM G)) :: nk v 17)).length) : judV (ownN G) (ls3 s) = 0 ∧ judL (ownN G) (ls3 s) = ls3 s ∧ FitsAll (ls3 s) := by
  obtain ⟨f0, f1, f2⟩ := flip_range hG.1 hG.2
  unfold stN at hs
  rw [List.take_length] at hs
  have key : s.1 = (if unitB u then be2 u else be2 1500) ∧ s.2.1 = be4 (flipM G) ∧ s.2.2 = (if unitB v then be2 v else be2 1500) := by
    subst hs
    unfold nk
    cases unitB u <;> cases unitB v <;> exact ⟨rfl, rfl, rfl⟩
  refine naks_last (f := flipM G) ?_ key.2.1 ⟨f0, by omega, f2⟩ ?_
  · rw [key.1]
    cases h : unitB u
    · exact ⟨1500, rfl, by decide, by decide, rfl⟩
    · exact ⟨u, rfl, hu.1, hu.2, h⟩
  · rw [key.2.2]
    cases h : unitB v
    · exact ⟨1500, rfl, by decide, by decide, rfl⟩
    · exact ⟨v, rfl, hv.1, hv.2, h⟩
end Go.Proofs.Ytjmcgekegenobaa
