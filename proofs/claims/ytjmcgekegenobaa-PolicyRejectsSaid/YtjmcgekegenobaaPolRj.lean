/- Plain facts: an unknown option among those asked for; one asked for twice. No condition. -/
import Derived.Test.YtjmcgekegenobaaPolQ
namespace Go.Proofs.Ytjmcgekegenobaa
open Go.RowKit
set_option linter.unusedVariables false
set_option linter.unusedSimpArgs false
def ownR : Lk := ⟨0, 0, 0, true, ⟨#[]⟩, 0⟩
def zz : ByteArray := ⟨#[122, 122]⟩
def allR (a : Lk) (k : Int) (i : Nat) : List (Int × ByteArray) := (askL a).take i ++ [(k, zz)] ++ (askL a).drop i
theorem ask_kind {a : Lk} (ha : mayB a = true) {o : Int × ByteArray} (h : o ∈ askL a) : 0 ≤ o.1 ∧ o.1 ≤ 23 ∧ o.2.size ≤ 20 := by
  have h2 := right_six (ask_right ha o h)
  obtain ⟨hk, hd⟩ := h2
  unfold six at hk
  omega
theorem ownR_fine {a : Lk} (ha : mayB a = true) {o : Int × ByteArray} (h : o ∈ askL a) : bad0 ownR o = false := by
  unfold bad0
  rw [ask_right ha o h]
  cases (o.1 == 18) <;> rfl
theorem all_alone {a : Lk} (ha : mayB a = true) {k : Int} (hk : 100 ≤ k) (i : Nat) : Alone (allR a k i) := by
  have h := ask_alone a
  unfold Alone at h ⊢
  rw [← List.take_append_drop i (askL a)] at h
  obtain ⟨h1, h2, h3⟩ := List.pairwise_append.1 h
  unfold allR
  refine List.pairwise_append.2 ⟨List.pairwise_append.2 ⟨h1, List.pairwise_singleton _ _, ?_⟩, h2, ?_⟩
  · intro x hx y hy
    rw [List.mem_singleton] at hy
    subst hy
    have := ask_kind ha (List.mem_of_mem_take hx)
    show x.1 ≠ k
    omega
  · intro x hx y hy
    rcases List.mem_append.1 hx with hx | hx
    · exact h3 x hx y hy
    · rw [List.mem_singleton] at hx
      subst hx
      have := ask_kind ha (List.mem_of_mem_drop hy)
      show k ≠ y.1
      omega
theorem filter_fine {a : Lk} (ha : mayB a = true) {l : List (Int × ByteArray)} (h : ∀ o ∈ l, o ∈ askL a) : l.filter (bad0 ownR) = [] := by
  rw [List.filter_eq_nil_iff]
  intro o ho
  rw [ownR_fine ha (h o ho)]
  simp
theorem judge_all {a : Lk} (ha : mayB a = true) {k : Int} (hk : 100 ≤ k) (i : Nat) : judV ownR (allR a k i) = 2 ∧ judL ownR (allR a k i) = [(k, zz)] := by
  have hr : (allR a k i).filter (bad0 ownR) = [(k, zz)] := by
    unfold allR
    rw [List.filter_append, List.filter_append, filter_fine ha (fun o h => List.mem_of_mem_take h), filter_fine ha (fun o h => List.mem_of_mem_drop h)]
    have hb : bad0 ownR (k, zz) = true := by
      unfold bad0
      have : rightB k zz = false := by
        unfold rightB
        have e : sizeK k = -2 := by unfold sizeK; rw [if_neg (by omega), if_neg (by omega), if_neg (by omega), if_neg (by omega)]
        rw [e]; rfl
      rw [show rightB (k, zz).1 (k, zz).2 = false from this]; rfl
    simp [hb]
  unfold judV judL
  rw [rej_alone (all_alone ha hk i), List.take_length, hr]
  exact ⟨rfl, rfl⟩
theorem all_fits {a : Lk} (ha : mayB a = true) {k : Int} (hk : 100 ≤ k) (hk2 : k ≤ 163) (i : Nat) : FitsAll (allR a k i) := by
  intro j o h
  have hm := List.mem_of_getElem? h
  unfold allR at hm
  simp only [List.mem_append, List.mem_singleton] at hm
  rcases hm with (hm | hm) | hm
  · have := ask_kind ha (List.mem_of_mem_take hm); omega
  · subst hm; exact ⟨by show 0 ≤ k; omega, by show k ≤ 255; omega, by show zz.size ≤ 253; decide⟩
  · have := ask_kind ha (List.mem_of_mem_drop hm); omega
theorem rej_prefix (l : Lk) (os : List (Int × ByteArray)) (x : Int × ByteArray) : ∀ j, j ≤ os.length → rejTo l (os ++ [x]) j = rejTo l os j
  | 0, _ => rfl
  | j + 1, h => by
    rw [rejTo, rejTo, rej_prefix l os x j (by omega)]
    congr 1
    unfold rejAt isBadO
    rw [List.getElem?_append_left (by omega), List.take_append_of_le_length (by omega)]
theorem judge_twice {a : Lk} (ha : mayB a = true) {x : Int × ByteArray} (hx : (askL a)[0]? = some x) : judV ownR (askL a ++ [x]) = 2 ∧ judL ownR (askL a ++ [x]) = [x] := by
  have hr : rejTo ownR (askL a ++ [x]) (askL a ++ [x]).length = [x] := by
    rw [List.length_append]
    show rejTo ownR (askL a ++ [x]) (askL a).length ++ rejAt ownR (askL a ++ [x]) (askL a).length = [x]
    rw [rej_prefix _ _ _ _ (Nat.le_refl _), rej_alone (ask_alone a), List.take_length, filter_fine ha (fun o h => h)]
    unfold rejAt
    rw [List.getElem?_append_right (Nat.le_refl _), Nat.sub_self]
    show [] ++ (if isBadO ownR (askL a ++ [x]) (askL a).length x then [x] else []) = [x]
    have hb : isBadO ownR (askL a ++ [x]) (askL a).length x = true := by
      unfold isBadO
      rw [List.take_append_of_le_length (Nat.le_refl _), List.take_length, decide_eq_true (idx_pos hx rfl)]
      simp
    rw [hb]
    rfl
  unfold judV judL
  rw [hr]
  exact ⟨rfl, rfl⟩
theorem twice_bad {a : Lk} {x : Int × ByteArray} (hx : (askL a)[0]? = some x) : anyBad (askL a ++ [x]) (askL a ++ [x]).length = true := by
  refine anyBad_at (k := (askL a).length) (by simp) ?_
  unfold badAt
  rw [List.getElem?_append_right (Nat.le_refl _), Nat.sub_self]
  show (!rightB x.1 x.2 || decide (0 ≤ idxOf (fun y _ => y == x.1) ((askL a ++ [x]).take (askL a).length))) = true
  rw [List.take_append_of_le_length (Nat.le_refl _), List.take_length, decide_eq_true (idx_pos hx rfl)]
  simp
theorem twice_fits {a : Lk} (ha : mayB a = true) {x : Int × ByteArray} (hx : (askL a)[0]? = some x) : FitsAll (askL a ++ [x]) := by
  intro j o h
  have hm := List.mem_of_getElem? h
  simp only [List.mem_append, List.mem_singleton] at hm
  have : o ∈ askL a := by
    rcases hm with hm | hm
    · exact hm
    · subst hm; exact List.mem_of_getElem? hx
  have := ask_kind ha this
  omega
theorem OptsAt.drop {w : World} {b off n : Nat} {os : List (Int × ByteArray)} (h : OptsAt w (some ⟨b, off, none⟩) n os) (i : Nat) : OptsAt w (some ⟨b, off + i * 2, none⟩) (n - i) (os.drop i) := by
  refine ⟨by rw [List.length_drop, h.1], fun h0 => ?_⟩
  obtain ⟨b', off', e, hlt, hc⟩ := h.2 (by omega)
  obtain ⟨rfl, rfl, -⟩ := Addr.mk.inj (Option.some.inj e)
  refine ⟨b, _, rfl, hlt, fun j hj => ?_⟩
  rw [List.length_drop] at hj
  have hj2 : i + j < os.length := by omega
  rw [List.getElem_drop]
  obtain ⟨c1, c2⟩ := hc (i + j) hj2
  rw [show off + (i + j) * 2 = off + i * 2 + j * 2 by omega] at c1 c2
  exact ⟨c1, c2⟩
end Go.Proofs.Ytjmcgekegenobaa
