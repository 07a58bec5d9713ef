/- Plain facts on heaps: what moving up and down keeps. No program in sight. -/
import Derived.Test.YtjhcengdaclihaaTimB
namespace Go.Proofs.Ytjhcengdaclihaa
open Go.RowKit
set_option linter.unusedVariables false
set_option linter.unusedSimpArgs false
open Go.Maps
def el (ts : List Tm) (c : Nat) : Tm := ts.getD c (0, 0)
theorem el_at {ts : List Tm} {i : Nat} (h : i < ts.length) : ts[i]? = some (el ts i) := by unfold el; simp [h]
theorem el_of {ts : List Tm} {i : Nat} {t : Tm} (h : ts[i]? = some t) : el ts i = t := by unfold el; simp [h]
theorem lt_iff (a b : Tm) : lt a b = true ↔ a.2 < b.2 ∨ (a.2 = b.2 ∧ a.1 < b.1) := by unfold lt; simp
theorem lt_no (a b : Tm) : lt a b = false ↔ ¬ (a.2 < b.2 ∨ (a.2 = b.2 ∧ a.1 < b.1)) := by rw [← lt_iff]; simp
theorem lt_asym {a b : Tm} (h : lt a b = true) : lt b a = false := by rw [lt_iff] at h; rw [lt_no]; omega
theorem le_tr {a b c : Tm} (h : lt b a = false) (h2 : lt c b = false) : lt c a = false := by rw [lt_no] at *; omega
theorem lt_self (a : Tm) : lt a a = false := by rw [lt_no]; omega
theorem lt_tri {a b : Tm} (h : lt a b = false) (h2 : lt b a = false) : a = b := by
  rw [lt_no] at *
  have e1 : a.1 = b.1 := by omega
  have e2 : a.2 = b.2 := by omega
  exact Prod.ext e1 e2
theorem el_swp {ts : List Tm} {i k : Nat} (hi : i < ts.length) (hk : k < ts.length) (c : Nat) : el (swp ts i k (el ts i) (el ts k)) c = if c = k then el ts i else if c = i then el ts k else el ts c := by
  unfold el
  rw [List.getD_eq_getElem?_getD, swp_get hi hk]
  split
  · rfl
  · split
    · rfl
    · rw [List.getD_eq_getElem?_getD]
theorem swp_perm {ts : List Tm} {i k : Nat} {x y : Tm} (hx : ts[i]? = some x) (hy : ts[k]? = some y) : (swp ts i k x y).Perm ts := by
  have hi := (List.getElem?_eq_some_iff.1 hx).1
  have hk := (List.getElem?_eq_some_iff.1 hy).1
  have e : swp ts i k x y = (ts.set i ts[k]).set k ts[i] := by
    unfold swp
    rw [(List.getElem?_eq_some_iff.1 hx).2, (List.getElem?_eq_some_iff.1 hy).2]
  rw [e]
  exact List.set_set_perm hi hk
def par (c : Nat) : Nat := (c - 1) / 2
theorem par_lt {c : Nat} (h : 1 ≤ c) : par c < c := by unfold par; omega
def Heap (ts : List Tm) (n : Nat) : Prop := ∀ c, 1 ≤ c → c < n → lt (el ts c) (el ts (par c)) = false
def UpI (ts : List Tm) (n j : Nat) : Prop := (∀ c, 1 ≤ c → c < n → c ≠ j → lt (el ts c) (el ts (par c)) = false) ∧ ∀ c, 1 ≤ c → c < n → par c = j → 1 ≤ j → lt (el ts c) (el ts (par j)) = false
theorem UpI.end0 {ts : List Tm} {n : Nat} (h : UpI ts n 0) : Heap ts n := fun c h1 h2 => h.1 c h1 h2 (by omega)
theorem UpI.end_ {ts : List Tm} {n j : Nat} (h : UpI ts n j) (hl : lt (el ts j) (el ts (par j)) = false) : Heap ts n := fun c h1 h2 => by
  by_cases e : c = j
  · subst e; exact hl
  · exact h.1 c h1 h2 e
theorem UpI.step {ts : List Tm} {n j : Nat} (h : UpI ts n j) (hn : n ≤ ts.length) (hj : 1 ≤ j) (hjn : j < n) (hl : lt (el ts j) (el ts (par j)) = true) : UpI (swp ts (par j) j (el ts (par j)) (el ts j)) n (par j) := by
  have hp := par_lt hj
  have E := el_swp (ts := ts) (i := par j) (k := j) (by omega) (by omega)
  refine ⟨fun c h1 h2 h3 => ?_, fun c h1 h2 h3 h4 => ?_⟩
  · rw [E, E]
    have hc := par_lt h1
    by_cases e1 : c = j
    · subst e1
      rw [if_pos rfl, if_neg (by omega), if_pos rfl]
      exact lt_asym hl
    · rw [if_neg e1, if_neg h3]
      by_cases e2 : par c = j
      · rw [if_pos e2]
        exact h.2 c h1 h2 e2 hj
      · rw [if_neg e2]
        by_cases e3 : par c = par j
        · rw [if_pos e3]
          have h5 := h.1 c h1 h2 e1
          rw [e3] at h5
          exact le_tr (lt_asym hl) h5
        · rw [if_neg e3]
          exact h.1 c h1 h2 e1
  · have hc := par_lt h1
    have hpp := par_lt h4
    rw [E, E, if_neg (show ¬ par (par j) = j by omega), if_neg (show ¬ par (par j) = par j by omega)]
    have h6 := h.1 (par j) h4 (by omega) (by omega)
    by_cases e1 : c = j
    · rw [if_pos e1]
      exact h6
    · rw [if_neg e1, if_neg (by omega)]
      have h5 := h.1 c h1 h2 e1
      rw [h3] at h5
      exact le_tr h6 h5
/-- Moving down from i0, come to i. -/
def DnI (ts : List Tm) (n i0 i : Nat) : Prop := (∀ c, 1 ≤ c → c < n → c ≠ i0 → par c ≠ i → lt (el ts c) (el ts (par c)) = false) ∧ (∀ c, 1 ≤ c → c < n → par c = i → 1 ≤ i → lt (el ts c) (el ts (par i)) = false) ∧ i0 ≤ i ∧ (i0 < i → 1 ≤ i0 → lt (el ts i0) (el ts (par i0)) = false)
theorem DnI.end_ {ts : List Tm} {n i0 i : Nat} (h : DnI ts n i0 i) (hl : ∀ c, 1 ≤ c → c < n → par c = i → lt (el ts c) (el ts i) = false) : (i0 < i → Heap ts n) ∧ UpI ts n i0 := by
  obtain ⟨h1, h2, h3, h4⟩ := h
  have key : ∀ c, 1 ≤ c → c < n → c ≠ i0 → lt (el ts c) (el ts (par c)) = false := fun c a b d => by
    by_cases e : par c = i
    · rw [e]; exact hl c a b e
    · exact h1 c a b d e
  refine ⟨fun hi c a b => ?_, key, fun c a b e d => ?_⟩
  · by_cases e : c = i0
    · subst e; exact h4 hi a
    · exact key c a b e
  · by_cases hi : i0 < i
    · have hc := par_lt a
      have h5 := key c a b (by omega)
      rw [e] at h5
      exact le_tr (h4 hi d) h5
    · obtain rfl : i0 = i := by omega
      exact h2 c a b e d
theorem DnI.step {ts : List Tm} {n i0 i j : Nat} (h : DnI ts n i0 i) (hn : n ≤ ts.length) (hj1 : 1 ≤ j) (hj : j < n) (hp : par j = i) (hmin : ∀ c, 1 ≤ c → c < n → par c = i → lt (el ts c) (el ts j) = false) (hl : lt (el ts j) (el ts i) = true) : DnI (swp ts i j (el ts i) (el ts j)) n i0 j := by
  obtain ⟨h1, h2, h3, h4⟩ := h
  have hij := par_lt hj1
  rw [hp] at hij
  have E := el_swp (ts := ts) (i := i) (k := j) (by omega) (by omega)
  refine ⟨fun c a b d e => ?_, fun c a b d e => ?_, by omega, fun a b => ?_⟩
  · rw [E, E]
    have hc := par_lt a
    rw [if_neg e]
    by_cases e1 : c = j
    · subst e1
      rw [if_pos rfl, hp, if_pos rfl]
      exact lt_asym hl
    · rw [if_neg e1]
      by_cases e2 : c = i
      · subst e2
        rw [if_pos rfl, if_neg (by omega)]
        exact h2 j hj1 hj hp a
      · rw [if_neg e2]
        by_cases e3 : par c = i
        · rw [if_pos e3]
          exact hmin c a b e3
        · rw [if_neg e3]
          exact h1 c a b d e3
  · rw [E, E]
    have hc := par_lt a
    rw [if_neg (show ¬ c = j by omega), if_neg (show ¬ c = i by omega), if_neg (show ¬ par j = j by omega), hp, if_pos rfl]
    have h5 := h1 c a b (by omega) (by omega)
    rw [d] at h5
    exact h5
  · rw [E, E]
    have hc := par_lt b
    rw [if_neg (show ¬ i0 = j by omega), if_neg (show ¬ par i0 = j by omega), if_neg (show ¬ par i0 = i by omega)]
    by_cases e1 : i0 = i
    · subst e1
      rw [if_pos rfl]
      exact h2 j hj1 hj hp b
    · rw [if_neg e1]
      exact h4 (by omega) b
/-- What a mover leaves: the same timers; none from n on has moved. -/
def Mov (ts ts' : List Tm) (n : Nat) : Prop := ts'.Perm ts ∧ ts'.length = ts.length ∧ ∀ c, n ≤ c → ts'[c]? = ts[c]?
theorem Mov.refl (ts : List Tm) (n : Nat) : Mov ts ts n := ⟨List.Perm.refl _, rfl, fun _ _ => rfl⟩
theorem Mov.swp {a ts : List Tm} {n i k : Nat} (h : Mov a ts n) (hi : i < n) (hk : k < n) (hn : n ≤ ts.length) : Mov a (swp ts i k (el ts i) (el ts k)) n := by
  refine ⟨(swp_perm (el_at (by omega)) (el_at (by omega))).trans h.1, (swp_len _ _ _ _ _).trans h.2.1, fun c hc => ?_⟩
  rw [swp_get (by omega) (by omega), if_neg (by omega), if_neg (by omega)]
  exact h.2.2 c hc
end Go.Proofs.Ytjhcengdaclihaa
