/- Plain facts on a sorted list of timers, and the state of Timers in plain words. No program in sight but the state. -/
import Derived.Test.YtjhcengdaclihaaTimM
namespace Go.Proofs.Ytjhcengdaclihaa
open Go.RowKit
set_option linter.unusedVariables false
set_option linter.unusedSimpArgs false
open Go.Maps
def Srt (S : List Tm) : Prop := S.Pairwise (fun a b => lt a b = true)
def Ids (S : List Tm) : Prop := S.Pairwise (fun a b => a.1 ≠ b.1)
def insT (t : Tm) : List Tm → List Tm
  | [] => [t]
  | x :: xs => if lt t x then t :: x :: xs else x :: insT t xs
def stopT (id : Int) (S : List Tm) : List Tm := S.filter (fun x => !(x.1 == id))
def hasT (id : Int) (S : List Tm) : Bool := S.any (fun x => x.1 == id)
theorem lt_tr {a b c : Tm} (h : lt a b = true) (h2 : lt b c = true) : lt a c = true := by rw [lt_iff] at *; omega
theorem Ids.perm {a b : List Tm} (h : Ids a) (hp : a.Perm b) : Ids b := List.Pairwise.perm h hp (fun e => Ne.symm e)
theorem PlaceOk.uniq {D : DU} {ts : List Tm} (h : PlaceOk D ts) : Ids ts := by
  unfold Ids
  rw [List.pairwise_iff_getElem]
  intro i j hi hj hij e
  have := h.ids (i := i) (k := j) (x := ts[i]) (y := ts[j]) (List.getElem?_eq_getElem hi) (List.getElem?_eq_getElem hj) e
  omega
theorem insT_perm (t : Tm) (S : List Tm) : (insT t S).Perm (t :: S) := by
  induction S with
  | nil => exact List.Perm.refl _
  | cons x xs ih =>
    unfold insT
    split
    · exact List.Perm.refl _
    · exact (ih.cons x).trans (List.Perm.swap t x xs)
theorem insT_srt {t : Tm} {S : List Tm} (h : Srt S) (hn : ∀ x ∈ S, x.1 ≠ t.1) : Srt (insT t S) := by
  induction S with
  | nil => exact List.pairwise_singleton _ _
  | cons x xs ih =>
    have h' := List.pairwise_cons.1 h
    unfold insT
    split
    · rename_i hl
      refine List.pairwise_cons.2 ⟨fun y hy => ?_, h⟩
      rcases List.mem_cons.1 hy with rfl | hy
      · exact hl
      · exact lt_tr hl (h'.1 y hy)
    · rename_i hl
      refine List.pairwise_cons.2 ⟨fun y hy => ?_, ih h'.2 (fun z hz => hn z (by simp [hz]))⟩
      rcases List.mem_cons.1 ((insT_perm t xs).mem_iff.1 hy) with rfl | hy
      · cases e : lt x y with
        | true => rfl
        | false =>
          have := lt_tri e (by simpa using hl)
          exact absurd (congrArg Prod.fst this) (hn x (by simp))
      · exact h'.1 y hy
theorem stop_srt {S : List Tm} (id : Int) (h : Srt S) : Srt (stopT id S) := List.Pairwise.filter _ h
theorem stop_ids {S : List Tm} (id : Int) (h : Ids S) : Ids (stopT id S) := List.Pairwise.filter _ h
theorem stop_no {S : List Tm} {id : Int} : ∀ x ∈ stopT id S, x.1 ≠ id := fun x hx => by
  have := (List.mem_filter.1 hx).2
  simpa using this
theorem stop_none {S : List Tm} {id : Int} (h : hasT id S = false) : stopT id S = S := by
  unfold hasT at h
  rw [List.any_eq_false] at h
  exact List.filter_eq_self.2 (fun x hx => by have := h x hx; simpa using this)
theorem insT_ids {t : Tm} {S : List Tm} (h : Ids S) (hn : ∀ x ∈ S, x.1 ≠ t.1) : Ids (insT t S) := Ids.perm (a := t :: S) (List.pairwise_cons.2 ⟨fun y hy e => hn y hy e.symm, h⟩) (insT_perm t S).symm
theorem has_perm {a b : List Tm} (id : Int) (h : a.Perm b) : hasT id a = hasT id b := by
  unfold hasT
  rw [Bool.eq_iff_iff, List.any_eq_true, List.any_eq_true]
  constructor
  · rintro ⟨x, hx, e⟩; exact ⟨x, h.mem_iff.1 hx, e⟩
  · rintro ⟨x, hx, e⟩; exact ⟨x, h.mem_iff.2 hx, e⟩
theorem stop_perm {a b : List Tm} (id : Int) (h : a.Perm b) : (stopT id a).Perm (stopT id b) := h.filter _
theorem root {ts : List Tm} {n : Nat} (h : Heap ts n) : ∀ c, c < n → lt (el ts c) (el ts 0) = false := by
  intro c
  induction c using Nat.strongRecOn with
  | _ c ih =>
    intro hc
    by_cases e : c = 0
    · subst e; exact lt_self _
    · have hp := par_lt (c := c) (by omega)
      exact le_tr (ih (par c) hp (by omega)) (h c (by omega) hc)
theorem el_mem {ts : List Tm} {c : Nat} (h : c < ts.length) : el ts c ∈ ts := List.mem_of_getElem? (el_at h)
theorem head_ {ts S : List Tm} {x : Tm} (h : Heap ts ts.length) (hp : ts.Perm (x :: S)) (hs : Srt (x :: S)) : el ts 0 = x := by
  have hl : 0 < ts.length := by rw [hp.length_eq]; simp
  rcases List.mem_cons.1 (hp.mem_iff.1 (el_mem hl)) with e | e
  · exact e
  · have h1 := (List.pairwise_cons.1 hs).1 _ e
    obtain ⟨c, hc⟩ := List.mem_iff_getElem?.1 (hp.mem_iff.2 (List.mem_cons_self (a := x) (l := S)))
    have hcl := (List.getElem?_eq_some_iff.1 hc).1
    have h2 := root h c hcl
    rw [el_of hc, h1] at h2
    cases h2
theorem set_perm {ts : List Tm} {k : Nat} {x t : Tm} (h : Ids ts) (hx : ts[k]? = some x) : (ts.set k t).Perm (t :: stopT x.1 ts) := by
  induction ts generalizing k with
  | nil => simp at hx
  | cons a ts ih =>
    have h' := List.pairwise_cons.1 h
    cases k with
    | zero =>
      obtain rfl : a = x := by simpa using hx
      have e : stopT a.1 (a :: ts) = ts := by
        have e2 : stopT a.1 ts = ts := List.filter_eq_self.2 (fun y hy => by have := h'.1 y hy; simpa using Ne.symm this)
        show (a :: ts).filter _ = ts
        rw [List.filter_cons_of_neg (by simp)]
        exact e2
      rw [e]
      exact List.Perm.refl _
    | succ k =>
      have hx' : ts[k]? = some x := by simpa using hx
      have hne : a.1 ≠ x.1 := h'.1 x (List.mem_of_getElem? hx')
      have e : stopT x.1 (a :: ts) = a :: stopT x.1 ts := List.filter_cons_of_pos (by simpa using hne)
      rw [e]
      exact ((ih h'.2 hx').cons a).trans (List.Perm.swap t a _)
theorem rem_perm {ts ts' S : List Tm} {x : Tm} (h : (x :: ts').Perm ts) (hi : Ids ts) (hp : ts.Perm S) : ts'.Perm (stopT x.1 S) := by
  have h1 := stop_perm x.1 (h.trans hp)
  have h2 := hi.perm h.symm
  have e : stopT x.1 (x :: ts') = ts' := by
    have h' := List.pairwise_cons.1 h2
    have e2 : stopT x.1 ts' = ts' := List.filter_eq_self.2 (fun y hy => by have := h'.1 y hy; simpa using Ne.symm this)
    show (x :: ts').filter _ = ts'
    rw [List.filter_cons_of_neg (by simp)]
    exact e2
  rw [e] at h1
  exact h1
/-- Timers at g, their map at mb, their row v: S, sorted. -/
def TA (w : World) (g mb : Nat) (v : Value) (S : List Tm) : Prop := ∃ D ts, PileAt w g mb v D ts ∧ Heap ts ts.length ∧ ts.Perm S ∧ Srt S ∧ Ids S
theorem TA.len {w : World} {g mb : Nat} {v : Value} {S : List Tm} (h : TA w g mb v S) : S.length ≤ 256 := by
  obtain ⟨D, ts, h1, -, h2, -⟩ := h
  rw [← h2.length_eq]; exact h1.le
theorem TA.keep {w w' : World} {g mb : Nat} {v : Value} {S : List Tm} (h : TA w g mb v S) (hb : Below w.heap.size w w') : TA w' g mb v S := by
  obtain ⟨D, ts, h1, h2⟩ := h
  exact ⟨D, ts, h1.keep hb, h2⟩
/-- What a set does. -/
def setT (id at_ : Int) (S : List Tm) : List Tm := insT (id, at_) (stopT id S)
theorem set_srt {id at_ : Int} {S : List Tm} (h : Srt S) : Srt (setT id at_ S) := insT_srt (stop_srt _ h) stop_no
theorem set_ids {id at_ : Int} {S : List Tm} (h : Ids S) : Ids (setT id at_ S) := insT_ids (stop_ids _ h) stop_no
theorem set_of {id at_ : Int} {ts ts' S : List Tm} {k : Nat} {x : Tm} (hi : Ids ts) (hp : ts.Perm S) (hx : ts[k]? = some x) (he : x.1 = id) (h : ts'.Perm (ts.set k (id, at_))) : ts'.Perm (setT id at_ S) := by
  subst he
  exact h.trans ((set_perm hi hx).trans (((stop_perm x.1 hp).cons _).trans (insT_perm _ _).symm))
theorem set_new {id at_ : Int} {ts ts' S : List Tm} (hp : ts.Perm S) (hn : hasT id S = false) (h : ts'.Perm (ts ++ [(id, at_)])) : ts'.Perm (setT id at_ S) := by
  unfold setT
  rw [stop_none hn]
  exact h.trans ((List.perm_append_singleton _ _).trans ((hp.cons _).trans (insT_perm _ _).symm))
end Go.Proofs.Ytjhcengdaclihaa
