/- Plain facts: to learn the same again turns nothing more; what is learned may be. No condition. -/
import Derived.Test.YtjmcgekegenobaaPolQ
namespace Go.Proofs.Ytjmcgekegenobaa
open Go.RowKit
set_option linter.unusedVariables false
set_option linter.unusedSimpArgs false
section
variable {X O : Type} (isz : X → Bool) (g : O → Option X)
def stp (x : X) (o : O) : X := if isz x then x else match g o with | some v => v | none => x
theorem stp_yes {x : X} {o : O} (h : isz x = true) : stp isz g x o = x := by unfold stp; rw [if_pos h]
theorem stp_some {x v : X} {o : O} (h : isz x = false) (hg : g o = some v) : stp isz g x o = v := by unfold stp; rw [h, hg]; rfl
theorem fold_stay : ∀ (os : List O) (x : X), isz x = true → os.foldl (stp isz g) x = x
  | [], _, _ => rfl
  | o :: os, x, h => by
    rw [List.foldl_cons, show stp isz g x o = x from by unfold stp; rw [if_pos h]]
    exact fold_stay os x h
theorem fold_two : ∀ (os : List O) (x y : X), isz x = false → isz y = false → os.foldl (stp isz g) x = os.foldl (stp isz g) y ∨ (os.foldl (stp isz g) x = x ∧ os.foldl (stp isz g) y = y)
  | [], _, _, _, _ => .inr ⟨rfl, rfl⟩
  | o :: os, x, y, hx, hy => by
    rw [List.foldl_cons, List.foldl_cons]
    cases hg : g o with
    | some v =>
      left
      rw [show stp isz g x o = v from by unfold stp; rw [hx, hg]; rfl, show stp isz g y o = v from by unfold stp; rw [hy, hg]; rfl]
    | none =>
      rw [show stp isz g x o = x from by unfold stp; rw [hx, hg]; rfl, show stp isz g y o = y from by unfold stp; rw [hy, hg]; rfl]
      exact fold_two os x y hx hy
theorem fold_idem (os : List O) (x : X) : os.foldl (stp isz g) (os.foldl (stp isz g) x) = os.foldl (stp isz g) x := by
  cases hx : isz x
  · cases hy : isz (os.foldl (stp isz g) x)
    · rcases fold_two isz g os x _ hx hy with h | ⟨-, h⟩
      · exact h.symm
      · exact h
    · exact fold_stay isz g os _ hy
  · rw [fold_stay isz g os x hx, fold_stay isz g os x hx]
end
theorem fold_field {X : Type} {isz : X → Bool} {g : Int × ByteArray → Option X} {c : Int} (p : Lk → X) (h : ∀ l o, p (stepL c l o) = stp isz g (p l) o) : ∀ (os : List (Int × ByteArray)) (l : Lk), p (learnAll c l os) = os.foldl (stp isz g) (p l)
  | [], _ => rfl
  | o :: os, l => by
    show p (learnAll c (stepL c l o) os) = _
    rw [fold_field p h os, h]
    rfl
theorem field_idem {X : Type} {isz : X → Bool} {g : Int × ByteArray → Option X} {c : Int} (p : Lk → X) (h : ∀ l o, p (stepL c l o) = stp isz g (p l) o) (os : List (Int × ByteArray)) (l : Lk) : p (learnAll c (learnAll c l os) os) = p (learnAll c l os) := by
  rw [fold_field p h, fold_field p h, fold_idem]
def numG (K c : Int) (o : Int × ByteArray) : Option Int := if o.1 = K ∧ rightB o.1 o.2 = true then (if c = 4 then some 0 else if unfitB o.1 o.2 then none else some (val o.2)) else none
def shG (c : Int) (o : Int × ByteArray) : Option Bool := if o.1 = 18 ∧ rightB o.1 o.2 = true then (if c = 4 then some false else some true) else none
def dsG (c : Int) (o : Int × ByteArray) : Option ByteArray := if o.1 = 19 ∧ rightB o.1 o.2 = true then (if c = 4 then some ⟨#[]⟩ else some o.2) else none
theorem step_out {c : Int} {l : Lk} {k : Int} {d : ByteArray} (h : rightB k d = false) : stepL c l (k, d) = l := by
  show (if rightB k d && asksB l k then _ else _) = _
  rw [h]; rfl
theorem step_not {c : Int} {l : Lk} {k : Int} {d : ByteArray} (h : asksB l k = false) : stepL c l (k, d) = l := by
  show (if rightB k d && asksB l k then _ else _) = _
  rw [h, Bool.and_false]; rfl
theorem step_in {c : Int} {l : Lk} {k : Int} {d : ByteArray} (h : rightB k d = true) (ha : asksB l k = true) : stepL c l (k, d) = if c = 4 then clearL l k else learnL l k d := by
  show (if rightB k d && asksB l k then _ else _) = _
  rw [h, ha]; rfl
theorem stp_far {X : Type} {isz : X → Bool} {g : Int × ByteArray → Option X} {x : X} {o : Int × ByteArray} (h : g o = none) : stp isz g x o = x := by
  unfold stp; rw [h]; split <;> rfl
theorem step_other (c : Int) (l : Lk) (k : Int) (d : ByteArray) (hr : rightB k d = true) : ((k ≠ 1) → (stepL c l (k, d)).mru = l.mru) ∧ ((k ≠ 5) → (stepL c l (k, d)).magic = l.magic) ∧ ((k ≠ 17) → (stepL c l (k, d)).mrru = l.mrru) ∧ ((k ≠ 18) → (stepL c l (k, d)).short = l.short) ∧ ((k ≠ 19) → (stepL c l (k, d)).disc = l.disc) ∧ ((k ≠ 23) → (stepL c l (k, d)).num = l.num) := by
  cases ha : asksB l k
  · rw [step_not ha]; simp
  · rw [step_in hr ha]
    have hs := (right_six hr).1
    by_cases h4 : c = 4
    · rw [if_pos h4]
      rcases hs with rfl | rfl | rfl | rfl | rfl | rfl <;> simp [clearL]
    · rw [if_neg h4]
      unfold learnL
      cases unfitB k d
      · rcases hs with rfl | rfl | rfl | rfl | rfl | rfl <;> simp [setL]
      · simp
theorem num_step {K c : Int} {p : Lk → Int} (ho : ∀ l k d, rightB k d = true → k ≠ K → p (stepL c l (k, d)) = p l) (ha : ∀ l, asksB l K = (p l != 0)) (hc : ∀ l, p (clearL l K) = 0) (hs : ∀ l d, p (setL l K d) = val d) (l : Lk) (o : Int × ByteArray) : p (stepL c l o) = stp (· == 0) (numG K c) (p l) o := by
  obtain ⟨k, d⟩ := o
  cases hr : rightB k d
  · rw [step_out hr, stp_far]
    unfold numG; rw [if_neg (by rintro ⟨-, h⟩; rw [show rightB k d = false from hr] at h; cases h)]
  · by_cases hk : k = K
    · subst hk
      have hg : numG k c (k, d) = if c = 4 then some 0 else if unfitB k d then none else some (val d) := by unfold numG; rw [if_pos ⟨rfl, hr⟩]
      cases hz : (p l == 0)
      · have h1 : asksB l k = true := by rw [ha]; unfold bne; rw [hz]; rfl
        rw [step_in hr h1]
        by_cases h4 : c = 4
        · rw [if_pos h4] at hg ⊢
          rw [stp_some (fun x : Int => x == 0) _ hz hg, hc]
        · rw [if_neg h4] at hg ⊢
          unfold learnL
          cases hu : unfitB k d
          · rw [hu, if_neg (by decide)] at hg
            rw [stp_some (fun x : Int => x == 0) _ hz hg, if_neg (by decide)]
            exact hs l d
          · rw [hu, if_pos rfl] at hg
            rw [stp_far hg, if_pos rfl]
      · have h1 : asksB l k = false := by rw [ha]; unfold bne; rw [hz]; rfl
        rw [step_not h1, stp_yes (fun x : Int => x == 0) _ hz]
    · rw [ho l k d hr hk, stp_far]
      unfold numG; rw [if_neg (by rintro ⟨h, -⟩; exact hk h)]
theorem mru_step (c : Int) (l : Lk) (o : Int × ByteArray) : (stepL c l o).mru = stp (· == 0) (numG 1 c) l.mru o := num_step (p := Lk.mru) (fun l k d hr hk => (step_other c l k d hr).1 hk) (fun _ => rfl) (fun _ => rfl) (fun _ _ => rfl) l o
theorem magic_step (c : Int) (l : Lk) (o : Int × ByteArray) : (stepL c l o).magic = stp (· == 0) (numG 5 c) l.magic o := num_step (p := Lk.magic) (fun l k d hr hk => (step_other c l k d hr).2.1 hk) (fun _ => rfl) (fun _ => rfl) (fun _ _ => rfl) l o
theorem mrru_step (c : Int) (l : Lk) (o : Int × ByteArray) : (stepL c l o).mrru = stp (· == 0) (numG 17 c) l.mrru o := num_step (p := Lk.mrru) (fun l k d hr hk => (step_other c l k d hr).2.2.1 hk) (fun _ => rfl) (fun _ => rfl) (fun _ _ => rfl) l o
theorem num_step' (c : Int) (l : Lk) (o : Int × ByteArray) : (stepL c l o).num = stp (· == 0) (numG 23 c) l.num o := num_step (p := Lk.num) (fun l k d hr hk => (step_other c l k d hr).2.2.2.2.2 hk) (fun _ => rfl) (fun _ => rfl) (fun _ _ => rfl) l o
theorem short_step (c : Int) (l : Lk) (o : Int × ByteArray) : (stepL c l o).short = stp (fun s => !s) (shG c) l.short o := by
  obtain ⟨k, d⟩ := o
  cases hr : rightB k d
  · rw [step_out hr, stp_far]
    unfold shG; rw [if_neg (by rintro ⟨-, h⟩; rw [show rightB k d = false from hr] at h; cases h)]
  · by_cases hk : k = 18
    · subst hk
      have hg : shG c (18, d) = if c = 4 then some false else some true := by unfold shG; rw [if_pos ⟨rfl, hr⟩]
      unfold stp
      rw [hg]
      cases hz : l.short
      · rw [step_not (show asksB l 18 = false from hz), hz]; rfl
      · rw [step_in hr (show asksB l 18 = true from hz)]
        by_cases h4 : c = 4
        · rw [if_pos h4, if_pos h4]; rfl
        · rw [if_neg h4, if_neg h4]; rfl
    · rw [(step_other c l k d hr).2.2.2.1 hk, stp_far]
      unfold shG; rw [if_neg (by rintro ⟨h, -⟩; exact hk h)]
theorem disc_step (c : Int) (l : Lk) (o : Int × ByteArray) : (stepL c l o).disc = stp (fun s => decide (s.size = 0)) (dsG c) l.disc o := by
  obtain ⟨k, d⟩ := o
  cases hr : rightB k d
  · rw [step_out hr, stp_far]
    unfold dsG; rw [if_neg (by rintro ⟨-, h⟩; rw [show rightB k d = false from hr] at h; cases h)]
  · by_cases hk : k = 19
    · subst hk
      have hg : dsG c (19, d) = if c = 4 then some ⟨#[]⟩ else some d := by unfold dsG; rw [if_pos ⟨rfl, hr⟩]
      cases hz : decide (l.disc.size = 0)
      · rw [step_in hr (show asksB l 19 = true by rw [asks19, hz]; rfl)]
        by_cases h4 : c = 4
        · rw [if_pos h4] at hg ⊢
          rw [stp_some (fun s : ByteArray => decide (s.size = 0)) _ hz hg]; rfl
        · rw [if_neg h4] at hg ⊢
          rw [stp_some (fun s : ByteArray => decide (s.size = 0)) _ hz hg]; rfl
      · rw [step_not (show asksB l 19 = false by rw [asks19, hz]; rfl), stp_yes (fun s : ByteArray => decide (s.size = 0)) _ hz]
    · rw [(step_other c l k d hr).2.2.2.2.1 hk, stp_far]
      unfold dsG; rw [if_neg (by rintro ⟨h, -⟩; exact hk h)]
theorem learn_twice (c : Int) (l : Lk) (os : List (Int × ByteArray)) : learnAll c (learnAll c l os) os = learnAll c l os :=
  Lk.ext' (field_idem Lk.mru (mru_step c) os l) (field_idem Lk.magic (magic_step c) os l) (field_idem Lk.mrru (mrru_step c) os l) (field_idem Lk.short (short_step c) os l) (field_idem Lk.disc (disc_step c) os l) (field_idem Lk.num (num_step' c) os l)
theorem val_range {d : ByteArray} (h : d.size ≤ 4) : 0 ≤ val d ∧ val d < 256 ^ d.size := by
  rw [val_be h]
  exact beV_range d d.size h
theorem may_step {c : Int} {l : Lk} (h : mayB l = true) (o : Int × ByteArray) : mayB (stepL c l o) = true := by
  obtain ⟨k, d⟩ := o
  cases hr : rightB k d
  · rw [step_out hr]; exact h
  · cases ha : asksB l k
    · rw [step_not ha]; exact h
    · rw [step_in hr ha]
      have hs := (right_six hr).1
      have hu := (right_six hr).2
      unfold mayB at h ⊢
      simp only [Bool.and_eq_true, Bool.or_eq_true, decide_eq_true_eq] at h ⊢
      by_cases h4 : c = 4
      · rw [if_pos h4]
        rcases hs with rfl | rfl | rfl | rfl | rfl | rfl <;> simp [clearL] <;> simp_all <;> (try decide)
      · rw [if_neg h4]
        unfold learnL
        cases hf : unfitB k d
        · have z1 : k = 1 ∨ k = 17 → unitB (val d) = true := by
            intro hk
            unfold unfitB at hf
            cases hv : unitB (val d)
            · rw [hv] at hf
              rcases hk with rfl | rfl <;> simp at hf
            · rfl
          have z2 : k = 5 ∨ k = 23 → 0 ≤ val d ∧ val d < (if k = 5 then 4294967296 else 65536) := by
            intro hk
            have hz : d.size = (if k = 5 then 4 else 2) := by
              unfold rightB at hr
              rcases hk with rfl | rfl
              · rw [show sizeK 5 = 4 from rfl] at hr; simp at hr; rw [if_pos rfl]; omega
              · rw [show sizeK 23 = 2 from rfl] at hr; simp at hr; rw [if_neg (by decide)]; omega
            have hv := val_range (d := d) (by rw [hz]; split <;> omega)
            rw [hz] at hv
            rcases hk with rfl | rfl
            · rw [if_pos rfl] at hv ⊢; exact hv
            · rw [if_neg (by decide)] at hv ⊢; exact hv
          simp only [Bool.false_eq_true, if_false]
          rcases hs with rfl | rfl | rfl | rfl | rfl | rfl
          · have := z1 (.inl rfl); simp [setL]; simp_all
          · have := z2 (.inl rfl); simp [setL]; rw [if_pos rfl] at this; exact ⟨⟨⟨⟨⟨h.1.1.1.1.1, by omega⟩, by omega⟩, h.1.1.2⟩, h.1.2⟩, h.2⟩
          · have := z1 (.inr rfl); simp [setL]; simp_all
          · have := z2 (.inr rfl); simp [setL]; rw [if_neg (by decide)] at this; exact ⟨⟨h.1.1, by omega⟩, by omega⟩
          · simp [setL]; simp_all
          · simp [setL]; exact ⟨⟨⟨h.1.1.1, hu⟩, h.1.2⟩, h.2⟩
        · simp only [if_true]; exact h
theorem may_all {c : Int} : ∀ (os : List (Int × ByteArray)) {l : Lk}, mayB l = true → mayB (learnAll c l os) = true
  | [], _, h => h
  | o :: os, l, h => by
    show mayB (learnAll c (stepL c l o) os) = true
    exact may_all os (may_step h o)
end Go.Proofs.Ytjmcgekegenobaa
