/- Contracts of slices.IndexFunc and ContainsFunc over options, as opts.Put calls them. No condition but that a length is an int's. -/
import Derived.Test.YtckbbfdllflmjaaOptView
namespace Go.Proofs.Ytckbbfdllflmjaa
open Go.RowKit
set_option linter.unusedVariables false
set_option linter.unusedSimpArgs false

def badK (kind : Int) : Bool := decide (kind < 0) || decide (255 < kind)
theorem putc_any (kind : Int) (data : ByteArray) (w : World) : Calls Try.prog 46 #[.agg #[.int .i64 kind, .string data]] w fun e w' => e = .returned (.bool (badK kind)) ∧ Below w.heap.size w w' := by
  by_cases h : kind < 0
  · have hd : decide (kind < 0) = true := by simpa using h
    go_enter Try.func46, Try.ntmps46
    go_wp2
    go_ret
    exact ⟨by simp [h, badK], (by repeat' (first | (with_reducible exact Below.refl _ _) | (with_reducible apply Below.drew) | (with_reducible apply below_drewN) | (with_reducible apply Below.setCell) | (with_reducible apply Below.alloc) | (with_reducible refine below_step ?_ (by assumption) ?_) | omega | (simp; done) | (simp; omega)))⟩
  · have hd : decide (kind < 0) = false := by simpa using h
    go_enter Try.func46, Try.ntmps46
    go_wp2
    go_ret
    exact ⟨by simp [hd, badK], (by repeat' (first | (with_reducible exact Below.refl _ _) | (with_reducible apply Below.drew) | (with_reducible apply below_drewN) | (with_reducible apply Below.setCell) | (with_reducible apply Below.alloc) | (with_reducible refine below_step ?_ (by assumption) ?_) | omega | (simp; done) | (simp; omega)))⟩
/-- The place of the first option that p takes; -1: there is none. -/
def idxOf (p : Int → ByteArray → Bool) : List (Int × ByteArray) → Int
  | [] => -1
  | o :: os => if p o.1 o.2 then 0 else if idxOf p os < 0 then -1 else 1 + idxOf p os
theorem idxOf_at (p : Int → ByteArray → Bool) : ∀ (os : List (Int × ByteArray)) (k : Nat) (o : Int × ByteArray), os[k]? = some o → p o.1 o.2 = true → (∀ j o', j < k → os[j]? = some o' → p o'.1 o'.2 = false) → idxOf p os = k
  | [], k, o, h, _, _ => by simp at h
  | x :: os, 0, o, h, hp, _ => by
    simp at h; subst h
    simp [idxOf, hp]
  | x :: os, k + 1, o, h, hp, hn => by
    have h0 := hn 0 x (by omega) rfl
    have ih := idxOf_at p os k o (by simpa using h) hp (fun j o' hj h' => hn (j + 1) o' (by omega) (by simpa using h'))
    simp only [idxOf, h0]
    rw [ih]
    simp; omega
theorem idxOf_none (p : Int → ByteArray → Bool) : ∀ (os : List (Int × ByteArray)), (∀ (j : Nat) o', os[j]? = some o' → p o'.1 o'.2 = false) → idxOf p os = -1
  | [], _ => rfl
  | x :: os, hn => by
    have h0 := hn 0 x rfl
    have ih := idxOf_none p os (fun j o' h' => hn (j + 1) o' (by simpa using h'))
    simp [idxOf, h0, ih]

def IdxR (p : Int → ByteArray → Bool) (os : List (Int × ByteArray)) (w : World) (k : Nat) (wr : World) : Prop :=
  k ≤ os.length ∧ (∀ j o', j < k → os[j]? = some o' → p o'.1 o'.2 = false) ∧ Below w.heap.size w wr
set_option maxHeartbeats 1000000 in
theorem idx_put (A : Option Addr) (n cap : Nat) (os : List (Int × ByteArray)) (w : World) (hv : OptsAt w A n os) (hn : n ≤ 9223372036854775807) :
    Calls Try.prog 50 #[.slice A n cap, .func (.func 46) #[] #[]] w fun e w' => e = .returned (.int .i64 (idxOf (fun x _ => badK x) os)) ∧ Below w.heap.size w w' := by
  have HV := Lib.hid hv; clear hv
  go_enter Try.func50, Try.ntmps50
  go_wp2_with fail
  go_loopw [5, 8] (fun _ i wr => ∃ k : Nat, i = .int .i64 k ∧ IdxR (fun x _ => badK x) os w k wr) (fun _ i _ => n - (intOf i).toNat)
  case atStart => exact ⟨0, rfl, by omega, fun j o' h => by omega, Below.refl _ _⟩
  case round =>
    obtain ⟨k, rfl, hR⟩ := hrel
    obtain ⟨hk, hno, hbel⟩ := hR
    have HNO := Lib.hid hno; clear hno
    have hlen := HV.out.1
    have hkn : k ≤ n := by omega
    clear hlen
    by_cases hlt : k < n
    · obtain ⟨b, off, kind, data, rfl, hb, ho, c1, c2⟩ := (HV.out.keep hbel).at_ k hlt
      have HO := Lib.hid ho; clear ho
      go_wp2_with fail
      refine (putc_any kind data wr).mono ?_
      rintro e w2 ⟨rfl, hb2⟩
      have hbel2 : Below w.heap.size w w2 := below_step hbel hb2 hbel.size
      cases hpk : badK kind
      · go_wp2_with fail
        go_roundw
        case rel => exact ⟨k + 1, by go_num, by have := HV.out.1; omega, fun j o' hj ho' => by
            by_cases hjk : j = k
            · subst hjk
              rw [HO.out] at ho'
              obtain rfl := Option.some.inj ho'
              exact hpk
            · exact HNO.out j o' (by omega) ho', hbel2⟩
        case measure => simp [intOf]; omega
      · go_wp2_with fail
        go_ret
        refine ⟨?_, hbel2⟩
        rw [idxOf_at (fun x _ => badK x) os k (kind, data) HO.out (by exact hpk) HNO.out]
        rfl
    · go_wp2_with fail
      go_ret
      refine ⟨?_, hbel⟩
      rw [idxOf_none (fun x _ => badK x) os (fun j o' h => HNO.out j o' (by
        have hj : j < os.length := (List.getElem?_eq_some_iff.1 h).1
        have := HV.out.1
        omega) h)]
      rfl
set_option maxHeartbeats 1000000 in
theorem contains_put (A : Option Addr) (n cap : Nat) (os : List (Int × ByteArray)) (w : World) (hv : OptsAt w A n os) (hn : n ≤ 9223372036854775807) :
    Calls Try.prog 45 #[.slice A n cap, .func (.func 46) #[] #[]] w fun e w' => e = .returned (.bool (decide (0 ≤ idxOf (fun x _ => badK x) os))) ∧ Below w.heap.size w w' := by
  have HV := Lib.hid hv; clear hv
  go_enter Try.func45, Try.ntmps45
  go_wp2_with fail
  refine (idx_put A n cap os _ HV.out hn).mono ?_
  rintro e w1 ⟨rfl, hb1⟩
  go_wp2
  go_ret
  exact ⟨rfl, hb1⟩
end Go.Proofs.Ytckbbfdllflmjaa
