/- The contract of withylaw0's SameOpts. No condition but memory's own limits. -/
import Derived.Test.YtckbbfdllflmjaaOptRead
import Derived.Deep.RegionLaw
import Derived.Deep.AppendLies
import Derived.BigRegion
namespace Go.Proofs.Ytckbbfdllflmjaa
open Go.RowKit
set_option linter.unusedVariables false
set_option linter.unusedSimpArgs false
attribute [local go_sem] conv1 conv1d conv1n conv1a conv1ad conv1an conv2 conv2d conv2n conv2a conv2ad conv2an conv4 conv4d conv4n conv4a conv4ad conv4an conv5 conv5d conv5n conv5a conv5ad conv5an size_nums byt_fold
theorem toList_ne {a b : ByteArray} (h : ¬ a = b) : (a.toList == b.toList) = false := by
  rw [beq_eq_false_iff_ne]
  intro e
  apply h
  rw [ByteArray.toList_eq, ByteArray.toList_eq] at e
  exact ByteArray.ext (Array.toList_inj.1 e)
def sameB (os ps : List (Int × ByteArray)) : Bool := decide (os = ps)
theorem same_yes {os ps : List (Int × ByteArray)} {n : Nat} (h1 : os.length = n) (h2 : ps.length = n) (h : ∀ j o p, j < n → os[j]? = some o → ps[j]? = some p → o = p) : sameB os ps = true := by
  unfold sameB
  refine decide_eq_true (List.ext_getElem (by omega) fun j h3 h4 => ?_)
  exact h j _ _ (by omega) (List.getElem?_eq_getElem h3) (List.getElem?_eq_getElem h4)
theorem same_no {os ps : List (Int × ByteArray)} {j : Nat} {o p : Int × ByteArray} (h1 : os[j]? = some o) (h2 : ps[j]? = some p) (h : ¬ o = p) : sameB os ps = false := by
  unfold sameB
  refine decide_eq_false (fun e => h ?_)
  subst e
  rw [h1] at h2
  exact Option.some.inj h2
theorem same_len {os ps : List (Int × ByteArray)} (h : ¬ os.length = ps.length) : sameB os ps = false := by
  unfold sameB; exact decide_eq_false (fun e => h (by rw [e]))

def SaR (os ps : List (Int × ByteArray)) (w : World) (k : Nat) (wr : World) : Prop := (∀ j o p, j < k → os[j]? = some o → ps[j]? = some p → o = p) ∧ Below w.heap.size w wr
set_option maxRecDepth 100000 in
set_option maxHeartbeats 1000000 in
theorem same_any (A B : Option Addr) (n m cap cap' : Nat) (os ps : List (Int × ByteArray)) (w : World) (hv : OptsAt w A n os) (hu : OptsAt w B m ps) (hn : n ≤ 9223372036854775807) :
    Calls Try.prog 36 #[.slice A n cap, .slice B m cap'] w fun e w' => e = .returned (.bool (sameB os ps)) ∧ Below w.heap.size w w' := by
  have HV := Lib.hid hv; clear hv
  have HU := Lib.hid hu; clear hu
  by_cases hnm : n = m
  case neg =>
    have hb : ((n : Int) != (m : Int)) = true := by simp; omega
    go_enter Try.func36, Try.ntmps36
    go_wp2_with fail
    go_ret
    exact ⟨by rw [same_len (by have := HV.out.1; have := HU.out.1; omega)]; rfl, Below.refl _ _⟩
  subst hnm
  go_enter Try.func36, Try.ntmps36
  go_wp2_with fail
  go_loopw [5] (fun i wr => ∃ k : Nat, i = .int .i64 k ∧ k ≤ n ∧ SaR os ps w k wr) (fun i _ => n - (intOf i).toNat)
  case atStart => exact ⟨0, rfl, by omega, fun j o p h => by omega, Below.refl _ _⟩
  case round =>
    obtain ⟨k, rfl, hkn, hS, hbel⟩ := hrel
    have HS := Lib.hid hS; clear hS
    by_cases hlt : k < n
    · obtain ⟨b, off, kind, data, rfl, hb, ho, c1, c2⟩ := (HV.out.keep hbel).at_ k hlt
      obtain ⟨b', off', kind', data', rfl, hb', ho', c1', c2'⟩ := (HU.out.keep hbel).at_ k hlt
      have HO := Lib.hid ho; clear ho
      have HO' := Lib.hid ho'; clear ho'
      have y1 : (k : Int) < (n : Int) := by omega
      by_cases hk : kind = kind'
      · by_cases hdd : data = data'
        · subst hk hdd
          go_wp2_with fail
          go_quiet (fail)
          go_wp2_with fail
          go_roundw
          case rel => exact ⟨k + 1, by go_num, by omega, fun j o p hj h1 h2 => by
              by_cases hjk : j = k
              · subst hjk
                rw [HO.out] at h1
                rw [HO'.out] at h2
                rw [← Option.some.inj h1, ← Option.some.inj h2]
              · exact HS.out j o p (by omega) h1 h2, below_drewN hbel _⟩
          case measure => simp [intOf]; omega
        · have hne : (data.toList == data'.toList) = false := toList_ne hdd
          subst hk
          go_wp2_with fail
          go_quiet (fail)
          go_wp2_with fail
          go_ret
          exact ⟨by rw [same_no HO.out HO'.out (fun e => hdd (by injection e))]; rfl, below_drewN hbel _⟩
      · have hne : (kind == kind') = false := by simpa using hk
        go_wp2_with fail
        go_quiet (fail)
        go_wp2_with fail
        go_ret
        exact ⟨by rw [same_no HO.out HO'.out (fun e => hk (by injection e))]; rfl, below_drewN hbel _⟩
    · go_wp2_with fail
      go_ret
      exact ⟨by rw [same_yes HV.out.1 HU.out.1 (fun j o p hj => HS.out j o p (by omega))]; rfl, hbel⟩
theorem same_refl (os : List (Int × ByteArray)) : sameB os os = true := by unfold sameB; simp
end Go.Proofs.Ytckbbfdllflmjaa
