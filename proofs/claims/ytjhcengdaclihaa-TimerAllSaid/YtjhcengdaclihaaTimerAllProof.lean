/- The law 'TimerAll' holds of the given program at every input: the call returns true and the arguments read as before. No condition. The walk is in YtjhcengdaclihaaTimAw. -/
import Derived.Test.YtjhcengdaclihaaRows
import Derived.Test.YtjhcengdaclihaaTimAw
import Derived.Test.YtjhcengdaclihaaFrame
import Derived.Test.YtjhcengdaclihaaIntOpen
import Derived.WalkKit
import Derived.ProofKit
import Derived.OpenShut
import Derived.ShutString
import Derived.Lib.SmallJoins
import Derived.SizedLaws
namespace Go.Proofs.Ytjhcengdaclihaa.timerAll
open Go.ChangeShapes Go.WideShapes Go.ChangeAt Go.RowKit
open Go.ChangeMaps (open_string shut_string)
set_option linter.unusedVariables false
set_option linter.unusedSimpArgs false

theorem own : ownKnob Try.prog.godebug = none := by kernel_rfl
theorem reads : (Try.f4.params.toList.all fun t => Try.prog.readableRec t && decide (t < Try.prog.types.size)) = true := by kernel_rfl

set_option maxRecDepth 100000 in
theorem lifted (os : Os) (started : os.Started) (H : Type) (enc : TypeId × Value → H) :
    ReturnsInHanded {} Try.checked os 4 .any (Rows.timerAllSpec.pre6 enc Try.prog Try.f4 Rows.timerAllRow.domain false) (Rows.timerAllSpec.post enc Try.prog Try.f4 false true false false) := by
  refine returnsInHanded_of_change_sized (C := Try.checked) own started (by kernel_rfl) Try.func4
    (ChangeSpec.witness6 (enc := enc) (C := Try.checked) false ⟨#[], #[.slice none 0 0, .slice none 0 0], []⟩ 8 (by kernel_rfl) (by kernel_rfl) (by kernel_rfl) (by kernel_rfl)) ?_
  intro W base args ds gs before hval0 hW hcnd hsz _
  have hval : ∀ (j : Nat) t v, Try.f4.params[j]? = some t → args[j]? = some v → Value.okWide Try.prog W .any base t v := hval0
  have hW' := hW
  obtain ⟨p, q, hA0, hV, rfl, hfz, hnd⟩ := hW
  have hA : DataW.TrodAll enc Try.prog W 0 (fun _ => true) true Try.f4.params.toList args.toList ds p := hA0
  rw [Try.params4] at hA hval
  obtain ⟨v0, vs0, d0, ds0, p0, q0, hargs, rfl, rfl, h0, r0⟩ := trodAll_cons hA
  obtain ⟨v1, vs1, d1, ds1, p1, q1, rfl, rfl, rfl, h1, r1⟩ := trodAll_cons r0
  obtain ⟨rfl, rfl, rfl⟩ := trodAll_nil r1
  obtain rfl : args = #[v0, v1] := by cases args; simp_all
  obtain ⟨rfl, rfl⟩ := trodVars_none hV
  obtain ⟨A0, l0, c0, a0, rfl, x0, n0, lc0, cm0, wf0, bb0⟩ := open_intlist (hval 0 37 v0 rfl rfl) h0
  have z0 := bb0 140737488351232 (fun n hn => by have h := List.all_eq_true.1 hsz _ (DataW.weights_mem_each (j := 0) rfl rfl n hn); have h2 : n ≤ reachBytes := of_decide_eq_true h; simpa [reachBytes] using h2)
  obtain ⟨A1, l1, c1, a1, rfl, x1, n1, lc1, cm1, wf1, bb1⟩ := open_intlist (hval 1 37 v1 rfl rfl) h1
  have z1 := bb1 140737488351232 (fun n hn => by have h := List.all_eq_true.1 hsz _ (DataW.weights_mem_each (j := 1) rfl rfl n hn); have h2 : n ≤ reachBytes := of_decide_eq_true h; simpa [reachBytes] using h2)
  clear hA0 hval0
  refine (all_walk A0 l0 c0 a0 A1 l1 c1 a1 n0 lc0 z0 n1 lc1 z1 W x0 x1).mono fun e W' ⟨he, hg⟩ => ?_
  subst he
  refine ⟨_, rfl, post_law (by kernel_rfl) (fun t ht => ?_) rfl (by kernel_rfl) Try.underlying4 hW' rfl rfl rfl hg⟩
  have h := List.all_eq_true.1 reads t ht
  rw [Bool.and_eq_true] at h
  exact ⟨h.1, of_decide_eq_true h.2⟩

theorem over : Rows.timerAllRow.holds Try.pinned (OpenSpec.ofChange Rows.timerAllSpec) :=
  OpenClaim.holds_of_wide 4 Try.f4 rfl rfl rfl rfl rfl rfl rfl ⟨rfl, rfl, rfl, rfl, rfl⟩ rfl rfl rfl rfl rfl (by kernel_rfl) Try.func4 (by kernel_rfl)
    (of_decide_eq_true (by kernel_rfl)) (by unfold Func.isWrapper; first | (rw [if_pos (by decide +kernel)]; kernel_rfl) | (rw [if_neg (by decide +kernel)]; exact ⟨rfl, rfl⟩))
    (fun os started H enc _ => lifted os started H enc)

theorem proved : Rows.TimerAllSaid :=
  over
#print axioms proved
end Go.Proofs.Ytjhcengdaclihaa.timerAll
