/- The contract of the reference's Opts: it answers as opts.Put does, the data no longer than memory is. -/
import Derived.Test.YtckbbfdllflmjaaOptPlain
import Derived.BigRegion
namespace Go.Proofs.Ytckbbfdllflmjaa
open Go.RowKit
set_option linter.unusedVariables false
set_option linter.unusedSimpArgs false
attribute [local go_sem] conv1 conv1d conv1n conv1a conv1ad conv1an conv2 conv2d conv2n conv2a conv2ad conv2an conv4 conv4d conv4n conv4a conv4ad conv4an conv5 conv5d conv5n conv5a conv5ad conv5an size_nums byt_fold
attribute [local go_sem high] run_string_add_sum

theorem bad_yes {os : List (Int × ByteArray)} {k : Nat} {o : Int × ByteArray} (h : os[k]? = some o) (hb : badK o.1 = true) : oBad os = true := by
  unfold oBad; rw [List.any_eq_true]; exact ⟨o, List.mem_of_getElem? h, hb⟩
theorem bad_no {os : List (Int × ByteArray)} (h : ∀ j o', j < os.length → os[j]? = some o' → badK o'.1 = false) : oBad os = false := by
  unfold oBad; rw [List.any_eq_false]
  intro o ho
  obtain ⟨j, hj, e⟩ := List.getElem_of_mem ho
  have := h j o hj (by rw [List.getElem?_eq_getElem hj, e])
  simp [this]
def RoR (os : List (Int × ByteArray)) (w : World) (k : Nat) (lg : Bool) (out : ByteArray) (wr : World) : Prop :=
  k ≤ os.length ∧ oLong (os.take k) 0 = lg ∧ (lg = false → out = oJoin (os.take k)) ∧ Below w.heap.size w wr

theorem ro_long {os : List (Int × ByteArray)} {k : Nat} {kind : Int} {data out : ByteArray} {w wr : World} (ho : os[k]? = some (kind, data)) (h : 253 < data.size ∨ 2048 < oSum (os.take k) + 2 + data.size) (hb : Below w.heap.size w wr) : RoR os w (k + 1) true out wr := by
  refine ⟨?_, ?_, (fun h => by cases h), hb⟩
  · have := (List.getElem?_eq_some_iff.1 ho).1; omega
  · rw [oLong_snoc ho, decide_eq_true h]; simp
theorem ro_fine {os : List (Int × ByteArray)} {k : Nat} {kind m : Int} {data J : ByteArray} {w wr : World} (ho : os[k]? = some (kind, data)) (hl : oLong (os.take k) 0 = false) (h1 : data.size ≤ 253) (h2 : oSum (os.take k) + 2 + data.size ≤ 2048) (hJ : oJoin (os.take k) = J) (hm : m = (data.size : Int) + 2)
    (hb : Below w.heap.size w wr) : RoR os w (k + 1) false (J ++ strOfNums [kind, m] ++ data) wr := by
  refine ⟨?_, ?_, fun _ => ?_, hb⟩
  · have := (List.getElem?_eq_some_iff.1 ho).1; omega
  · rw [oLong_snoc ho, hl, decide_eq_false (by simp; omega)]; rfl
  · rw [oJoin_snoc ho, hJ, hm, app_assoc]
    unfold oText
    rw [Int.add_comm]
set_option maxRecDepth 100000 in
set_option maxHeartbeats 1000000 in
theorem ropts_any (A : Option Addr) (n cap : Nat) (os : List (Int × ByteArray)) (w : World) (hv : OptsAt w A n os) (hn : n ≤ 9223372036854775807) (hd : ∀ o ∈ os, o.2.size ≤ 140737488351232) :
    Calls Try.prog 42 #[.slice A n cap] w (OptPut os w) := by
  have HV := Lib.hid hv; clear hv
  have HD := Lib.hid hd; clear hd
  go_enter Try.func42, Try.ntmps42
  go_wp2_with fail
  go_loop [6] (fun i => ∃ k : Nat, i = .int .i64 k ∧ Hid (k ≤ os.length ∧ ∀ j o', j < k → os[j]? = some o' → badK o'.1 = false)) (fun i => n - (intOf i).toNat)
  case atStart => exact ⟨0, rfl, by omega, fun j o' h => by omega⟩
  case round =>
    obtain ⟨k, rfl, HR⟩ := hrel
    have hlen := HV.out.1
    have hkn : k ≤ n := by have := HR.out.1; omega
    clear hlen
    by_cases hlt : k < n
    · obtain ⟨b, off, kind, data, rfl, hb, ho, c1, c2⟩ := HV.out.at_ k hlt
      have HO := Lib.hid ho; clear ho
      cases hbk : badK kind
      · have q : 0 ≤ kind ∧ kind ≤ 255 := by unfold badK at hbk; simp at hbk; omega
        obtain ⟨q0, q1⟩ := q
        go_wp2_with fail
        go_round
        case rel => exact ⟨k + 1, by go_num, by have := HV.out.1; omega, fun j o' hj ho' => by
            by_cases hjk : j = k
            · subst hjk
              rw [HO.out] at ho'
              obtain rfl := Option.some.inj ho'
              exact hbk
            · exact HR.out.2 j o' (by omega) ho'⟩
        case measure => simp [intOf]; omega
      · have hor : kind < 0 ∨ 255 < kind := by unfold badK at hbk; simp at hbk; omega
        have HBK := Lib.hid hbk; clear hbk
        rcases hor with h | h
        all_goals
          go_wp2_with fail
          go_ret2
          exact optput_bad (Below.refl _ _) (bad_yes HO.out HBK.out)
    · have hall : oBad os = false := bad_no (fun j o' hj ho' => HR.out.2 j o' (by have := HV.out.1; omega) ho')
      have HB := Lib.hid hall; clear hall HR
      go_wp2_with fail
      go_loopw [4, 5, 7] (fun l u i wr => ∃ (k : Nat) (lg : Bool) (out : ByteArray), l = .bool lg ∧ u = .string out ∧ i = .int .i64 k ∧ RoR os w k lg out wr) (fun l _ i _ => n - (intOf i).toNat)
      case atStart => exact ⟨0, false, ⟨#[]⟩, rfl, rfl, rfl, by omega, rfl, fun _ => rfl, Below.refl _ _⟩
      case round =>
        obtain ⟨k2, lg, out, rfl, rfl, rfl, hR⟩ := hrel
        obtain ⟨hk, hlong, hout, hbel⟩ := hR
        have HL := Lib.hid hlong; clear hlong
        have hkn2 : k2 ≤ n := by have := HV.out.1; omega
        cases lg
        case true =>
          by_cases hlt2 : k2 < n
          all_goals
            go_wp2_with fail
            go_ret2
            exact optput_long hbel HB.out (oLong_take HL.out)
        have hout2 := hout rfl
        subst hout2
        clear hout
        by_cases hlt2 : k2 < n
        · obtain ⟨b, off, kind, data, rfl, hb, ho, c1, c2⟩ := (HV.out.keep hbel).at_ k2 hlt2
          have HO := Lib.hid ho; clear ho
          have hdz : data.size ≤ 140737488351232 := HD.out _ (List.mem_of_getElem? HO.out)
          obtain ⟨q0, q1⟩ := badK_of HB.out HO.out
          have hs1 := oLong_sum _ _ HL.out (by omega)
          generalize hJ : oJoin (os.take k2) = J
          have hJs : J.size ≤ 2048 := by rw [← hJ, oJoin_size]; omega
          have HJ := Lib.hid hJ; clear hJ hs1
          have hJz : J.size = oSum (os.take k2) := by rw [← HJ.out, oJoin_size]
          have HJZ := Lib.hid hJz; clear hJz
          by_cases hdl : 253 < data.size
          · have hdb : decide ((253 : Int) < (data.size : Int)) = true := by simp; omega
            go_wp2_with fail
            have y1 : IntKind.u8.wrap kind = kind := IntWalk.u8_in _ (by omega)
            have y2 : IntKind.i64.wrap ((data.size : Int) + 2) = (data.size : Int) + 2 := IntWalk.i64_in _ (by omega)
            obtain ⟨m, hm⟩ : ∃ m : Int, IntKind.u8.wrap ((data.size : Int) + 2) = m := ⟨_, rfl⟩
            have HM := Lib.hid hm
            have y3 : J.size + 2 ≤ 9223372036854775807 := by omega
            have y4 : J.size + 2 + data.size ≤ 9223372036854775807 := by omega
            have y5 : (k2 : Int) < (n : Int) := by omega
            go_region
            have hbel2 : Below w.heap.size w (wr.alloc (.cells #[.int .u8 kind, .int .u8 m] 5)).drew := (hbel.alloc hbel.size _).drew
            clear y1 y2 y3 y4 y5 hm
            go_wp2_with fail
            go_roundw
            case rel => exact ⟨k2 + 1, true, _, rfl, rfl, by go_num, ro_long HO.out (.inl hdl) hbel2⟩
            case measure => simp [intOf]; omega
          · have hdb : decide ((253 : Int) < (data.size : Int)) = false := by simp; omega
            by_cases hxl : 2048 < J.size + 2 + data.size
            · have hxb : decide ((2048 : Int) < (J.size : Int) + 2 + (data.size : Int)) = true := by simp; omega
              go_wp2_with fail
              have y1 : IntKind.u8.wrap kind = kind := IntWalk.u8_in _ (by omega)
              have y2 : IntKind.i64.wrap ((data.size : Int) + 2) = (data.size : Int) + 2 := IntWalk.i64_in _ (by omega)
              obtain ⟨m, hm⟩ : ∃ m : Int, IntKind.u8.wrap ((data.size : Int) + 2) = m := ⟨_, rfl⟩
              have HM := Lib.hid hm
              have y3 : J.size + 2 ≤ 9223372036854775807 := by omega
              have y4 : J.size + 2 + data.size ≤ 9223372036854775807 := by omega
              have y5 : (k2 : Int) < (n : Int) := by omega
              go_region
              have hbel2 : Below w.heap.size w (wr.alloc (.cells #[.int .u8 kind, .int .u8 m] 5)).drew := (hbel.alloc hbel.size _).drew
              clear y1 y2 y3 y4 y5 hm
              go_wp2_with fail
              go_roundw
              case rel => exact ⟨k2 + 1, true, _, rfl, rfl, by go_num, ro_long HO.out (.inr (by rw [← HJZ.out]; exact hxl)) hbel2⟩
              case measure => simp [intOf]; omega
            · have hxb : decide ((2048 : Int) < (J.size : Int) + 2 + (data.size : Int)) = false := by simp; omega
              go_wp2_with fail
              have y1 : IntKind.u8.wrap kind = kind := IntWalk.u8_in _ (by omega)
              have y2 : IntKind.i64.wrap ((data.size : Int) + 2) = (data.size : Int) + 2 := IntWalk.i64_in _ (by omega)
              obtain ⟨m, hm⟩ : ∃ m : Int, IntKind.u8.wrap ((data.size : Int) + 2) = m := ⟨_, rfl⟩
              have HM := Lib.hid hm
              have y3 : J.size + 2 ≤ 9223372036854775807 := by omega
              have y4 : J.size + 2 + data.size ≤ 9223372036854775807 := by omega
              have y5 : (k2 : Int) < (n : Int) := by omega
              go_region
              have hbel2 : Below w.heap.size w (wr.alloc (.cells #[.int .u8 kind, .int .u8 m] 5)).drew := (hbel.alloc hbel.size _).drew
              clear y1 y2 y3 y4 y5 hm
              go_wp2_with fail
              go_roundw
              case rel => exact ⟨k2 + 1, false, _, rfl, rfl, by go_num, ro_fine HO.out HL.out (by omega) (by rw [← HJZ.out]; omega) HJ.out (by rw [← HM.out]; exact IntWalk.u8_in _ (by omega)) hbel2⟩
              case measure => simp [intOf]; omega
        · have hall : os.take k2 = os := by rw [List.take_of_length_le]; have := HV.out.1; omega
          have hl := HL.out
          rw [hall] at hl
          have HL3 := Lib.hid hl
          have HALL := Lib.hid hall
          clear hl hall
          go_wp2_with fail
          go_ret2
          exact optput_ok hbel HB.out HL3.out (by rw [HALL.out])
end Go.Proofs.Ytckbbfdllflmjaa
