/- The contract of the reference's Report: as report.Put. No condition but memory's own limits. -/
import Derived.Test.YtppegmggcmjboaaRepPlain
import Derived.Test.YtppegmggcmjboaaTwo
import Derived.BigRegion
import Derived.Deep.RegionWith
namespace Go.Proofs.Ytppegmggcmjboaa
open Go.RowKit
set_option linter.unusedVariables false
set_option linter.unusedSimpArgs false
attribute [local go_sem] conv1 conv1d conv1n conv1a conv1ad conv1an conv2 conv2d conv2n conv2a conv2ad conv2an conv4 conv4d conv4n conv4a conv4ad conv4an conv5 conv5d conv5n conv5a conv5ad conv5an size_nums byt_fold
theorem two_gen (x : Int) (h0 : 0 ≤ x) (h1 : x ≤ 4294967295) (w : World) : Calls Try.prog 17 #[.int .i64 x] w fun e w' => e = .returned (.string (strOfNums [x / 256 % 256, x % 256])) ∧ w.alloc (.cells #[.int .u8 (x / 256 % 256), .int .u8 (x % 256)] 5) = w' := by
  have e1 : bits .and .i64 (x / 256) 255 = x / 256 % 256 := and255 _
  have e2 : bits .and .i64 x 255 = x % 256 := and255 x
  go_enter Try.func17, Try.ntmps17
  go_wp2
  go_ret
  exact ⟨rfl, rfl⟩
def RfR (ns : List Int) (w : World) (k : Nat) (J : ByteArray) (wr : World) : Prop :=
  (∀ j n, j < k → ns[j]? = some n → rBadN n = false) ∧ J = strOfNums (rBytes (ns.take k)) ∧ Below w.heap.size w wr
attribute [local go_sem high] run_string_add
set_option maxRecDepth 100000 in
set_option maxHeartbeats 4000000 in
theorem rrep_any (A : Option Addr) (n cap : Nat) (ns : List Int) (w : World) (hv : IntsAt w A n ns) (hn : n ≤ 9223372036854775807) :
    Calls Try.prog 8 #[.slice A n cap] w (RepPut ns w) := by
  have HV := Lib.hid hv; clear hv
  by_cases h12 : n = 12
  case neg =>
    have hb : ((n : Int) != 12) = true := by simp; omega
    go_enter Try.func8, Try.ntmps8
    go_wp2_with fail
    go_ret2
    exact repput_bad (Below.refl _ _) (rE_len (by have := HV.out.1; omega))
  subst h12
  clear hn
  go_enter Try.func8, Try.ntmps8
  go_wp2_with fail
  go_loopw [4, 5] (fun v i wr => ∃ k : Nat, ∃ J : ByteArray, i = .int .i64 k ∧ v = .string J ∧ k ≤ 12 ∧ RfR ns w k J wr) (fun _ i _ => 12 - (intOf i).toNat)
  case atStart => exact ⟨0, _, rfl, rfl, by omega, fun j n h => by omega, rfl, Below.refl _ _⟩
  case round =>
    obtain ⟨k, J, rfl, rfl, hk, hS, hJ, hbel⟩ := hrel
    have HS := Lib.hid hS; have HJ := Lib.hid hJ
    have hJs : J.size = 4 * min k ns.length := by rw [hJ, size_nums, rBytes_len, List.length_take]
    have hJ2 : (J.size : Int) ≤ 8388608 := by omega
    have hJ3 : J.size ≤ 100 := by omega
    clear hS hJ hJs
    by_cases hlt : k < 12
    · obtain ⟨b, off, z, rfl, hb, ho, c1⟩ := (HV.out.keep hbel).at_ k hlt
      have HOZ := Lib.hid ho; clear ho
      have y1 : (k : Int) < 12 := by omega
      by_cases hbad : z < 0 ∨ 4294967295 < z
      · have hb0 : rE ns = 700 := rE_bad HOZ.out (by unfold rBadN; exact decide_eq_true hbad)
        have HB0 := Lib.hid hb0; clear hb0
        rcases hbad with hbad | hbad
        all_goals
          go_wp2_with fail
          go_ret2
          exact repput_bad hbel HB0.out
      · have z0 : 0 ≤ z := by omega
        have z1 : z ≤ 4294967295 := by omega
        clear hbad
        go_wp2_with fail
        have w1 : IntKind.i64.wrap (z / 65536) = z / 65536 := IntWalk.i64_in _ (by omega)
        have w2 : 0 ≤ z / 65536 := by omega
        have w3 : z / 65536 ≤ 4294967295 := by omega
        have ov1 : ¬ 9223372036854775807 < J.size + 2 := by omega
        have ov2 : ¬ 9223372036854775807 < J.size + 2 + 2 := by omega
        go_region_with (first | (go_at_call 17; refine (two_gen _ (by omega) (by omega) _).mono ?_; rintro e w' ⟨rfl, rfl⟩))
        all_goals
          have hzr := hbel.size
          go_wp2
          go_roundw
          case rel => exact ⟨k + 1, _, by go_num, rfl, by omega, fun j' n' hj' hn' => by
              by_cases hjk : j' = k
              · subst hjk
                rw [HOZ.out] at hn'
                obtain rfl := Option.some.inj hn'
                unfold rBadN; exact decide_eq_false (by omega)
              · exact HS.out j' n' (by omega) hn', by
              rw [HJ.out, rBytes_snoc HOZ.out, nums_app, nums_app, List.append_assoc]
              have e1 : z / 65536 / 256 % 256 = z / 16777216 := by omega
              rw [e1]; rfl, (by repeat' (first | (with_reducible exact hbel) | (with_reducible refine Below.setCell ?_ (Nat.le_refl _) _) | (with_reducible apply Below.setCell) | (with_reducible apply Below.alloc) | (with_reducible apply Below.drew) | (with_reducible apply below_drewN) | (exact Nat.le_refl _) | omega | (simp; done) | (simp; omega)))⟩
          case measure => simp [intOf]; omega
    · obtain rfl : k = 12 := by omega
      have hE : rE ns = 0 := rE_ok HV.out.1 HS.out
      have HE := Lib.hid hE; clear hE
      go_wp2_with fail
      go_ret2
      exact repput_ok hbel HE.out (by rw [HJ.out, List.take_of_length_le (by have := HV.out.1; omega)])
end Go.Proofs.Ytppegmggcmjboaa
