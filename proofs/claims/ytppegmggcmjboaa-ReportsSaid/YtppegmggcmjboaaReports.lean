/- Any numbers as a report, any bytes as one; the walk of the law Reports: it returns true. No condition but memory's own limits. -/
import Derived.Test.YtppegmggcmjboaaRepLaws
import Derived.Test.YtppegmggcmjboaaRepUn
import Derived.Test.YtppegmggcmjboaaRepRef
namespace Go.Proofs.Ytppegmggcmjboaa
open Go.RowKit
set_option linter.unusedVariables false
set_option linter.unusedSimpArgs false
attribute [local go_sem] conv1 conv1d conv1n conv1a conv1ad conv1an conv2 conv2d conv2n conv2a conv2ad conv2an conv4 conv4d conv4n conv4a conv4ad conv4an conv5 conv5d conv5n conv5a conv5ad conv5an size_nums byt_fold
set_option maxRecDepth 100000 in
set_option maxHeartbeats 4000000 in
theorem reports_walk (A : Option Addr) (n cap : Nat) (ns : List Int) (s : ByteArray) (hnil : A = none → n = 0 ∧ cap = 0) (hcap : n ≤ cap) (hz : n * 8 ≤ 140737488351232) (hs : s.size ≤ 140737488351232) (w : World) (hv : IntsAt w A n ns) :
    Calls Try.prog 3 #[.slice A n cap, .string s] w fun e w' => e = .returned (.bool true) ∧ Below w.heap.size w w' := by
  have HV := Lib.hid hv; clear hv
  have HNIL := Lib.hid hnil; clear hnil
  have hul := gL_le s
  go_enter Try.func3, Try.ntmps3
  go_wp2_with (first | (go_at_call 11; refine (num_any _ _).mono ?_; rintro e w' ⟨rfl, rfl⟩))
  refine (lend_any A n cap ns _ HV.out hz HNIL.out).mono ?_
  rintro e w1 ⟨gx, capx, rfl, hcx, hcm, hvx, hb1⟩
  have hz1 := hb1.size
  have HVX := Lib.hid hvx; clear hvx
  go_wp2_with (first | (go_at_call 11; refine (num_any _ _).mono ?_; rintro e w' ⟨rfl, rfl⟩))
  refine (repput_any _ _ _ ns _ (IntsAt.head HVX.out HV.out.1) (by omega)).mono ?_
  rintro e w2 ⟨rfl, hb2⟩
  have hz2 := hb2.size
  have bl2 := below_step hb1 hb2 hz1
  go_wp2_with (first | (go_at_call 11; refine (num_any _ _).mono ?_; rintro e w' ⟨rfl, rfl⟩))
  refine (rrep_any _ _ _ ns _ (HV.out.keep bl2) (by omega)).mono ?_
  rintro e w3 ⟨rfl, hb3⟩
  have hz3 := hb3.size
  have bl3 := below_step bl2 hb3 (by omega)
  go_wp2_with (first | (go_at_call 11; refine (num_any _ _).mono ?_; rintro e w' ⟨rfl, rfl⟩))
  refine (repget_any _ _).mono ?_
  rintro e w4 ⟨Ac, cc, rfl, hc4, hb4⟩
  have hz4 := hb4.size
  have bl4 := below_step bl3 hb4 (by omega)
  have HC4 := Lib.hid hc4; clear hc4
  go_wp2_with (first | (go_at_call 11; refine (num_any _ _).mono ?_; rintro e w' ⟨rfl, rfl⟩))
  refine (repget_any _ _).mono ?_
  rintro e w5 ⟨Ad, cd, rfl, hd5, hb5⟩
  have hz5 := hb5.size
  have bl5 := below_step bl4 hb5 (by omega)
  have HD5 := Lib.hid hd5; clear hd5
  go_wp2_with (first | (go_at_call 11; refine (num_any _ _).mono ?_; rintro e w' ⟨rfl, rfl⟩))
  refine (runrep_any _ _).mono ?_
  rintro e w6 ⟨Ao, co, rfl, ho6, hb6⟩
  have hz6 := hb6.size
  have bl6 := below_step bl5 hb6 (by omega)
  have HO6 := Lib.hid ho6; clear ho6
  go_wp2_with (first | (go_at_call 11; refine (num_any _ _).mono ?_; rintro e w' ⟨rfl, rfl⟩))
  refine (same_any _ _ _ _ _ _ (gL s) (gL s) _ (IntsAt.own (own_keep (own_keep HC4.out hb5) hb6)) (IntsAt.own HO6.out) (by omega)).mono ?_
  rintro e w7 ⟨rfl, hb7⟩
  rw [same_refl]
  have hz7 := hb7.size
  have bl7 := below_step bl6 hb7 (by omega)
  have bx7 : Below w1.heap.size w1 w7 := below_step (below_step (below_step (below_step (below_step hb2 hb3 hz2) hb4 (by omega)) hb5 (by omega)) hb6 (by omega)) hb7 (by omega)
  go_wp2_with (first | (go_at_call 11; refine (num_any _ _).mono ?_; rintro e w' ⟨rfl, rfl⟩))
  refine (kept_any gx n capx cap A ns _ (HVX.out.keep bx7) (HV.out.keep bl7) hcx hcm).mono ?_
  rintro e w8 ⟨rfl, hb8⟩
  have hz8 := hb8.size
  have bl8 := below_step bl7 hb8 (by omega)
  have b48 : Below w4.heap.size w4 w8 := below_step (below_step (below_step hb5 hb6 hz5) hb7 (by omega)) hb8 (by omega)
  have b58 : Below w5.heap.size w5 w8 := below_step (below_step hb6 hb7 hz6) hb8 (by omega)
  have b68 : Below w6.heap.size w6 w8 := below_step hb7 hb8 hz7
  go_wp2_with (first | (go_at_call 11; refine (num_any _ _).mono ?_; rintro e w' ⟨rfl, rfl⟩))
  refine (spoil_any w3.heap.size Ac _ cc (gL s) _ (own_keep HC4.out b48) rfl (by omega)).mono ?_
  rintro e w9 ⟨rfl, hg9⟩
  have bl9 : Below w.heap.size w w9 := bl8.grown hg9 (by omega) (fun k hk => by have := (HC4.out.lt k hk).1; omega)
  have hz9 := hg9.size
  have hd9 := own_apart HC4.out (Nat.le_refl _) (own_keep HD5.out b58) hg9
  have ho9 := own_apart HC4.out hz5 (own_keep HO6.out b68) hg9
  have HD9 := Lib.hid hd9; have HO9 := Lib.hid ho9
  clear hd9 ho9 hg9
  go_wp2_with (first | (go_at_call 11; refine (num_any _ _).mono ?_; rintro e w' ⟨rfl, rfl⟩))
  refine (same_any _ _ _ _ _ _ (gL s) (gL s) _ (IntsAt.own HD9.out) (IntsAt.own HO9.out) (by omega)).mono ?_
  rintro e w10 ⟨rfl, hb10⟩
  rw [same_refl]
  have hz10 := hb10.size
  have bl10 := below_step bl9 hb10 (by omega)
  go_wp2_with (first | (go_at_call 11; refine (num_any _ _).mono ?_; rintro e w' ⟨rfl, rfl⟩))
  refine (awake_any _).mono ?_
  rintro e w11 ⟨rfl, hb11⟩
  go_wp2_with (first | (go_at_call 11; refine (num_any _ _).mono ?_; rintro e w' ⟨rfl, rfl⟩))
  go_ret
  exact ⟨by simp, below_step bl10 hb11 (by omega)⟩
end Go.Proofs.Ytppegmggcmjboaa
