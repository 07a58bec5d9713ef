/- The walk of the law OptsAll: it returns true. No condition but memory's own limits. -/
import Derived.Test.YtdfhodhdpkbcnaaOptLaws
import Derived.Test.YtdfhodhdpkbcnaaOptRound
namespace Go.Proofs.Ytdfhodhdpkbcnaa
open Go.RowKit
set_option linter.unusedVariables false
set_option linter.unusedSimpArgs false
attribute [local go_sem] conv1 conv1d conv1n conv1a conv1ad conv1an conv2 conv2d conv2n conv2a conv2ad conv2an conv4 conv4d conv4n conv4a conv4ad conv4an conv5 conv5d conv5n conv5a conv5ad conv5an size_nums byt_fold
def atOf (p : Int → ByteArray → Bool) (os : List (Int × ByteArray)) (c : Nat) : Int := if idxOf p (os.drop c) < 0 then -1 else c + idxOf p (os.drop c)
theorem idx_lo (p : Int → ByteArray → Bool) : ∀ os, -1 ≤ idxOf p os
  | [] => by simp [idxOf]
  | o :: os => by
    have := idx_lo p os
    rw [idxOf]
    split
    · omega
    · split <;> omega
theorem at_end {p : Int → ByteArray → Bool} {os : List (Int × ByteArray)} {n : Nat} (h : os.length = n) : atOf p os n = -1 := by
  unfold atOf; rw [List.drop_of_length_le (by omega)]; rfl
theorem at_start (p : Int → ByteArray → Bool) (os : List (Int × ByteArray)) : atOf p os 0 = idxOf p os := by
  unfold atOf
  have := idx_lo p os
  simp only [List.drop_zero]
  split <;> omega
theorem at_step {p : Int → ByteArray → Bool} {os : List (Int × ByteArray)} {c : Nat} {o : Int × ByteArray} (h : os[c]? = some o) : atOf p os c = if p o.1 o.2 then (c : Int) else atOf p os (c + 1) := by
  have hc : c < os.length := (List.getElem?_eq_some_iff.1 h).1
  have e : os.drop c = o :: os.drop (c + 1) := by
    rw [List.drop_eq_getElem_cons hc]
    rw [List.getElem?_eq_getElem hc] at h
    rw [Option.some.inj h]
  unfold atOf
  rw [e, idxOf]
  have := idx_lo p (os.drop (c + 1))
  cases p o.1 o.2
  · simp only [Bool.false_eq_true, if_false]
    split
    · simp
    · rw [if_neg (by omega)]; omega
  · simp
theorem own_keep {w w' : World} {base n : Nat} {e : TypeId} {size : Nat} {v : Value} {xs : List Value} (h : w.ownsRow base e size v n xs) (hb : Below w.heap.size w w') : w'.ownsRow base e size v n xs := by
  refine ⟨h.1, ?_⟩
  rcases h.2 with h | ⟨g, cap, cur, rfl, hg, hh, r⟩
  · exact .inl h
  · exact .inr ⟨g, cap, cur, rfl, hg, (hb.block g (Array.getElem?_eq_some_iff.1 hh).1).trans hh, r⟩
theorem own_apart {w w2 w' : World} {b1 b2 n m : Nat} {e : TypeId} {v u : Value} {xs ys : List Value} (h1 : w.ownsRow b1 e 2 v n xs) (hlt : w.heap.size ≤ b2) (h2 : w2.ownsRow b2 e 2 u m ys) (hg : w2.grownBy w' v.ownBlock) : w'.ownsRow b2 e 2 u m ys := by
  refine h2.kept hg ?_
  cases hu : u.ownBlock with
  | none => exact .inl rfl
  | some k =>
    refine .inr (fun e => ?_)
    have a := (h2.lt k hu).1
    have b := (h1.lt k e.symm).2
    omega
set_option maxRecDepth 100000 in
set_option maxHeartbeats 4000000 in
theorem optsAll_walk (A : Option Addr) (n cap : Nat) (os : List (Int × ByteArray)) (s : ByteArray) (q : Int) (hnil : A = none → n = 0 ∧ cap = 0) (hcap : n ≤ cap) (hz : n * 24 ≤ 140737488351232 ∧ ∀ o ∈ os, o.2.size ≤ 140737488351232) (k0 : s.size ≤ 140737488351232) (k1 : (Lit.int .i64 q).wf = true) (w : World) (hv : OptsAt w A n os) :
    Calls Try.prog 3 #[.slice A n cap, .string s, .int .i64 q] w fun e w' => e = .returned (.bool true) ∧ Below w.heap.size w w' := by
  have HV := Lib.hid hv; clear hv
  have HNIL := Lib.hid hnil; have HZ := Lib.hid hz
  have hn24 := hz.1
  clear hnil hz k0 k1
  have hul := uL_len s
  go_enter Try.func3, Try.ntmps3
  go_wp2_with (first | (go_at_call 12; refine (num_any _ _).mono ?_; rintro e w' ⟨rfl, rfl⟩))
  refine (lend_any A n cap os _ HV.out hn24 HNIL.out).mono ?_
  rintro e w1 ⟨gx, capx, rfl, hcx, hcm, hvx, hb1⟩
  have hz1 := hb1.size
  have HVX := Lib.hid hvx; clear hvx
  go_wp2_with (first | (go_at_call 12; refine (num_any _ _).mono ?_; rintro e w' ⟨rfl, rfl⟩))
  refine (optput_any _ _ _ os _ (OptsAt.head HVX.out HV.out.1) (by omega)).mono ?_
  rintro e w2 ⟨rfl, hb2⟩
  have hz2 := hb2.size
  have bl2 := below_step hb1 hb2 hz1
  go_wp2_with (first | (go_at_call 12; refine (num_any _ _).mono ?_; rintro e w' ⟨rfl, rfl⟩))
  refine (ropts_any _ _ _ os _ (HV.out.keep bl2) (by omega) HZ.out.2).mono ?_
  rintro e w3 ⟨rfl, hb3⟩
  have hz3 := hb3.size
  have bl3 := below_step bl2 hb3 (by omega)
  go_wp2_with (first | (go_at_call 12; refine (num_any _ _).mono ?_; rintro e w' ⟨rfl, rfl⟩))
  refine (optget_any _ _).mono ?_
  rintro e w4 ⟨Ac, cc, rfl, hc4, hb4⟩
  have hz4 := hb4.size
  have bl4 := below_step bl3 hb4 (by omega)
  have HC4 := Lib.hid hc4; clear hc4
  go_wp2_with (first | (go_at_call 12; refine (num_any _ _).mono ?_; rintro e w' ⟨rfl, rfl⟩))
  refine (optget_any _ _).mono ?_
  rintro e w5 ⟨Ad, cd, rfl, hd5, hb5⟩
  have hz5 := hb5.size
  have bl5 := below_step bl4 hb5 (by omega)
  have HD5 := Lib.hid hd5; clear hd5
  go_wp2_with (first | (go_at_call 12; refine (num_any _ _).mono ?_; rintro e w' ⟨rfl, rfl⟩))
  refine (runopts_any _ _).mono ?_
  rintro e w6 ⟨Ao, co, rfl, ho6, hb6⟩
  have hz6 := hb6.size
  have bl6 := below_step bl5 hb6 (by omega)
  have HO6 := Lib.hid ho6; clear ho6
  go_wp2_with (first | (go_at_call 12; refine (num_any _ _).mono ?_; rintro e w' ⟨rfl, rfl⟩))
  have hx0 : (n : Int) - 1 ≤ 9223372036854775807 := by omega
  go_loop [18, 19] (fun u i => ∃ c : Nat, c ≤ n ∧ i = .int .i64 ((c : Int) - 1) ∧ u = .int .i64 (atOf (fun x _ => x == q) os c)) (fun _ i => (intOf i + 1).toNat)
  case atStart => exact ⟨n, Nat.le_refl _, rfl, by rw [at_end HV.out.1]⟩
  case round =>
    obtain ⟨c, hcn, rfl, rfl⟩ := hrel
    by_cases hc0 : 0 < c
    · obtain ⟨d, rfl⟩ : ∃ d, c = d + 1 := ⟨c - 1, by omega⟩
      obtain ⟨b, off, kind, data, rfl, hb, ho, c1, c2⟩ := (HV.out.keep bl6).at_ d (by omega)
      have hst := at_step (p := fun x _ => x == q) ho
      have HST := Lib.hid hst; clear hst ho c2
      have hcast : (((d + 1 : Nat) : Int) - 1) = (d : Int) := by omega
      rw [hcast]
      have y1 : (d : Int) < (n : Int) := by omega
      cases hk : (kind == q)
      · go_wp2_with (first | (go_at_call 12; refine (num_any _ _).mono ?_; rintro e w' ⟨rfl, rfl⟩))
        go_round
        case rel => exact ⟨d, by omega, rfl, by rw [HST.out, hk]; rfl⟩
        case measure => simp [intOf]
      · go_wp2_with (first | (go_at_call 12; refine (num_any _ _).mono ?_; rintro e w' ⟨rfl, rfl⟩))
        go_round
        case rel => exact ⟨d, by omega, rfl, by rw [HST.out, hk]; rfl⟩
        case measure => simp [intOf]
    · obtain rfl : c = 0 := by omega
      rw [at_start]
      have hcast : (((0 : Nat) : Int) - 1) = -1 := by omega
      rw [hcast]
      go_wp2_with (first | (go_at_call 12; refine (num_any _ _).mono ?_; rintro e w' ⟨rfl, rfl⟩))
      refine (same_any _ _ _ _ _ _ (uL s) (uL s) _ (OptsAt.own (own_keep (own_keep HC4.out hb5) hb6)) (OptsAt.own HO6.out) (by omega)).mono ?_
      rintro e w7 ⟨rfl, hb7⟩
      rw [same_refl]
      have hz7 := hb7.size
      have bl7 := below_step bl6 hb7 (by omega)
      have bx7 : Below w1.heap.size w1 w7 := below_step (below_step (below_step (below_step (below_step hb2 hb3 hz2) hb4 (by omega)) hb5 (by omega)) hb6 (by omega)) hb7 (by omega)
      go_wp2_with (first | (go_at_call 12; refine (num_any _ _).mono ?_; rintro e w' ⟨rfl, rfl⟩))
      refine (find_any q _ _ _ os _ (OptsAt.head (HVX.out.keep bx7) HV.out.1) (by omega)).mono ?_
      rintro e w8 ⟨rfl, hb8⟩
      have hz8 := hb8.size
      have bl8 := below_step bl7 hb8 (by omega)
      have bx8 := below_step bx7 hb8 (by omega)
      go_wp2_with (first | (go_at_call 12; refine (num_any _ _).mono ?_; rintro e w' ⟨rfl, rfl⟩))
      refine (kept_any gx n capx cap A os _ (HVX.out.keep bx8) (HV.out.keep bl8) hcx hcm).mono ?_
      rintro e w9 ⟨rfl, hb9⟩
      have hz9 := hb9.size
      have bl9 := below_step bl8 hb9 (by omega)
      have b49 : Below w4.heap.size w4 w9 := below_step (below_step (below_step (below_step hb5 hb6 hz5) hb7 (by omega)) hb8 (by omega)) hb9 (by omega)
      have b59 : Below w5.heap.size w5 w9 := below_step (below_step (below_step hb6 hb7 hz6) hb8 (by omega)) hb9 (by omega)
      have b69 : Below w6.heap.size w6 w9 := below_step (below_step hb7 hb8 hz7) hb9 (by omega)
      go_wp2_with (first | (go_at_call 12; refine (num_any _ _).mono ?_; rintro e w' ⟨rfl, rfl⟩))
      refine (spoil_any w3.heap.size Ac _ cc (uL s) _ (own_keep HC4.out b49) rfl (by omega)).mono ?_
      rintro e w10 ⟨rfl, hg10⟩
      have bl10 : Below w.heap.size w w10 := bl9.grown hg10 (by omega) (fun k hk => by have := (HC4.out.lt k hk).1; omega)
      have hz10 := hg10.size
      have hd10 := own_apart HC4.out (Nat.le_refl _) (own_keep HD5.out b59) hg10
      have ho10 := own_apart HC4.out hz5 (own_keep HO6.out b69) hg10
      have HD10 := Lib.hid hd10; have HO10 := Lib.hid ho10
      clear hd10 ho10 hg10
      go_wp2_with (first | (go_at_call 12; refine (num_any _ _).mono ?_; rintro e w' ⟨rfl, rfl⟩))
      refine (same_any _ _ _ _ _ _ (uL s) (uL s) _ (OptsAt.own HD10.out) (OptsAt.own HO10.out) (by omega)).mono ?_
      rintro e w11 ⟨rfl, hb11⟩
      rw [same_refl]
      have hz11 := hb11.size
      have bl11 := below_step bl10 hb11 (by omega)
      go_wp2_with (first | (go_at_call 12; refine (num_any _ _).mono ?_; rintro e w' ⟨rfl, rfl⟩))
      refine (awake_any _).mono ?_
      rintro e w12 ⟨rfl, hb12⟩
      go_wp2_with (first | (go_at_call 12; refine (num_any _ _).mono ?_; rintro e w' ⟨rfl, rfl⟩))
      go_ret
      exact ⟨by simp, below_step bl11 hb12 (by omega)⟩
end Go.Proofs.Ytdfhodhdpkbcnaa
