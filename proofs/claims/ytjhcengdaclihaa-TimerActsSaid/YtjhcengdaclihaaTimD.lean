/- The contract of container/heap.down. No condition. -/
import Derived.Test.YtjhcengdaclihaaTimU
namespace Go.Proofs.Ytjhcengdaclihaa
open Go.RowKit
set_option linter.unusedVariables false
set_option linter.unusedSimpArgs false
open Go.Maps
theorem dn_walk (k : Nat) (h2 : k ≤ 256) : ∃ a j1 j2 : Nat, wrap64 (2 * (k : Int)) = (a : Int) ∧ wrap64 ((a : Int) + 1) = (j1 : Int) ∧ wrap64 ((j1 : Int) + 1) = (j2 : Int) ∧ j1 = 2 * k + 1 ∧ j2 = 2 * k + 2 := by
  refine ⟨2 * k, 2 * k + 1, 2 * k + 2, ?_, ?_, ?_, rfl, rfl⟩
  · rw [wrap_in (by omega) (by omega)]; omega
  · rw [wrap_in (by omega) (by omega)]; omega
  · rw [wrap_in (by omega) (by omega)]; omega
theorem child {c k : Nat} (h : 1 ≤ c) (hp : par c = k) : c = 2 * k + 1 ∨ c = 2 * k + 2 := by unfold par at hp; omega
def MinC (ts : List Tm) (n k j : Nat) : Prop := par j = k ∧ 1 ≤ j ∧ j < n ∧ ∀ c, 1 ≤ c → c < n → par c = k → lt (el ts c) (el ts j) = false
theorem MinC.right {ts : List Tm} {n k j1 j2 : Nat} (e1 : j1 = 2 * k + 1) (e2 : j2 = 2 * k + 2) (h : j2 < n) (hl : lt (el ts j2) (el ts j1) = true) : MinC ts n k j2 := by
  refine ⟨by unfold par; omega, by omega, h, fun c a b d => ?_⟩
  rcases child a d with e | e
  · rw [e, ← e1]; exact lt_asym hl
  · rw [e, ← e2]; exact lt_self _
theorem MinC.left {ts : List Tm} {n k j1 j2 : Nat} (e1 : j1 = 2 * k + 1) (e2 : j2 = 2 * k + 2) (h : j1 < n) (hl : j2 < n → lt (el ts j2) (el ts j1) = false) : MinC ts n k j1 := by
  refine ⟨by unfold par; omega, by omega, h, fun c a b d => ?_⟩
  rcases child a d with e | e
  · rw [e, ← e1]; exact lt_self _
  · rw [e, ← e2]; exact hl (by omega)
def PoDn (ts0 : List Tm) (n i0 g mb : Nat) (v : Value) (w0 w : World) (k : Nat) : Prop := ∃ D ts, PileAt w g mb v D ts ∧ Mv w0 w g mb v v ∧ Mov ts0 ts n ∧ DnI ts n i0 k ∧ n ≤ ts.length ∧ k ≤ 256
def DnR (ts0 : List Tm) (n i0 g mb : Nat) (v : Value) (w0 : World) (b : Bool) (w : World) : Prop := ∃ D ts, PileAt w g mb v D ts ∧ Mv w0 w g mb v v ∧ Mov ts0 ts n ∧ (b = true → Heap ts n) ∧ (b = false → UpI ts n i0)
def DnE (ts0 : List Tm) (n i0 g mb : Nat) (v : Value) (w0 : World) (e : Ending) (w : World) : Prop := ∃ b, e = .returned (.bool b) ∧ DnR ts0 n i0 g mb v w0 b w
theorem dn_stop {ts : List Tm} {n i0 k : Nat} {b : Bool} (h : DnI ts n i0 k) (hl : ∀ c, 1 ≤ c → c < n → par c = k → lt (el ts c) (el ts k) = false) (hb : b = decide ((i0 : Int) < (k : Int))) : (b = true → Heap ts n) ∧ (b = false → UpI ts n i0) := by
  obtain ⟨h1, h2⟩ := h.end_ hl
  subst hb
  exact ⟨fun e => h1 (by simpa using e), fun _ => h2⟩
theorem dn_stopj {ts : List Tm} {n i0 k j : Nat} {b : Bool} (h : DnI ts n i0 k) (hm : MinC ts n k j) (hl : lt (el ts j) (el ts k) = false) (hb : b = decide ((i0 : Int) < (k : Int))) : (b = true → Heap ts n) ∧ (b = false → UpI ts n i0) :=
  dn_stop h (fun c a b d => le_tr hl (hm.2.2.2 c a b d)) hb
theorem dn_step {ts ts0 : List Tm} {n i0 g mb k j : Nat} {v : Value} {w0 w : World} {D : DU} (h : DnI ts n i0 k) (hm : MinC ts n k j) (hl : lt (el ts j) (el ts k) = true) (hp : PileAt w g mb v D (swp ts k j (el ts k) (el ts j))) (hv : Mv w0 w g mb v v) (hmv : Mov ts0 ts n) (hn : n ≤ ts.length) (hle : ts.length ≤ 256) : PoDn ts0 n i0 g mb v w0 w j := by
  obtain ⟨m1, m2, m3, m4⟩ := hm
  have := par_lt m2
  exact ⟨D, _, hp, hv, hmv.swp (by omega) m3 hn, h.step hn m2 m3 m1 m4 hl, by rw [swp_len]; exact hn, by omega⟩
set_option maxHeartbeats 1000000 in
set_option maxRecDepth 100000 in
theorem down_any (g mb i0 n : Nat) (v : Value) (D : DU) (ts0 : List Tm) (w : World) (h : PileAt w g mb v D ts0) (hd : DnI ts0 n i0 i0) (hn : n ≤ ts0.length) (hi : i0 ≤ 256) : Calls Try.prog 25 #[ifc g, .int .i64 (i0 : Int), .int .i64 (n : Int)] w fun e w' => DnE ts0 n i0 g mb v w e w' := by
  have h0 : PoDn ts0 n i0 g mb v w w i0 := ⟨D, ts0, h, Mv.refl _ _ _ _, Mov.refl _ _, hd, hn, hi⟩
  have HI := Lib.hid hi
  clear h hd hi
  have hmL := hmL g
  have hmS := hmS g
  go_enter Try.func25, Try.ntmps25
  go_wp2_with fail
  go_loopw [7] (fun j wr => ∃ k : Nat, j = .int .i64 k ∧ PoDn ts0 n i0 g mb v w wr k) (fun j _ => n - (intOf j).toNat)
  case atStart => exact ⟨i0, rfl, h0⟩
  case round =>
    obtain ⟨k, rfl, D1, ts, hp, hv, hm, hu, hnl, hk⟩ := hrel
    have HLE := Lib.hid hp.le
    have HP := Lib.hid hp
    have HV := Lib.hid hv
    have HM := Lib.hid hm
    have HU := Lib.hid hu
    have hle := hp.le
    clear hp hv hm hu h0
    obtain ⟨a, j1, j2, q⟩ := dn_walk k hk
    have Q := Lib.hid q
    have E1 := Lib.hid q.2.2.2.1
    have E2 := Lib.hid q.2.2.2.2
    have hxk : k < ts.length → ts[k]? = some (el ts k) := fun h => el_at h
    have hx1 : j1 < ts.length → ts[j1]? = some (el ts j1) := fun h => el_at h
    have hx2 : j2 < ts.length → ts[j2]? = some (el ts j2) := fun h => el_at h
    have s1 : j1 < n → ¬ (n : Int) ≤ (j1 : Int) := fun h => by omega
    have s2 : ¬ j1 < n → (n : Int) ≤ (j1 : Int) := fun h => by omega
    have s3 : j2 < n → (j2 : Int) < (n : Int) := fun h => by omega
    have s4 : ¬ j2 < n → ¬ (j2 : Int) < (n : Int) := fun h => by omega
    have s5 : ¬ (j1 : Int) < 0 := by omega
    have HK := Lib.hid hk
    have kj : k < j1 := by have := q.2.2.2.1; omega
    have k12 : j1 < j2 := by have := q.2.2.2; omega
    clear q hle hk
    by_cases hj1 : j1 < n
    · have t1 := s1 hj1
      have xk := hxk (by omega)
      have x1 := hx1 (by omega)
      by_cases hj2 : j2 < n
      · have t2 := s3 hj2
        have x2 := hx2 (by omega)
        clear s1 s2 s3 s4 hxk hx1 hx2
        have KJ := Lib.hid kj
        have K12 := Lib.hid k12
        clear kj k12
        obtain ⟨q1, q2, q3, -⟩ := Q.out
        go_wp2_with fail
        refine (less_any g mb j2 j1 v D1 ts wr _ _ HP.out x2 x1).mono ?_
        rintro e w1 ⟨rfl, hb1⟩
        have HP1 := Lib.hid (HP.out.keep hb1)
        have HV1 := Lib.hid (HV.out.trans (Mv.below hb1))
        clear hb1
        cases hc : lt (el ts j2) (el ts j1) with
        | true =>
          have MC := Lib.hid (MinC.right (ts := ts) (n := n) E1.out E2.out hj2 hc)
          clear hc
          go_wp2_with fail
          refine (less_any g mb j2 k v D1 ts w1 _ _ HP1.out x2 xk).mono ?_
          rintro e w2 ⟨rfl, hb2⟩
          have HP2 := Lib.hid (HP1.out.keep hb2)
          have HV2 := Lib.hid (HV1.out.trans (Mv.below hb2))
          clear hb2
          cases hl : lt (el ts j2) (el ts k) with
          | false =>
            have HL := Lib.hid hl
            clear hl
            go_wp2_with fail
            go_ret
            exact ⟨_, rfl, D1, ts, HP2.out, HV2.out, HM.out, dn_stopj HU.out MC.out HL.out (by simp)⟩
          | true =>
            have HL := Lib.hid hl
            clear hl
            go_wp2_with fail
            refine (swap_any g mb k j2 v D1 ts w2 _ _ HP2.out xk x2).mono ?_
            rintro e w3 ⟨rfl, D2, hp3, hv3⟩
            have HP3 := Lib.hid hp3
            have HV3 := Lib.hid hv3
            clear hp3 hv3
            go_wp2_with fail
            go_roundw
            case rel => exact ⟨j2, rfl, dn_step HU.out MC.out HL.out HP3.out (HV2.out.trans HV3.out) HM.out hnl HLE.out⟩
            case measure =>
              have := KJ.out
              have := K12.out
              clear q1 q2 q3
              simp [intOf]; omega
        | false =>
          have MC := Lib.hid (MinC.left (ts := ts) (n := n) E1.out E2.out hj1 (fun _ => hc))
          clear hc
          go_wp2_with fail
          refine (less_any g mb j1 k v D1 ts w1 _ _ HP1.out x1 xk).mono ?_
          rintro e w2 ⟨rfl, hb2⟩
          have HP2 := Lib.hid (HP1.out.keep hb2)
          have HV2 := Lib.hid (HV1.out.trans (Mv.below hb2))
          clear hb2
          cases hl : lt (el ts j1) (el ts k) with
          | false =>
            have HL := Lib.hid hl
            clear hl
            go_wp2_with fail
            go_ret
            exact ⟨_, rfl, D1, ts, HP2.out, HV2.out, HM.out, dn_stopj HU.out MC.out HL.out (by simp)⟩
          | true =>
            have HL := Lib.hid hl
            clear hl
            go_wp2_with fail
            refine (swap_any g mb k j1 v D1 ts w2 _ _ HP2.out xk x1).mono ?_
            rintro e w3 ⟨rfl, D2, hp3, hv3⟩
            have HP3 := Lib.hid hp3
            have HV3 := Lib.hid hv3
            clear hp3 hv3
            go_wp2_with fail
            go_roundw
            case rel => exact ⟨j1, rfl, dn_step HU.out MC.out HL.out HP3.out (HV2.out.trans HV3.out) HM.out hnl HLE.out⟩
            case measure =>
              have := KJ.out
              have := K12.out
              clear q1 q2 q3
              simp [intOf]; omega
      · have t2 := s4 hj2
        clear s1 s2 s3 s4 hxk hx1 hx2
        have KJ := Lib.hid kj
        have K12 := Lib.hid k12
        have MC := Lib.hid (MinC.left (ts := ts) (n := n) E1.out E2.out hj1 (fun h => absurd h hj2))
        clear kj k12
        obtain ⟨q1, q2, q3, -⟩ := Q.out
        go_wp2_with fail
        refine (less_any g mb j1 k v D1 ts wr _ _ HP.out x1 xk).mono ?_
        rintro e w2 ⟨rfl, hb2⟩
        have HP2 := Lib.hid (HP.out.keep hb2)
        have HV2 := Lib.hid (HV.out.trans (Mv.below hb2))
        clear hb2
        cases hl : lt (el ts j1) (el ts k) with
        | false =>
          have HL := Lib.hid hl
          clear hl
          go_wp2_with fail
          go_ret
          exact ⟨_, rfl, D1, ts, HP2.out, HV2.out, HM.out, dn_stopj HU.out MC.out HL.out (by simp)⟩
        | true =>
          have HL := Lib.hid hl
          clear hl
          go_wp2_with fail
          refine (swap_any g mb k j1 v D1 ts w2 _ _ HP2.out xk x1).mono ?_
          rintro e w3 ⟨rfl, D2, hp3, hv3⟩
          have HP3 := Lib.hid hp3
          have HV3 := Lib.hid hv3
          clear hp3 hv3
          go_wp2_with fail
          go_roundw
          case rel => exact ⟨j1, rfl, dn_step HU.out MC.out HL.out HP3.out (HV2.out.trans HV3.out) HM.out hnl HLE.out⟩
          case measure =>
            have := KJ.out
            have := K12.out
            clear q1 q2 q3
            simp [intOf]; omega
    · have t1 := s2 hj1
      clear s1 s2 s3 s4 hxk hx1 hx2
      have KJ := Lib.hid kj
      have K12 := Lib.hid k12
      have E := Lib.hid hj1
      clear kj k12 hj1
      obtain ⟨q1, q2, q3, -⟩ := Q.out
      go_wp2_with fail
      go_ret
      clear q1 q2 q3
      refine ⟨_, rfl, D1, ts, HP.out, HV.out, HM.out, dn_stop HU.out (fun c a b d => ?_) (by simp)⟩
      have e1 := E1.out
      have e2 := E.out
      rcases child a d with e | e <;> omega
end Go.Proofs.Ytjhcengdaclihaa
