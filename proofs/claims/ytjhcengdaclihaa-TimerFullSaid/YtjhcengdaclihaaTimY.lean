/- TimerFull walked: it returns true. No condition. -/
import Derived.Test.YtjhcengdaclihaaTimX
namespace Go.Proofs.Ytjhcengdaclihaa
open Go.RowKit
set_option linter.unusedVariables false
set_option linter.unusedSimpArgs false
open Go.Maps
def fullL : Nat → List Tm
  | 0 => []
  | n + 1 => fullL n ++ [((n : Int), 1000 + (n : Int))]
theorem full_len (n : Nat) : (fullL n).length = n := by induction n with
  | zero => rfl
  | succ n ih => simp [fullL, ih]
theorem full_mem {n : Nat} {x : Tm} (h : x ∈ fullL n) : ∃ j : Nat, j < n ∧ x = ((j : Int), 1000 + (j : Int)) := by
  induction n with
  | zero => simp [fullL] at h
  | succ n ih =>
    simp only [fullL, List.mem_append, List.mem_singleton] at h
    rcases h with h | h
    · obtain ⟨j, h1, h2⟩ := ih h; exact ⟨j, by omega, h2⟩
    · exact ⟨n, by omega, h⟩
theorem full_at {n j : Nat} (h : j < n) : (fullL n)[j]? = some ((j : Int), 1000 + (j : Int)) := by
  induction n with
  | zero => omega
  | succ n ih =>
    unfold fullL
    by_cases e : j < n
    · rw [List.getElem?_append_left (by rw [full_len]; exact e)]; exact ih e
    · obtain rfl : j = n := by omega
      rw [List.getElem?_append_right (by rw [full_len]; omega), full_len]
      simp
theorem insT_last {t : Tm} {S : List Tm} (h : ∀ x ∈ S, lt t x = false) : insT t S = S ++ [t] := by
  induction S with
  | nil => rfl
  | cons x xs ih =>
    unfold insT
    rw [h x (by simp)]
    simp only [Bool.false_eq_true, if_false, List.cons_append]
    rw [ih (fun y hy => h y (by simp [hy]))]
theorem insT_first {t : Tm} {S : List Tm} (h : ∀ x ∈ S, lt t x = true) : insT t S = t :: S := by
  cases S with
  | nil => rfl
  | cons x xs =>
    unfold insT
    rw [h x (by simp)]
    rfl
theorem full_no {n : Nat} {id : Int} (h : (n : Int) ≤ id) : hasT id (fullL n) = false := by
  unfold hasT
  rw [List.any_eq_false]
  intro x hx
  obtain ⟨j, h1, rfl⟩ := full_mem hx
  simp; omega
theorem full_step {n : Nat} (h : n < 256) : setC (n : Int) (1000 + (n : Int)) (fullL n) = 0 ∧ setA (n : Int) (1000 + (n : Int)) (fullL n) = fullL (n + 1) := by
  have e : setC (n : Int) (1000 + (n : Int)) (fullL n) = 0 := by
    unfold setC
    rw [if_neg (by omega), if_neg (by rw [full_len]; omega)]
  refine ⟨e, ?_⟩
  unfold setA setT
  rw [if_pos e, stop_none (full_no (Int.le_refl _)), insT_last]
  · rfl
  · intro x hx
    obtain ⟨j, h1, rfl⟩ := full_mem hx
    rw [lt_no]
    show ¬ (1000 + (n : Int) < 1000 + (j : Int) ∨ (1000 + (n : Int) = 1000 + (j : Int) ∧ (n : Int) < (j : Int)))
    omega
theorem full_more (p : Nat) : setC (256 + (p : Int)) 5 (fullL 256) = 1102 ∧ setA (256 + (p : Int)) 5 (fullL 256) = fullL 256 := by
  have e : setC (256 + (p : Int)) 5 (fullL 256) = 1102 := by
    unfold setC
    rw [if_neg (by omega), if_pos ⟨full_no (by omega), by rw [full_len]; exact Nat.le_refl _⟩]
  refine ⟨e, ?_⟩
  unfold setA
  rw [if_neg (by rw [e]; decide)]
theorem full_ids (n : Nat) : Ids (fullL n) := by
  unfold Ids
  rw [List.pairwise_iff_getElem]
  intro i j hi hj hij
  rw [full_len] at hi hj
  have h1 := full_at hi
  have h2 := full_at hj
  rw [List.getElem?_eq_getElem (by rw [full_len]; exact hi)] at h1
  rw [List.getElem?_eq_getElem (by rw [full_len]; exact hj)] at h2
  rw [Option.some.inj h1, Option.some.inj h2]
  simp; omega
theorem full_turn (p q : Nat) (hp : p < 256) (hq : q < 512) : setC (p : Int) (q : Int) (fullL 256) = 0 ∧ ∃ R, setA (p : Int) (q : Int) (fullL 256) = ((p : Int), (q : Int)) :: R ∧ R.length = 255 := by
  have hx := full_at (n := 256) hp
  have e : setC (p : Int) (q : Int) (fullL 256) = 0 := by
    unfold setC
    rw [if_neg (by omega), if_neg]
    rintro ⟨h, -⟩
    unfold hasT at h
    rw [List.any_eq_false] at h
    exact h _ (List.mem_of_getElem? hx) (by simp)
  refine ⟨e, stopT (p : Int) (fullL 256), ?_, ?_⟩
  · unfold setA setT
    rw [if_pos e, insT_first]
    intro x hx
    obtain ⟨j, h1, rfl⟩ := full_mem (List.mem_filter.1 hx).1
    rw [lt_iff]
    left
    show (q : Int) < 1000 + (j : Int)
    omega
  · have h := (set_perm (t := ((p : Int), 0)) (full_ids 256) hx).length_eq
    rw [List.length_set, full_len, List.length_cons] at h
    have h2 : 256 = (stopT (p : Int) (fullL 256)).length + 1 := h
    omega
set_option maxHeartbeats 2000000 in
set_option maxRecDepth 100000 in
theorem full_walk (more at_ : Int) (_ : (Lit.int .i64 more).wf = true) (_ : (Lit.int .i64 at_).wf = true) (w0 : World) : Calls Try.prog 5 #[.int .i64 more, .int .i64 at_] w0 fun e w' => e = .returned (.bool true) ∧ Below w0.heap.size w0 w' := by
  obtain ⟨p, hp, hp1⟩ := and255 more
  obtain ⟨q, hq, hq1⟩ := and511 at_
  have HT := Lib.hid (full_turn p q hp1 hq1)
  have HP := Lib.hid hp1
  have hw256 : wrap64 (256 + (p : Int)) = 256 + (p : Int) := wrap_in (by omega) (by omega)
  have HW1 := Lib.hid (show (Lit.int .i64 (256 + (p : Int))).wf = true from WalkArith.wf_i64 (by omega))
  have HW2 := Lib.hid (show (Lit.int .i64 (p : Int)).wf = true from WalkArith.wf_i64 (by omega))
  have H256 := Lib.hid hw256
  clear hp1 hq1 hw256
  go_enter Try.func5, Try.ntmps5
  go_wp2_with fail
  refine (awake_any _).mono ?_
  rintro e wa ⟨rfl, hba⟩
  have HBA := Lib.hid hba; clear hba
  go_wp2_with fail
  refine (new_to HBA.out).mono ?_
  rintro e w1 ⟨rfl, h1, -⟩
  generalize wa.heap.size + 1 = g at *
  generalize hmb : wa.heap.size = mb at h1
  have H1 := Lib.hid h1; clear h1 hmb
  go_wp2_with fail
  go_loopw [6] (fun i wr => ∃ k : Nat, i = .int .i64 k ∧ k ≤ 256 ∧ ∃ v, TO w0 wr g mb v (fullL k)) (fun i _ => 256 - (intOf i).toNat)
  case atStart => exact ⟨0, rfl, by omega, _, H1.out⟩
  case round =>
    obtain ⟨k, rfl, hk, v, hto⟩ := hrel
    have H := Lib.hid hto; clear hto
    by_cases hlt : k < 256
    · have hlt2 : (k : Int) < 256 := by omega
      have hw1 : wrap64 (1000 + (k : Int)) = 1000 + (k : Int) := wrap_in (by omega) (by omega)
      have hw2 : wrap64 ((k : Int) + 1) = (k : Int) + 1 := wrap_in (by omega) (by omega)
      have HWK := Lib.hid (show (Lit.int .i64 (k : Int)).wf = true from WalkArith.wf_i64 (by omega))
      have HS := Lib.hid (full_step hlt)
      have HK := Lib.hid hlt
      clear hk hlt
      go_wp2_with fail
      refine (set_to (k : Int) (1000 + (k : Int)) H.out HWK.out).mono ?_
      rintro e w2 ⟨rfl, v2, h2, -⟩
      rw [HS.out.1]
      rw [HS.out.2] at h2
      have H2 := Lib.hid h2; clear h2
      go_wp2_with (first | (go_at_call 10; refine (num_any _ _).mono ?_; rintro e w' ⟨rfl, rfl⟩))
      go_roundw
      case rel => exact ⟨k + 1, by go_num, HK.out, v2, H2.out⟩
      case measure => have := HK.out; clear hw1 hw2; simp [intOf]; omega
    · obtain rfl : k = 256 := by omega
      have hw256 := H256.out
      clear hlt hk
      go_wp2_with fail
      refine (set_to (256 + (p : Int)) 5 H.out HW1.out).mono ?_
      rintro e w2 ⟨rfl, v2, h2, -⟩
      rw [(full_more p).1]
      rw [(full_more p).2] at h2
      have H2 := Lib.hid h2; clear h2 hw256
      go_wp2_with fail
      refine (set_to (p : Int) (q : Int) H2.out HW2.out).mono ?_
      rintro e w3 ⟨rfl, v3, h3, -⟩
      obtain ⟨t1, R, t2, t3⟩ := HT.out
      rw [t1]
      rw [t2] at h3
      have H3 := Lib.hid h3; clear h3
      have HR := Lib.hid t3
      clear t1 t2 t3
      go_wp2_with fail
      refine (next_to H3.out).mono ?_
      rintro e w4 ⟨rfl, h4, -⟩
      have H4 := Lib.hid h4; clear h4
      go_wp2_with (first | (go_at_call 10; refine (num_any _ _).mono ?_; rintro e w' ⟨rfl, rfl⟩))
      refine (tlen_to H4.out).mono ?_
      rintro e w5 ⟨rfl, rfl⟩
      rw [show (((p : Int), (q : Int)) :: R).length = 256 from by rw [List.length_cons, HR.out]]
      go_wp2_with fail
      go_ret
      exact ⟨rfl, H4.out.bel⟩
end Go.Proofs.Ytjhcengdaclihaa
