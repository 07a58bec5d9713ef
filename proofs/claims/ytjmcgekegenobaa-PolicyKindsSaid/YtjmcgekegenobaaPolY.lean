/- Statement PolicyKinds: the walk. No condition but memory's own limits. -/
import Derived.Test.YtjmcgekegenobaaPolQ
import Derived.Test.YtjmcgekegenobaaPolT
namespace Go.Proofs.Ytjmcgekegenobaa
open Go.RowKit
set_option linter.unusedVariables false
set_option linter.unusedSimpArgs false
attribute [local go_sem] conv1 conv1d conv1n conv1a conv1ad conv1an conv2 conv2d conv2n conv2a conv2ad conv2an conv4 conv4d conv4n conv4a conv4ad conv4an conv5 conv5d conv5n conv5a conv5ad conv5an size_nums byt_fold
def ownK (short : Bool) : Lk := ⟨0, 9, 0, short, ⟨#[]⟩, 0⟩
theorem one_rej {l : Lk} {o : Int × ByteArray} (h : bad0 l o = true) : judV l [o] = 2 ∧ judL l [o] = [o] := by rw [judV_one, judL_one, h]; exact ⟨rfl, rfl⟩
theorem one_ack {l : Lk} {o : Int × ByteArray} (h : bad0 l o = false) (hb : bettO l o.1 o.2 = none) : judV l [o] = 0 ∧ judL l [o] = [o] := by rw [judV_one, judL_one, h, hb]; exact ⟨rfl, rfl⟩
theorem one_nak {l : Lk} {o x : Int × ByteArray} (h : bad0 l o = false) (hb : bettO l o.1 o.2 = some x) : judV l [o] = 1 ∧ judL l [o] = [x] := by rw [judV_one, judL_one, h, hb]; exact ⟨rfl, rfl⟩
theorem bad_wrong {l : Lk} {k : Int} {d : ByteArray} (h : rightB k d = false) : bad0 l (k, d) = true := by unfold bad0; rw [show rightB (k, d).1 (k, d).2 = false from h]; rfl
theorem right_no {k : Int} {d : ByteArray} (h1 : sizeK k ≠ (d.size : Int)) (h2 : sizeK k = -1 → ¬ (1 ≤ d.size ∧ d.size ≤ 20)) : rightB k d = false := by
  unfold rightB
  rw [decide_eq_false h1, Bool.false_or]
  by_cases h : sizeK k = -1
  · have := h2 h
    rw [decide_eq_true h, Bool.true_and, ← Bool.decide_and]
    exact decide_eq_false this
  · rw [decide_eq_false h]; rfl
theorem right_yes {k : Int} {d : ByteArray} (h1 : sizeK k = (d.size : Int)) : rightB k d = true := by unfold rightB; rw [decide_eq_true h1]; rfl
set_option maxRecDepth 100000 in
set_option maxHeartbeats 4000000 in
theorem kinds_other (kind : Int) (data : ByteArray) (short : Bool) (k : Int) (d : ByteArray) (w : World) (hm : (IntKind.u64.wrap kind).tmod 30 = k) (hk : 0 ≤ k ∧ k < 30) (hd : (40 < data.size ∧ data.extract 0 40 = d ∧ d.size = 40) ∨ (data.size ≤ 40 ∧ data = d)) (hV : judV (ownK short) [(k, d)] = 2) (hL : judL (ownK short) [(k, d)] = [(k, d)]) (e1 : (k == 1) = false) (e2 : (k == 5) = false) (e3 : (k == 17) = false) (e4 : (k == 23) = false) (e5 : (k == 18) = false) (e6 : (k == 19) = false) : Calls Try.prog 5 #[.int .i64 kind, .string data, .bool short] w fun e w' => e = .returned (.bool true) ∧ Below w.heap.size w w' := by
  have HFIT := Lib.hid (fits_one (o := (k, d)) hk.1 (by show k ≤ 255; omega) (by show d.size ≤ 253; rcases hd with h | h; omega; rw [← h.2]; omega))
  have HL := Lib.hid hL; have HV := Lib.hid hV; clear hL hV
  have hkw : IntKind.i64.wrap k = k := IntWalk.i64_in _ (by omega)
  rcases hd with ⟨hd1, hd2, hd3⟩ | ⟨hd1, rfl⟩
  · have hd4 : (40 : Int) < (data.size : Int) := by omega
    go_enter Try.func5, Try.ntmps5
    go_wp2_with fail
    refine (awake_any _).mono ?_
    rintro e w1 ⟨rfl, hb1⟩
    go_wp2_with fail
    refine (judge_any (ownK short) (some ⟨w1.heap.size + 1, 0, none⟩) 1 1 [(k, d)] _ (OptsAt.made_at (w1.alloc (.cells #[.int .i64 0, .int .i64 9, .int .i64 0, .bool short, .string ⟨#[]⟩, .int .i64 0] 23)) (w1.heap.size + 1) (by simp) _ #[.int .i64 k, .string d] _ 1 rfl rfl) (by omega) (by intro h; cases h) (Nat.le_refl _) HFIT.out).mono ?_
    rintro e w2 h2
    obtain ⟨A2, n2, cap2, rfl, hr2, hb2⟩ := judge_ok rfl h2
    clear h2
    have bel2 : Below w.heap.size w w2 := below_step ((hb1.alloc hb1.size _).alloc (by have := hb1.size; simp; omega) _) hb2 (by have := hb1.size; simp; omega)
    rw [HL.out] at hr2
    rw [HV.out]
    have hn2 : n2 = 1 := hr2.1.1.symm
    subst hn2
    obtain ⟨b2, o2, rfl, hlt2, hcc⟩ := hr2.1.2 (by decide)
    have s0 : w2.cell? ⟨b2, o2, none⟩ = some (.int .i64 k) := (hcc 0 (by simp)).1
    have s1 : w2.cell? ⟨b2, o2 + 1, none⟩ = some (.string d) := (hcc 0 (by simp)).2
    clear hcc hr2
    go_wp2_with (first | (go_at_call 11; refine (num_any _ _).mono ?_; rintro e w' ⟨rfl, rfl⟩))
    all_goals
      go_ret
      exact ⟨rfl, (by repeat' (first | (with_reducible exact bel2) | (with_reducible refine Below.setCell ?_ (Nat.le_refl _) _) | (with_reducible apply Below.setCell) | (with_reducible apply Below.alloc) | (with_reducible apply Below.drew) | (with_reducible apply below_drewN) | (exact Nat.le_refl _) | omega | (simp; done) | (simp; omega)))⟩
  · have hd4 : ¬ (40 : Int) < (data.size : Int) := by omega
    have hd5 : decide ((40 : Int) < (data.size : Int)) = false := decide_eq_false hd4
    go_enter Try.func5, Try.ntmps5
    go_wp2_with fail
    refine (awake_any _).mono ?_
    rintro e w1 ⟨rfl, hb1⟩
    go_wp2_with fail
    refine (judge_any (ownK short) (some ⟨w1.heap.size + 1, 0, none⟩) 1 1 [(k, data)] _ (OptsAt.made_at (w1.alloc (.cells #[.int .i64 0, .int .i64 9, .int .i64 0, .bool short, .string ⟨#[]⟩, .int .i64 0] 23)) (w1.heap.size + 1) (by simp) _ #[.int .i64 k, .string data] _ 1 rfl rfl) (by omega) (by intro h; cases h) (Nat.le_refl _) HFIT.out).mono ?_
    rintro e w2 h2
    obtain ⟨A2, n2, cap2, rfl, hr2, hb2⟩ := judge_ok rfl h2
    clear h2
    have bel2 : Below w.heap.size w w2 := below_step ((hb1.alloc hb1.size _).alloc (by have := hb1.size; simp; omega) _) hb2 (by have := hb1.size; simp; omega)
    rw [HL.out] at hr2
    rw [HV.out]
    have hn2 : n2 = 1 := hr2.1.1.symm
    subst hn2
    obtain ⟨b2, o2, rfl, hlt2, hcc⟩ := hr2.1.2 (by decide)
    have s0 : w2.cell? ⟨b2, o2, none⟩ = some (.int .i64 k) := (hcc 0 (by simp)).1
    have s1 : w2.cell? ⟨b2, o2 + 1, none⟩ = some (.string data) := (hcc 0 (by simp)).2
    clear hcc hr2
    go_wp2_with (first | (go_at_call 11; refine (num_any _ _).mono ?_; rintro e w' ⟨rfl, rfl⟩))
    all_goals
      go_ret
      exact ⟨rfl, (by repeat' (first | (with_reducible exact bel2) | (with_reducible refine Below.setCell ?_ (Nat.le_refl _) _) | (with_reducible apply Below.setCell) | (with_reducible apply Below.alloc) | (with_reducible apply Below.drew) | (with_reducible apply below_drewN) | (exact Nat.le_refl _) | omega | (simp; done) | (simp; omega)))⟩
set_option maxRecDepth 100000 in
set_option maxHeartbeats 4000000 in
theorem kinds_k23ok (kind : Int) (data : ByteArray) (short : Bool) (d : ByteArray) (w : World) (hm : (IntKind.u64.wrap kind).tmod 30 = 23) (hd : (40 < data.size ∧ data.extract 0 40 = d ∧ d.size = 40) ∨ (data.size ≤ 40 ∧ data = d)) (hV : judV (ownK short) [(23, d)] = 0) (hL : judL (ownK short) [(23, d)] = [(23, d)]) (z2 : ((d.size : Int) == 2) = true) (y2 : decide ((d.size : Int) = 2) = true) : Calls Try.prog 5 #[.int .i64 kind, .string data, .bool short] w fun e w' => e = .returned (.bool true) ∧ Below w.heap.size w w' := by
  have HFIT := Lib.hid (fits_one (o := (23, d)) (by show (0 : Int) ≤ 23; decide) (by show (23 : Int) ≤ 255; decide) (by show d.size ≤ 253; rcases hd with h | h; omega; rw [← h.2]; omega))
  have HL := Lib.hid hL; have HV := Lib.hid hV; clear hL hV
  have hkw : IntKind.i64.wrap 23 = 23 := IntWalk.i64_in _ (by omega)
  rcases hd with ⟨hd1, hd2, hd3⟩ | ⟨hd1, rfl⟩
  · exfalso
    rw [hd3] at z2
    exact absurd z2 (by decide)
  · have hd4 : ¬ (40 : Int) < (data.size : Int) := by omega
    have hd5 : decide ((40 : Int) < (data.size : Int)) = false := decide_eq_false hd4
    go_enter Try.func5, Try.ntmps5
    go_wp2_with fail
    refine (awake_any _).mono ?_
    rintro e w1 ⟨rfl, hb1⟩
    go_wp2_with fail
    refine (judge_any (ownK short) (some ⟨w1.heap.size + 1, 0, none⟩) 1 1 [(23, data)] _ (OptsAt.made_at (w1.alloc (.cells #[.int .i64 0, .int .i64 9, .int .i64 0, .bool short, .string ⟨#[]⟩, .int .i64 0] 23)) (w1.heap.size + 1) (by simp) _ #[.int .i64 23, .string data] _ 1 rfl rfl) (by omega) (by intro h; cases h) (Nat.le_refl _) HFIT.out).mono ?_
    rintro e w2 h2
    obtain ⟨A2, n2, cap2, rfl, hr2, hb2⟩ := judge_ok rfl h2
    clear h2
    have bel2 : Below w.heap.size w w2 := below_step ((hb1.alloc hb1.size _).alloc (by have := hb1.size; simp; omega) _) hb2 (by have := hb1.size; simp; omega)
    rw [HL.out] at hr2
    rw [HV.out]
    have hn2 : n2 = 1 := hr2.1.1.symm
    subst hn2
    obtain ⟨b2, o2, rfl, hlt2, hcc⟩ := hr2.1.2 (by decide)
    have s0 : w2.cell? ⟨b2, o2, none⟩ = some (.int .i64 23) := (hcc 0 (by simp)).1
    have s1 : w2.cell? ⟨b2, o2 + 1, none⟩ = some (.string data) := (hcc 0 (by simp)).2
    clear hcc hr2
    go_wp2_with (first | (go_at_call 11; refine (num_any _ _).mono ?_; rintro e w' ⟨rfl, rfl⟩))
    all_goals
      go_ret
      exact ⟨rfl, (by repeat' (first | (with_reducible exact bel2) | (with_reducible refine Below.setCell ?_ (Nat.le_refl _) _) | (with_reducible apply Below.setCell) | (with_reducible apply Below.alloc) | (with_reducible apply Below.drew) | (with_reducible apply below_drewN) | (exact Nat.le_refl _) | omega | (simp; done) | (simp; omega)))⟩
set_option maxRecDepth 100000 in
set_option maxHeartbeats 4000000 in
theorem kinds_k23no (kind : Int) (data : ByteArray) (short : Bool) (d : ByteArray) (w : World) (hm : (IntKind.u64.wrap kind).tmod 30 = 23) (hd : (40 < data.size ∧ data.extract 0 40 = d ∧ d.size = 40) ∨ (data.size ≤ 40 ∧ data = d)) (hV : judV (ownK short) [(23, d)] = 2) (hL : judL (ownK short) [(23, d)] = [(23, d)]) (z2 : ((d.size : Int) == 2) = false) (y2 : decide ((d.size : Int) = 2) = false) : Calls Try.prog 5 #[.int .i64 kind, .string data, .bool short] w fun e w' => e = .returned (.bool true) ∧ Below w.heap.size w w' := by
  have HFIT := Lib.hid (fits_one (o := (23, d)) (by show (0 : Int) ≤ 23; decide) (by show (23 : Int) ≤ 255; decide) (by show d.size ≤ 253; rcases hd with h | h; omega; rw [← h.2]; omega))
  have HL := Lib.hid hL; have HV := Lib.hid hV; clear hL hV
  have hkw : IntKind.i64.wrap 23 = 23 := IntWalk.i64_in _ (by omega)
  rcases hd with ⟨hd1, hd2, hd3⟩ | ⟨hd1, rfl⟩
  · have hd4 : (40 : Int) < (data.size : Int) := by omega
    go_enter Try.func5, Try.ntmps5
    go_wp2_with fail
    refine (awake_any _).mono ?_
    rintro e w1 ⟨rfl, hb1⟩
    go_wp2_with fail
    refine (judge_any (ownK short) (some ⟨w1.heap.size + 1, 0, none⟩) 1 1 [(23, d)] _ (OptsAt.made_at (w1.alloc (.cells #[.int .i64 0, .int .i64 9, .int .i64 0, .bool short, .string ⟨#[]⟩, .int .i64 0] 23)) (w1.heap.size + 1) (by simp) _ #[.int .i64 23, .string d] _ 1 rfl rfl) (by omega) (by intro h; cases h) (Nat.le_refl _) HFIT.out).mono ?_
    rintro e w2 h2
    obtain ⟨A2, n2, cap2, rfl, hr2, hb2⟩ := judge_ok rfl h2
    clear h2
    have bel2 : Below w.heap.size w w2 := below_step ((hb1.alloc hb1.size _).alloc (by have := hb1.size; simp; omega) _) hb2 (by have := hb1.size; simp; omega)
    rw [HL.out] at hr2
    rw [HV.out]
    have hn2 : n2 = 1 := hr2.1.1.symm
    subst hn2
    obtain ⟨b2, o2, rfl, hlt2, hcc⟩ := hr2.1.2 (by decide)
    have s0 : w2.cell? ⟨b2, o2, none⟩ = some (.int .i64 23) := (hcc 0 (by simp)).1
    have s1 : w2.cell? ⟨b2, o2 + 1, none⟩ = some (.string d) := (hcc 0 (by simp)).2
    clear hcc hr2
    go_wp2_with (first | (go_at_call 11; refine (num_any _ _).mono ?_; rintro e w' ⟨rfl, rfl⟩))
    all_goals
      go_ret
      exact ⟨rfl, (by repeat' (first | (with_reducible exact bel2) | (with_reducible refine Below.setCell ?_ (Nat.le_refl _) _) | (with_reducible apply Below.setCell) | (with_reducible apply Below.alloc) | (with_reducible apply Below.drew) | (with_reducible apply below_drewN) | (exact Nat.le_refl _) | omega | (simp; done) | (simp; omega)))⟩
  · have hd4 : ¬ (40 : Int) < (data.size : Int) := by omega
    have hd5 : decide ((40 : Int) < (data.size : Int)) = false := decide_eq_false hd4
    go_enter Try.func5, Try.ntmps5
    go_wp2_with fail
    refine (awake_any _).mono ?_
    rintro e w1 ⟨rfl, hb1⟩
    go_wp2_with fail
    refine (judge_any (ownK short) (some ⟨w1.heap.size + 1, 0, none⟩) 1 1 [(23, data)] _ (OptsAt.made_at (w1.alloc (.cells #[.int .i64 0, .int .i64 9, .int .i64 0, .bool short, .string ⟨#[]⟩, .int .i64 0] 23)) (w1.heap.size + 1) (by simp) _ #[.int .i64 23, .string data] _ 1 rfl rfl) (by omega) (by intro h; cases h) (Nat.le_refl _) HFIT.out).mono ?_
    rintro e w2 h2
    obtain ⟨A2, n2, cap2, rfl, hr2, hb2⟩ := judge_ok rfl h2
    clear h2
    have bel2 : Below w.heap.size w w2 := below_step ((hb1.alloc hb1.size _).alloc (by have := hb1.size; simp; omega) _) hb2 (by have := hb1.size; simp; omega)
    rw [HL.out] at hr2
    rw [HV.out]
    have hn2 : n2 = 1 := hr2.1.1.symm
    subst hn2
    obtain ⟨b2, o2, rfl, hlt2, hcc⟩ := hr2.1.2 (by decide)
    have s0 : w2.cell? ⟨b2, o2, none⟩ = some (.int .i64 23) := (hcc 0 (by simp)).1
    have s1 : w2.cell? ⟨b2, o2 + 1, none⟩ = some (.string data) := (hcc 0 (by simp)).2
    clear hcc hr2
    go_wp2_with (first | (go_at_call 11; refine (num_any _ _).mono ?_; rintro e w' ⟨rfl, rfl⟩))
    all_goals
      go_ret
      exact ⟨rfl, (by repeat' (first | (with_reducible exact bel2) | (with_reducible refine Below.setCell ?_ (Nat.le_refl _) _) | (with_reducible apply Below.setCell) | (with_reducible apply Below.alloc) | (with_reducible apply Below.drew) | (with_reducible apply below_drewN) | (exact Nat.le_refl _) | omega | (simp; done) | (simp; omega)))⟩
set_option maxRecDepth 100000 in
set_option maxHeartbeats 4000000 in
theorem kinds_k19ok (kind : Int) (data : ByteArray) (short : Bool) (d : ByteArray) (w : World) (hm : (IntKind.u64.wrap kind).tmod 30 = 19) (hd : (40 < data.size ∧ data.extract 0 40 = d ∧ d.size = 40) ∨ (data.size ≤ 40 ∧ data = d)) (hV : judV (ownK short) [(19, d)] = 0) (hL : judL (ownK short) [(19, d)] = [(19, d)]) (z1 : decide (1 ≤ (d.size : Int)) = true) (z2 : decide ((d.size : Int) ≤ 20) = true) : Calls Try.prog 5 #[.int .i64 kind, .string data, .bool short] w fun e w' => e = .returned (.bool true) ∧ Below w.heap.size w w' := by
  have HFIT := Lib.hid (fits_one (o := (19, d)) (by show (0 : Int) ≤ 19; decide) (by show (19 : Int) ≤ 255; decide) (by show d.size ≤ 253; rcases hd with h | h; omega; rw [← h.2]; omega))
  have HL := Lib.hid hL; have HV := Lib.hid hV; clear hL hV
  have hkw : IntKind.i64.wrap 19 = 19 := IntWalk.i64_in _ (by omega)
  rcases hd with ⟨hd1, hd2, hd3⟩ | ⟨hd1, rfl⟩
  · exfalso
    rw [hd3] at z2
    exact absurd z2 (by decide)
  · have hd4 : ¬ (40 : Int) < (data.size : Int) := by omega
    have hd5 : decide ((40 : Int) < (data.size : Int)) = false := decide_eq_false hd4
    go_enter Try.func5, Try.ntmps5
    go_wp2_with fail
    refine (awake_any _).mono ?_
    rintro e w1 ⟨rfl, hb1⟩
    go_wp2_with fail
    refine (judge_any (ownK short) (some ⟨w1.heap.size + 1, 0, none⟩) 1 1 [(19, data)] _ (OptsAt.made_at (w1.alloc (.cells #[.int .i64 0, .int .i64 9, .int .i64 0, .bool short, .string ⟨#[]⟩, .int .i64 0] 23)) (w1.heap.size + 1) (by simp) _ #[.int .i64 19, .string data] _ 1 rfl rfl) (by omega) (by intro h; cases h) (Nat.le_refl _) HFIT.out).mono ?_
    rintro e w2 h2
    obtain ⟨A2, n2, cap2, rfl, hr2, hb2⟩ := judge_ok rfl h2
    clear h2
    have bel2 : Below w.heap.size w w2 := below_step ((hb1.alloc hb1.size _).alloc (by have := hb1.size; simp; omega) _) hb2 (by have := hb1.size; simp; omega)
    rw [HL.out] at hr2
    rw [HV.out]
    have hn2 : n2 = 1 := hr2.1.1.symm
    subst hn2
    obtain ⟨b2, o2, rfl, hlt2, hcc⟩ := hr2.1.2 (by decide)
    have s0 : w2.cell? ⟨b2, o2, none⟩ = some (.int .i64 19) := (hcc 0 (by simp)).1
    have s1 : w2.cell? ⟨b2, o2 + 1, none⟩ = some (.string data) := (hcc 0 (by simp)).2
    clear hcc hr2
    go_wp2_with (first | (go_at_call 11; refine (num_any _ _).mono ?_; rintro e w' ⟨rfl, rfl⟩))
    all_goals
      go_ret
      exact ⟨rfl, (by repeat' (first | (with_reducible exact bel2) | (with_reducible refine Below.setCell ?_ (Nat.le_refl _) _) | (with_reducible apply Below.setCell) | (with_reducible apply Below.alloc) | (with_reducible apply Below.drew) | (with_reducible apply below_drewN) | (exact Nat.le_refl _) | omega | (simp; done) | (simp; omega)))⟩
set_option maxRecDepth 100000 in
set_option maxHeartbeats 4000000 in
theorem kinds_k19lo (kind : Int) (data : ByteArray) (short : Bool) (d : ByteArray) (w : World) (hm : (IntKind.u64.wrap kind).tmod 30 = 19) (hd : (40 < data.size ∧ data.extract 0 40 = d ∧ d.size = 40) ∨ (data.size ≤ 40 ∧ data = d)) (hV : judV (ownK short) [(19, d)] = 2) (hL : judL (ownK short) [(19, d)] = [(19, d)]) (z1 : decide (1 ≤ (d.size : Int)) = false) (z2 : decide ((d.size : Int) ≤ 20) = true) : Calls Try.prog 5 #[.int .i64 kind, .string data, .bool short] w fun e w' => e = .returned (.bool true) ∧ Below w.heap.size w w' := by
  have HFIT := Lib.hid (fits_one (o := (19, d)) (by show (0 : Int) ≤ 19; decide) (by show (19 : Int) ≤ 255; decide) (by show d.size ≤ 253; rcases hd with h | h; omega; rw [← h.2]; omega))
  have HL := Lib.hid hL; have HV := Lib.hid hV; clear hL hV
  have hkw : IntKind.i64.wrap 19 = 19 := IntWalk.i64_in _ (by omega)
  rcases hd with ⟨hd1, hd2, hd3⟩ | ⟨hd1, rfl⟩
  · have hd4 : (40 : Int) < (data.size : Int) := by omega
    go_enter Try.func5, Try.ntmps5
    go_wp2_with fail
    refine (awake_any _).mono ?_
    rintro e w1 ⟨rfl, hb1⟩
    go_wp2_with fail
    refine (judge_any (ownK short) (some ⟨w1.heap.size + 1, 0, none⟩) 1 1 [(19, d)] _ (OptsAt.made_at (w1.alloc (.cells #[.int .i64 0, .int .i64 9, .int .i64 0, .bool short, .string ⟨#[]⟩, .int .i64 0] 23)) (w1.heap.size + 1) (by simp) _ #[.int .i64 19, .string d] _ 1 rfl rfl) (by omega) (by intro h; cases h) (Nat.le_refl _) HFIT.out).mono ?_
    rintro e w2 h2
    obtain ⟨A2, n2, cap2, rfl, hr2, hb2⟩ := judge_ok rfl h2
    clear h2
    have bel2 : Below w.heap.size w w2 := below_step ((hb1.alloc hb1.size _).alloc (by have := hb1.size; simp; omega) _) hb2 (by have := hb1.size; simp; omega)
    rw [HL.out] at hr2
    rw [HV.out]
    have hn2 : n2 = 1 := hr2.1.1.symm
    subst hn2
    obtain ⟨b2, o2, rfl, hlt2, hcc⟩ := hr2.1.2 (by decide)
    have s0 : w2.cell? ⟨b2, o2, none⟩ = some (.int .i64 19) := (hcc 0 (by simp)).1
    have s1 : w2.cell? ⟨b2, o2 + 1, none⟩ = some (.string d) := (hcc 0 (by simp)).2
    clear hcc hr2
    go_wp2_with (first | (go_at_call 11; refine (num_any _ _).mono ?_; rintro e w' ⟨rfl, rfl⟩))
    all_goals
      go_ret
      exact ⟨rfl, (by repeat' (first | (with_reducible exact bel2) | (with_reducible refine Below.setCell ?_ (Nat.le_refl _) _) | (with_reducible apply Below.setCell) | (with_reducible apply Below.alloc) | (with_reducible apply Below.drew) | (with_reducible apply below_drewN) | (exact Nat.le_refl _) | omega | (simp; done) | (simp; omega)))⟩
  · have hd4 : ¬ (40 : Int) < (data.size : Int) := by omega
    have hd5 : decide ((40 : Int) < (data.size : Int)) = false := decide_eq_false hd4
    go_enter Try.func5, Try.ntmps5
    go_wp2_with fail
    refine (awake_any _).mono ?_
    rintro e w1 ⟨rfl, hb1⟩
    go_wp2_with fail
    refine (judge_any (ownK short) (some ⟨w1.heap.size + 1, 0, none⟩) 1 1 [(19, data)] _ (OptsAt.made_at (w1.alloc (.cells #[.int .i64 0, .int .i64 9, .int .i64 0, .bool short, .string ⟨#[]⟩, .int .i64 0] 23)) (w1.heap.size + 1) (by simp) _ #[.int .i64 19, .string data] _ 1 rfl rfl) (by omega) (by intro h; cases h) (Nat.le_refl _) HFIT.out).mono ?_
    rintro e w2 h2
    obtain ⟨A2, n2, cap2, rfl, hr2, hb2⟩ := judge_ok rfl h2
    clear h2
    have bel2 : Below w.heap.size w w2 := below_step ((hb1.alloc hb1.size _).alloc (by have := hb1.size; simp; omega) _) hb2 (by have := hb1.size; simp; omega)
    rw [HL.out] at hr2
    rw [HV.out]
    have hn2 : n2 = 1 := hr2.1.1.symm
    subst hn2
    obtain ⟨b2, o2, rfl, hlt2, hcc⟩ := hr2.1.2 (by decide)
    have s0 : w2.cell? ⟨b2, o2, none⟩ = some (.int .i64 19) := (hcc 0 (by simp)).1
    have s1 : w2.cell? ⟨b2, o2 + 1, none⟩ = some (.string data) := (hcc 0 (by simp)).2
    clear hcc hr2
    go_wp2_with (first | (go_at_call 11; refine (num_any _ _).mono ?_; rintro e w' ⟨rfl, rfl⟩))
    all_goals
      go_ret
      exact ⟨rfl, (by repeat' (first | (with_reducible exact bel2) | (with_reducible refine Below.setCell ?_ (Nat.le_refl _) _) | (with_reducible apply Below.setCell) | (with_reducible apply Below.alloc) | (with_reducible apply Below.drew) | (with_reducible apply below_drewN) | (exact Nat.le_refl _) | omega | (simp; done) | (simp; omega)))⟩
set_option maxRecDepth 100000 in
set_option maxHeartbeats 4000000 in
theorem kinds_k19hi (kind : Int) (data : ByteArray) (short : Bool) (d : ByteArray) (w : World) (hm : (IntKind.u64.wrap kind).tmod 30 = 19) (hd : (40 < data.size ∧ data.extract 0 40 = d ∧ d.size = 40) ∨ (data.size ≤ 40 ∧ data = d)) (hV : judV (ownK short) [(19, d)] = 2) (hL : judL (ownK short) [(19, d)] = [(19, d)]) (z1 : decide (1 ≤ (d.size : Int)) = true) (z2 : decide ((d.size : Int) ≤ 20) = false) : Calls Try.prog 5 #[.int .i64 kind, .string data, .bool short] w fun e w' => e = .returned (.bool true) ∧ Below w.heap.size w w' := by
  have HFIT := Lib.hid (fits_one (o := (19, d)) (by show (0 : Int) ≤ 19; decide) (by show (19 : Int) ≤ 255; decide) (by show d.size ≤ 253; rcases hd with h | h; omega; rw [← h.2]; omega))
  have HL := Lib.hid hL; have HV := Lib.hid hV; clear hL hV
  have hkw : IntKind.i64.wrap 19 = 19 := IntWalk.i64_in _ (by omega)
  rcases hd with ⟨hd1, hd2, hd3⟩ | ⟨hd1, rfl⟩
  · have hd4 : (40 : Int) < (data.size : Int) := by omega
    go_enter Try.func5, Try.ntmps5
    go_wp2_with fail
    refine (awake_any _).mono ?_
    rintro e w1 ⟨rfl, hb1⟩
    go_wp2_with fail
    refine (judge_any (ownK short) (some ⟨w1.heap.size + 1, 0, none⟩) 1 1 [(19, d)] _ (OptsAt.made_at (w1.alloc (.cells #[.int .i64 0, .int .i64 9, .int .i64 0, .bool short, .string ⟨#[]⟩, .int .i64 0] 23)) (w1.heap.size + 1) (by simp) _ #[.int .i64 19, .string d] _ 1 rfl rfl) (by omega) (by intro h; cases h) (Nat.le_refl _) HFIT.out).mono ?_
    rintro e w2 h2
    obtain ⟨A2, n2, cap2, rfl, hr2, hb2⟩ := judge_ok rfl h2
    clear h2
    have bel2 : Below w.heap.size w w2 := below_step ((hb1.alloc hb1.size _).alloc (by have := hb1.size; simp; omega) _) hb2 (by have := hb1.size; simp; omega)
    rw [HL.out] at hr2
    rw [HV.out]
    have hn2 : n2 = 1 := hr2.1.1.symm
    subst hn2
    obtain ⟨b2, o2, rfl, hlt2, hcc⟩ := hr2.1.2 (by decide)
    have s0 : w2.cell? ⟨b2, o2, none⟩ = some (.int .i64 19) := (hcc 0 (by simp)).1
    have s1 : w2.cell? ⟨b2, o2 + 1, none⟩ = some (.string d) := (hcc 0 (by simp)).2
    clear hcc hr2
    go_wp2_with (first | (go_at_call 11; refine (num_any _ _).mono ?_; rintro e w' ⟨rfl, rfl⟩))
    all_goals
      go_ret
      exact ⟨rfl, (by repeat' (first | (with_reducible exact bel2) | (with_reducible refine Below.setCell ?_ (Nat.le_refl _) _) | (with_reducible apply Below.setCell) | (with_reducible apply Below.alloc) | (with_reducible apply Below.drew) | (with_reducible apply below_drewN) | (exact Nat.le_refl _) | omega | (simp; done) | (simp; omega)))⟩
  · have hd4 : ¬ (40 : Int) < (data.size : Int) := by omega
    have hd5 : decide ((40 : Int) < (data.size : Int)) = false := decide_eq_false hd4
    go_enter Try.func5, Try.ntmps5
    go_wp2_with fail
    refine (awake_any _).mono ?_
    rintro e w1 ⟨rfl, hb1⟩
    go_wp2_with fail
    refine (judge_any (ownK short) (some ⟨w1.heap.size + 1, 0, none⟩) 1 1 [(19, data)] _ (OptsAt.made_at (w1.alloc (.cells #[.int .i64 0, .int .i64 9, .int .i64 0, .bool short, .string ⟨#[]⟩, .int .i64 0] 23)) (w1.heap.size + 1) (by simp) _ #[.int .i64 19, .string data] _ 1 rfl rfl) (by omega) (by intro h; cases h) (Nat.le_refl _) HFIT.out).mono ?_
    rintro e w2 h2
    obtain ⟨A2, n2, cap2, rfl, hr2, hb2⟩ := judge_ok rfl h2
    clear h2
    have bel2 : Below w.heap.size w w2 := below_step ((hb1.alloc hb1.size _).alloc (by have := hb1.size; simp; omega) _) hb2 (by have := hb1.size; simp; omega)
    rw [HL.out] at hr2
    rw [HV.out]
    have hn2 : n2 = 1 := hr2.1.1.symm
    subst hn2
    obtain ⟨b2, o2, rfl, hlt2, hcc⟩ := hr2.1.2 (by decide)
    have s0 : w2.cell? ⟨b2, o2, none⟩ = some (.int .i64 19) := (hcc 0 (by simp)).1
    have s1 : w2.cell? ⟨b2, o2 + 1, none⟩ = some (.string data) := (hcc 0 (by simp)).2
    clear hcc hr2
    go_wp2_with (first | (go_at_call 11; refine (num_any _ _).mono ?_; rintro e w' ⟨rfl, rfl⟩))
    all_goals
      go_ret
      exact ⟨rfl, (by repeat' (first | (with_reducible exact bel2) | (with_reducible refine Below.setCell ?_ (Nat.le_refl _) _) | (with_reducible apply Below.setCell) | (with_reducible apply Below.alloc) | (with_reducible apply Below.drew) | (with_reducible apply below_drewN) | (exact Nat.le_refl _) | omega | (simp; done) | (simp; omega)))⟩
set_option maxRecDepth 100000 in
set_option maxHeartbeats 4000000 in
theorem kinds_k1no (kind : Int) (data : ByteArray) (short : Bool) (d : ByteArray) (w : World) (hm : (IntKind.u64.wrap kind).tmod 30 = 1) (hd : (40 < data.size ∧ data.extract 0 40 = d ∧ d.size = 40) ∨ (data.size ≤ 40 ∧ data = d)) (hV : judV (ownK short) [(1, d)] = 2) (hL : judL (ownK short) [(1, d)] = [(1, d)]) (z2 : ((d.size : Int) == 2) = false) (y2 : decide ((d.size : Int) = 2) = false) : Calls Try.prog 5 #[.int .i64 kind, .string data, .bool short] w fun e w' => e = .returned (.bool true) ∧ Below w.heap.size w w' := by
  have HFIT := Lib.hid (fits_one (o := (1, d)) (by show (0 : Int) ≤ 1; decide) (by show (1 : Int) ≤ 255; decide) (by show d.size ≤ 253; rcases hd with h | h; omega; rw [← h.2]; omega))
  have HL := Lib.hid hL; have HV := Lib.hid hV; clear hL hV
  have hkw : IntKind.i64.wrap 1 = 1 := IntWalk.i64_in _ (by omega)
  rcases hd with ⟨hd1, hd2, hd3⟩ | ⟨hd1, rfl⟩
  · have hd4 : (40 : Int) < (data.size : Int) := by omega
    go_enter Try.func5, Try.ntmps5
    go_wp2_with fail
    refine (awake_any _).mono ?_
    rintro e w1 ⟨rfl, hb1⟩
    go_wp2_with fail
    refine (judge_any (ownK short) (some ⟨w1.heap.size + 1, 0, none⟩) 1 1 [(1, d)] _ (OptsAt.made_at (w1.alloc (.cells #[.int .i64 0, .int .i64 9, .int .i64 0, .bool short, .string ⟨#[]⟩, .int .i64 0] 23)) (w1.heap.size + 1) (by simp) _ #[.int .i64 1, .string d] _ 1 rfl rfl) (by omega) (by intro h; cases h) (Nat.le_refl _) HFIT.out).mono ?_
    rintro e w2 h2
    obtain ⟨A2, n2, cap2, rfl, hr2, hb2⟩ := judge_ok rfl h2
    clear h2
    have bel2 : Below w.heap.size w w2 := below_step ((hb1.alloc hb1.size _).alloc (by have := hb1.size; simp; omega) _) hb2 (by have := hb1.size; simp; omega)
    rw [HL.out] at hr2
    rw [HV.out]
    have hn2 : n2 = 1 := hr2.1.1.symm
    subst hn2
    obtain ⟨b2, o2, rfl, hlt2, hcc⟩ := hr2.1.2 (by decide)
    have s0 : w2.cell? ⟨b2, o2, none⟩ = some (.int .i64 1) := (hcc 0 (by simp)).1
    have s1 : w2.cell? ⟨b2, o2 + 1, none⟩ = some (.string d) := (hcc 0 (by simp)).2
    clear hcc hr2
    go_wp2_with (first | (go_at_call 11; refine (num_any _ _).mono ?_; rintro e w' ⟨rfl, rfl⟩))
    all_goals
      go_ret
      exact ⟨rfl, (by repeat' (first | (with_reducible exact bel2) | (with_reducible refine Below.setCell ?_ (Nat.le_refl _) _) | (with_reducible apply Below.setCell) | (with_reducible apply Below.alloc) | (with_reducible apply Below.drew) | (with_reducible apply below_drewN) | (exact Nat.le_refl _) | omega | (simp; done) | (simp; omega)))⟩
  · have hd4 : ¬ (40 : Int) < (data.size : Int) := by omega
    have hd5 : decide ((40 : Int) < (data.size : Int)) = false := decide_eq_false hd4
    go_enter Try.func5, Try.ntmps5
    go_wp2_with fail
    refine (awake_any _).mono ?_
    rintro e w1 ⟨rfl, hb1⟩
    go_wp2_with fail
    refine (judge_any (ownK short) (some ⟨w1.heap.size + 1, 0, none⟩) 1 1 [(1, data)] _ (OptsAt.made_at (w1.alloc (.cells #[.int .i64 0, .int .i64 9, .int .i64 0, .bool short, .string ⟨#[]⟩, .int .i64 0] 23)) (w1.heap.size + 1) (by simp) _ #[.int .i64 1, .string data] _ 1 rfl rfl) (by omega) (by intro h; cases h) (Nat.le_refl _) HFIT.out).mono ?_
    rintro e w2 h2
    obtain ⟨A2, n2, cap2, rfl, hr2, hb2⟩ := judge_ok rfl h2
    clear h2
    have bel2 : Below w.heap.size w w2 := below_step ((hb1.alloc hb1.size _).alloc (by have := hb1.size; simp; omega) _) hb2 (by have := hb1.size; simp; omega)
    rw [HL.out] at hr2
    rw [HV.out]
    have hn2 : n2 = 1 := hr2.1.1.symm
    subst hn2
    obtain ⟨b2, o2, rfl, hlt2, hcc⟩ := hr2.1.2 (by decide)
    have s0 : w2.cell? ⟨b2, o2, none⟩ = some (.int .i64 1) := (hcc 0 (by simp)).1
    have s1 : w2.cell? ⟨b2, o2 + 1, none⟩ = some (.string data) := (hcc 0 (by simp)).2
    clear hcc hr2
    go_wp2_with (first | (go_at_call 11; refine (num_any _ _).mono ?_; rintro e w' ⟨rfl, rfl⟩))
    all_goals
      go_ret
      exact ⟨rfl, (by repeat' (first | (with_reducible exact bel2) | (with_reducible refine Below.setCell ?_ (Nat.le_refl _) _) | (with_reducible apply Below.setCell) | (with_reducible apply Below.alloc) | (with_reducible apply Below.drew) | (with_reducible apply below_drewN) | (exact Nat.le_refl _) | omega | (simp; done) | (simp; omega)))⟩
set_option maxRecDepth 100000 in
set_option maxHeartbeats 4000000 in
theorem kinds_k17no (kind : Int) (data : ByteArray) (short : Bool) (d : ByteArray) (w : World) (hm : (IntKind.u64.wrap kind).tmod 30 = 17) (hd : (40 < data.size ∧ data.extract 0 40 = d ∧ d.size = 40) ∨ (data.size ≤ 40 ∧ data = d)) (hV : judV (ownK short) [(17, d)] = 2) (hL : judL (ownK short) [(17, d)] = [(17, d)]) (z2 : ((d.size : Int) == 2) = false) (y2 : decide ((d.size : Int) = 2) = false) : Calls Try.prog 5 #[.int .i64 kind, .string data, .bool short] w fun e w' => e = .returned (.bool true) ∧ Below w.heap.size w w' := by
  have HFIT := Lib.hid (fits_one (o := (17, d)) (by show (0 : Int) ≤ 17; decide) (by show (17 : Int) ≤ 255; decide) (by show d.size ≤ 253; rcases hd with h | h; omega; rw [← h.2]; omega))
  have HL := Lib.hid hL; have HV := Lib.hid hV; clear hL hV
  have hkw : IntKind.i64.wrap 17 = 17 := IntWalk.i64_in _ (by omega)
  rcases hd with ⟨hd1, hd2, hd3⟩ | ⟨hd1, rfl⟩
  · have hd4 : (40 : Int) < (data.size : Int) := by omega
    go_enter Try.func5, Try.ntmps5
    go_wp2_with fail
    refine (awake_any _).mono ?_
    rintro e w1 ⟨rfl, hb1⟩
    go_wp2_with fail
    refine (judge_any (ownK short) (some ⟨w1.heap.size + 1, 0, none⟩) 1 1 [(17, d)] _ (OptsAt.made_at (w1.alloc (.cells #[.int .i64 0, .int .i64 9, .int .i64 0, .bool short, .string ⟨#[]⟩, .int .i64 0] 23)) (w1.heap.size + 1) (by simp) _ #[.int .i64 17, .string d] _ 1 rfl rfl) (by omega) (by intro h; cases h) (Nat.le_refl _) HFIT.out).mono ?_
    rintro e w2 h2
    obtain ⟨A2, n2, cap2, rfl, hr2, hb2⟩ := judge_ok rfl h2
    clear h2
    have bel2 : Below w.heap.size w w2 := below_step ((hb1.alloc hb1.size _).alloc (by have := hb1.size; simp; omega) _) hb2 (by have := hb1.size; simp; omega)
    rw [HL.out] at hr2
    rw [HV.out]
    have hn2 : n2 = 1 := hr2.1.1.symm
    subst hn2
    obtain ⟨b2, o2, rfl, hlt2, hcc⟩ := hr2.1.2 (by decide)
    have s0 : w2.cell? ⟨b2, o2, none⟩ = some (.int .i64 17) := (hcc 0 (by simp)).1
    have s1 : w2.cell? ⟨b2, o2 + 1, none⟩ = some (.string d) := (hcc 0 (by simp)).2
    clear hcc hr2
    go_wp2_with (first | (go_at_call 11; refine (num_any _ _).mono ?_; rintro e w' ⟨rfl, rfl⟩))
    all_goals
      go_ret
      exact ⟨rfl, (by repeat' (first | (with_reducible exact bel2) | (with_reducible refine Below.setCell ?_ (Nat.le_refl _) _) | (with_reducible apply Below.setCell) | (with_reducible apply Below.alloc) | (with_reducible apply Below.drew) | (with_reducible apply below_drewN) | (exact Nat.le_refl _) | omega | (simp; done) | (simp; omega)))⟩
  · have hd4 : ¬ (40 : Int) < (data.size : Int) := by omega
    have hd5 : decide ((40 : Int) < (data.size : Int)) = false := decide_eq_false hd4
    go_enter Try.func5, Try.ntmps5
    go_wp2_with fail
    refine (awake_any _).mono ?_
    rintro e w1 ⟨rfl, hb1⟩
    go_wp2_with fail
    refine (judge_any (ownK short) (some ⟨w1.heap.size + 1, 0, none⟩) 1 1 [(17, data)] _ (OptsAt.made_at (w1.alloc (.cells #[.int .i64 0, .int .i64 9, .int .i64 0, .bool short, .string ⟨#[]⟩, .int .i64 0] 23)) (w1.heap.size + 1) (by simp) _ #[.int .i64 17, .string data] _ 1 rfl rfl) (by omega) (by intro h; cases h) (Nat.le_refl _) HFIT.out).mono ?_
    rintro e w2 h2
    obtain ⟨A2, n2, cap2, rfl, hr2, hb2⟩ := judge_ok rfl h2
    clear h2
    have bel2 : Below w.heap.size w w2 := below_step ((hb1.alloc hb1.size _).alloc (by have := hb1.size; simp; omega) _) hb2 (by have := hb1.size; simp; omega)
    rw [HL.out] at hr2
    rw [HV.out]
    have hn2 : n2 = 1 := hr2.1.1.symm
    subst hn2
    obtain ⟨b2, o2, rfl, hlt2, hcc⟩ := hr2.1.2 (by decide)
    have s0 : w2.cell? ⟨b2, o2, none⟩ = some (.int .i64 17) := (hcc 0 (by simp)).1
    have s1 : w2.cell? ⟨b2, o2 + 1, none⟩ = some (.string data) := (hcc 0 (by simp)).2
    clear hcc hr2
    go_wp2_with (first | (go_at_call 11; refine (num_any _ _).mono ?_; rintro e w' ⟨rfl, rfl⟩))
    all_goals
      go_ret
      exact ⟨rfl, (by repeat' (first | (with_reducible exact bel2) | (with_reducible refine Below.setCell ?_ (Nat.le_refl _) _) | (with_reducible apply Below.setCell) | (with_reducible apply Below.alloc) | (with_reducible apply Below.drew) | (with_reducible apply below_drewN) | (exact Nat.le_refl _) | omega | (simp; done) | (simp; omega)))⟩
set_option maxRecDepth 100000 in
set_option maxHeartbeats 4000000 in
theorem kinds_k5no (kind : Int) (data : ByteArray) (short : Bool) (d : ByteArray) (w : World) (hm : (IntKind.u64.wrap kind).tmod 30 = 5) (hd : (40 < data.size ∧ data.extract 0 40 = d ∧ d.size = 40) ∨ (data.size ≤ 40 ∧ data = d)) (hV : judV (ownK short) [(5, d)] = 2) (hL : judL (ownK short) [(5, d)] = [(5, d)]) (z4 : ((d.size : Int) == 4) = false) (y4 : decide ((d.size : Int) = 4) = false) : Calls Try.prog 5 #[.int .i64 kind, .string data, .bool short] w fun e w' => e = .returned (.bool true) ∧ Below w.heap.size w w' := by
  have HFIT := Lib.hid (fits_one (o := (5, d)) (by show (0 : Int) ≤ 5; decide) (by show (5 : Int) ≤ 255; decide) (by show d.size ≤ 253; rcases hd with h | h; omega; rw [← h.2]; omega))
  have HL := Lib.hid hL; have HV := Lib.hid hV; clear hL hV
  have hkw : IntKind.i64.wrap 5 = 5 := IntWalk.i64_in _ (by omega)
  rcases hd with ⟨hd1, hd2, hd3⟩ | ⟨hd1, rfl⟩
  · have hd4 : (40 : Int) < (data.size : Int) := by omega
    go_enter Try.func5, Try.ntmps5
    go_wp2_with fail
    refine (awake_any _).mono ?_
    rintro e w1 ⟨rfl, hb1⟩
    go_wp2_with fail
    refine (judge_any (ownK short) (some ⟨w1.heap.size + 1, 0, none⟩) 1 1 [(5, d)] _ (OptsAt.made_at (w1.alloc (.cells #[.int .i64 0, .int .i64 9, .int .i64 0, .bool short, .string ⟨#[]⟩, .int .i64 0] 23)) (w1.heap.size + 1) (by simp) _ #[.int .i64 5, .string d] _ 1 rfl rfl) (by omega) (by intro h; cases h) (Nat.le_refl _) HFIT.out).mono ?_
    rintro e w2 h2
    obtain ⟨A2, n2, cap2, rfl, hr2, hb2⟩ := judge_ok rfl h2
    clear h2
    have bel2 : Below w.heap.size w w2 := below_step ((hb1.alloc hb1.size _).alloc (by have := hb1.size; simp; omega) _) hb2 (by have := hb1.size; simp; omega)
    rw [HL.out] at hr2
    rw [HV.out]
    have hn2 : n2 = 1 := hr2.1.1.symm
    subst hn2
    obtain ⟨b2, o2, rfl, hlt2, hcc⟩ := hr2.1.2 (by decide)
    have s0 : w2.cell? ⟨b2, o2, none⟩ = some (.int .i64 5) := (hcc 0 (by simp)).1
    have s1 : w2.cell? ⟨b2, o2 + 1, none⟩ = some (.string d) := (hcc 0 (by simp)).2
    clear hcc hr2
    go_wp2_with (first | (go_at_call 11; refine (num_any _ _).mono ?_; rintro e w' ⟨rfl, rfl⟩))
    all_goals
      go_ret
      exact ⟨rfl, (by repeat' (first | (with_reducible exact bel2) | (with_reducible refine Below.setCell ?_ (Nat.le_refl _) _) | (with_reducible apply Below.setCell) | (with_reducible apply Below.alloc) | (with_reducible apply Below.drew) | (with_reducible apply below_drewN) | (exact Nat.le_refl _) | omega | (simp; done) | (simp; omega)))⟩
  · have hd4 : ¬ (40 : Int) < (data.size : Int) := by omega
    have hd5 : decide ((40 : Int) < (data.size : Int)) = false := decide_eq_false hd4
    go_enter Try.func5, Try.ntmps5
    go_wp2_with fail
    refine (awake_any _).mono ?_
    rintro e w1 ⟨rfl, hb1⟩
    go_wp2_with fail
    refine (judge_any (ownK short) (some ⟨w1.heap.size + 1, 0, none⟩) 1 1 [(5, data)] _ (OptsAt.made_at (w1.alloc (.cells #[.int .i64 0, .int .i64 9, .int .i64 0, .bool short, .string ⟨#[]⟩, .int .i64 0] 23)) (w1.heap.size + 1) (by simp) _ #[.int .i64 5, .string data] _ 1 rfl rfl) (by omega) (by intro h; cases h) (Nat.le_refl _) HFIT.out).mono ?_
    rintro e w2 h2
    obtain ⟨A2, n2, cap2, rfl, hr2, hb2⟩ := judge_ok rfl h2
    clear h2
    have bel2 : Below w.heap.size w w2 := below_step ((hb1.alloc hb1.size _).alloc (by have := hb1.size; simp; omega) _) hb2 (by have := hb1.size; simp; omega)
    rw [HL.out] at hr2
    rw [HV.out]
    have hn2 : n2 = 1 := hr2.1.1.symm
    subst hn2
    obtain ⟨b2, o2, rfl, hlt2, hcc⟩ := hr2.1.2 (by decide)
    have s0 : w2.cell? ⟨b2, o2, none⟩ = some (.int .i64 5) := (hcc 0 (by simp)).1
    have s1 : w2.cell? ⟨b2, o2 + 1, none⟩ = some (.string data) := (hcc 0 (by simp)).2
    clear hcc hr2
    go_wp2_with (first | (go_at_call 11; refine (num_any _ _).mono ?_; rintro e w' ⟨rfl, rfl⟩))
    all_goals
      go_ret
      exact ⟨rfl, (by repeat' (first | (with_reducible exact bel2) | (with_reducible refine Below.setCell ?_ (Nat.le_refl _) _) | (with_reducible apply Below.setCell) | (with_reducible apply Below.alloc) | (with_reducible apply Below.drew) | (with_reducible apply below_drewN) | (exact Nat.le_refl _) | omega | (simp; done) | (simp; omega)))⟩
set_option maxRecDepth 100000 in
set_option maxHeartbeats 4000000 in
theorem kinds_k18ok (kind : Int) (data : ByteArray) (d : ByteArray) (w : World) (hm : (IntKind.u64.wrap kind).tmod 30 = 18) (hd : (40 < data.size ∧ data.extract 0 40 = d ∧ d.size = 40) ∨ (data.size ≤ 40 ∧ data = d)) (hV : judV (ownK true) [(18, d)] = 0) (hL : judL (ownK true) [(18, d)] = [(18, d)]) (z0 : ((d.size : Int) == 0) = true) (y0 : decide ((d.size : Int) = 0) = true) (q0 : (d.toList == []) = true) (q1 : d.toList.isEmpty = true) : Calls Try.prog 5 #[.int .i64 kind, .string data, .bool true] w fun e w' => e = .returned (.bool true) ∧ Below w.heap.size w w' := by
  have HFIT := Lib.hid (fits_one (o := (18, d)) (by show (0 : Int) ≤ 18; decide) (by show (18 : Int) ≤ 255; decide) (by show d.size ≤ 253; rcases hd with h | h; omega; rw [← h.2]; omega))
  have HL := Lib.hid hL; have HV := Lib.hid hV; clear hL hV
  have hkw : IntKind.i64.wrap 18 = 18 := IntWalk.i64_in _ (by omega)
  rcases hd with ⟨hd1, hd2, hd3⟩ | ⟨hd1, rfl⟩
  · exfalso
    rw [hd3] at z0
    exact absurd z0 (by decide)
  · have hd4 : ¬ (40 : Int) < (data.size : Int) := by omega
    have hd5 : decide ((40 : Int) < (data.size : Int)) = false := decide_eq_false hd4
    go_enter Try.func5, Try.ntmps5
    go_wp2_with fail
    refine (awake_any _).mono ?_
    rintro e w1 ⟨rfl, hb1⟩
    go_wp2_with fail
    refine (judge_any (ownK true) (some ⟨w1.heap.size + 1, 0, none⟩) 1 1 [(18, data)] _ (OptsAt.made_at (w1.alloc (.cells #[.int .i64 0, .int .i64 9, .int .i64 0, .bool true, .string ⟨#[]⟩, .int .i64 0] 23)) (w1.heap.size + 1) (by simp) _ #[.int .i64 18, .string data] _ 1 rfl rfl) (by omega) (by intro h; cases h) (Nat.le_refl _) HFIT.out).mono ?_
    rintro e w2 h2
    obtain ⟨A2, n2, cap2, rfl, hr2, hb2⟩ := judge_ok rfl h2
    clear h2
    have bel2 : Below w.heap.size w w2 := below_step ((hb1.alloc hb1.size _).alloc (by have := hb1.size; simp; omega) _) hb2 (by have := hb1.size; simp; omega)
    rw [HL.out] at hr2
    rw [HV.out]
    have hn2 : n2 = 1 := hr2.1.1.symm
    subst hn2
    obtain ⟨b2, o2, rfl, hlt2, hcc⟩ := hr2.1.2 (by decide)
    have s0 : w2.cell? ⟨b2, o2, none⟩ = some (.int .i64 18) := (hcc 0 (by simp)).1
    have s1 : w2.cell? ⟨b2, o2 + 1, none⟩ = some (.string data) := (hcc 0 (by simp)).2
    clear hcc hr2
    go_wp2_with (first | (go_at_call 11; refine (num_any _ _).mono ?_; rintro e w' ⟨rfl, rfl⟩))
    all_goals
      go_ret
      exact ⟨rfl, (by repeat' (first | (with_reducible exact bel2) | (with_reducible refine Below.setCell ?_ (Nat.le_refl _) _) | (with_reducible apply Below.setCell) | (with_reducible apply Below.alloc) | (with_reducible apply Below.drew) | (with_reducible apply below_drewN) | (exact Nat.le_refl _) | omega | (simp; done) | (simp; omega)))⟩
set_option maxRecDepth 100000 in
set_option maxHeartbeats 4000000 in
theorem kinds_k18no (kind : Int) (data : ByteArray) (short : Bool) (d : ByteArray) (w : World) (hm : (IntKind.u64.wrap kind).tmod 30 = 18) (hd : (40 < data.size ∧ data.extract 0 40 = d ∧ d.size = 40) ∨ (data.size ≤ 40 ∧ data = d)) (hV : judV (ownK short) [(18, d)] = 2) (hL : judL (ownK short) [(18, d)] = [(18, d)]) (z0 : ((d.size : Int) == 0) = false) (y0 : decide ((d.size : Int) = 0) = false) (q0 : (d.toList == []) = false) (q1 : d.toList.isEmpty = false) : Calls Try.prog 5 #[.int .i64 kind, .string data, .bool short] w fun e w' => e = .returned (.bool true) ∧ Below w.heap.size w w' := by
  have HFIT := Lib.hid (fits_one (o := (18, d)) (by show (0 : Int) ≤ 18; decide) (by show (18 : Int) ≤ 255; decide) (by show d.size ≤ 253; rcases hd with h | h; omega; rw [← h.2]; omega))
  have HL := Lib.hid hL; have HV := Lib.hid hV; clear hL hV
  have hkw : IntKind.i64.wrap 18 = 18 := IntWalk.i64_in _ (by omega)
  rcases hd with ⟨hd1, hd2, hd3⟩ | ⟨hd1, rfl⟩
  · have hd4 : (40 : Int) < (data.size : Int) := by omega
    go_enter Try.func5, Try.ntmps5
    go_wp2_with fail
    refine (awake_any _).mono ?_
    rintro e w1 ⟨rfl, hb1⟩
    go_wp2_with fail
    refine (judge_any (ownK short) (some ⟨w1.heap.size + 1, 0, none⟩) 1 1 [(18, d)] _ (OptsAt.made_at (w1.alloc (.cells #[.int .i64 0, .int .i64 9, .int .i64 0, .bool short, .string ⟨#[]⟩, .int .i64 0] 23)) (w1.heap.size + 1) (by simp) _ #[.int .i64 18, .string d] _ 1 rfl rfl) (by omega) (by intro h; cases h) (Nat.le_refl _) HFIT.out).mono ?_
    rintro e w2 h2
    obtain ⟨A2, n2, cap2, rfl, hr2, hb2⟩ := judge_ok rfl h2
    clear h2
    have bel2 : Below w.heap.size w w2 := below_step ((hb1.alloc hb1.size _).alloc (by have := hb1.size; simp; omega) _) hb2 (by have := hb1.size; simp; omega)
    rw [HL.out] at hr2
    rw [HV.out]
    have hn2 : n2 = 1 := hr2.1.1.symm
    subst hn2
    obtain ⟨b2, o2, rfl, hlt2, hcc⟩ := hr2.1.2 (by decide)
    have s0 : w2.cell? ⟨b2, o2, none⟩ = some (.int .i64 18) := (hcc 0 (by simp)).1
    have s1 : w2.cell? ⟨b2, o2 + 1, none⟩ = some (.string d) := (hcc 0 (by simp)).2
    clear hcc hr2
    go_wp2_with (first | (go_at_call 11; refine (num_any _ _).mono ?_; rintro e w' ⟨rfl, rfl⟩))
    all_goals
      go_ret
      exact ⟨rfl, (by repeat' (first | (with_reducible exact bel2) | (with_reducible refine Below.setCell ?_ (Nat.le_refl _) _) | (with_reducible apply Below.setCell) | (with_reducible apply Below.alloc) | (with_reducible apply Below.drew) | (with_reducible apply below_drewN) | (exact Nat.le_refl _) | omega | (simp; done) | (simp; omega)))⟩
  · have hd4 : ¬ (40 : Int) < (data.size : Int) := by omega
    have hd5 : decide ((40 : Int) < (data.size : Int)) = false := decide_eq_false hd4
    go_enter Try.func5, Try.ntmps5
    go_wp2_with fail
    refine (awake_any _).mono ?_
    rintro e w1 ⟨rfl, hb1⟩
    go_wp2_with fail
    refine (judge_any (ownK short) (some ⟨w1.heap.size + 1, 0, none⟩) 1 1 [(18, data)] _ (OptsAt.made_at (w1.alloc (.cells #[.int .i64 0, .int .i64 9, .int .i64 0, .bool short, .string ⟨#[]⟩, .int .i64 0] 23)) (w1.heap.size + 1) (by simp) _ #[.int .i64 18, .string data] _ 1 rfl rfl) (by omega) (by intro h; cases h) (Nat.le_refl _) HFIT.out).mono ?_
    rintro e w2 h2
    obtain ⟨A2, n2, cap2, rfl, hr2, hb2⟩ := judge_ok rfl h2
    clear h2
    have bel2 : Below w.heap.size w w2 := below_step ((hb1.alloc hb1.size _).alloc (by have := hb1.size; simp; omega) _) hb2 (by have := hb1.size; simp; omega)
    rw [HL.out] at hr2
    rw [HV.out]
    have hn2 : n2 = 1 := hr2.1.1.symm
    subst hn2
    obtain ⟨b2, o2, rfl, hlt2, hcc⟩ := hr2.1.2 (by decide)
    have s0 : w2.cell? ⟨b2, o2, none⟩ = some (.int .i64 18) := (hcc 0 (by simp)).1
    have s1 : w2.cell? ⟨b2, o2 + 1, none⟩ = some (.string data) := (hcc 0 (by simp)).2
    clear hcc hr2
    go_wp2_with (first | (go_at_call 11; refine (num_any _ _).mono ?_; rintro e w' ⟨rfl, rfl⟩))
    all_goals
      go_ret
      exact ⟨rfl, (by repeat' (first | (with_reducible exact bel2) | (with_reducible refine Below.setCell ?_ (Nat.le_refl _) _) | (with_reducible apply Below.setCell) | (with_reducible apply Below.alloc) | (with_reducible apply Below.drew) | (with_reducible apply below_drewN) | (exact Nat.le_refl _) | omega | (simp; done) | (simp; omega)))⟩
set_option maxRecDepth 100000 in
set_option maxHeartbeats 4000000 in
theorem kinds_k18sh (kind : Int) (data : ByteArray) (d : ByteArray) (w : World) (hm : (IntKind.u64.wrap kind).tmod 30 = 18) (hd : (40 < data.size ∧ data.extract 0 40 = d ∧ d.size = 40) ∨ (data.size ≤ 40 ∧ data = d)) (hV : judV (ownK false) [(18, d)] = 2) (hL : judL (ownK false) [(18, d)] = [(18, d)]) : Calls Try.prog 5 #[.int .i64 kind, .string data, .bool false] w fun e w' => e = .returned (.bool true) ∧ Below w.heap.size w w' := by
  have HFIT := Lib.hid (fits_one (o := (18, d)) (by show (0 : Int) ≤ 18; decide) (by show (18 : Int) ≤ 255; decide) (by show d.size ≤ 253; rcases hd with h | h; omega; rw [← h.2]; omega))
  have HL := Lib.hid hL; have HV := Lib.hid hV; clear hL hV
  have hkw : IntKind.i64.wrap 18 = 18 := IntWalk.i64_in _ (by omega)
  rcases hd with ⟨hd1, hd2, hd3⟩ | ⟨hd1, rfl⟩
  · have hd4 : (40 : Int) < (data.size : Int) := by omega
    go_enter Try.func5, Try.ntmps5
    go_wp2_with fail
    refine (awake_any _).mono ?_
    rintro e w1 ⟨rfl, hb1⟩
    go_wp2_with fail
    refine (judge_any (ownK false) (some ⟨w1.heap.size + 1, 0, none⟩) 1 1 [(18, d)] _ (OptsAt.made_at (w1.alloc (.cells #[.int .i64 0, .int .i64 9, .int .i64 0, .bool false, .string ⟨#[]⟩, .int .i64 0] 23)) (w1.heap.size + 1) (by simp) _ #[.int .i64 18, .string d] _ 1 rfl rfl) (by omega) (by intro h; cases h) (Nat.le_refl _) HFIT.out).mono ?_
    rintro e w2 h2
    obtain ⟨A2, n2, cap2, rfl, hr2, hb2⟩ := judge_ok rfl h2
    clear h2
    have bel2 : Below w.heap.size w w2 := below_step ((hb1.alloc hb1.size _).alloc (by have := hb1.size; simp; omega) _) hb2 (by have := hb1.size; simp; omega)
    rw [HL.out] at hr2
    rw [HV.out]
    have hn2 : n2 = 1 := hr2.1.1.symm
    subst hn2
    obtain ⟨b2, o2, rfl, hlt2, hcc⟩ := hr2.1.2 (by decide)
    have s0 : w2.cell? ⟨b2, o2, none⟩ = some (.int .i64 18) := (hcc 0 (by simp)).1
    have s1 : w2.cell? ⟨b2, o2 + 1, none⟩ = some (.string d) := (hcc 0 (by simp)).2
    clear hcc hr2
    go_wp2_with (first | (go_at_call 11; refine (num_any _ _).mono ?_; rintro e w' ⟨rfl, rfl⟩))
    all_goals
      go_ret
      exact ⟨rfl, (by repeat' (first | (with_reducible exact bel2) | (with_reducible refine Below.setCell ?_ (Nat.le_refl _) _) | (with_reducible apply Below.setCell) | (with_reducible apply Below.alloc) | (with_reducible apply Below.drew) | (with_reducible apply below_drewN) | (exact Nat.le_refl _) | omega | (simp; done) | (simp; omega)))⟩
  · have hd4 : ¬ (40 : Int) < (data.size : Int) := by omega
    have hd5 : decide ((40 : Int) < (data.size : Int)) = false := decide_eq_false hd4
    go_enter Try.func5, Try.ntmps5
    go_wp2_with fail
    refine (awake_any _).mono ?_
    rintro e w1 ⟨rfl, hb1⟩
    go_wp2_with fail
    refine (judge_any (ownK false) (some ⟨w1.heap.size + 1, 0, none⟩) 1 1 [(18, data)] _ (OptsAt.made_at (w1.alloc (.cells #[.int .i64 0, .int .i64 9, .int .i64 0, .bool false, .string ⟨#[]⟩, .int .i64 0] 23)) (w1.heap.size + 1) (by simp) _ #[.int .i64 18, .string data] _ 1 rfl rfl) (by omega) (by intro h; cases h) (Nat.le_refl _) HFIT.out).mono ?_
    rintro e w2 h2
    obtain ⟨A2, n2, cap2, rfl, hr2, hb2⟩ := judge_ok rfl h2
    clear h2
    have bel2 : Below w.heap.size w w2 := below_step ((hb1.alloc hb1.size _).alloc (by have := hb1.size; simp; omega) _) hb2 (by have := hb1.size; simp; omega)
    rw [HL.out] at hr2
    rw [HV.out]
    have hn2 : n2 = 1 := hr2.1.1.symm
    subst hn2
    obtain ⟨b2, o2, rfl, hlt2, hcc⟩ := hr2.1.2 (by decide)
    have s0 : w2.cell? ⟨b2, o2, none⟩ = some (.int .i64 18) := (hcc 0 (by simp)).1
    have s1 : w2.cell? ⟨b2, o2 + 1, none⟩ = some (.string data) := (hcc 0 (by simp)).2
    clear hcc hr2
    go_wp2_with (first | (go_at_call 11; refine (num_any _ _).mono ?_; rintro e w' ⟨rfl, rfl⟩))
    all_goals
      go_ret
      exact ⟨rfl, (by repeat' (first | (with_reducible exact bel2) | (with_reducible refine Below.setCell ?_ (Nat.le_refl _) _) | (with_reducible apply Below.setCell) | (with_reducible apply Below.alloc) | (with_reducible apply Below.drew) | (with_reducible apply below_drewN) | (exact Nat.le_refl _) | omega | (simp; done) | (simp; omega)))⟩
set_option maxRecDepth 100000 in
set_option maxHeartbeats 4000000 in
theorem kinds_k1ok (kind : Int) (data : ByteArray) (short : Bool) (d : ByteArray) (w : World) (hm : (IntKind.u64.wrap kind).tmod 30 = 1) (hd : (40 < data.size ∧ data.extract 0 40 = d ∧ d.size = 40) ∨ (data.size ≤ 40 ∧ data = d)) (hV : judV (ownK short) [(1, d)] = 0) (hL : judL (ownK short) [(1, d)] = [(1, d)]) (z2 : ((d.size : Int) == 2) = true) (y2 : decide ((d.size : Int) = 2) = true) (x : Int) (hx : wrap64 (wrap64 (wrap64 (byt d 0) * 256) + wrap64 (byt d 1)) = x) (p1 p2 : Bool) (u1 : decide (128 ≤ x) = p1) (u2 : decide (x ≤ 1500) = p2) (hp : (p1 && p2) = true) : Calls Try.prog 5 #[.int .i64 kind, .string data, .bool short] w fun e w' => e = .returned (.bool true) ∧ Below w.heap.size w w' := by
  have HFIT := Lib.hid (fits_one (o := (1, d)) (by show (0 : Int) ≤ 1; decide) (by show (1 : Int) ≤ 255; decide) (by show d.size ≤ 253; rcases hd with h | h; omega; rw [← h.2]; omega))
  have HL := Lib.hid hL; have HV := Lib.hid hV; clear hL hV
  have hkw : IntKind.i64.wrap 1 = 1 := IntWalk.i64_in _ (by omega)
  rcases hd with ⟨hd1, hd2, hd3⟩ | ⟨hd1, rfl⟩
  · exfalso
    rw [hd3] at z2
    exact absurd z2 (by decide)
  · have hd4 : ¬ (40 : Int) < (data.size : Int) := by omega
    have hd5 : decide ((40 : Int) < (data.size : Int)) = false := decide_eq_false hd4
    go_enter Try.func5, Try.ntmps5
    go_wp2_with fail
    refine (awake_any _).mono ?_
    rintro e w1 ⟨rfl, hb1⟩
    go_wp2_with fail
    refine (judge_any (ownK short) (some ⟨w1.heap.size + 1, 0, none⟩) 1 1 [(1, data)] _ (OptsAt.made_at (w1.alloc (.cells #[.int .i64 0, .int .i64 9, .int .i64 0, .bool short, .string ⟨#[]⟩, .int .i64 0] 23)) (w1.heap.size + 1) (by simp) _ #[.int .i64 1, .string data] _ 1 rfl rfl) (by omega) (by intro h; cases h) (Nat.le_refl _) HFIT.out).mono ?_
    rintro e w2 h2
    obtain ⟨A2, n2, cap2, rfl, hr2, hb2⟩ := judge_ok rfl h2
    clear h2
    have bel2 : Below w.heap.size w w2 := below_step ((hb1.alloc hb1.size _).alloc (by have := hb1.size; simp; omega) _) hb2 (by have := hb1.size; simp; omega)
    rw [HL.out] at hr2
    rw [HV.out]
    have hn2 : n2 = 1 := hr2.1.1.symm
    subst hn2
    obtain ⟨b2, o2, rfl, hlt2, hcc⟩ := hr2.1.2 (by decide)
    have s0 : w2.cell? ⟨b2, o2, none⟩ = some (.int .i64 1) := (hcc 0 (by simp)).1
    have s1 : w2.cell? ⟨b2, o2 + 1, none⟩ = some (.string data) := (hcc 0 (by simp)).2
    clear hcc hr2
    have dds : data.size = 2 := by have := of_decide_eq_true y2; omega
    have dd0 : (0 : Int) < (data.size : Int) := by omega
    have dd1 : (1 : Int) < (data.size : Int) := by omega
    cases p1 <;> cases p2
    all_goals first | (exfalso; exact absurd hp (by decide)) | skip
    all_goals
      go_wp2_with (first | (go_at_call 11; refine (num_any _ _).mono ?_; rintro e w' ⟨rfl, rfl⟩))
      go_quiet (fail)
      go_wp2_with (first | (go_at_call 11; refine (num_any _ _).mono ?_; rintro e w' ⟨rfl, rfl⟩))
    all_goals
      go_ret
      exact ⟨rfl, (by repeat' (first | (with_reducible exact bel2) | (with_reducible refine Below.setCell ?_ (Nat.le_refl _) _) | (with_reducible apply Below.setCell) | (with_reducible apply Below.alloc) | (with_reducible apply Below.drew) | (with_reducible apply below_drewN) | (exact Nat.le_refl _) | omega | (simp; done) | (simp; omega)))⟩
set_option maxRecDepth 100000 in
set_option maxHeartbeats 4000000 in
theorem kinds_k1nak (kind : Int) (data : ByteArray) (short : Bool) (d : ByteArray) (w : World) (hm : (IntKind.u64.wrap kind).tmod 30 = 1) (hd : (40 < data.size ∧ data.extract 0 40 = d ∧ d.size = 40) ∨ (data.size ≤ 40 ∧ data = d)) (d' : ByteArray) (hV : judV (ownK short) [(1, d)] = 1) (hL : judL (ownK short) [(1, d)] = [(1, d')]) (z2 : ((d.size : Int) == 2) = true) (y2 : decide ((d.size : Int) = 2) = true) (x : Int) (hx : wrap64 (wrap64 (wrap64 (byt d 0) * 256) + wrap64 (byt d 1)) = x) (p1 p2 : Bool) (u1 : decide (128 ≤ x) = p1) (u2 : decide (x ≤ 1500) = p2) (hp : (p1 && p2) = false) : Calls Try.prog 5 #[.int .i64 kind, .string data, .bool short] w fun e w' => e = .returned (.bool true) ∧ Below w.heap.size w w' := by
  have HFIT := Lib.hid (fits_one (o := (1, d)) (by show (0 : Int) ≤ 1; decide) (by show (1 : Int) ≤ 255; decide) (by show d.size ≤ 253; rcases hd with h | h; omega; rw [← h.2]; omega))
  have HL := Lib.hid hL; have HV := Lib.hid hV; clear hL hV
  have hkw : IntKind.i64.wrap 1 = 1 := IntWalk.i64_in _ (by omega)
  rcases hd with ⟨hd1, hd2, hd3⟩ | ⟨hd1, rfl⟩
  · exfalso
    rw [hd3] at z2
    exact absurd z2 (by decide)
  · have hd4 : ¬ (40 : Int) < (data.size : Int) := by omega
    have hd5 : decide ((40 : Int) < (data.size : Int)) = false := decide_eq_false hd4
    go_enter Try.func5, Try.ntmps5
    go_wp2_with fail
    refine (awake_any _).mono ?_
    rintro e w1 ⟨rfl, hb1⟩
    go_wp2_with fail
    refine (judge_any (ownK short) (some ⟨w1.heap.size + 1, 0, none⟩) 1 1 [(1, data)] _ (OptsAt.made_at (w1.alloc (.cells #[.int .i64 0, .int .i64 9, .int .i64 0, .bool short, .string ⟨#[]⟩, .int .i64 0] 23)) (w1.heap.size + 1) (by simp) _ #[.int .i64 1, .string data] _ 1 rfl rfl) (by omega) (by intro h; cases h) (Nat.le_refl _) HFIT.out).mono ?_
    rintro e w2 h2
    obtain ⟨A2, n2, cap2, rfl, hr2, hb2⟩ := judge_ok rfl h2
    clear h2
    have bel2 : Below w.heap.size w w2 := below_step ((hb1.alloc hb1.size _).alloc (by have := hb1.size; simp; omega) _) hb2 (by have := hb1.size; simp; omega)
    rw [HL.out] at hr2
    rw [HV.out]
    have hn2 : n2 = 1 := hr2.1.1.symm
    subst hn2
    obtain ⟨b2, o2, rfl, hlt2, hcc⟩ := hr2.1.2 (by decide)
    have s0 : w2.cell? ⟨b2, o2, none⟩ = some (.int .i64 1) := (hcc 0 (by simp)).1
    have s1 : w2.cell? ⟨b2, o2 + 1, none⟩ = some (.string d') := (hcc 0 (by simp)).2
    clear hcc hr2
    have dds : data.size = 2 := by have := of_decide_eq_true y2; omega
    have dd0 : (0 : Int) < (data.size : Int) := by omega
    have dd1 : (1 : Int) < (data.size : Int) := by omega
    cases p1 <;> cases p2
    all_goals first | (exfalso; exact absurd hp (by decide)) | skip
    all_goals
      go_wp2_with (first | (go_at_call 11; refine (num_any _ _).mono ?_; rintro e w' ⟨rfl, rfl⟩))
      go_quiet (fail)
      go_wp2_with (first | (go_at_call 11; refine (num_any _ _).mono ?_; rintro e w' ⟨rfl, rfl⟩))
    all_goals
      go_ret
      exact ⟨rfl, (by repeat' (first | (with_reducible exact bel2) | (with_reducible refine Below.setCell ?_ (Nat.le_refl _) _) | (with_reducible apply Below.setCell) | (with_reducible apply Below.alloc) | (with_reducible apply Below.drew) | (with_reducible apply below_drewN) | (exact Nat.le_refl _) | omega | (simp; done) | (simp; omega)))⟩
set_option maxRecDepth 100000 in
set_option maxHeartbeats 4000000 in
theorem kinds_k17ok (kind : Int) (data : ByteArray) (short : Bool) (d : ByteArray) (w : World) (hm : (IntKind.u64.wrap kind).tmod 30 = 17) (hd : (40 < data.size ∧ data.extract 0 40 = d ∧ d.size = 40) ∨ (data.size ≤ 40 ∧ data = d)) (hV : judV (ownK short) [(17, d)] = 0) (hL : judL (ownK short) [(17, d)] = [(17, d)]) (z2 : ((d.size : Int) == 2) = true) (y2 : decide ((d.size : Int) = 2) = true) (x : Int) (hx : wrap64 (wrap64 (wrap64 (byt d 0) * 256) + wrap64 (byt d 1)) = x) (p1 p2 : Bool) (u1 : decide (128 ≤ x) = p1) (u2 : decide (x ≤ 1500) = p2) (hp : (p1 && p2) = true) : Calls Try.prog 5 #[.int .i64 kind, .string data, .bool short] w fun e w' => e = .returned (.bool true) ∧ Below w.heap.size w w' := by
  have HFIT := Lib.hid (fits_one (o := (17, d)) (by show (0 : Int) ≤ 17; decide) (by show (17 : Int) ≤ 255; decide) (by show d.size ≤ 253; rcases hd with h | h; omega; rw [← h.2]; omega))
  have HL := Lib.hid hL; have HV := Lib.hid hV; clear hL hV
  have hkw : IntKind.i64.wrap 17 = 17 := IntWalk.i64_in _ (by omega)
  rcases hd with ⟨hd1, hd2, hd3⟩ | ⟨hd1, rfl⟩
  · exfalso
    rw [hd3] at z2
    exact absurd z2 (by decide)
  · have hd4 : ¬ (40 : Int) < (data.size : Int) := by omega
    have hd5 : decide ((40 : Int) < (data.size : Int)) = false := decide_eq_false hd4
    go_enter Try.func5, Try.ntmps5
    go_wp2_with fail
    refine (awake_any _).mono ?_
    rintro e w1 ⟨rfl, hb1⟩
    go_wp2_with fail
    refine (judge_any (ownK short) (some ⟨w1.heap.size + 1, 0, none⟩) 1 1 [(17, data)] _ (OptsAt.made_at (w1.alloc (.cells #[.int .i64 0, .int .i64 9, .int .i64 0, .bool short, .string ⟨#[]⟩, .int .i64 0] 23)) (w1.heap.size + 1) (by simp) _ #[.int .i64 17, .string data] _ 1 rfl rfl) (by omega) (by intro h; cases h) (Nat.le_refl _) HFIT.out).mono ?_
    rintro e w2 h2
    obtain ⟨A2, n2, cap2, rfl, hr2, hb2⟩ := judge_ok rfl h2
    clear h2
    have bel2 : Below w.heap.size w w2 := below_step ((hb1.alloc hb1.size _).alloc (by have := hb1.size; simp; omega) _) hb2 (by have := hb1.size; simp; omega)
    rw [HL.out] at hr2
    rw [HV.out]
    have hn2 : n2 = 1 := hr2.1.1.symm
    subst hn2
    obtain ⟨b2, o2, rfl, hlt2, hcc⟩ := hr2.1.2 (by decide)
    have s0 : w2.cell? ⟨b2, o2, none⟩ = some (.int .i64 17) := (hcc 0 (by simp)).1
    have s1 : w2.cell? ⟨b2, o2 + 1, none⟩ = some (.string data) := (hcc 0 (by simp)).2
    clear hcc hr2
    have dds : data.size = 2 := by have := of_decide_eq_true y2; omega
    have dd0 : (0 : Int) < (data.size : Int) := by omega
    have dd1 : (1 : Int) < (data.size : Int) := by omega
    cases p1 <;> cases p2
    all_goals first | (exfalso; exact absurd hp (by decide)) | skip
    all_goals
      go_wp2_with (first | (go_at_call 11; refine (num_any _ _).mono ?_; rintro e w' ⟨rfl, rfl⟩))
      go_quiet (fail)
      go_wp2_with (first | (go_at_call 11; refine (num_any _ _).mono ?_; rintro e w' ⟨rfl, rfl⟩))
    all_goals
      go_ret
      exact ⟨rfl, (by repeat' (first | (with_reducible exact bel2) | (with_reducible refine Below.setCell ?_ (Nat.le_refl _) _) | (with_reducible apply Below.setCell) | (with_reducible apply Below.alloc) | (with_reducible apply Below.drew) | (with_reducible apply below_drewN) | (exact Nat.le_refl _) | omega | (simp; done) | (simp; omega)))⟩
set_option maxRecDepth 100000 in
set_option maxHeartbeats 4000000 in
theorem kinds_k17nak (kind : Int) (data : ByteArray) (short : Bool) (d : ByteArray) (w : World) (hm : (IntKind.u64.wrap kind).tmod 30 = 17) (hd : (40 < data.size ∧ data.extract 0 40 = d ∧ d.size = 40) ∨ (data.size ≤ 40 ∧ data = d)) (d' : ByteArray) (hV : judV (ownK short) [(17, d)] = 1) (hL : judL (ownK short) [(17, d)] = [(17, d')]) (z2 : ((d.size : Int) == 2) = true) (y2 : decide ((d.size : Int) = 2) = true) (x : Int) (hx : wrap64 (wrap64 (wrap64 (byt d 0) * 256) + wrap64 (byt d 1)) = x) (p1 p2 : Bool) (u1 : decide (128 ≤ x) = p1) (u2 : decide (x ≤ 1500) = p2) (hp : (p1 && p2) = false) : Calls Try.prog 5 #[.int .i64 kind, .string data, .bool short] w fun e w' => e = .returned (.bool true) ∧ Below w.heap.size w w' := by
  have HFIT := Lib.hid (fits_one (o := (17, d)) (by show (0 : Int) ≤ 17; decide) (by show (17 : Int) ≤ 255; decide) (by show d.size ≤ 253; rcases hd with h | h; omega; rw [← h.2]; omega))
  have HL := Lib.hid hL; have HV := Lib.hid hV; clear hL hV
  have hkw : IntKind.i64.wrap 17 = 17 := IntWalk.i64_in _ (by omega)
  rcases hd with ⟨hd1, hd2, hd3⟩ | ⟨hd1, rfl⟩
  · exfalso
    rw [hd3] at z2
    exact absurd z2 (by decide)
  · have hd4 : ¬ (40 : Int) < (data.size : Int) := by omega
    have hd5 : decide ((40 : Int) < (data.size : Int)) = false := decide_eq_false hd4
    go_enter Try.func5, Try.ntmps5
    go_wp2_with fail
    refine (awake_any _).mono ?_
    rintro e w1 ⟨rfl, hb1⟩
    go_wp2_with fail
    refine (judge_any (ownK short) (some ⟨w1.heap.size + 1, 0, none⟩) 1 1 [(17, data)] _ (OptsAt.made_at (w1.alloc (.cells #[.int .i64 0, .int .i64 9, .int .i64 0, .bool short, .string ⟨#[]⟩, .int .i64 0] 23)) (w1.heap.size + 1) (by simp) _ #[.int .i64 17, .string data] _ 1 rfl rfl) (by omega) (by intro h; cases h) (Nat.le_refl _) HFIT.out).mono ?_
    rintro e w2 h2
    obtain ⟨A2, n2, cap2, rfl, hr2, hb2⟩ := judge_ok rfl h2
    clear h2
    have bel2 : Below w.heap.size w w2 := below_step ((hb1.alloc hb1.size _).alloc (by have := hb1.size; simp; omega) _) hb2 (by have := hb1.size; simp; omega)
    rw [HL.out] at hr2
    rw [HV.out]
    have hn2 : n2 = 1 := hr2.1.1.symm
    subst hn2
    obtain ⟨b2, o2, rfl, hlt2, hcc⟩ := hr2.1.2 (by decide)
    have s0 : w2.cell? ⟨b2, o2, none⟩ = some (.int .i64 17) := (hcc 0 (by simp)).1
    have s1 : w2.cell? ⟨b2, o2 + 1, none⟩ = some (.string d') := (hcc 0 (by simp)).2
    clear hcc hr2
    have dds : data.size = 2 := by have := of_decide_eq_true y2; omega
    have dd0 : (0 : Int) < (data.size : Int) := by omega
    have dd1 : (1 : Int) < (data.size : Int) := by omega
    cases p1 <;> cases p2
    all_goals first | (exfalso; exact absurd hp (by decide)) | skip
    all_goals
      go_wp2_with (first | (go_at_call 11; refine (num_any _ _).mono ?_; rintro e w' ⟨rfl, rfl⟩))
      go_quiet (fail)
      go_wp2_with (first | (go_at_call 11; refine (num_any _ _).mono ?_; rintro e w' ⟨rfl, rfl⟩))
    all_goals
      go_ret
      exact ⟨rfl, (by repeat' (first | (with_reducible exact bel2) | (with_reducible refine Below.setCell ?_ (Nat.le_refl _) _) | (with_reducible apply Below.setCell) | (with_reducible apply Below.alloc) | (with_reducible apply Below.drew) | (with_reducible apply below_drewN) | (exact Nat.le_refl _) | omega | (simp; done) | (simp; omega)))⟩
set_option maxRecDepth 100000 in
set_option maxHeartbeats 4000000 in
theorem kinds_k5ok (kind : Int) (data : ByteArray) (short : Bool) (d : ByteArray) (w : World) (hm : (IntKind.u64.wrap kind).tmod 30 = 5) (hd : (40 < data.size ∧ data.extract 0 40 = d ∧ d.size = 40) ∨ (data.size ≤ 40 ∧ data = d)) (hV : judV (ownK short) [(5, d)] = 0) (hL : judL (ownK short) [(5, d)] = [(5, d)]) (z4 : ((d.size : Int) == 4) = true) (y4 : decide ((d.size : Int) = 4) = true) (q0 : (d.toList == [0, 0, 0, 0]) = false) (q9 : (d.toList == [0, 0, 0, 9]) = false) : Calls Try.prog 5 #[.int .i64 kind, .string data, .bool short] w fun e w' => e = .returned (.bool true) ∧ Below w.heap.size w w' := by
  have HFIT := Lib.hid (fits_one (o := (5, d)) (by show (0 : Int) ≤ 5; decide) (by show (5 : Int) ≤ 255; decide) (by show d.size ≤ 253; rcases hd with h | h; omega; rw [← h.2]; omega))
  have HL := Lib.hid hL; have HV := Lib.hid hV; clear hL hV
  have hkw : IntKind.i64.wrap 5 = 5 := IntWalk.i64_in _ (by omega)
  rcases hd with ⟨hd1, hd2, hd3⟩ | ⟨hd1, rfl⟩
  · exfalso
    rw [hd3] at z4
    exact absurd z4 (by decide)
  · have hd4 : ¬ (40 : Int) < (data.size : Int) := by omega
    have hd5 : decide ((40 : Int) < (data.size : Int)) = false := decide_eq_false hd4
    go_enter Try.func5, Try.ntmps5
    go_wp2_with fail
    refine (awake_any _).mono ?_
    rintro e w1 ⟨rfl, hb1⟩
    go_wp2_with fail
    refine (judge_any (ownK short) (some ⟨w1.heap.size + 1, 0, none⟩) 1 1 [(5, data)] _ (OptsAt.made_at (w1.alloc (.cells #[.int .i64 0, .int .i64 9, .int .i64 0, .bool short, .string ⟨#[]⟩, .int .i64 0] 23)) (w1.heap.size + 1) (by simp) _ #[.int .i64 5, .string data] _ 1 rfl rfl) (by omega) (by intro h; cases h) (Nat.le_refl _) HFIT.out).mono ?_
    rintro e w2 h2
    obtain ⟨A2, n2, cap2, rfl, hr2, hb2⟩ := judge_ok rfl h2
    clear h2
    have bel2 : Below w.heap.size w w2 := below_step ((hb1.alloc hb1.size _).alloc (by have := hb1.size; simp; omega) _) hb2 (by have := hb1.size; simp; omega)
    rw [HL.out] at hr2
    rw [HV.out]
    have hn2 : n2 = 1 := hr2.1.1.symm
    subst hn2
    obtain ⟨b2, o2, rfl, hlt2, hcc⟩ := hr2.1.2 (by decide)
    have s0 : w2.cell? ⟨b2, o2, none⟩ = some (.int .i64 5) := (hcc 0 (by simp)).1
    have s1 : w2.cell? ⟨b2, o2 + 1, none⟩ = some (.string data) := (hcc 0 (by simp)).2
    clear hcc hr2
    go_wp2_with (first | (go_at_call 11; refine (num_any _ _).mono ?_; rintro e w' ⟨rfl, rfl⟩))
    all_goals
      go_ret
      exact ⟨rfl, (by repeat' (first | (with_reducible exact bel2) | (with_reducible refine Below.setCell ?_ (Nat.le_refl _) _) | (with_reducible apply Below.setCell) | (with_reducible apply Below.alloc) | (with_reducible apply Below.drew) | (with_reducible apply below_drewN) | (exact Nat.le_refl _) | omega | (simp; done) | (simp; omega)))⟩
set_option maxRecDepth 100000 in
set_option maxHeartbeats 4000000 in
theorem kinds_k5nak0 (kind : Int) (data : ByteArray) (short : Bool) (d : ByteArray) (w : World) (hm : (IntKind.u64.wrap kind).tmod 30 = 5) (hd : (40 < data.size ∧ data.extract 0 40 = d ∧ d.size = 40) ∨ (data.size ≤ 40 ∧ data = d)) (d' : ByteArray) (hV : judV (ownK short) [(5, d)] = 1) (hL : judL (ownK short) [(5, d)] = [(5, d')]) (z4 : ((d.size : Int) == 4) = true) (y4 : decide ((d.size : Int) = 4) = true) (q0 : (d.toList == [0, 0, 0, 0]) = true) : Calls Try.prog 5 #[.int .i64 kind, .string data, .bool short] w fun e w' => e = .returned (.bool true) ∧ Below w.heap.size w w' := by
  have HFIT := Lib.hid (fits_one (o := (5, d)) (by show (0 : Int) ≤ 5; decide) (by show (5 : Int) ≤ 255; decide) (by show d.size ≤ 253; rcases hd with h | h; omega; rw [← h.2]; omega))
  have HL := Lib.hid hL; have HV := Lib.hid hV; clear hL hV
  have hkw : IntKind.i64.wrap 5 = 5 := IntWalk.i64_in _ (by omega)
  rcases hd with ⟨hd1, hd2, hd3⟩ | ⟨hd1, rfl⟩
  · exfalso
    rw [hd3] at z4
    exact absurd z4 (by decide)
  · have hd4 : ¬ (40 : Int) < (data.size : Int) := by omega
    have hd5 : decide ((40 : Int) < (data.size : Int)) = false := decide_eq_false hd4
    go_enter Try.func5, Try.ntmps5
    go_wp2_with fail
    refine (awake_any _).mono ?_
    rintro e w1 ⟨rfl, hb1⟩
    go_wp2_with fail
    refine (judge_any (ownK short) (some ⟨w1.heap.size + 1, 0, none⟩) 1 1 [(5, data)] _ (OptsAt.made_at (w1.alloc (.cells #[.int .i64 0, .int .i64 9, .int .i64 0, .bool short, .string ⟨#[]⟩, .int .i64 0] 23)) (w1.heap.size + 1) (by simp) _ #[.int .i64 5, .string data] _ 1 rfl rfl) (by omega) (by intro h; cases h) (Nat.le_refl _) HFIT.out).mono ?_
    rintro e w2 h2
    obtain ⟨A2, n2, cap2, rfl, hr2, hb2⟩ := judge_ok rfl h2
    clear h2
    have bel2 : Below w.heap.size w w2 := below_step ((hb1.alloc hb1.size _).alloc (by have := hb1.size; simp; omega) _) hb2 (by have := hb1.size; simp; omega)
    rw [HL.out] at hr2
    rw [HV.out]
    have hn2 : n2 = 1 := hr2.1.1.symm
    subst hn2
    obtain ⟨b2, o2, rfl, hlt2, hcc⟩ := hr2.1.2 (by decide)
    have s0 : w2.cell? ⟨b2, o2, none⟩ = some (.int .i64 5) := (hcc 0 (by simp)).1
    have s1 : w2.cell? ⟨b2, o2 + 1, none⟩ = some (.string d') := (hcc 0 (by simp)).2
    clear hcc hr2
    go_wp2_with (first | (go_at_call 11; refine (num_any _ _).mono ?_; rintro e w' ⟨rfl, rfl⟩))
    all_goals
      go_ret
      exact ⟨rfl, (by repeat' (first | (with_reducible exact bel2) | (with_reducible refine Below.setCell ?_ (Nat.le_refl _) _) | (with_reducible apply Below.setCell) | (with_reducible apply Below.alloc) | (with_reducible apply Below.drew) | (with_reducible apply below_drewN) | (exact Nat.le_refl _) | omega | (simp; done) | (simp; omega)))⟩
set_option maxRecDepth 100000 in
set_option maxHeartbeats 4000000 in
theorem kinds_k5nak9 (kind : Int) (data : ByteArray) (short : Bool) (d : ByteArray) (w : World) (hm : (IntKind.u64.wrap kind).tmod 30 = 5) (hd : (40 < data.size ∧ data.extract 0 40 = d ∧ d.size = 40) ∨ (data.size ≤ 40 ∧ data = d)) (d' : ByteArray) (hV : judV (ownK short) [(5, d)] = 1) (hL : judL (ownK short) [(5, d)] = [(5, d')]) (z4 : ((d.size : Int) == 4) = true) (y4 : decide ((d.size : Int) = 4) = true) (q0 : (d.toList == [0, 0, 0, 0]) = false) (q9 : (d.toList == [0, 0, 0, 9]) = true) : Calls Try.prog 5 #[.int .i64 kind, .string data, .bool short] w fun e w' => e = .returned (.bool true) ∧ Below w.heap.size w w' := by
  have HFIT := Lib.hid (fits_one (o := (5, d)) (by show (0 : Int) ≤ 5; decide) (by show (5 : Int) ≤ 255; decide) (by show d.size ≤ 253; rcases hd with h | h; omega; rw [← h.2]; omega))
  have HL := Lib.hid hL; have HV := Lib.hid hV; clear hL hV
  have hkw : IntKind.i64.wrap 5 = 5 := IntWalk.i64_in _ (by omega)
  rcases hd with ⟨hd1, hd2, hd3⟩ | ⟨hd1, rfl⟩
  · exfalso
    rw [hd3] at z4
    exact absurd z4 (by decide)
  · have hd4 : ¬ (40 : Int) < (data.size : Int) := by omega
    have hd5 : decide ((40 : Int) < (data.size : Int)) = false := decide_eq_false hd4
    go_enter Try.func5, Try.ntmps5
    go_wp2_with fail
    refine (awake_any _).mono ?_
    rintro e w1 ⟨rfl, hb1⟩
    go_wp2_with fail
    refine (judge_any (ownK short) (some ⟨w1.heap.size + 1, 0, none⟩) 1 1 [(5, data)] _ (OptsAt.made_at (w1.alloc (.cells #[.int .i64 0, .int .i64 9, .int .i64 0, .bool short, .string ⟨#[]⟩, .int .i64 0] 23)) (w1.heap.size + 1) (by simp) _ #[.int .i64 5, .string data] _ 1 rfl rfl) (by omega) (by intro h; cases h) (Nat.le_refl _) HFIT.out).mono ?_
    rintro e w2 h2
    obtain ⟨A2, n2, cap2, rfl, hr2, hb2⟩ := judge_ok rfl h2
    clear h2
    have bel2 : Below w.heap.size w w2 := below_step ((hb1.alloc hb1.size _).alloc (by have := hb1.size; simp; omega) _) hb2 (by have := hb1.size; simp; omega)
    rw [HL.out] at hr2
    rw [HV.out]
    have hn2 : n2 = 1 := hr2.1.1.symm
    subst hn2
    obtain ⟨b2, o2, rfl, hlt2, hcc⟩ := hr2.1.2 (by decide)
    have s0 : w2.cell? ⟨b2, o2, none⟩ = some (.int .i64 5) := (hcc 0 (by simp)).1
    have s1 : w2.cell? ⟨b2, o2 + 1, none⟩ = some (.string d') := (hcc 0 (by simp)).2
    clear hcc hr2
    go_wp2_with (first | (go_at_call 11; refine (num_any _ _).mono ?_; rintro e w' ⟨rfl, rfl⟩))
    all_goals
      go_ret
      exact ⟨rfl, (by repeat' (first | (with_reducible exact bel2) | (with_reducible refine Below.setCell ?_ (Nat.le_refl _) _) | (with_reducible apply Below.setCell) | (with_reducible apply Below.alloc) | (with_reducible apply Below.drew) | (with_reducible apply below_drewN) | (exact Nat.le_refl _) | omega | (simp; done) | (simp; omega)))⟩
end Go.Proofs.Ytjmcgekegenobaa
