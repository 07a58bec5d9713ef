/- Statement PolicyKinds: the walk, whichever kind. No condition but memory's own limits. -/
import Derived.Test.YtjmcgekegenobaaPolY
import Derived.Test.YtjmcgekegenobaaPolW
namespace Go.Proofs.Ytjmcgekegenobaa
open Go.RowKit
set_option linter.unusedVariables false
set_option linter.unusedSimpArgs false
theorem toList_eq4 (d e : ByteArray) : (d.toList == e.toList) = decide (d = e) := by
  by_cases h : d = e
  · subst h; simp
  · rw [decide_eq_false h]; exact toList_ne h
theorem be4_val {d : ByteArray} (h : d.size = 4) : be4 (val d) = d := by
  have hv := val_range (d := d) (by omega)
  rw [h] at hv
  have e : val d = ((0 * 256 + byt d 0) * 256 + byt d 1) * 256 * 256 + byt d 2 * 256 + byt d 3 := by
    rw [val_be (by omega), h]
    show (((0 * 256 + byt d 0) * 256 + byt d 1) * 256 + byt d 2) * 256 + byt d 3 = _
    omega
  have b0 := byt_range d 0; have b1 := byt_range d 1; have b2 := byt_range d 2; have b3 := byt_range d 3
  unfold be4
  have e0 : val d / 16777216 = byt d 0 := by omega
  have e1 : val d / 65536 % 256 = byt d 1 := by omega
  have e2 : val d / 256 % 256 = byt d 2 := by omega
  have e3 : val d % 256 = byt d 3 := by omega
  rw [e0, e1, e2, e3]
  apply bytes_ext
  · rw [size_nums, h]; rfl
  · intro i hi
    rw [size_nums] at hi
    have hi4 : i < 4 := hi
    rcases (by omega : i = 0 ∨ i = 1 ∨ i = 2 ∨ i = 3) with rfl | rfl | rfl | rfl
    · exact byt_nums [byt d 0, byt d 1, byt d 2, byt d 3] 0 (by simp) (by show 0 ≤ byt d 0; omega) (by show byt d 0 ≤ 255; omega)
    · exact byt_nums [byt d 0, byt d 1, byt d 2, byt d 3] 1 (by simp) (by show 0 ≤ byt d 1; omega) (by show byt d 1 ≤ 255; omega)
    · exact byt_nums [byt d 0, byt d 1, byt d 2, byt d 3] 2 (by simp) (by show 0 ≤ byt d 2; omega) (by show byt d 2 ≤ 255; omega)
    · exact byt_nums [byt d 0, byt d 1, byt d 2, byt d 3] 3 (by simp) (by show 0 ≤ byt d 3; omega) (by show byt d 3 ≤ 255; omega)
theorem neqz {a b : Nat} (h : ¬ a = b) : (((a : Int) == (b : Int)) = false) ∧ (decide ((a : Int) = (b : Int)) = false) := ⟨decide_eq_false (by omega), decide_eq_false (by omega)⟩
theorem eqz {a b : Nat} (h : a = b) : (((a : Int) == (b : Int)) = true) ∧ (decide ((a : Int) = (b : Int)) = true) := ⟨decide_eq_true (by omega), decide_eq_true (by omega)⟩
theorem kinds_walk (kind : Int) (data : ByteArray) (short : Bool) (k0 : (Lit.int .i64 kind).wf = true) (k1 : data.size ≤ 140737488351232) (w : World) : Calls Try.prog 5 #[.int .i64 kind, .string data, .bool short] w fun e w' => e = .returned (.bool true) ∧ Below w.heap.size w w' := by
  have hu : 0 ≤ IntKind.u64.wrap kind := by rw [IntKind.wrap_u64]; omega
  obtain ⟨k, hm, hk⟩ : ∃ k : Int, (IntKind.u64.wrap kind).tmod 30 = k ∧ 0 ≤ k ∧ k < 30 := ⟨_, rfl, by rw [Int.tmod_eq_emod_of_nonneg hu]; omega⟩
  obtain ⟨d, hd⟩ : ∃ d : ByteArray, (40 < data.size ∧ data.extract 0 40 = d ∧ d.size = 40) ∨ (data.size ≤ 40 ∧ data = d) := by
    by_cases h : 40 < data.size
    · exact ⟨_, .inl ⟨h, rfl, by rw [ByteArray.size_extract]; omega⟩⟩
    · exact ⟨_, .inr ⟨by omega, rfl⟩⟩
  have two : ∀ n : Nat, (((d.size : Int) == (n : Int)) = decide ((d.size : Int) = (n : Int))) := fun _ => rfl
  rcases kind_cases k with rfl | rfl | rfl | rfl | rfl | rfl | ⟨e1, e2, e3, e4, e5, e6, -, e8⟩
  · by_cases hs : d.size = 2
    · have hr : rightB 1 d = true := right_yes (by rw [show sizeK 1 = 2 from rfl, hs]; rfl)
      have hb : bad0 (ownK short) (1, d) = false := bad0_right hr (by show (1 : Int) ≠ 18; decide)
      have hx : wrap64 (wrap64 (wrap64 (byt d 0) * 256) + wrap64 (byt d 1)) = val d := by
        have b0 := byt_range d 0; have b1 := byt_range d 1
        rw [IntWalk.wrap64_in (byt d 0) (by omega), IntWalk.wrap64_in (byt d 1) (by omega), IntWalk.wrap64_in (byt d 0 * 256) (by omega), IntWalk.wrap64_in _ (by omega), val_be (by omega), hs]
        show _ = (0 * 256 + byt d 0) * 256 + byt d 1
        omega
      cases hv : unitB (val d)
      · obtain ⟨g1, g2⟩ := one_nak (x := (1, be2 1500)) hb (by show bettO (ownK short) 1 d = _; unfold bettO; rw [if_pos (.inl rfl), hv]; rfl)
        exact kinds_k1nak kind data short d w hm hd _ g1 g2 (eqz hs).1 (eqz hs).2 _ hx _ _ rfl rfl hv
      · obtain ⟨g1, g2⟩ := one_ack hb (by show bettO (ownK short) 1 d = _; unfold bettO; rw [if_pos (.inl rfl), hv]; rfl)
        exact kinds_k1ok kind data short d w hm hd g1 g2 (eqz hs).1 (eqz hs).2 _ hx _ _ rfl rfl hv
    · obtain ⟨g1, g2⟩ := one_rej (l := ownK short) (o := (1, d)) (bad_wrong (right_no (by rw [show sizeK 1 = 2 from rfl]; omega) (by intro h; cases h)))
      exact kinds_k1no kind data short d w hm hd g1 g2 (neqz hs).1 (neqz hs).2
  · by_cases hs : d.size = 4
    · have hr : rightB 5 d = true := right_yes (by rw [show sizeK 5 = 4 from rfl, hs]; rfl)
      have hb : bad0 (ownK short) (5, d) = false := bad0_right hr (by show (5 : Int) ≠ 18; decide)
      have hbe : bettO (ownK short) 5 d = if (val d == 0) || (val d == 9) then some (5, be4 (flipM 9)) else none := by unfold bettO; rw [if_neg (by decide), if_pos rfl]; rfl
      have l0 : ([0, 0, 0, 0] : List UInt8) = (be4 0).toList := by kernel_rfl
      have l9 : ([0, 0, 0, 9] : List UInt8) = (be4 9).toList := by kernel_rfl
      have h0 : (d.toList == [0, 0, 0, 0]) = (val d == 0) := by
        rw [l0, toList_eq4]
        by_cases h : d = be4 0
        · rw [decide_eq_true h, h, val_be4 (by decide) (by decide)]; rfl
        · rw [decide_eq_false h]; symm; rw [beq_eq_false_iff_ne]; intro e; exact h (by rw [← be4_val hs, e])
      have h9 : (d.toList == [0, 0, 0, 9]) = (val d == 9) := by
        rw [l9, toList_eq4]
        by_cases h : d = be4 9
        · rw [decide_eq_true h, h, val_be4 (by decide) (by decide)]; rfl
        · rw [decide_eq_false h]; symm; rw [beq_eq_false_iff_ne]; intro e; exact h (by rw [← be4_val hs, e])
      cases v0 : (val d == 0)
      · cases v9 : (val d == 9)
        · obtain ⟨g1, g2⟩ := one_ack hb (by show bettO (ownK short) 5 d = _; rw [hbe, v0, v9]; rfl)
          exact kinds_k5ok kind data short d w hm hd g1 g2 (eqz hs).1 (eqz hs).2 (by rw [h0, v0]) (by rw [h9, v9])
        · obtain ⟨g1, g2⟩ := one_nak (x := (5, be4 (flipM 9))) hb (by show bettO (ownK short) 5 d = _; rw [hbe, v0, v9]; rfl)
          exact kinds_k5nak9 kind data short d w hm hd _ g1 g2 (eqz hs).1 (eqz hs).2 (by rw [h0, v0]) (by rw [h9, v9])
      · obtain ⟨g1, g2⟩ := one_nak (x := (5, be4 (flipM 9))) hb (by show bettO (ownK short) 5 d = _; rw [hbe, v0]; rfl)
        exact kinds_k5nak0 kind data short d w hm hd _ g1 g2 (eqz hs).1 (eqz hs).2 (by rw [h0, v0])
    · obtain ⟨g1, g2⟩ := one_rej (l := ownK short) (o := (5, d)) (bad_wrong (right_no (by rw [show sizeK 5 = 4 from rfl]; omega) (by intro h; cases h)))
      exact kinds_k5no kind data short d w hm hd g1 g2 (neqz hs).1 (neqz hs).2
  · by_cases hs : d.size = 2
    · have hr : rightB 17 d = true := right_yes (by rw [show sizeK 17 = 2 from rfl, hs]; rfl)
      have hb : bad0 (ownK short) (17, d) = false := bad0_right hr (by show (17 : Int) ≠ 18; decide)
      have hx : wrap64 (wrap64 (wrap64 (byt d 0) * 256) + wrap64 (byt d 1)) = val d := by
        have b0 := byt_range d 0; have b1 := byt_range d 1
        rw [IntWalk.wrap64_in (byt d 0) (by omega), IntWalk.wrap64_in (byt d 1) (by omega), IntWalk.wrap64_in (byt d 0 * 256) (by omega), IntWalk.wrap64_in _ (by omega), val_be (by omega), hs]
        show _ = (0 * 256 + byt d 0) * 256 + byt d 1
        omega
      cases hv : unitB (val d)
      · obtain ⟨g1, g2⟩ := one_nak (x := (17, be2 1500)) hb (by show bettO (ownK short) 17 d = _; unfold bettO; rw [if_pos (.inr rfl), hv]; rfl)
        exact kinds_k17nak kind data short d w hm hd _ g1 g2 (eqz hs).1 (eqz hs).2 _ hx _ _ rfl rfl hv
      · obtain ⟨g1, g2⟩ := one_ack hb (by show bettO (ownK short) 17 d = _; unfold bettO; rw [if_pos (.inr rfl), hv]; rfl)
        exact kinds_k17ok kind data short d w hm hd g1 g2 (eqz hs).1 (eqz hs).2 _ hx _ _ rfl rfl hv
    · obtain ⟨g1, g2⟩ := one_rej (l := ownK short) (o := (17, d)) (bad_wrong (right_no (by rw [show sizeK 17 = 2 from rfl]; omega) (by intro h; cases h)))
      exact kinds_k17no kind data short d w hm hd g1 g2 (neqz hs).1 (neqz hs).2
  · by_cases hs : d.size = 2
    · have hr : rightB 23 d = true := right_yes (by rw [show sizeK 23 = 2 from rfl, hs]; rfl)
      obtain ⟨g1, g2⟩ := one_ack (l := ownK short) (o := (23, d)) (bad0_right hr (by show (23 : Int) ≠ 18; decide)) rfl
      exact kinds_k23ok kind data short d w hm hd g1 g2 (eqz hs).1 (eqz hs).2
    · obtain ⟨g1, g2⟩ := one_rej (l := ownK short) (o := (23, d)) (bad_wrong (right_no (by rw [show sizeK 23 = 2 from rfl]; omega) (by intro h; cases h)))
      exact kinds_k23no kind data short d w hm hd g1 g2 (neqz hs).1 (neqz hs).2
  · by_cases hs : d.size = 0
    · have he : d = ⟨#[]⟩ := empty_eq hs
      have hl : d.toList = [] := by rw [he]; kernel_rfl
      cases short
      · obtain ⟨g1, g2⟩ := one_rej (l := ownK false) (o := (18, d)) (by unfold bad0; rw [show ((18 : Int), d).1 == 18 from rfl]; simp [ownK])
        exact kinds_k18sh kind data d w hm hd g1 g2
      · have hr : rightB 18 d = true := right_yes (by rw [show sizeK 18 = 0 from rfl, hs]; rfl)
        obtain ⟨g1, g2⟩ := one_ack (l := ownK true) (o := (18, d)) (by unfold bad0; rw [show rightB ((18 : Int), d).1 ((18 : Int), d).2 = true from hr]; rfl) rfl
        exact kinds_k18ok kind data d w hm hd g1 g2 (eqz hs).1 (eqz hs).2 (by rw [hl]; rfl) (by rw [hl]; rfl)
    · obtain ⟨g1, g2⟩ := one_rej (l := ownK short) (o := (18, d)) (bad_wrong (right_no (by rw [show sizeK 18 = 0 from rfl]; omega) (by intro h; cases h)))
      have hi : d.toList.isEmpty = false := by rw [emptyB_size]; exact decide_eq_false hs
      exact kinds_k18no kind data short d w hm hd g1 g2 (neqz hs).1 (neqz hs).2 (by cases hl : d.toList with | nil => rw [hl] at hi; cases hi | cons a l => rfl) hi
  · by_cases h1 : 1 ≤ d.size
    · by_cases h2 : d.size ≤ 20
      · have hr : rightB 19 d = true := by unfold rightB; rw [show sizeK 19 = -1 from rfl, decide_eq_true h1, decide_eq_true h2]; simp
        obtain ⟨g1, g2⟩ := one_ack (l := ownK short) (o := (19, d)) (bad0_right hr (by show (19 : Int) ≠ 18; decide)) rfl
        exact kinds_k19ok kind data short d w hm hd g1 g2 (decide_eq_true (by omega)) (decide_eq_true (by omega))
      · obtain ⟨g1, g2⟩ := one_rej (l := ownK short) (o := (19, d)) (bad_wrong (right_no (by rw [show sizeK 19 = -1 from rfl]; omega) (by intro h; omega)))
        exact kinds_k19hi kind data short d w hm hd g1 g2 (decide_eq_true (by omega)) (decide_eq_false (by omega))
    · obtain ⟨g1, g2⟩ := one_rej (l := ownK short) (o := (19, d)) (bad_wrong (right_no (by rw [show sizeK 19 = -1 from rfl]; omega) (by intro h; omega)))
      exact kinds_k19lo kind data short d w hm hd g1 g2 (decide_eq_false (by omega)) (decide_eq_true (by omega))
  · obtain ⟨g1, g2⟩ := one_rej (l := ownK short) (o := (k, d)) (bad_wrong (right_no (by rw [e8]; omega) (by rw [e8]; intro h; cases h)))
    exact kinds_other kind data short k d w hm hk hd g1 g2 e1 e2 e3 e4 e5 e6
end Go.Proofs.Ytjmcgekegenobaa
