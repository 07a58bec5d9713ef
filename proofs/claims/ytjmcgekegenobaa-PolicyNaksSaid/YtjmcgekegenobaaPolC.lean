/- The contract of package policy's better. No condition but memory's own limits. -/
import Derived.Test.YtjmcgekegenobaaPolC5
import Derived.Deep.RegionWith
namespace Go.Proofs.Ytjmcgekegenobaa
open Go.RowKit
set_option linter.unusedVariables false
set_option linter.unusedSimpArgs false
attribute [local go_sem] conv1 conv1d conv1n conv1a conv1ad conv1an conv2 conv2d conv2n conv2a conv2ad conv2an conv4 conv4d conv4n conv4a conv4ad conv4an conv5 conv5d conv5n conv5a conv5ad conv5an size_nums byt_fold
set_option maxRecDepth 100000 in
set_option maxHeartbeats 4000000 in
theorem better_any (g : Nat) (k : Int) (d : ByteArray) (l : Lk) (w : World) (h : Blk w g 48 (lkC l)) (hz : d.size ≤ 140737488351232) (hm : 0 ≤ l.magic ∧ l.magic ≤ 4294967295) : Calls Try.prog 26 #[.pointer (some ⟨g, 0, none⟩), .agg #[.int .i64 k, .string d]] w (BetB l k d w) := by
  have hlt := h.lt
  have hne : g ≠ w.heap.size := by omega
  have hne1 : g ≠ w.heap.size + 1 := by omega
  have c1 : w.cell? ⟨g, 1, none⟩ = some (.int .i64 l.magic) := h.cell 1
  have H := Lib.hid h; clear h
  obtain ⟨x, hx⟩ : ∃ x, val d = x := ⟨_, rfl⟩
  obtain ⟨p, hp⟩ : ∃ p, unitB x = p := ⟨_, rfl⟩
  rcases kind_cases k with rfl | rfl | rfl | rfl | rfl | rfl | ⟨e1, e2, e3, e4, e5, e6, -, -⟩
  · cases p
    · go_enter Try.func26, Try.ntmps26
      go_wp2_with fail
      refine (value_any d _ hz).mono ?_
      rintro e w' ⟨rfl, rfl⟩
      rw [hx]
      go_wp2_with fail
      go_region_with (first | (go_at_call 30; refine (unit_any _ _).mono ?_; rintro e w' ⟨rfl, rfl⟩; rw [hp]) | (go_at_call 21; refine (number2_any _ _ (by omega) (by omega)).mono ?_; rintro e u ⟨rfl, hbu⟩; obtain ⟨hcu, hfu⟩ := bcell hbu; have hzu := hbu.size; simp at hzu))
      all_goals
        go_wp2_with fail
        have belu : Below w.heap.size w u := (by repeat' (first | (with_reducible exact Below.refl _ _) | (with_reducible apply Below.drew) | (with_reducible apply below_drewN) | (with_reducible apply Below.setCell) | (with_reducible apply Below.alloc) | (with_reducible refine below_step ?_ (by assumption) ?_) | omega | (simp; done) | (simp; omega)))
        have r0 : u.cell? ⟨w.heap.size + 1, 0, none⟩ = some (.int .i64 0) := (by repeat' (first | (with_reducible refine cell1 ?_) | (with_reducible exact hbu) | (with_reducible refine cellK hbu ?_) | ((with_reducible refine cell0 ?hb ?hv); (case hb => first | rfl | (simp; done)); (case hv => rfl)) | (with_reducible refine cellA ?_) | (with_reducible refine cellD ?_) | (with_reducible refine cellN ?_) | ((with_reducible refine cellS ?hn ?_); (case hn => first | (left; omega) | (right; omega) | (left; simp; omega))) | ((with_reducible refine has0 ?hb ?hv); (case hb => first | rfl | (simp; done)); (case hv => rfl)) | (with_reducible refine hasA ?_) | (with_reducible refine hasD ?_) | (with_reducible refine hasN ?_) | (with_reducible refine hasK hbu ?_) | (with_reducible refine hasS ?_)))
        have r1 : u.cell? ⟨w.heap.size + 1, 1, none⟩ = some (.string ⟨#[]⟩) := (by repeat' (first | (with_reducible refine cell1 ?_) | (with_reducible exact hbu) | (with_reducible refine cellK hbu ?_) | ((with_reducible refine cell0 ?hb ?hv); (case hb => first | rfl | (simp; done)); (case hv => rfl)) | (with_reducible refine cellA ?_) | (with_reducible refine cellD ?_) | (with_reducible refine cellN ?_) | ((with_reducible refine cellS ?hn ?_); (case hn => first | (left; omega) | (right; omega) | (left; simp; omega))) | ((with_reducible refine has0 ?hb ?hv); (case hb => first | rfl | (simp; done)); (case hv => rfl)) | (with_reducible refine hasA ?_) | (with_reducible refine hasD ?_) | (with_reducible refine hasN ?_) | (with_reducible refine hasK hbu ?_) | (with_reducible refine hasS ?_)))
        refine bodyPost_ret (v := .tuple #[.agg #[.int .i64 1, .string (be2 1500)], .bool true]) (by simp [results, Try.results26, go_sem, r0, r1]) rfl ?_
        exact ⟨1, be2 1500, by unfold bettO; rw [hx, hp]; rfl, fun o ho => by unfold bettO at ho; rw [hx, hp] at ho; exact (Option.some.inj ho).symm, (by repeat' (first | (with_reducible exact belu) | (with_reducible refine Below.setCell ?_ (Nat.le_refl _) _) | (with_reducible apply Below.setCell) | (with_reducible apply Below.alloc) | (with_reducible apply Below.drew) | (with_reducible apply below_drewN) | (exact Nat.le_refl _) | omega | (simp; done) | (simp; omega)))⟩
    · go_enter Try.func26, Try.ntmps26
      go_wp2_with fail
      refine (value_any d _ hz).mono ?_
      rintro e w' ⟨rfl, rfl⟩
      rw [hx]
      go_wp2_with fail
      go_region_with (first | (go_at_call 30; refine (unit_any _ _).mono ?_; rintro e w' ⟨rfl, rfl⟩; rw [hp]) | (go_at_call 21; refine (number2_any _ _ (by omega) (by omega)).mono ?_; rintro e u ⟨rfl, hbu⟩; obtain ⟨hcu, hfu⟩ := bcell hbu; have hzu := hbu.size; simp at hzu))
      all_goals
        go_wp2_with fail
        have belu : Below w.heap.size w u := (by repeat' (first | (with_reducible exact Below.refl _ _) | (with_reducible apply Below.drew) | (with_reducible apply below_drewN) | (with_reducible apply Below.setCell) | (with_reducible apply Below.alloc) | (with_reducible refine below_step ?_ (by assumption) ?_) | omega | (simp; done) | (simp; omega)))
        have r0 : u.cell? ⟨w.heap.size + 1, 0, none⟩ = some (.int .i64 0) := (by repeat' (first | (with_reducible refine cell1 ?_) | (with_reducible exact hbu) | (with_reducible refine cellK hbu ?_) | ((with_reducible refine cell0 ?hb ?hv); (case hb => first | rfl | (simp; done)); (case hv => rfl)) | (with_reducible refine cellA ?_) | (with_reducible refine cellD ?_) | (with_reducible refine cellN ?_) | ((with_reducible refine cellS ?hn ?_); (case hn => first | (left; omega) | (right; omega) | (left; simp; omega))) | ((with_reducible refine has0 ?hb ?hv); (case hb => first | rfl | (simp; done)); (case hv => rfl)) | (with_reducible refine hasA ?_) | (with_reducible refine hasD ?_) | (with_reducible refine hasN ?_) | (with_reducible refine hasK hbu ?_) | (with_reducible refine hasS ?_)))
        have r1 : u.cell? ⟨w.heap.size + 1, 1, none⟩ = some (.string ⟨#[]⟩) := (by repeat' (first | (with_reducible refine cell1 ?_) | (with_reducible exact hbu) | (with_reducible refine cellK hbu ?_) | ((with_reducible refine cell0 ?hb ?hv); (case hb => first | rfl | (simp; done)); (case hv => rfl)) | (with_reducible refine cellA ?_) | (with_reducible refine cellD ?_) | (with_reducible refine cellN ?_) | ((with_reducible refine cellS ?hn ?_); (case hn => first | (left; omega) | (right; omega) | (left; simp; omega))) | ((with_reducible refine has0 ?hb ?hv); (case hb => first | rfl | (simp; done)); (case hv => rfl)) | (with_reducible refine hasA ?_) | (with_reducible refine hasD ?_) | (with_reducible refine hasN ?_) | (with_reducible refine hasK hbu ?_) | (with_reducible refine hasS ?_)))
        refine bodyPost_ret (v := .tuple #[.agg #[.int .i64 1, .string (be2 1500)], .bool false]) (by simp [results, Try.results26, go_sem, r0, r1]) rfl ?_
        exact ⟨1, be2 1500, by unfold bettO; rw [hx, hp]; rfl, fun o ho => by unfold bettO at ho; rw [hx, hp] at ho; (cases ho), (by repeat' (first | (with_reducible exact belu) | (with_reducible refine Below.setCell ?_ (Nat.le_refl _) _) | (with_reducible apply Below.setCell) | (with_reducible apply Below.alloc) | (with_reducible apply Below.drew) | (with_reducible apply below_drewN) | (exact Nat.le_refl _) | omega | (simp; done) | (simp; omega)))⟩
  · rcases hq0 : (val d == 0) with _ | _
    · exact better5F g d l w (H) hq0 hz hm
    · exact better5T g d l w (H) hq0 hz hm
  · cases p
    · go_enter Try.func26, Try.ntmps26
      go_wp2_with fail
      refine (value_any d _ hz).mono ?_
      rintro e w' ⟨rfl, rfl⟩
      rw [hx]
      go_wp2_with fail
      go_region_with (first | (go_at_call 30; refine (unit_any _ _).mono ?_; rintro e w' ⟨rfl, rfl⟩; rw [hp]) | (go_at_call 21; refine (number2_any _ _ (by omega) (by omega)).mono ?_; rintro e u ⟨rfl, hbu⟩; obtain ⟨hcu, hfu⟩ := bcell hbu; have hzu := hbu.size; simp at hzu))
      all_goals
        go_wp2_with fail
        have belu : Below w.heap.size w u := (by repeat' (first | (with_reducible exact Below.refl _ _) | (with_reducible apply Below.drew) | (with_reducible apply below_drewN) | (with_reducible apply Below.setCell) | (with_reducible apply Below.alloc) | (with_reducible refine below_step ?_ (by assumption) ?_) | omega | (simp; done) | (simp; omega)))
        have r0 : u.cell? ⟨w.heap.size + 1, 0, none⟩ = some (.int .i64 0) := (by repeat' (first | (with_reducible refine cell1 ?_) | (with_reducible exact hbu) | (with_reducible refine cellK hbu ?_) | ((with_reducible refine cell0 ?hb ?hv); (case hb => first | rfl | (simp; done)); (case hv => rfl)) | (with_reducible refine cellA ?_) | (with_reducible refine cellD ?_) | (with_reducible refine cellN ?_) | ((with_reducible refine cellS ?hn ?_); (case hn => first | (left; omega) | (right; omega) | (left; simp; omega))) | ((with_reducible refine has0 ?hb ?hv); (case hb => first | rfl | (simp; done)); (case hv => rfl)) | (with_reducible refine hasA ?_) | (with_reducible refine hasD ?_) | (with_reducible refine hasN ?_) | (with_reducible refine hasK hbu ?_) | (with_reducible refine hasS ?_)))
        have r1 : u.cell? ⟨w.heap.size + 1, 1, none⟩ = some (.string ⟨#[]⟩) := (by repeat' (first | (with_reducible refine cell1 ?_) | (with_reducible exact hbu) | (with_reducible refine cellK hbu ?_) | ((with_reducible refine cell0 ?hb ?hv); (case hb => first | rfl | (simp; done)); (case hv => rfl)) | (with_reducible refine cellA ?_) | (with_reducible refine cellD ?_) | (with_reducible refine cellN ?_) | ((with_reducible refine cellS ?hn ?_); (case hn => first | (left; omega) | (right; omega) | (left; simp; omega))) | ((with_reducible refine has0 ?hb ?hv); (case hb => first | rfl | (simp; done)); (case hv => rfl)) | (with_reducible refine hasA ?_) | (with_reducible refine hasD ?_) | (with_reducible refine hasN ?_) | (with_reducible refine hasK hbu ?_) | (with_reducible refine hasS ?_)))
        refine bodyPost_ret (v := .tuple #[.agg #[.int .i64 17, .string (be2 1500)], .bool true]) (by simp [results, Try.results26, go_sem, r0, r1]) rfl ?_
        exact ⟨17, be2 1500, by unfold bettO; rw [hx, hp]; rfl, fun o ho => by unfold bettO at ho; rw [hx, hp] at ho; exact (Option.some.inj ho).symm, (by repeat' (first | (with_reducible exact belu) | (with_reducible refine Below.setCell ?_ (Nat.le_refl _) _) | (with_reducible apply Below.setCell) | (with_reducible apply Below.alloc) | (with_reducible apply Below.drew) | (with_reducible apply below_drewN) | (exact Nat.le_refl _) | omega | (simp; done) | (simp; omega)))⟩
    · go_enter Try.func26, Try.ntmps26
      go_wp2_with fail
      refine (value_any d _ hz).mono ?_
      rintro e w' ⟨rfl, rfl⟩
      rw [hx]
      go_wp2_with fail
      go_region_with (first | (go_at_call 30; refine (unit_any _ _).mono ?_; rintro e w' ⟨rfl, rfl⟩; rw [hp]) | (go_at_call 21; refine (number2_any _ _ (by omega) (by omega)).mono ?_; rintro e u ⟨rfl, hbu⟩; obtain ⟨hcu, hfu⟩ := bcell hbu; have hzu := hbu.size; simp at hzu))
      all_goals
        go_wp2_with fail
        have belu : Below w.heap.size w u := (by repeat' (first | (with_reducible exact Below.refl _ _) | (with_reducible apply Below.drew) | (with_reducible apply below_drewN) | (with_reducible apply Below.setCell) | (with_reducible apply Below.alloc) | (with_reducible refine below_step ?_ (by assumption) ?_) | omega | (simp; done) | (simp; omega)))
        have r0 : u.cell? ⟨w.heap.size + 1, 0, none⟩ = some (.int .i64 0) := (by repeat' (first | (with_reducible refine cell1 ?_) | (with_reducible exact hbu) | (with_reducible refine cellK hbu ?_) | ((with_reducible refine cell0 ?hb ?hv); (case hb => first | rfl | (simp; done)); (case hv => rfl)) | (with_reducible refine cellA ?_) | (with_reducible refine cellD ?_) | (with_reducible refine cellN ?_) | ((with_reducible refine cellS ?hn ?_); (case hn => first | (left; omega) | (right; omega) | (left; simp; omega))) | ((with_reducible refine has0 ?hb ?hv); (case hb => first | rfl | (simp; done)); (case hv => rfl)) | (with_reducible refine hasA ?_) | (with_reducible refine hasD ?_) | (with_reducible refine hasN ?_) | (with_reducible refine hasK hbu ?_) | (with_reducible refine hasS ?_)))
        have r1 : u.cell? ⟨w.heap.size + 1, 1, none⟩ = some (.string ⟨#[]⟩) := (by repeat' (first | (with_reducible refine cell1 ?_) | (with_reducible exact hbu) | (with_reducible refine cellK hbu ?_) | ((with_reducible refine cell0 ?hb ?hv); (case hb => first | rfl | (simp; done)); (case hv => rfl)) | (with_reducible refine cellA ?_) | (with_reducible refine cellD ?_) | (with_reducible refine cellN ?_) | ((with_reducible refine cellS ?hn ?_); (case hn => first | (left; omega) | (right; omega) | (left; simp; omega))) | ((with_reducible refine has0 ?hb ?hv); (case hb => first | rfl | (simp; done)); (case hv => rfl)) | (with_reducible refine hasA ?_) | (with_reducible refine hasD ?_) | (with_reducible refine hasN ?_) | (with_reducible refine hasK hbu ?_) | (with_reducible refine hasS ?_)))
        refine bodyPost_ret (v := .tuple #[.agg #[.int .i64 17, .string (be2 1500)], .bool false]) (by simp [results, Try.results26, go_sem, r0, r1]) rfl ?_
        exact ⟨17, be2 1500, by unfold bettO; rw [hx, hp]; rfl, fun o ho => by unfold bettO at ho; rw [hx, hp] at ho; (cases ho), (by repeat' (first | (with_reducible exact belu) | (with_reducible refine Below.setCell ?_ (Nat.le_refl _) _) | (with_reducible apply Below.setCell) | (with_reducible apply Below.alloc) | (with_reducible apply Below.drew) | (with_reducible apply below_drewN) | (exact Nat.le_refl _) | omega | (simp; done) | (simp; omega)))⟩
  · go_enter Try.func26, Try.ntmps26
    go_wp2_with fail
    refine (value_any d _ hz).mono ?_
    rintro e w' ⟨rfl, rfl⟩
    rw [hx]
    go_wp2_with fail
    have hb : bettO l 23 d = none := rfl
    refine bodyPost_ret (v := .tuple #[.agg #[.int .i64 23, .string d], .bool false]) (by simp [results, Try.results26, go_sem, hx]) rfl ?_
    exact ⟨23, d, by rw [hb]; rfl, fun o ho => by rw [hb] at ho; (cases ho), (by repeat' (first | (with_reducible exact Below.refl _ _) | (with_reducible refine Below.setCell ?_ (Nat.le_refl _) _) | (with_reducible apply Below.setCell) | (with_reducible apply Below.alloc) | (with_reducible apply Below.drew) | (with_reducible apply below_drewN) | (exact Nat.le_refl _) | omega | (simp; done) | (simp; omega)))⟩
  · go_enter Try.func26, Try.ntmps26
    go_wp2_with fail
    refine (value_any d _ hz).mono ?_
    rintro e w' ⟨rfl, rfl⟩
    rw [hx]
    go_wp2_with fail
    have hb : bettO l 18 d = none := rfl
    refine bodyPost_ret (v := .tuple #[.agg #[.int .i64 18, .string d], .bool false]) (by simp [results, Try.results26, go_sem, hx]) rfl ?_
    exact ⟨18, d, by rw [hb]; rfl, fun o ho => by rw [hb] at ho; (cases ho), (by repeat' (first | (with_reducible exact Below.refl _ _) | (with_reducible refine Below.setCell ?_ (Nat.le_refl _) _) | (with_reducible apply Below.setCell) | (with_reducible apply Below.alloc) | (with_reducible apply Below.drew) | (with_reducible apply below_drewN) | (exact Nat.le_refl _) | omega | (simp; done) | (simp; omega)))⟩
  · go_enter Try.func26, Try.ntmps26
    go_wp2_with fail
    refine (value_any d _ hz).mono ?_
    rintro e w' ⟨rfl, rfl⟩
    rw [hx]
    go_wp2_with fail
    have hb : bettO l 19 d = none := rfl
    refine bodyPost_ret (v := .tuple #[.agg #[.int .i64 19, .string d], .bool false]) (by simp [results, Try.results26, go_sem, hx]) rfl ?_
    exact ⟨19, d, by rw [hb]; rfl, fun o ho => by rw [hb] at ho; (cases ho), (by repeat' (first | (with_reducible exact Below.refl _ _) | (with_reducible refine Below.setCell ?_ (Nat.le_refl _) _) | (with_reducible apply Below.setCell) | (with_reducible apply Below.alloc) | (with_reducible apply Below.drew) | (with_reducible apply below_drewN) | (exact Nat.le_refl _) | omega | (simp; done) | (simp; omega)))⟩
  · go_enter Try.func26, Try.ntmps26
    go_wp2_with fail
    refine (value_any d _ hz).mono ?_
    rintro e w' ⟨rfl, rfl⟩
    rw [hx]
    go_wp2_with fail
    have hb : bettO l k d = none := by unfold bettO; rw [if_neg (by have := of_decide_eq_false e1; have := of_decide_eq_false e3; omega), if_neg (of_decide_eq_false e2)]
    refine bodyPost_ret (v := .tuple #[.agg #[.int .i64 k, .string d], .bool false]) (by simp [results, Try.results26, go_sem, hx]) rfl ?_
    exact ⟨k, d, by rw [hb]; rfl, fun o ho => by rw [hb] at ho; (cases ho), (by repeat' (first | (with_reducible exact Below.refl _ _) | (with_reducible refine Below.setCell ?_ (Nat.le_refl _) _) | (with_reducible apply Below.setCell) | (with_reducible apply Below.alloc) | (with_reducible apply Below.drew) | (with_reducible apply below_drewN) | (exact Nat.le_refl _) | omega | (simp; done) | (simp; omega)))⟩
end Go.Proofs.Ytjmcgekegenobaa
