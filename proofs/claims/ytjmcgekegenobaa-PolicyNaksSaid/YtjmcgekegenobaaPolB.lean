/- The contracts of package policy's set, learn, better. No condition but memory's own limits. -/
import Derived.Test.YtjmcgekegenobaaPolA
namespace Go.Proofs.Ytjmcgekegenobaa
open Go.RowKit
set_option linter.unusedVariables false
set_option linter.unusedSimpArgs false
attribute [local go_sem] conv1 conv1d conv1n conv1a conv1ad conv1an conv2 conv2d conv2n conv2a conv2ad conv2an conv4 conv4d conv4n conv4a conv4ad conv4an conv5 conv5d conv5n conv5a conv5ad conv5an size_nums byt_fold
def setL (l : Lk) (k : Int) (d : ByteArray) : Lk := if k = 18 then { l with short := true } else if k = 19 then { l with disc := d } else if k = 1 then { l with mru := val d } else if k = 5 then { l with magic := val d } else if k = 17 then { l with mrru := val d } else { l with num := val d }
theorem field_still (g : Nat) (k : Int) (l : Lk) (w : World) (h : Blk w g 48 (lkC l)) (v : Value) (hv : fldP g k = v) : Calls Try.prog 20 #[.pointer (some ⟨g, 0, none⟩), .int .i64 k] w fun e w' => e = .returned v ∧ w' = w := (field_any g k l w h).mono fun e w' h => ⟨by rw [← hv]; exact h.1, h.2.symm⟩
theorem value_still (s : ByteArray) (w : World) (hz : s.size ≤ 140737488351232) : Calls Try.prog 33 #[.string s] w fun e w' => e = .returned (.int .i64 (val s)) ∧ w' = w := (value_any s w hz).mono fun e w' h => ⟨h.1, h.2.symm⟩
set_option maxRecDepth 100000 in
set_option maxHeartbeats 2000000 in
theorem set_any (g : Nat) (k : Int) (d : ByteArray) (l : Lk) (w : World) (h : Blk w g 48 (lkC l)) (hk : six k) (hz : d.size ≤ 140737488351232) : Calls Try.prog 25 #[.pointer (some ⟨g, 0, none⟩), .agg #[.int .i64 k, .string d]] w (StB g (setL l k d) w) := by
  have hlt := h.lt
  have hfr := h.frozen
  have hne : g ≠ w.heap.size := by omega
  have c0 : w.cell? ⟨g, 0, none⟩ = some (.int .i64 l.mru) := h.cell 0
  have c1 : w.cell? ⟨g, 1, none⟩ = some (.int .i64 l.magic) := h.cell 1
  have c2 : w.cell? ⟨g, 2, none⟩ = some (.int .i64 l.mrru) := h.cell 2
  have c3 : w.cell? ⟨g, 3, none⟩ = some (.bool l.short) := h.cell 3
  have c4 : w.cell? ⟨g, 4, none⟩ = some (.string l.disc) := h.cell 4
  have c5 : w.cell? ⟨g, 5, none⟩ = some (.int .i64 l.num) := h.cell 5
  have H := Lib.hid h; clear h
  rcases hk with rfl | rfl | rfl | rfl | rfl | rfl
  · go_enter Try.func25, Try.ntmps25
    go_wp2_with fail
    (refine region_tail 8 (by kernel_rfl) (by kernel_rfl) ?_; simp only [List.take_succ_cons, List.take_zero, List.drop_succ_cons, List.drop_zero]; (repeat (first | (refine wpStill_step (fun K hK => ?_); go_simp; refine hK _ ?_; clear hK K) | (refine wpStill_step (fun K hK => ?_); go_simp; refine ⟨_, (by first | exact field_still g 1 l _ (H.out.alloc _).drew (.pointer (some ⟨g, 0, none⟩)) rfl | exact value_still _ _ hz), hK _ ?_⟩; clear hK K))); refine wpStill_nil ?_)
    go_wp2_with fail
    refine bodyPost_ret (v := .tuple #[]) (by simp [results, Try.results25, go_sem]) rfl ?_
    exact ⟨rfl, by first | exact ((H.out.set_ 0 _).alloc _).drew | exact ((H.out.alloc _).drew.set_ 0 _), (by repeat' (first | (with_reducible exact gr_refl _ _) | (with_reducible exact gr_refl _ _) | (with_reducible refine gr_set ?_ (by first | (left; rfl) | (right; simp; done) | (right; simp; omega) | (left; omega)) _) | (with_reducible refine gr_alloc ?_ _) | (with_reducible refine gr_drew ?_) | (with_reducible refine gr_drewN ?_ _)))⟩
  · go_enter Try.func25, Try.ntmps25
    go_wp2_with fail
    (refine region_tail 8 (by kernel_rfl) (by kernel_rfl) ?_; simp only [List.take_succ_cons, List.take_zero, List.drop_succ_cons, List.drop_zero]; (repeat (first | (refine wpStill_step (fun K hK => ?_); go_simp; refine hK _ ?_; clear hK K) | (refine wpStill_step (fun K hK => ?_); go_simp; refine ⟨_, (by first | exact field_still g 5 l _ (H.out.alloc _).drew (.pointer (some ⟨g, 1, none⟩)) rfl | exact value_still _ _ hz), hK _ ?_⟩; clear hK K))); refine wpStill_nil ?_)
    go_wp2_with fail
    refine bodyPost_ret (v := .tuple #[]) (by simp [results, Try.results25, go_sem]) rfl ?_
    exact ⟨rfl, by first | exact ((H.out.set_ 1 _).alloc _).drew | exact ((H.out.alloc _).drew.set_ 1 _), (by repeat' (first | (with_reducible exact gr_refl _ _) | (with_reducible exact gr_refl _ _) | (with_reducible refine gr_set ?_ (by first | (left; rfl) | (right; simp; done) | (right; simp; omega) | (left; omega)) _) | (with_reducible refine gr_alloc ?_ _) | (with_reducible refine gr_drew ?_) | (with_reducible refine gr_drewN ?_ _)))⟩
  · go_enter Try.func25, Try.ntmps25
    go_wp2_with fail
    (refine region_tail 8 (by kernel_rfl) (by kernel_rfl) ?_; simp only [List.take_succ_cons, List.take_zero, List.drop_succ_cons, List.drop_zero]; (repeat (first | (refine wpStill_step (fun K hK => ?_); go_simp; refine hK _ ?_; clear hK K) | (refine wpStill_step (fun K hK => ?_); go_simp; refine ⟨_, (by first | exact field_still g 17 l _ (H.out.alloc _).drew (.pointer (some ⟨g, 2, none⟩)) rfl | exact value_still _ _ hz), hK _ ?_⟩; clear hK K))); refine wpStill_nil ?_)
    go_wp2_with fail
    refine bodyPost_ret (v := .tuple #[]) (by simp [results, Try.results25, go_sem]) rfl ?_
    exact ⟨rfl, by first | exact ((H.out.set_ 2 _).alloc _).drew | exact ((H.out.alloc _).drew.set_ 2 _), (by repeat' (first | (with_reducible exact gr_refl _ _) | (with_reducible exact gr_refl _ _) | (with_reducible refine gr_set ?_ (by first | (left; rfl) | (right; simp; done) | (right; simp; omega) | (left; omega)) _) | (with_reducible refine gr_alloc ?_ _) | (with_reducible refine gr_drew ?_) | (with_reducible refine gr_drewN ?_ _)))⟩
  · go_enter Try.func25, Try.ntmps25
    go_wp2_with fail
    (refine region_tail 8 (by kernel_rfl) (by kernel_rfl) ?_; simp only [List.take_succ_cons, List.take_zero, List.drop_succ_cons, List.drop_zero]; (repeat (first | (refine wpStill_step (fun K hK => ?_); go_simp; refine hK _ ?_; clear hK K) | (refine wpStill_step (fun K hK => ?_); go_simp; refine ⟨_, (by first | exact field_still g 23 l _ (H.out.alloc _).drew (.pointer (some ⟨g, 5, none⟩)) rfl | exact value_still _ _ hz), hK _ ?_⟩; clear hK K))); refine wpStill_nil ?_)
    go_wp2_with fail
    refine bodyPost_ret (v := .tuple #[]) (by simp [results, Try.results25, go_sem]) rfl ?_
    exact ⟨rfl, by first | exact ((H.out.set_ 5 _).alloc _).drew | exact ((H.out.alloc _).drew.set_ 5 _), (by repeat' (first | (with_reducible exact gr_refl _ _) | (with_reducible exact gr_refl _ _) | (with_reducible refine gr_set ?_ (by first | (left; rfl) | (right; simp; done) | (right; simp; omega) | (left; omega)) _) | (with_reducible refine gr_alloc ?_ _) | (with_reducible refine gr_drew ?_) | (with_reducible refine gr_drewN ?_ _)))⟩
  · go_enter Try.func25, Try.ntmps25
    go_wp2_with fail
    refine bodyPost_ret (v := .tuple #[]) (by simp [results, Try.results25, go_sem]) rfl ?_
    exact ⟨rfl, (H.out.set_ 3 _).alloc _, (by repeat' (first | (with_reducible exact gr_refl _ _) | (with_reducible exact gr_refl _ _) | (with_reducible refine gr_set ?_ (by first | (left; rfl) | (right; simp; done) | (right; simp; omega) | (left; omega)) _) | (with_reducible refine gr_alloc ?_ _) | (with_reducible refine gr_drew ?_) | (with_reducible refine gr_drewN ?_ _)))⟩
  · go_enter Try.func25, Try.ntmps25
    go_wp2_with fail
    refine bodyPost_ret (v := .tuple #[]) (by simp [results, Try.results25, go_sem]) rfl ?_
    exact ⟨rfl, (H.out.set_ 4 _).alloc _, (by repeat' (first | (with_reducible exact gr_refl _ _) | (with_reducible exact gr_refl _ _) | (with_reducible refine gr_set ?_ (by first | (left; rfl) | (right; simp; done) | (right; simp; omega) | (left; omega)) _) | (with_reducible refine gr_alloc ?_ _) | (with_reducible refine gr_drew ?_) | (with_reducible refine gr_drewN ?_ _)))⟩
def unfitB (k : Int) (d : ByteArray) : Bool := ((k == 1 || k == 17) && !unitB (val d)) || (k == 5 && val d == 0)
def learnL (l : Lk) (k : Int) (d : ByteArray) : Lk := if unfitB k d then l else setL l k d
theorem StB.of {g : Nat} {l l' : Lk} {w w' : World} {e : Ending} (hg : w.grownBy w' (some g)) {w2 : World} (h : StB g l w' e w2) (hl : l = l') : StB g l' w e w2 := by
  subst hl
  exact ⟨h.1, h.2.1, gr_trans hg h.2.2⟩
set_option maxRecDepth 100000 in
set_option maxHeartbeats 2000000 in
theorem learn_any (g : Nat) (k : Int) (d : ByteArray) (l : Lk) (w : World) (h : Blk w g 48 (lkC l)) (hk : six k) (hz : d.size ≤ 140737488351232) : Calls Try.prog 29 #[.pointer (some ⟨g, 0, none⟩), .agg #[.int .i64 k, .string d]] w (StB g (learnL l k d) w) := by
  have hlt := h.lt
  have hne : g ≠ w.heap.size := by omega
  have H := Lib.hid h; clear h
  obtain ⟨x, hx⟩ : ∃ x, val d = x := ⟨_, rfl⟩
  obtain ⟨p, hp⟩ : ∃ p, unitB x = p := ⟨_, rfl⟩
  obtain ⟨q, hq⟩ : ∃ q, (x == 0) = q := ⟨_, rfl⟩
  have HK := Lib.hid hk
  rcases hk with rfl | rfl | rfl | rfl | rfl | rfl
  all_goals cases p <;> cases q
  all_goals
    go_enter Try.func29, Try.ntmps29
    go_wp2_with fail
    refine (value_any d _ hz).mono ?_
    rintro e w' ⟨rfl, rfl⟩
    rw [hx]
    go_wp2_with (first | (go_at_call 30; refine (unit_any _ _).mono ?_; rintro e w' ⟨rfl, rfl⟩; rw [hp]))
    first
    | (refine bodyPost_ret (v := .tuple #[]) (by simp [results, Try.results29, go_sem]) rfl ?_
       refine ⟨rfl, ?_, gr_alloc (gr_refl _ _) _⟩
       rw [show learnL l _ d = l from by unfold learnL unfitB; rw [hx, hp, hq]; rfl]
       exact H.out.alloc _)
    | (refine (set_any g _ d l _ (H.out.alloc _) HK.out hz).mono ?_
       rintro e w2 h2
       have H2 := Lib.hid h2; clear h2
       obtain ⟨rfl, -, -⟩ := H2.out
       go_wp2_with fail
       refine bodyPost_ret (v := .tuple #[]) (by simp [results, Try.results29, go_sem]) rfl ?_
       exact StB.of (gr_alloc (gr_refl _ _) _) H2.out (by unfold learnL unfitB; rw [hx, hp, hq]; rfl))
end Go.Proofs.Ytjmcgekegenobaa
