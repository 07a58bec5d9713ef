/- The contracts of the reference's NewProof, Start, Again: as package chap's. No condition but what a side keeps. -/
import Derived.Test.YtdfefpbpfneahaaPrfE
namespace Go.Proofs.Ytdfefpbpfneahaa
open Go.RowKit
set_option linter.unusedVariables false
set_option linter.unusedSimpArgs false
attribute [local go_sem] conv1 conv1d conv1n conv1a conv1ad conv1an conv2 conv2d conv2n conv2a conv2ad conv2an conv4 conv4d conv4n conv4a conv4ad conv4an conv5 conv5d conv5n conv5a conv5ad conv5an size_nums byt_fold
def rsC (s : PS) : Array Value := #[.bool s.pr, .bool s.tk, .bool s.fl, .string s.nm, .string s.se, .string s.ex, .string s.ch, .int .i64 s.left]
def RAt (w : World) (g : Nat) (s : PS) : Prop := Blk w g 56 (rsC s)
theorem RAt.cells {w : World} {g : Nat} {s : PS} (h : RAt w g s) : w.cell? ⟨g, 0, none⟩ = some (.bool s.pr) ∧ w.cell? ⟨g, 1, none⟩ = some (.bool s.tk) ∧ w.cell? ⟨g, 2, none⟩ = some (.bool s.fl) ∧ w.cell? ⟨g, 3, none⟩ = some (.string s.nm) ∧ w.cell? ⟨g, 4, none⟩ = some (.string s.se) ∧ w.cell? ⟨g, 5, none⟩ = some (.string s.ex) ∧ w.cell? ⟨g, 6, none⟩ = some (.string s.ch) ∧ w.cell? ⟨g, 7, none⟩ = some (.int .i64 s.left) :=
  ⟨Blk.cell h 0, Blk.cell h 1, Blk.cell h 2, Blk.cell h 3, Blk.cell h 4, Blk.cell h 5, Blk.cell h 6, Blk.cell h 7⟩
/-- What a side keeps. -/
structure Inv (s : PS) : Prop where
  st : s.st = !s.ch.toList.isEmpty
  ch : s.ch.size ≤ 255
  ex : s.ex.size ≤ 64
  se : s.se.size ≤ 64
  left : s.fl = false → 1 ≤ s.left ∧ s.left ≤ 10
theorem rmay_any (s : ByteArray) (w : World) : Calls Try.prog 30 #[.string s] w fun e w' => e = .returned (.bool (mayB s)) ∧ w = w' := by
  by_cases h1 : 1 ≤ s.size
  · have hm : mayB s = decide ((s.size : Int) ≤ 64) := by unfold mayB; rw [decide_eq_decide]; omega
    rw [hm]
    go_enter Try.func30, Try.ntmps30
    go_wp2
    go_ret
    exact ⟨rfl, rfl⟩
  · have hm : mayB s = false := by unfold mayB; exact decide_eq_false (by omega)
    rw [hm]
    go_enter Try.func30, Try.ntmps30
    go_wp2
    go_ret
    exact ⟨rfl, rfl⟩
set_option maxHeartbeats 1000000 in
theorem rnew_bad (nm se ex : ByteArray) (tries : Int) (w : World) (h : newB nm se ex tries = false) :
    Calls Try.prog 19 #[.string nm, .string se, .string ex, .int .i64 tries] w fun e w' => e = .returned (.tuple #[.pointer none, .int .i64 1600]) ∧ w = w' := by
  by_cases h1 : nm.size ≤ 32
  case neg =>
    have h1' : 32 < nm.size := by omega
    clear h
    cases h2 : mayB se
    all_goals
      go_enter Try.func19, Try.ntmps19
      go_wp2_with (first | (go_at_call 30; refine (rmay_any _ _).mono ?_; rintro e w' ⟨rfl, rfl⟩))
      go_ret2
      exact ⟨rfl, rfl⟩
  cases h2 : mayB se
  · clear h
    go_enter Try.func19, Try.ntmps19
    go_wp2_with (first | (go_at_call 30; refine (rmay_any _ _).mono ?_; rintro e w' ⟨rfl, rfl⟩))
    go_ret2
    exact ⟨rfl, rfl⟩
  cases h3 : mayB ex
  · clear h
    go_enter Try.func19, Try.ntmps19
    go_wp2_with (first | (go_at_call 30; refine (rmay_any _ _).mono ?_; rintro e w' ⟨rfl, rfl⟩))
    go_ret2
    exact ⟨rfl, rfl⟩
  have h4 : tries < 1 ∨ 10 < tries := by
    unfold newB at h; rw [h2, h3, decide_eq_true h1] at h; simp at h; omega
  clear h
  rcases h4 with h4 | h4
  all_goals
    go_enter Try.func19, Try.ntmps19
    go_wp2_with (first | (go_at_call 30; refine (rmay_any _ _).mono ?_; rintro e w' ⟨rfl, rfl⟩))
    go_ret2
    exact ⟨rfl, rfl⟩
set_option maxHeartbeats 1000000 in
theorem rnew_ok (nm se ex : ByteArray) (tries : Int) (w : World) (h : newB nm se ex tries = true) :
    Calls Try.prog 19 #[.string nm, .string se, .string ex, .int .i64 tries] w fun e w' => e = .returned (.tuple #[.pointer (some ⟨w.heap.size, 0, none⟩), .int .i64 0]) ∧ RAt w' w.heap.size ⟨ex, ⟨#[]⟩, tries, false, false, nm, se, false, false⟩ ∧ Below w.heap.size w w' := by
  unfold newB at h
  simp only [Bool.and_eq_true, decide_eq_true_eq] at h
  obtain ⟨⟨⟨h1, h2⟩, h3⟩, h4, h5⟩ := h
  go_enter Try.func19, Try.ntmps19
  go_wp2_with (first | (go_at_call 30; refine (rmay_any _ _).mono ?_; rintro e w' ⟨rfl, rfl⟩))
  go_ret2
  exact ⟨rfl, Blk.new _ _ _, (Below.refl _ _).alloc (Nat.le_refl _) _⟩
set_option maxRecDepth 100000 in
set_option maxHeartbeats 1000000 in
theorem rask_any (g : Nat) (s : PS) (w : World) (hp : RAt w g s) : Calls Try.prog 31 #[.pointer (some ⟨g, 0, none⟩)] w fun e w' => e = .returned (.agg #[.int .i64 1, .int .i64 1, .string s.ch, .string s.nm]) ∧ Below w.heap.size w w' := by
  obtain ⟨c0, c1, c2, c3, c4, c5, c6, c7⟩ := hp.cells
  have hlt := Blk.lt hp
  clear hp
  go_enter Try.func31, Try.ntmps31
  go_wp2_with fail
  (refine region_tail 9 (by kernel_rfl) (by kernel_rfl) ?_; simp only [List.take_succ_cons, List.take_zero, List.drop_succ_cons, List.drop_zero]; (repeat (first | (refine wpStill_step (fun K hK => ?_); go_simp; refine hK _ ?_; clear hK K) | (refine wpStill_step (fun K hK => ?_); go_simp; refine ⟨_, rfl, hK _ ?_⟩; clear hK K))); refine wpStill_nil ?_)
  go_wp2_with fail
  refine bodyPost_ret (v := .agg #[.int .i64 1, .int .i64 1, .string s.ch, .string s.nm]) (by simp [results, Try.results31, go_sem]) rfl ?_
  exact ⟨rfl, (by repeat' (first | (with_reducible exact Below.refl _ _) | (with_reducible apply Below.drew) | (with_reducible apply below_drewN) | (with_reducible apply Below.setCell) | (with_reducible apply Below.alloc) | (with_reducible refine below_step ?_ (by assumption) ?_) | omega | (simp; done) | (simp; omega)))⟩
def RSt (s : PS) (c : ByteArray) (g : Nat) (w : World) (e : Ending) (w' : World) : Prop := e = .returned (.tuple #[pStV s c, .int .i64 (pStE s c)]) ∧ RAt w' g (pSt s c) ∧ w.grownBy w' (some g)
theorem RSt.bad {s : PS} {c : ByteArray} {g : Nat} {w w' : World} {x : Int} (hp : RAt w' g s) (hg : w.grownBy w' (some g)) (hx : pStE s c = x) (h0 : x ≠ 0) : RSt s c g w (.returned (.tuple #[.agg #[.int .i64 0, .int .i64 0, .string ⟨#[]⟩, .string ⟨#[]⟩], .int .i64 x])) w' := by
  subst hx
  refine ⟨?_, ?_, hg⟩
  · unfold pStV; rw [if_neg h0]; rfl
  · unfold pSt; rw [if_neg h0]; exact hp
theorem RSt.good {s : PS} {c : ByteArray} {g : Nat} {w w' : World} (hx : pStE s c = 0) (hp : RAt w' g { s with ch := c, st := true }) (hg : w.grownBy w' (some g)) : RSt s c g w (.returned (.tuple #[.agg #[.int .i64 1, .int .i64 1, .string c, .string s.nm], .int .i64 0])) w' := by
  refine ⟨?_, ?_, hg⟩
  · unfold pStV; rw [if_pos hx, hx]; rfl
  · unfold pSt; rw [if_pos hx]; exact hp
theorem rsC6 (ex ch : ByteArray) (left : Int) (st pr : Bool) (nm se : ByteArray) (tk fl : Bool) (c : ByteArray) (b : Bool) : (rsC ⟨ex, ch, left, st, pr, nm, se, tk, fl⟩).setIfInBounds 6 (.string c) = rsC ⟨ex, c, left, b, pr, nm, se, tk, fl⟩ := rfl
set_option maxHeartbeats 1000000 in
theorem rstart_any (g : Nat) (s : PS) (c : ByteArray) (w : World) (hp : RAt w g s) (hi : Inv s) : Calls Try.prog 20 #[.pointer (some ⟨g, 0, none⟩), .string c] w (RSt s c g w) := by
  obtain ⟨ex, ch, left, st, pr, nm, se, tk, fl⟩ := s
  obtain ⟨c0, c1, c2, c3, c4, c5, c6, c7⟩ := hp.cells
  have hst := hi.st
  simp only at hst c0 c1 c2 c3 c4 c5 c6 c7
  clear hi
  have hfr := Blk.frozen hp
  have hlt := Blk.lt hp
  have HP := Lib.hid hp; clear hp
  have hpa : ∀ o, RAt (w.alloc o) g ⟨ex, ch, left, st, pr, nm, se, tk, fl⟩ := fun o => HP.out.alloc o
  have HPA := Lib.hid hpa; clear hpa
  by_cases h1 : 1 ≤ c.size
  case neg =>
    have h1' : c.size < 1 := by omega
    clear hst
    go_enter Try.func20, Try.ntmps20
    go_wp2_with fail
    refine bodyPost_ret (v := .tuple #[.agg #[.int .i64 0, .int .i64 0, .string ⟨#[]⟩, .string ⟨#[]⟩], .int .i64 1600]) (by simp [results, Try.results20, go_sem]) rfl ?_
    exact RSt.bad (HPA.out _) (gr_alloc (gr_refl _ _) _) (by unfold pStE; rw [if_neg (by omega)]) (by decide)
  by_cases h2 : c.size ≤ 255
  case neg =>
    have h2' : 255 < c.size := by omega
    clear hst
    go_enter Try.func20, Try.ntmps20
    go_wp2_with fail
    refine bodyPost_ret (v := .tuple #[.agg #[.int .i64 0, .int .i64 0, .string ⟨#[]⟩, .string ⟨#[]⟩], .int .i64 1600]) (by simp [results, Try.results20, go_sem]) rfl ?_
    exact RSt.bad (HPA.out _) (gr_alloc (gr_refl _ _) _) (by unfold pStE; rw [if_neg (by omega)]) (by decide)
  cases hx : st || fl
  case true =>
    have h3 : ch.toList.isEmpty = false ∨ (ch.toList.isEmpty = true ∧ fl = true) := by rw [hst] at hx; cases h : ch.toList.isEmpty <;> simp_all
    have HX : Hid (pStE ⟨ex, ch, left, st, pr, nm, se, tk, fl⟩ c = 1601) := Lib.hid (by unfold pStE; rw [if_pos (by omega), if_pos hx])
    clear hx hst
    rcases h3 with h3 | ⟨h3, rfl⟩
    all_goals
      go_enter Try.func20, Try.ntmps20
      go_wp2_with fail
      refine bodyPost_ret (v := .tuple #[.agg #[.int .i64 0, .int .i64 0, .string ⟨#[]⟩, .string ⟨#[]⟩], .int .i64 1601]) (by simp [results, Try.results20, go_sem]) rfl ?_
      exact RSt.bad (HPA.out _) (gr_alloc (gr_refl _ _) _) HX.out (by decide)
  obtain ⟨rfl, rfl⟩ : st = false ∧ fl = false := by simpa using hx
  have h3 : ch.toList.isEmpty = true := by
    cases h : ch.toList.isEmpty
    · rw [h] at hst; cases hst
    · rfl
  clear hx hst
  go_enter Try.func20, Try.ntmps20
  go_wp2_with fail
  have hp2 : RAt ((w.setCell ⟨g, 6, none⟩ (.string c)).alloc (.cells #[.int .i64 0, .int .i64 0, .string ⟨#[]⟩, .string ⟨#[]⟩] 33)) g ⟨ex, c, left, true, pr, nm, se, tk, false⟩ := by
    have h := Blk.set_ HP.out 6 (.string c)
    rw [rsC6 _ _ _ _ _ _ _ _ _ _ true] at h
    exact Blk.alloc h _
  refine (rask_any g _ _ hp2).mono ?_
  rintro e w1 ⟨rfl, hb1⟩
  obtain ⟨hc1, hf1⟩ := bcell hb1
  have hz1 := hb1.size
  simp at hz1
  have z1 : w.heap.size < w1.heap.size := by omega
  have hb3 : Blk w1 g 56 (rsC ⟨ex, c, left, true, pr, nm, se, tk, false⟩) := Blk.keep hp2 hb1
  have hg3 : w.grownBy w1 (some g) := gr_below (by repeat' (first | (with_reducible exact gr_refl w g) | (with_reducible exact gr_refl _ _) | (with_reducible refine gr_set ?_ (by first | (left; rfl) | (right; simp; done) | (right; simp; omega) | (left; omega)) _) | (with_reducible refine gr_alloc ?_ _) | (with_reducible refine gr_drew ?_) | (with_reducible refine gr_drewN ?_ _))) hb1
  have HB3 := Lib.hid hb3; have HG3 := Lib.hid hg3; clear hb3 hg3
  have r0 : w1.cell? ⟨w.heap.size, 0, none⟩ = some (.int .i64 0) := (by repeat' (first | (with_reducible refine cell1 ?_) | (with_reducible exact hb1) | (with_reducible refine cellK hb1 ?_) | ((with_reducible refine cell0 ?hb ?hv); (case hb => first | rfl | (simp; done)); (case hv => rfl)) | (with_reducible refine cellA ?_) | (with_reducible refine cellD ?_) | (with_reducible refine cellN ?_) | ((with_reducible refine cellS ?hn ?_); (case hn => first | (left; omega) | (right; omega) | (left; simp; omega))) | ((with_reducible refine has0 ?hb ?hv); (case hb => first | rfl | (simp; done)); (case hv => rfl)) | (with_reducible refine hasA ?_) | (with_reducible refine hasD ?_) | (with_reducible refine hasN ?_) | (with_reducible refine hasK hb1 ?_) | (with_reducible refine hasS ?_)))
  have r1 : w1.cell? ⟨w.heap.size, 1, none⟩ = some (.int .i64 0) := (by repeat' (first | (with_reducible refine cell1 ?_) | (with_reducible exact hb1) | (with_reducible refine cellK hb1 ?_) | ((with_reducible refine cell0 ?hb ?hv); (case hb => first | rfl | (simp; done)); (case hv => rfl)) | (with_reducible refine cellA ?_) | (with_reducible refine cellD ?_) | (with_reducible refine cellN ?_) | ((with_reducible refine cellS ?hn ?_); (case hn => first | (left; omega) | (right; omega) | (left; simp; omega))) | ((with_reducible refine has0 ?hb ?hv); (case hb => first | rfl | (simp; done)); (case hv => rfl)) | (with_reducible refine hasA ?_) | (with_reducible refine hasD ?_) | (with_reducible refine hasN ?_) | (with_reducible refine hasK hb1 ?_) | (with_reducible refine hasS ?_)))
  have r2 : w1.cell? ⟨w.heap.size, 2, none⟩ = some (.string ⟨#[]⟩) := (by repeat' (first | (with_reducible refine cell1 ?_) | (with_reducible exact hb1) | (with_reducible refine cellK hb1 ?_) | ((with_reducible refine cell0 ?hb ?hv); (case hb => first | rfl | (simp; done)); (case hv => rfl)) | (with_reducible refine cellA ?_) | (with_reducible refine cellD ?_) | (with_reducible refine cellN ?_) | ((with_reducible refine cellS ?hn ?_); (case hn => first | (left; omega) | (right; omega) | (left; simp; omega))) | ((with_reducible refine has0 ?hb ?hv); (case hb => first | rfl | (simp; done)); (case hv => rfl)) | (with_reducible refine hasA ?_) | (with_reducible refine hasD ?_) | (with_reducible refine hasN ?_) | (with_reducible refine hasK hb1 ?_) | (with_reducible refine hasS ?_)))
  have r3 : w1.cell? ⟨w.heap.size, 3, none⟩ = some (.string ⟨#[]⟩) := (by repeat' (first | (with_reducible refine cell1 ?_) | (with_reducible exact hb1) | (with_reducible refine cellK hb1 ?_) | ((with_reducible refine cell0 ?hb ?hv); (case hb => first | rfl | (simp; done)); (case hv => rfl)) | (with_reducible refine cellA ?_) | (with_reducible refine cellD ?_) | (with_reducible refine cellN ?_) | ((with_reducible refine cellS ?hn ?_); (case hn => first | (left; omega) | (right; omega) | (left; simp; omega))) | ((with_reducible refine has0 ?hb ?hv); (case hb => first | rfl | (simp; done)); (case hv => rfl)) | (with_reducible refine hasA ?_) | (with_reducible refine hasD ?_) | (with_reducible refine hasN ?_) | (with_reducible refine hasK hb1 ?_) | (with_reducible refine hasS ?_)))
  go_wp2_with fail
  refine bodyPost_ret (v := .tuple #[.agg #[.int .i64 1, .int .i64 1, .string c, .string nm], .int .i64 0]) (by simp [results, Try.results20, go_sem, r0, r1, r2, r3]) rfl ?_
  refine RSt.good (by unfold pStE; rw [if_pos (by omega)]; rfl) ?_ ?_
  · show Blk _ g 56 (rsC ⟨ex, c, left, true, pr, nm, se, tk, false⟩)
    exact (by repeat' (first | (with_reducible exact HB3.out) | (with_reducible refine Blk.far ?_ (by first | omega | (simp; done) | (simp; omega)) _) | (with_reducible refine Blk.alloc ?_ _) | (with_reducible refine Blk.drew ?_) | (with_reducible refine Blk.drewN ?_ _)))
  · exact (by repeat' (first | (with_reducible exact HG3.out) | (with_reducible exact gr_refl _ _) | (with_reducible refine gr_set ?_ (by first | (left; rfl) | (right; simp; done) | (right; simp; omega) | (left; omega)) _) | (with_reducible refine gr_alloc ?_ _) | (with_reducible refine gr_drew ?_) | (with_reducible refine gr_drewN ?_ _)))
end Go.Proofs.Ytdfefpbpfneahaa
