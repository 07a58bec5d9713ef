/- The contracts of package chap's New, Start, Again and what a side tells. No condition. -/
import Derived.Test.YtdfefpbpfneahaaPrf
import Derived.Test.YtdfefpbpfneahaaStill
import Derived.Test.YtdfefpbpfneahaaCells
namespace Go.Proofs.Ytdfefpbpfneahaa
open Go.RowKit
set_option linter.unusedVariables false
set_option linter.unusedSimpArgs false
attribute [local go_sem] conv1 conv1d conv1n conv1a conv1ad conv1an conv2 conv2d conv2n conv2a conv2ad conv2an conv4 conv4d conv4n conv4a conv4ad conv4an conv5 conv5d conv5n conv5a conv5ad conv5an size_nums byt_fold
def mayB (s : ByteArray) : Bool := decide (1 ≤ s.size ∧ s.size ≤ 64)
theorem may_any (s : ByteArray) (w : World) : Calls Try.prog 24 #[.string s] w fun e w' => e = .returned (.bool (mayB s)) ∧ w = w' := by
  by_cases h1 : 1 ≤ s.size
  · have hm : mayB s = decide ((s.size : Int) ≤ 64) := by unfold mayB; rw [decide_eq_decide]; omega
    rw [hm]
    go_enter Try.func24, Try.ntmps24
    go_wp2
    go_ret
    exact ⟨rfl, rfl⟩
  · have hm : mayB s = false := by unfold mayB; exact decide_eq_false (by omega)
    rw [hm]
    go_enter Try.func24, Try.ntmps24
    go_wp2
    go_ret
    exact ⟨rfl, rfl⟩
def newB (nm se ex : ByteArray) (tries : Int) : Bool := decide (nm.size ≤ 32) && mayB se && mayB ex && decide (1 ≤ tries ∧ tries ≤ 10)
set_option maxHeartbeats 1000000 in
theorem pnew_bad (nm se ex : ByteArray) (tries : Int) (w : World) (h : newB nm se ex tries = false) :
    Calls Try.prog 10 #[.string nm, .string se, .string ex, .int .i64 tries] w fun e w' => e = .returned (.tuple #[.pointer none, .int .i64 1600]) ∧ w = w' := by
  by_cases h1 : nm.size ≤ 32
  case neg =>
    have h1' : 32 < nm.size := by omega
    clear h
    go_enter Try.func10, Try.ntmps10
    go_wp2_with (first | (go_at_call 24; refine (may_any _ _).mono ?_; rintro e w' ⟨rfl, rfl⟩))
    go_ret2
    exact ⟨rfl, rfl⟩
  cases h2 : mayB se
  · clear h
    go_enter Try.func10, Try.ntmps10
    go_wp2_with (first | (go_at_call 24; refine (may_any _ _).mono ?_; rintro e w' ⟨rfl, rfl⟩))
    go_ret2
    exact ⟨rfl, rfl⟩
  cases h3 : mayB ex
  · clear h
    go_enter Try.func10, Try.ntmps10
    go_wp2_with (first | (go_at_call 24; refine (may_any _ _).mono ?_; rintro e w' ⟨rfl, rfl⟩))
    go_ret2
    exact ⟨rfl, rfl⟩
  have h4 : tries < 1 ∨ 10 < tries := by
    unfold newB at h; rw [h2, h3, decide_eq_true h1] at h; simp at h; omega
  clear h
  rcases h4 with h4 | h4
  all_goals
    go_enter Try.func10, Try.ntmps10
    go_wp2_with (first | (go_at_call 24; refine (may_any _ _).mono ?_; rintro e w' ⟨rfl, rfl⟩))
    go_ret2
    exact ⟨rfl, rfl⟩
set_option maxHeartbeats 1000000 in
theorem pnew_ok (nm se ex : ByteArray) (tries : Int) (w : World) (h : newB nm se ex tries = true) :
    Calls Try.prog 10 #[.string nm, .string se, .string ex, .int .i64 tries] w fun e w' => e = .returned (.tuple #[.pointer (some ⟨w.heap.size, 0, none⟩), .int .i64 0]) ∧ PAt w' w.heap.size ⟨ex, ⟨#[]⟩, tries, false, false, nm, se, false, false⟩ ∧ Below w.heap.size w w' := by
  unfold newB at h
  simp only [Bool.and_eq_true, decide_eq_true_eq] at h
  obtain ⟨⟨⟨h1, h2⟩, h3⟩, h4, h5⟩ := h
  go_enter Try.func10, Try.ntmps10
  go_wp2_with (first | (go_at_call 24; refine (may_any _ _).mono ?_; rintro e w' ⟨rfl, rfl⟩))
  go_ret2
  exact ⟨rfl, Blk.new _ _ _, (Below.refl _ _).alloc (Nat.le_refl _) _⟩
def chV (c i : Int) (v n : ByteArray) : Value := .agg #[.int .i64 c, .int .i64 i, .string v, .string n]
def pStE (s : PS) (c : ByteArray) : Int := if 1 ≤ c.size ∧ c.size ≤ 255 then (if s.st || s.fl then 1601 else 0) else 1600
def pSt (s : PS) (c : ByteArray) : PS := if pStE s c = 0 then { s with ch := c, st := true } else s
def pStV (s : PS) (c : ByteArray) : Value := if pStE s c = 0 then chV 1 1 c s.nm else chV 0 0 ⟨#[]⟩ ⟨#[]⟩
def PSt (s : PS) (c : ByteArray) (g : Nat) (w : World) (e : Ending) (w' : World) : Prop := e = .returned (.tuple #[pStV s c, .int .i64 (pStE s c)]) ∧ PAt w' g (pSt s c) ∧ w.grownBy w' (some g)
theorem PSt.bad {s : PS} {c : ByteArray} {g : Nat} {w w' : World} {x : Int} (hp : PAt w' g s) (hg : w.grownBy w' (some g)) (hx : pStE s c = x) (h0 : x ≠ 0) : PSt s c g w (.returned (.tuple #[.agg #[.int .i64 0, .int .i64 0, .string ⟨#[]⟩, .string ⟨#[]⟩], .int .i64 x])) w' := by
  subst hx
  refine ⟨?_, ?_, hg⟩
  · unfold pStV; rw [if_neg h0]; rfl
  · unfold pSt; rw [if_neg h0]; exact hp
theorem PSt.good {s : PS} {c : ByteArray} {g : Nat} {w w' : World} (hx : pStE s c = 0) (hp : PAt w' g { s with ch := c, st := true }) (hg : w.grownBy w' (some g)) : PSt s c g w (.returned (.tuple #[.agg #[.int .i64 1, .int .i64 1, .string c, .string s.nm], .int .i64 0])) w' := by
  refine ⟨?_, ?_, hg⟩
  · unfold pStV; rw [if_pos hx, hx]; rfl
  · unfold pSt; rw [if_pos hx]; exact hp
set_option maxRecDepth 100000 in
set_option maxHeartbeats 1000000 in
theorem ask_any (g : Nat) (s : PS) (w : World) (hp : PAt w g s) : Calls Try.prog 29 #[.pointer (some ⟨g, 0, none⟩)] w fun e w' => e = .returned (.agg #[.int .i64 1, .int .i64 1, .string s.ch, .string s.nm]) ∧ Below w.heap.size w w' := by
  obtain ⟨c0, c1, c2, c3, c4, c5, c6, c7, c8⟩ := hp.cells
  have hlt := Blk.lt hp
  clear hp
  go_enter Try.func29, Try.ntmps29
  go_wp2_with fail
  (refine region_tail 11 (by kernel_rfl) (by kernel_rfl) ?_; simp only [List.take_succ_cons, List.take_zero, List.drop_succ_cons, List.drop_zero]; (repeat (first | (refine wpStill_step (fun K hK => ?_); go_simp; refine hK _ ?_; clear hK K) | (refine wpStill_step (fun K hK => ?_); go_simp; refine ⟨_, rfl, hK _ ?_⟩; clear hK K))); refine wpStill_nil ?_)
  go_wp2_with fail
  refine bodyPost_ret (v := .agg #[.int .i64 1, .int .i64 1, .string s.ch, .string s.nm]) (by simp [results, Try.results29, go_sem]) rfl ?_
  exact ⟨rfl, (by repeat' (first | (with_reducible exact Below.refl _ _) | (with_reducible apply Below.drew) | (with_reducible apply below_drewN) | (with_reducible apply Below.setCell) | (with_reducible apply Below.alloc) | (with_reducible refine below_step ?_ (by assumption) ?_) | omega | (simp; done) | (simp; omega)))⟩
theorem psC1 (ex ch : ByteArray) (left : Int) (st pr : Bool) (nm se : ByteArray) (tk fl : Bool) (c : ByteArray) : ((psC ⟨ex, ch, left, st, pr, nm, se, tk, fl⟩).setIfInBounds 3 (.bool true)).setIfInBounds 1 (.string c) = psC ⟨ex, c, left, true, pr, nm, se, tk, fl⟩ := rfl
set_option maxHeartbeats 1000000 in
theorem start_any (g : Nat) (s : PS) (c : ByteArray) (w : World) (hp : PAt w g s) : Calls Try.prog 18 #[.pointer (some ⟨g, 0, none⟩), .string c] w (PSt s c g w) := by
  obtain ⟨ex, ch, left, st, pr, nm, se, tk, fl⟩ := s
  obtain ⟨c0, c1, c2, c3, c4, c5, c6, c7, c8⟩ := hp.cells
  have hfr := Blk.frozen hp
  have hlt := Blk.lt hp
  have HP := Lib.hid hp; clear hp
  have hpa : ∀ o, PAt (w.alloc o) g ⟨ex, ch, left, st, pr, nm, se, tk, fl⟩ := fun o => HP.out.alloc o
  have HPA := Lib.hid hpa; clear hpa
  by_cases h1 : 1 ≤ c.size
  case neg =>
    have h1' : c.size < 1 := by omega
    go_enter Try.func18, Try.ntmps18
    go_wp2_with fail
    refine bodyPost_ret (v := .tuple #[.agg #[.int .i64 0, .int .i64 0, .string ⟨#[]⟩, .string ⟨#[]⟩], .int .i64 1600]) (by simp [results, Try.results18, go_sem]) rfl ?_
    exact PSt.bad (HPA.out _) (gr_alloc (gr_refl _ _) _) (by unfold pStE; rw [if_neg (by omega)]) (by decide)
  by_cases h2 : c.size ≤ 255
  case neg =>
    have h2' : 255 < c.size := by omega
    go_enter Try.func18, Try.ntmps18
    go_wp2_with fail
    refine bodyPost_ret (v := .tuple #[.agg #[.int .i64 0, .int .i64 0, .string ⟨#[]⟩, .string ⟨#[]⟩], .int .i64 1600]) (by simp [results, Try.results18, go_sem]) rfl ?_
    exact PSt.bad (HPA.out _) (gr_alloc (gr_refl _ _) _) (by unfold pStE; rw [if_neg (by omega)]) (by decide)
  cases hst : st || fl
  case true =>
    have h3 : st = true ∨ (st = false ∧ fl = true) := by cases st <;> simp_all
    rcases h3 with rfl | ⟨rfl, rfl⟩
    all_goals
      go_enter Try.func18, Try.ntmps18
      go_wp2_with fail
      refine bodyPost_ret (v := .tuple #[.agg #[.int .i64 0, .int .i64 0, .string ⟨#[]⟩, .string ⟨#[]⟩], .int .i64 1601]) (by simp [results, Try.results18, go_sem]) rfl ?_
      exact PSt.bad (HPA.out _) (gr_alloc (gr_refl _ _) _) (by unfold pStE; rw [if_pos (by omega)]; rfl) (by decide)
  obtain ⟨rfl, rfl⟩ : st = false ∧ fl = false := by simpa using hst
  clear hst
  go_enter Try.func18, Try.ntmps18
  go_wp2_with fail
  have hp2 : PAt (((w.setCell ⟨g, 3, none⟩ (.bool true)).setCell ⟨g, 1, none⟩ (.string c)).alloc (.cells #[.int .i64 0, .int .i64 0, .string ⟨#[]⟩, .string ⟨#[]⟩] 33)) g ⟨ex, c, left, true, pr, nm, se, tk, false⟩ := by
    have h := Blk.set_ (Blk.set_ HP.out 3 (.bool true)) 1 (.string c)
    rw [psC1] at h
    exact Blk.alloc h _
  refine (ask_any g _ _ hp2).mono ?_
  rintro e w1 ⟨rfl, hb1⟩
  obtain ⟨hc1, hf1⟩ := bcell hb1
  have hz1 := hb1.size
  simp at hz1
  have hb3 : Blk w1 g 66 (psC ⟨ex, c, left, true, pr, nm, se, tk, false⟩) := Blk.keep hp2 hb1
  have hg3 : w.grownBy w1 (some g) := gr_below (by repeat' (first | (with_reducible exact gr_refl w g) | (with_reducible exact gr_refl _ _) | (with_reducible refine gr_set ?_ (by first | (left; rfl) | (right; simp; done) | (right; simp; omega) | (left; omega)) _) | (with_reducible refine gr_alloc ?_ _) | (with_reducible refine gr_drew ?_) | (with_reducible refine gr_drewN ?_ _))) hb1
  have HB3 := Lib.hid hb3; have HG3 := Lib.hid hg3; clear hb3 hg3
  have z1 : w.heap.size < w1.heap.size := by omega
  have r0 : w1.cell? ⟨w.heap.size, 0, none⟩ = some (.int .i64 0) := (by repeat' (first | (with_reducible refine cell1 ?_) | (with_reducible exact hb1) | (with_reducible refine cellK hb1 ?_) | ((with_reducible refine cell0 ?hb ?hv); (case hb => first | rfl | (simp; done)); (case hv => rfl)) | (with_reducible refine cellA ?_) | (with_reducible refine cellD ?_) | (with_reducible refine cellN ?_) | ((with_reducible refine cellS ?hn ?_); (case hn => first | (left; omega) | (right; omega) | (left; simp; omega))) | ((with_reducible refine has0 ?hb ?hv); (case hb => first | rfl | (simp; done)); (case hv => rfl)) | (with_reducible refine hasA ?_) | (with_reducible refine hasD ?_) | (with_reducible refine hasN ?_) | (with_reducible refine hasK hb1 ?_) | (with_reducible refine hasS ?_)))
  have r1 : w1.cell? ⟨w.heap.size, 1, none⟩ = some (.int .i64 0) := (by repeat' (first | (with_reducible refine cell1 ?_) | (with_reducible exact hb1) | (with_reducible refine cellK hb1 ?_) | ((with_reducible refine cell0 ?hb ?hv); (case hb => first | rfl | (simp; done)); (case hv => rfl)) | (with_reducible refine cellA ?_) | (with_reducible refine cellD ?_) | (with_reducible refine cellN ?_) | ((with_reducible refine cellS ?hn ?_); (case hn => first | (left; omega) | (right; omega) | (left; simp; omega))) | ((with_reducible refine has0 ?hb ?hv); (case hb => first | rfl | (simp; done)); (case hv => rfl)) | (with_reducible refine hasA ?_) | (with_reducible refine hasD ?_) | (with_reducible refine hasN ?_) | (with_reducible refine hasK hb1 ?_) | (with_reducible refine hasS ?_)))
  have r2 : w1.cell? ⟨w.heap.size, 2, none⟩ = some (.string ⟨#[]⟩) := (by repeat' (first | (with_reducible refine cell1 ?_) | (with_reducible exact hb1) | (with_reducible refine cellK hb1 ?_) | ((with_reducible refine cell0 ?hb ?hv); (case hb => first | rfl | (simp; done)); (case hv => rfl)) | (with_reducible refine cellA ?_) | (with_reducible refine cellD ?_) | (with_reducible refine cellN ?_) | ((with_reducible refine cellS ?hn ?_); (case hn => first | (left; omega) | (right; omega) | (left; simp; omega))) | ((with_reducible refine has0 ?hb ?hv); (case hb => first | rfl | (simp; done)); (case hv => rfl)) | (with_reducible refine hasA ?_) | (with_reducible refine hasD ?_) | (with_reducible refine hasN ?_) | (with_reducible refine hasK hb1 ?_) | (with_reducible refine hasS ?_)))
  have r3 : w1.cell? ⟨w.heap.size, 3, none⟩ = some (.string ⟨#[]⟩) := (by repeat' (first | (with_reducible refine cell1 ?_) | (with_reducible exact hb1) | (with_reducible refine cellK hb1 ?_) | ((with_reducible refine cell0 ?hb ?hv); (case hb => first | rfl | (simp; done)); (case hv => rfl)) | (with_reducible refine cellA ?_) | (with_reducible refine cellD ?_) | (with_reducible refine cellN ?_) | ((with_reducible refine cellS ?hn ?_); (case hn => first | (left; omega) | (right; omega) | (left; simp; omega))) | ((with_reducible refine has0 ?hb ?hv); (case hb => first | rfl | (simp; done)); (case hv => rfl)) | (with_reducible refine hasA ?_) | (with_reducible refine hasD ?_) | (with_reducible refine hasN ?_) | (with_reducible refine hasK hb1 ?_) | (with_reducible refine hasS ?_)))
  go_wp2_with fail
  refine bodyPost_ret (v := .tuple #[.agg #[.int .i64 1, .int .i64 1, .string c, .string nm], .int .i64 0]) (by simp [results, Try.results18, go_sem, r0, r1, r2, r3]) rfl ?_
  refine PSt.good (by unfold pStE; rw [if_pos (by omega)]; rfl) ?_ ?_
  · show Blk _ g 66 (psC ⟨ex, c, left, true, pr, nm, se, tk, false⟩)
    exact (by repeat' (first | (with_reducible exact HB3.out) | (with_reducible refine Blk.far ?_ (by first | omega | (simp; done) | (simp; omega)) _) | (with_reducible refine Blk.alloc ?_ _) | (with_reducible refine Blk.drew ?_) | (with_reducible refine Blk.drewN ?_ _)))
  · exact (by repeat' (first | (with_reducible exact HG3.out) | (with_reducible exact gr_refl _ _) | (with_reducible refine gr_set ?_ (by first | (left; rfl) | (right; simp; done) | (right; simp; omega) | (left; omega)) _) | (with_reducible refine gr_alloc ?_ _) | (with_reducible refine gr_drew ?_) | (with_reducible refine gr_drewN ?_ _)))
def pAgE (s : PS) : Int := if !s.st || s.pr || s.fl then 1601 else if s.left - 1 = 0 then 1601 else 0
def pAg (s : PS) : PS := if !s.st || s.pr || s.fl then s else if s.left - 1 = 0 then { s with left := s.left - 1, fl := true } else { s with left := s.left - 1 }
def pAgV (s : PS) : Value := if pAgE s = 0 then chV 1 1 s.ch s.nm else chV 0 0 ⟨#[]⟩ ⟨#[]⟩
def PAg (s : PS) (g : Nat) (w : World) (e : Ending) (w' : World) : Prop := e = .returned (.tuple #[pAgV s, .int .i64 (pAgE s)]) ∧ PAt w' g (pAg s) ∧ w.grownBy w' (some g)
theorem psC2 (ex ch : ByteArray) (left : Int) (st pr : Bool) (nm se : ByteArray) (tk fl : Bool) (x : Int) : (psC ⟨ex, ch, left, st, pr, nm, se, tk, fl⟩).setIfInBounds 2 (.int .i64 x) = psC ⟨ex, ch, x, st, pr, nm, se, tk, fl⟩ := rfl
theorem psC28 (ex ch : ByteArray) (left : Int) (st pr : Bool) (nm se : ByteArray) (tk fl : Bool) (x : Int) : ((psC ⟨ex, ch, left, st, pr, nm, se, tk, fl⟩).setIfInBounds 2 (.int .i64 x)).setIfInBounds 8 (.bool true) = psC ⟨ex, ch, x, st, pr, nm, se, tk, true⟩ := rfl
set_option maxHeartbeats 1000000 in
theorem again_any (g : Nat) (s : PS) (w : World) (hp : PAt w g s) (hl : s.fl = false → 1 ≤ s.left ∧ s.left ≤ 10) : Calls Try.prog 21 #[.pointer (some ⟨g, 0, none⟩)] w (PAg s g w) := by
  obtain ⟨ex, ch, left, st, pr, nm, se, tk, fl⟩ := s
  obtain ⟨c0, c1, c2, c3, c4, c5, c6, c7, c8⟩ := hp.cells
  have hfr := Blk.frozen hp
  have hlt := Blk.lt hp
  have HP := Lib.hid hp; clear hp
  have hpa : ∀ o, PAt (w.alloc o) g ⟨ex, ch, left, st, pr, nm, se, tk, fl⟩ := fun o => HP.out.alloc o
  have HPA := Lib.hid hpa; clear hpa
  cases hx : !st || pr || fl
  case true =>
    have h3 : st = false ∨ (st = true ∧ pr = true) ∨ (st = true ∧ pr = false ∧ fl = true) := by cases st <;> cases pr <;> simp_all
    have HX : Hid (pAgE ⟨ex, ch, left, st, pr, nm, se, tk, fl⟩ = 1601 ∧ pAg ⟨ex, ch, left, st, pr, nm, se, tk, fl⟩ = ⟨ex, ch, left, st, pr, nm, se, tk, fl⟩) := Lib.hid ⟨by unfold pAgE; rw [if_pos hx], by unfold pAg; rw [if_pos hx]⟩
    clear hx hl
    rcases h3 with rfl | ⟨rfl, rfl⟩ | ⟨rfl, rfl, rfl⟩
    all_goals
      go_enter Try.func21, Try.ntmps21
      go_wp2_with fail
      refine bodyPost_ret (v := .tuple #[.agg #[.int .i64 0, .int .i64 0, .string ⟨#[]⟩, .string ⟨#[]⟩], .int .i64 1601]) (by simp [results, Try.results21, go_sem]) rfl ?_
      exact ⟨by unfold pAgV; rw [HX.out.1]; rfl, by rw [HX.out.2]; exact HPA.out _, gr_alloc (gr_refl _ _) _⟩
  obtain ⟨⟨rfl, rfl⟩, rfl⟩ : (st = true ∧ pr = false) ∧ fl = false := by simpa using hx
  clear hx
  have hl2 := hl rfl
  clear hl
  simp only at hl2
  have hw : IntKind.i64.wrap (left - 1) = left - 1 := IntWalk.i64_in _ (by omega)
  by_cases h0 : left - 1 = 0
  · obtain rfl : left = 1 := by omega
    go_enter Try.func21, Try.ntmps21
    go_wp2_with fail
    refine bodyPost_ret (v := .tuple #[.agg #[.int .i64 0, .int .i64 0, .string ⟨#[]⟩, .string ⟨#[]⟩], .int .i64 1601]) (by simp [results, Try.results21, go_sem]) rfl ?_
    refine ⟨rfl, ?_, (by repeat' (first | (with_reducible exact gr_refl w g) | (with_reducible exact gr_refl _ _) | (with_reducible refine gr_set ?_ (by first | (left; rfl) | (right; simp; done) | (right; simp; omega) | (left; omega)) _) | (with_reducible refine gr_alloc ?_ _) | (with_reducible refine gr_drew ?_) | (with_reducible refine gr_drewN ?_ _)))⟩
    have h := Blk.set_ (Blk.set_ HP.out 2 (.int .i64 0)) 8 (.bool true)
    rw [psC28] at h
    show Blk _ g 66 (psC ⟨ex, ch, 0, true, false, nm, se, tk, true⟩)
    exact (by repeat' (first | (with_reducible exact h) | (with_reducible refine Blk.far ?_ (by first | omega | (simp; done) | (simp; omega)) _) | (with_reducible refine Blk.alloc ?_ _) | (with_reducible refine Blk.drew ?_) | (with_reducible refine Blk.drewN ?_ _)))
  · obtain ⟨l2, hl2⟩ : ∃ l2, left - 1 = l2 := ⟨_, rfl⟩
    have HX : Hid (pAgE ⟨ex, ch, left, true, false, nm, se, tk, false⟩ = 0 ∧ pAg ⟨ex, ch, left, true, false, nm, se, tk, false⟩ = ⟨ex, ch, l2, true, false, nm, se, tk, false⟩) := Lib.hid ⟨by unfold pAgE; rw [if_neg (by simp), if_neg h0], by unfold pAg; rw [if_neg (by simp), if_neg h0, hl2]⟩
    have hz : l2 ≠ 0 := by omega
    have hz2 : (l2 == 0) = false := by simp [hz]
    rw [hl2] at hw h0
    clear h0
    go_enter Try.func21, Try.ntmps21
    go_wp2_with fail
    have hp2 : PAt ((w.setCell ⟨g, 2, none⟩ (.int .i64 l2)).alloc (.cells #[.int .i64 0, .int .i64 0, .string ⟨#[]⟩, .string ⟨#[]⟩] 33)) g ⟨ex, ch, l2, true, false, nm, se, tk, false⟩ := by
      have h := Blk.set_ HP.out 2 (.int .i64 l2)
      rw [psC2] at h
      exact Blk.alloc h _
    refine (ask_any g _ _ hp2).mono ?_
    rintro e w1 ⟨rfl, hb1⟩
    obtain ⟨hc1, hf1⟩ := bcell hb1
    have hz1 := hb1.size
    simp at hz1
    have z1 : w.heap.size < w1.heap.size := by omega
    have hb3 : Blk w1 g 66 (psC ⟨ex, ch, l2, true, false, nm, se, tk, false⟩) := Blk.keep hp2 hb1
    have hg3 : w.grownBy w1 (some g) := gr_below (by repeat' (first | (with_reducible exact gr_refl w g) | (with_reducible exact gr_refl _ _) | (with_reducible refine gr_set ?_ (by first | (left; rfl) | (right; simp; done) | (right; simp; omega) | (left; omega)) _) | (with_reducible refine gr_alloc ?_ _) | (with_reducible refine gr_drew ?_) | (with_reducible refine gr_drewN ?_ _))) hb1
    have HB3 := Lib.hid hb3; have HG3 := Lib.hid hg3; clear hb3 hg3
    have r0 : w1.cell? ⟨w.heap.size, 0, none⟩ = some (.int .i64 0) := (by repeat' (first | (with_reducible refine cell1 ?_) | (with_reducible exact hb1) | (with_reducible refine cellK hb1 ?_) | ((with_reducible refine cell0 ?hb ?hv); (case hb => first | rfl | (simp; done)); (case hv => rfl)) | (with_reducible refine cellA ?_) | (with_reducible refine cellD ?_) | (with_reducible refine cellN ?_) | ((with_reducible refine cellS ?hn ?_); (case hn => first | (left; omega) | (right; omega) | (left; simp; omega))) | ((with_reducible refine has0 ?hb ?hv); (case hb => first | rfl | (simp; done)); (case hv => rfl)) | (with_reducible refine hasA ?_) | (with_reducible refine hasD ?_) | (with_reducible refine hasN ?_) | (with_reducible refine hasK hb1 ?_) | (with_reducible refine hasS ?_)))
    have r1 : w1.cell? ⟨w.heap.size, 1, none⟩ = some (.int .i64 0) := (by repeat' (first | (with_reducible refine cell1 ?_) | (with_reducible exact hb1) | (with_reducible refine cellK hb1 ?_) | ((with_reducible refine cell0 ?hb ?hv); (case hb => first | rfl | (simp; done)); (case hv => rfl)) | (with_reducible refine cellA ?_) | (with_reducible refine cellD ?_) | (with_reducible refine cellN ?_) | ((with_reducible refine cellS ?hn ?_); (case hn => first | (left; omega) | (right; omega) | (left; simp; omega))) | ((with_reducible refine has0 ?hb ?hv); (case hb => first | rfl | (simp; done)); (case hv => rfl)) | (with_reducible refine hasA ?_) | (with_reducible refine hasD ?_) | (with_reducible refine hasN ?_) | (with_reducible refine hasK hb1 ?_) | (with_reducible refine hasS ?_)))
    have r2 : w1.cell? ⟨w.heap.size, 2, none⟩ = some (.string ⟨#[]⟩) := (by repeat' (first | (with_reducible refine cell1 ?_) | (with_reducible exact hb1) | (with_reducible refine cellK hb1 ?_) | ((with_reducible refine cell0 ?hb ?hv); (case hb => first | rfl | (simp; done)); (case hv => rfl)) | (with_reducible refine cellA ?_) | (with_reducible refine cellD ?_) | (with_reducible refine cellN ?_) | ((with_reducible refine cellS ?hn ?_); (case hn => first | (left; omega) | (right; omega) | (left; simp; omega))) | ((with_reducible refine has0 ?hb ?hv); (case hb => first | rfl | (simp; done)); (case hv => rfl)) | (with_reducible refine hasA ?_) | (with_reducible refine hasD ?_) | (with_reducible refine hasN ?_) | (with_reducible refine hasK hb1 ?_) | (with_reducible refine hasS ?_)))
    have r3 : w1.cell? ⟨w.heap.size, 3, none⟩ = some (.string ⟨#[]⟩) := (by repeat' (first | (with_reducible refine cell1 ?_) | (with_reducible exact hb1) | (with_reducible refine cellK hb1 ?_) | ((with_reducible refine cell0 ?hb ?hv); (case hb => first | rfl | (simp; done)); (case hv => rfl)) | (with_reducible refine cellA ?_) | (with_reducible refine cellD ?_) | (with_reducible refine cellN ?_) | ((with_reducible refine cellS ?hn ?_); (case hn => first | (left; omega) | (right; omega) | (left; simp; omega))) | ((with_reducible refine has0 ?hb ?hv); (case hb => first | rfl | (simp; done)); (case hv => rfl)) | (with_reducible refine hasA ?_) | (with_reducible refine hasD ?_) | (with_reducible refine hasN ?_) | (with_reducible refine hasK hb1 ?_) | (with_reducible refine hasS ?_)))
    go_wp2_with fail
    refine bodyPost_ret (v := .tuple #[.agg #[.int .i64 1, .int .i64 1, .string ch, .string nm], .int .i64 0]) (by simp [results, Try.results21, go_sem, r0, r1, r2, r3]) rfl ?_
    refine ⟨by unfold pAgV; rw [HX.out.1]; rfl, ?_, (by repeat' (first | (with_reducible exact HG3.out) | (with_reducible exact gr_refl _ _) | (with_reducible refine gr_set ?_ (by first | (left; rfl) | (right; simp; done) | (right; simp; omega) | (left; omega)) _) | (with_reducible refine gr_alloc ?_ _) | (with_reducible refine gr_drew ?_) | (with_reducible refine gr_drewN ?_ _)))⟩
    rw [HX.out.2]
    show Blk _ g 66 (psC ⟨ex, ch, l2, true, false, nm, se, tk, false⟩)
    exact (by repeat' (first | (with_reducible exact HB3.out) | (with_reducible refine Blk.far ?_ (by first | omega | (simp; done) | (simp; omega)) _) | (with_reducible refine Blk.alloc ?_ _) | (with_reducible refine Blk.drew ?_) | (with_reducible refine Blk.drewN ?_ _)))
theorem proved_any (g : Nat) (s : PS) (w : World) (hp : PAt w g s) : Calls Try.prog 15 #[.pointer (some ⟨g, 0, none⟩)] w fun e w' => e = .returned (.bool s.pr) ∧ w = w' := by
  obtain ⟨c0, c1, c2, c3, c4, c5, c6, c7, c8⟩ := hp.cells
  clear hp
  go_enter Try.func15, Try.ntmps15
  go_wp2_with fail
  go_ret
  exact ⟨rfl, rfl⟩
theorem taken_any (g : Nat) (s : PS) (w : World) (hp : PAt w g s) : Calls Try.prog 16 #[.pointer (some ⟨g, 0, none⟩)] w fun e w' => e = .returned (.bool s.tk) ∧ w = w' := by
  obtain ⟨c0, c1, c2, c3, c4, c5, c6, c7, c8⟩ := hp.cells
  clear hp
  go_enter Try.func16, Try.ntmps16
  go_wp2_with fail
  go_ret
  exact ⟨rfl, rfl⟩
theorem failed_any (g : Nat) (s : PS) (w : World) (hp : PAt w g s) : Calls Try.prog 17 #[.pointer (some ⟨g, 0, none⟩)] w fun e w' => e = .returned (.bool s.fl) ∧ w = w' := by
  obtain ⟨c0, c1, c2, c3, c4, c5, c6, c7, c8⟩ := hp.cells
  clear hp
  go_enter Try.func17, Try.ntmps17
  go_wp2_with fail
  go_ret
  exact ⟨rfl, rfl⟩
end Go.Proofs.Ytdfefpbpfneahaa
