/- The contract of control.Get: which packet or error. No condition. -/
import Derived.Test.YtmonkjogonjflaaCtlPut
import Derived.Test.YtmonkjogonjflaaOptGet
namespace Go.Proofs.Ytmonkjogonjflaa
open Go.RowKit
set_option linter.unusedVariables false
set_option linter.unusedSimpArgs false
attribute [local go_sem] conv1 conv1d conv1n conv1a conv1ad conv1an conv2 conv2d conv2n conv2a conv2ad conv2an conv4 conv4d conv4n conv4a conv4ad conv4an conv5 conv5d conv5n conv5a conv5ad conv5an size_nums byt_fold
def kBody (s : ByteArray) : ByteArray := s.extract 4 (gN s)
def kE (s : ByteArray) : Int :=
  if s.size < 4 then 500 else if gN s < 4 ∨ s.size < gN s then 501 else if 2048 < gN s then 503 else if confB (byt s 0) = true ∧ ¬ uE (kBody s) = 0 then 502 else 0
def kCode (s : ByteArray) : Int := if kE s = 0 then byt s 0 else 0
def kId (s : ByteArray) : Int := if kE s = 0 then byt s 1 else 0
def kL (s : ByteArray) : List (Int × ByteArray) := if kE s = 0 ∧ confB (byt s 0) = true then uL (kBody s) else []
def kD (s : ByteArray) : ByteArray := if kE s = 0 ∧ confB (byt s 0) = false then kBody s else ⟨#[]⟩
def CtlGet (s : ByteArray) (w : World) (e : Ending) (w' : World) : Prop :=
  ∃ A cap, e = .returned (.tuple #[.agg #[.int .i64 (kCode s), .int .i64 (kId s), .slice A (kL s).length cap, .string (kD s)], .int .i64 (kE s)]) ∧
    w'.ownsRow w.heap.size 46 2 (.slice A (kL s).length cap) (kL s).length (optCells (kL s)) ∧ Below w.heap.size w w'
theorem ctlget_bad {s : ByteArray} {x : Int} {w w' : World} (hb : Below w.heap.size w w') (h : kE s = x) (hx : ¬ x = 0) :
    CtlGet s w (.returned (.tuple #[.agg #[.int .i64 0, .int .i64 0, .slice none 0 0, .string ⟨#[]⟩], .int .i64 x])) w' := by
  have h0 : ¬ kE s = 0 := by rw [h]; exact hx
  have hl : kL s = [] := by unfold kL; rw [if_neg (fun e => h0 e.1)]
  have hd : kD s = ⟨#[]⟩ := by unfold kD; rw [if_neg (fun e => h0 e.1)]
  have hc : kCode s = 0 := by unfold kCode; rw [if_neg h0]
  have hi : kId s = 0 := by unfold kId; rw [if_neg h0]
  unfold CtlGet
  rw [hl, hd, hc, hi, h]
  exact ⟨none, 0, rfl, World.ownsRow_nil _ _ _ _, hb⟩
theorem ctlget_data {s : ByteArray} {w w' : World} (hb : Below w.heap.size w w') (h : kE s = 0) (hc : confB (byt s 0) = false) :
    CtlGet s w (.returned (.tuple #[.agg #[.int .i64 (byt s 0), .int .i64 (byt s 1), .slice none 0 0, .string (kBody s)], .int .i64 0])) w' := by
  have hl : kL s = [] := by unfold kL; rw [if_neg (fun e => by rw [hc] at e; exact absurd e.2 (by simp))]
  have hd : kD s = kBody s := by unfold kD; rw [if_pos ⟨h, hc⟩]
  have h1 : kCode s = byt s 0 := by unfold kCode; rw [if_pos h]
  have h2 : kId s = byt s 1 := by unfold kId; rw [if_pos h]
  unfold CtlGet
  rw [hl, hd, h1, h2, h]
  exact ⟨none, 0, rfl, World.ownsRow_nil _ _ _ _, hb⟩
theorem ctlget_opts {s : ByteArray} {A : Option Addr} {cap : Nat} {w w' : World} (hb : Below w.heap.size w w') (h : kE s = 0) (hc : confB (byt s 0) = true)
    (ho : w'.ownsRow w.heap.size 46 2 (.slice A (uL (kBody s)).length cap) (uL (kBody s)).length (optCells (uL (kBody s)))) :
    CtlGet s w (.returned (.tuple #[.agg #[.int .i64 (byt s 0), .int .i64 (byt s 1), .slice A (uL (kBody s)).length cap, .string ⟨#[]⟩], .int .i64 0])) w' := by
  have hl : kL s = uL (kBody s) := by unfold kL; rw [if_pos ⟨h, hc⟩]
  have hd : kD s = ⟨#[]⟩ := by unfold kD; rw [if_neg (fun e => by rw [hc] at e; exact absurd e.2 (by simp))]
  have h1 : kCode s = byt s 0 := by unfold kCode; rw [if_pos h]
  have h2 : kId s = byt s 1 := by unfold kId; rw [if_pos h]
  unfold CtlGet
  rw [hl, hd, h1, h2, h]
  exact ⟨A, cap, rfl, ho, hb⟩
theorem kE_500 {s : ByteArray} (h : s.size < 4) : kE s = 500 := by unfold kE; rw [if_pos h]
theorem kE_501 {s : ByteArray} (h : ¬ s.size < 4) (h1 : gN s < 4 ∨ s.size < gN s) : kE s = 501 := by unfold kE; rw [if_neg h, if_pos h1]
theorem kE_503 {s : ByteArray} (h : ¬ s.size < 4) (h1 : ¬ (gN s < 4 ∨ s.size < gN s)) (h2 : 2048 < gN s) : kE s = 503 := by unfold kE; rw [if_neg h, if_neg h1, if_pos h2]
theorem kE_502 {s : ByteArray} (h : ¬ s.size < 4) (h1 : ¬ (gN s < 4 ∨ s.size < gN s)) (h2 : ¬ 2048 < gN s) (h3 : confB (byt s 0) = true) (h4 : ¬ uE (kBody s) = 0) : kE s = 502 := by unfold kE; rw [if_neg h, if_neg h1, if_neg h2, if_pos ⟨h3, h4⟩]
theorem kE_0 {s : ByteArray} (h : ¬ s.size < 4) (h1 : ¬ (gN s < 4 ∨ s.size < gN s)) (h2 : ¬ 2048 < gN s) (h3 : confB (byt s 0) = false ∨ uE (kBody s) = 0) : kE s = 0 := by
  unfold kE; rw [if_neg h, if_neg h1, if_neg h2, if_neg]
  rintro ⟨a, b⟩
  rcases h3 with h3 | h3
  · rw [h3] at a; cases a
  · exact b h3

theorem own_base {w : World} {b b' n : Nat} {e : TypeId} {size : Nat} {v : Value} {xs : List Value} (h : w.ownsRow b e size v n xs) (hb : b' ≤ b) : w.ownsRow b' e size v n xs := by
  refine ⟨h.1, ?_⟩
  rcases h.2 with h | ⟨g, cap, cur, rfl, hg, r⟩
  · exact .inl h
  · exact .inr ⟨g, cap, cur, rfl, by omega, r⟩
set_option maxHeartbeats 1000000 in
theorem ctlget_short (s : ByteArray) (w : World) (h4 : ¬ 4 ≤ s.size) : Calls Try.prog 11 #[.string s] w (CtlGet s w) := by
  go_enter Try.func11, Try.ntmps11
  go_wp2
  refine bodyPost_ret (v := .tuple #[.agg #[.int .i64 0, .int .i64 0, .slice none 0 0, .string ⟨#[]⟩], .int .i64 500]) (by simp [results, Try.results11, go_sem]) rfl ?_
  exact ctlget_bad (by repeat' (first | (with_reducible exact Below.refl _ _) | (with_reducible apply Below.drew) | (with_reducible apply below_drewN) | (with_reducible apply Below.setCell) | (with_reducible apply Below.alloc) | (with_reducible refine below_step ?_ (by assumption) ?_) | omega | (simp; done) | (simp; omega))) (kE_500 (by omega)) (by decide)
set_option maxHeartbeats 1000000 in
theorem ctlget_len (s : ByteArray) (w : World) (h4 : 4 ≤ s.size) (n : Nat) (hn : byt s 2 * 256 + byt s 3 = (n : Int)) (HN : Hid (gN s = n)) (hw : (n < 4 ∨ s.size < n) ∨ (4 ≤ n ∧ n ≤ s.size ∧ 2048 < n)) : Calls Try.prog 11 #[.string s] w (CtlGet s w) := by
  obtain ⟨c0, c1⟩ := byt_range s 2
  obtain ⟨d0, d1⟩ := byt_range s 3
  have h42 : 2 < s.size := by omega
  have h43 : 3 < s.size := by omega
  have hor := or_bytes s s 2 3
  rcases hw with hw | ⟨hw1, hw2, hw3⟩
  · go_enter Try.func11, Try.ntmps11
    go_wp2_with fail
    go_quiet (fail)
    go_wp2
    all_goals
      refine bodyPost_ret (v := .tuple #[.agg #[.int .i64 0, .int .i64 0, .slice none 0 0, .string ⟨#[]⟩], .int .i64 501]) (by simp [results, Try.results11, go_sem]) rfl ?_
      exact ctlget_bad (by repeat' (first | (with_reducible exact Below.refl _ _) | (with_reducible apply Below.drew) | (with_reducible apply below_drewN) | (with_reducible apply Below.setCell) | (with_reducible apply Below.alloc) | (with_reducible refine below_step ?_ (by assumption) ?_) | omega | (simp; done) | (simp; omega))) (kE_501 (by omega) (by rw [HN.out]; exact hw)) (by decide)
  · go_enter Try.func11, Try.ntmps11
    go_wp2_with fail
    go_quiet (fail)
    go_wp2
    all_goals
      refine bodyPost_ret (v := .tuple #[.agg #[.int .i64 0, .int .i64 0, .slice none 0 0, .string ⟨#[]⟩], .int .i64 503]) (by simp [results, Try.results11, go_sem]) rfl ?_
      exact ctlget_bad (by repeat' (first | (with_reducible exact Below.refl _ _) | (with_reducible apply Below.drew) | (with_reducible apply below_drewN) | (with_reducible apply Below.setCell) | (with_reducible apply Below.alloc) | (with_reducible refine below_step ?_ (by assumption) ?_) | omega | (simp; done) | (simp; omega))) (kE_503 (by omega) (by rw [HN.out]; omega) (by rw [HN.out]; exact hw3)) (by decide)
set_option maxHeartbeats 1000000 in
theorem ctlget_main (s : ByteArray) (w : World) (h4 : 4 ≤ s.size) (n : Nat) (hn : byt s 2 * 256 + byt s 3 = (n : Int)) (HN : Hid (gN s = n)) (hw1 : 4 ≤ n) (hw2 : n ≤ s.size) (hw3 : n ≤ 2048) : Calls Try.prog 11 #[.string s] w (CtlGet s w) := by
  obtain ⟨a0, a1⟩ := byt_range s 0
  obtain ⟨b0, b1⟩ := byt_range s 1
  obtain ⟨c0, c1⟩ := byt_range s 2
  obtain ⟨d0, d1⟩ := byt_range s 3
  have h40 : 0 < s.size := by omega
  have h41 : 1 < s.size := by omega
  have h42 : 2 < s.size := by omega
  have h43 : 3 < s.size := by omega
  have hor := or_bytes s s 2 3
  have HB : Hid (kBody s = s.extract 4 n) := by show kBody s = s.extract 4 n; unfold kBody; rw [HN.out]
  cases hc : confB (byt s 0)
  · have HC := Lib.hid hc
    go_enter Try.func11, Try.ntmps11
    go_wp2_with fail
    go_region
    go_wp2_with fail
    go_region
    go_wp2_with (first | (go_at_call 21; refine (conf_any _ _).mono ?_; rintro e w' ⟨rfl, rfl⟩))
    refine bodyPost_ret (v := .tuple #[.agg #[.int .i64 (byt s 0), .int .i64 (byt s 1), .slice none 0 0, .string (s.extract 4 n)], .int .i64 0]) (by simp [results, Try.results11, go_sem]) rfl ?_
    rw [← HB.out]
    exact ctlget_data (by repeat' (first | (with_reducible exact Below.refl _ _) | (with_reducible apply Below.drew) | (with_reducible apply below_drewN) | (with_reducible apply Below.setCell) | (with_reducible apply Below.alloc) | (with_reducible refine below_step ?_ (by assumption) ?_) | omega | (simp; done) | (simp; omega))) (kE_0 (by omega) (by rw [HN.out]; omega) (by rw [HN.out]; omega) (.inl HC.out)) HC.out
  · have HC := Lib.hid hc
    go_enter Try.func11, Try.ntmps11
    go_wp2_with fail
    go_region
    go_wp2_with fail
    go_region
    go_wp2_with (first | (go_at_call 21; refine (conf_any _ _).mono ?_; rintro e w' ⟨rfl, rfl⟩))
    refine (optget_any _ _).mono ?_
    rintro e w1 ⟨A, cap, rfl, hown, hb1⟩
    obtain ⟨hc1, hf1⟩ := bcell hb1
    have hz1 := hb1.size
    simp at hz1
    have z1 : w.heap.size < w1.heap.size := by omega
    have z2 : w.heap.size + 1 < w1.heap.size := by omega
    have e0 : w1.cell? ⟨w.heap.size, 0, none⟩ = some (.int .i64 0) := by rw [hc1 _ _ (by simp; omega)]; simp
    have e1 : w1.cell? ⟨w.heap.size, 1, none⟩ = some (.int .i64 0) := by rw [hc1 _ _ (by simp; omega)]; simp
    have e2 : w1.cell? ⟨w.heap.size, 2, none⟩ = some (.slice none 0 0) := by rw [hc1 _ _ (by simp; omega)]; simp
    have e3 : w1.cell? ⟨w.heap.size, 3, none⟩ = some (.string ⟨#[]⟩) := by rw [hc1 _ _ (by simp; omega)]; simp
    by_cases hu : uE (s.extract 4 n) = 0
    · have HU := Lib.hid hu
      have hown2 : w1.ownsRow (w.heap.size + 1 + 1) 46 2 (.slice A (uL (s.extract 4 n)).length cap) (uL (s.extract 4 n)).length (optCells (uL (s.extract 4 n))) := by simpa using hown
      have HOWN := Lib.hid hown2; clear hown hown2
      have bel : Below w.heap.size w w1 := (((((Below.refl _ _).alloc (Nat.le_refl _) _).alloc (by simp) _).drew).drew).trans (hb1.mono (by simp; omega))
      go_wp2_with fail
      refine bodyPost_ret (v := .tuple #[.agg #[.int .i64 (byt s 0), .int .i64 (byt s 1), .slice A (uL (s.extract 4 n)).length cap, .string ⟨#[]⟩], .int .i64 0]) (by simp [results, Try.results11, go_sem, e0, e1, e2, e3]) rfl ?_
      rw [← HB.out]
      refine ctlget_opts ?_ (kE_0 (by omega) (by rw [HN.out]; omega) (by rw [HN.out]; omega) (.inr (by rw [HB.out]; exact HU.out))) HC.out ?_
      · exact (by repeat' (first | (with_reducible exact bel) | (with_reducible refine Below.setCell ?_ (Nat.le_refl _) _) | (with_reducible apply Below.setCell) | (with_reducible apply Below.alloc) | (with_reducible apply Below.drew) | (with_reducible apply below_drewN) | (exact Nat.le_refl _) | omega | (simp; done) | (simp; omega)))
      · rw [HB.out]
        refine own_base (b := w.heap.size + 1 + 1) ?_ (by omega)
        exact (by repeat' (first | (with_reducible exact HOWN.out) | (with_reducible apply ownsRow_setCell_below) | omega | (simp; done) | (simp; omega)))
    · have hub : (uE (s.extract 4 n) == 0) = false := by simpa using hu
      have hub2 : (uE (s.extract 4 n) != 0) = true := by simpa using hu
      have HU := Lib.hid hu
      clear hown hu
      have bel : Below w.heap.size w w1 := (((((Below.refl _ _).alloc (Nat.le_refl _) _).alloc (by simp) _).drew).drew).trans (hb1.mono (by simp; omega))
      go_wp2_with fail
      refine bodyPost_ret (v := .tuple #[.agg #[.int .i64 0, .int .i64 0, .slice none 0 0, .string ⟨#[]⟩], .int .i64 502]) (by simp [results, Try.results11, go_sem, e0, e1, e2, e3]) rfl ?_
      refine ctlget_bad ?_ (kE_502 (by omega) (by rw [HN.out]; omega) (by rw [HN.out]; omega) HC.out (by rw [HB.out]; exact HU.out)) (by decide)
      exact (by repeat' (first | (with_reducible exact bel) | (with_reducible refine Below.setCell ?_ (Nat.le_refl _) _) | (with_reducible apply Below.setCell) | (with_reducible apply Below.alloc) | (with_reducible apply Below.drew) | (with_reducible apply below_drewN) | (exact Nat.le_refl _) | omega | (simp; done) | (simp; omega)))
theorem ctlget_any (s : ByteArray) (w : World) : Calls Try.prog 11 #[.string s] w (CtlGet s w) := by
  by_cases h4 : 4 ≤ s.size
  · have e := gN_eq s
    by_cases h5 : (gN s < 4 ∨ s.size < gN s) ∨ (4 ≤ gN s ∧ gN s ≤ s.size ∧ 2048 < gN s)
    · exact ctlget_len s w h4 (gN s) e rfl h5
    · exact ctlget_main s w h4 (gN s) e rfl (by omega) (by omega) (by omega)
  · exact ctlget_short s w h4
end Go.Proofs.Ytmonkjogonjflaa
