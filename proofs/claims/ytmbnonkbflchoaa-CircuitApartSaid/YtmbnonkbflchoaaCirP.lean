/- A switch that a law has made: contracts for the walk of a law, with their answers laid as equations; what every law asks first (awake). No condition. -/
import Derived.Test.YtmbnonkbflchoaaCirO
namespace Go.Proofs.Ytmbnonkbflchoaa
open Go.RowKit
set_option linter.unusedVariables false
set_option linter.unusedSimpArgs false
open Go.Maps
/-- A switch at g, made behind the world w0. -/
def St (w0 w : World) (L : Lab) (N g : Nat) (B : Ab) : Prop := SwI w L N g B ∧ Below w0.heap.size w0 w ∧ g ≠ 0 ∧ ∀ i, i < w0.heap.size → (L i).1 = 0
theorem St.fr {w0 w w' : World} {L L' : Lab} {N M g : Nat} {B B' : Ab} (h : St w0 w L N g B) (hs : SwI w' L' M g B') (hf : Fr L L' w w' (fun l => l.1 = g)) : St w0 w' L' M g B' :=
  ⟨hs, ChgS.below h.2.1 hf.2 (fun i hi e => h.2.2.1 (by rw [← e]; exact h.2.2.2 i hi)) h.2.1.size, h.2.2.1, fun i hi => by rw [hf.1 i (Nat.lt_of_lt_of_le hi h.2.1.size)]; exact h.2.2.2 i hi⟩
/-- A step that makes memory alone. -/
theorem St.step {w0 w w' : World} {L : Lab} {N g : Nat} {B : Ab} (h : St w0 w L N g B) (hb : Below w.heap.size w w') : St w0 w' L N g B :=
  h.fr (h.1.fr (Fr.below (T := fun _ => False) hb) (fun _ _ h => h)) (Fr.below hb)
theorem St.alloc {w0 w : World} {L : Lab} {N g : Nat} {B : Ab} (h : St w0 w L N g B) (o : Obj) : St w0 (w.alloc o) L N g B := h.step ((Below.refl _ _).alloc (Nat.le_refl _) o)
theorem St.drewN {w0 w : World} {L : Lab} {N g : Nat} {B : Ab} (h : St w0 w L N g B) (n : Nat) : St w0 (w.drewN n) L N g B := h.step ⟨rfl, rfl, rfl, Nat.le_refl _, fun _ _ => rfl⟩
theorem St.more {w0 w : World} {L : Lab} {N M g : Nat} {B : Ab} (h : St w0 w L N g B) (hN : N ≤ M) : St w0 w L M g B := ⟨h.1.more hN, h.2⟩
def lab0 : Lab := fun _ => (0, 0, 5)
theorem new_st (ports most : Int) (w : World) (h1 : 1 ≤ ports) (h2 : ports ≤ 8) (h3 : 1 ≤ most) (h4 : most ≤ 65536) : Calls Try.prog 9 #[.int .i64 ports, .int .i64 most] w fun e w' => e = .returned (.tuple #[.pointer (some ⟨w.heap.size + 1, 0, none⟩), .int .i64 0]) ∧ ∃ L, St w w' L 0 (w.heap.size + 1) (newB ports most) :=
  (new_abs ports most w lab0 h1 h2 h3 h4).mono fun e w' h => ⟨h.1, by
    obtain ⟨he, hb, L, hs, hf⟩ := h
    exact ⟨L, hs, hb, by omega, fun i hi => by rw [hf.1 i hi]; rfl⟩⟩
theorem new_under {w0 : World} (ports most : Int) (w : World) (h : Below w0.heap.size w0 w) (h1 : 1 ≤ ports) (h2 : ports ≤ 8) (h3 : 1 ≤ most) (h4 : most ≤ 65536) : Calls Try.prog 9 #[.int .i64 ports, .int .i64 most] w fun e w' => e = .returned (.tuple #[.pointer (some ⟨w.heap.size + 1, 0, none⟩), .int .i64 0]) ∧ Below w.heap.size w w' ∧ ∃ L, St w0 w' L 0 (w.heap.size + 1) (newB ports most) :=
  (new_abs ports most w lab0 h1 h2 h3 h4).mono fun e w' hh => by
    obtain ⟨he, hb, L, hs, hf⟩ := hh
    exact ⟨he, hb, L, hs, h.trans (hb.mono h.size), by omega, fun i hi => by rw [hf.1 i (Nat.lt_of_lt_of_le hi h.size)]; rfl⟩
section
variable {w0 w : World} {L : Lab} {N g : Nat} {B B' : Ab}
theorem dial_to (a b x e : Int) (h : St w0 w L N g B) (hr : dialA B = (x, e, B')) (hN : N < 1000000) (ha : sideB a = true) (hb : b = 1 - a) : Calls Try.prog 10 #[.pointer (some ⟨g, 0, none⟩), .int .i64 a, .int .i64 b] w fun en w' => en = .returned (.tuple #[.int .i64 x, .int .i64 e]) ∧ ∃ L', St w0 w' L' (N + 1) g B' ∧ Fr L L' w w' (fun l => l.1 = g) :=
  (dial_abs g a b B N L w h.1 hN ha hb).mono fun en w' hh => by
    rw [hr] at hh
    obtain ⟨he, L', hs, hf⟩ := hh
    exact ⟨he, L', h.fr hs hf, hf⟩
theorem hang_to (c e : Int) (h : St w0 w L N g B) (hr : hangA B c = (e, B')) (hc : (Lit.int .i64 c).wf = true) : Calls Try.prog 12 #[.pointer (some ⟨g, 0, none⟩), .int .i64 c] w fun en w' => en = .returned (.int .i64 e) ∧ ∃ L', St w0 w' L' N g B' ∧ Fr L L' w w' (fun l => l.1 = g) :=
  (hang_abs g c B N L w h.1 hc).mono fun en w' hh => by
    rw [hr] at hh
    obtain ⟨he, L', hs, hf⟩ := hh
    exact ⟨he, L', h.fr hs hf, hf⟩
theorem cut_to (c e : Int) (h : St w0 w L N g B) (hr : hangA B c = (e, B')) (hc : (Lit.int .i64 c).wf = true) : Calls Try.prog 17 #[.pointer (some ⟨g, 0, none⟩), .int .i64 c] w fun en w' => en = .returned (.int .i64 e) ∧ ∃ L', St w0 w' L' N g B' ∧ Fr L L' w w' (fun l => l.1 = g) :=
  (cut_abs g c B N L w h.1 hc).mono fun en w' hh => by
    rw [hr] at hh
    obtain ⟨he, L', hs, hf⟩ := hh
    exact ⟨he, L', h.fr hs hf, hf⟩
theorem fail_to (many : Int) (h : St w0 w L N g B) (h0 : 0 ≤ many) (h1 : many ≤ 1000000) : Calls Try.prog 16 #[.pointer (some ⟨g, 0, none⟩), .int .i64 many] w fun en w' => en = .returned (.int .i64 0) ∧ ∃ L', St w0 w' L' N g { B with owed := many } ∧ Fr L L' w w' (fun l => l.1 = g) :=
  (fail_abs g many B N L w h.1 h0 h1).mono fun en w' hh => by
    obtain ⟨he, L', hs, hf⟩ := hh
    exact ⟨he, L', h.fr hs hf, hf⟩
theorem send_to (c n e : Int) (d : ByteArray) (h : St w0 w L N g B) (hr : sendA B c n d = (e, B')) (hN : N < 1000000) (hc : (Lit.int .i64 c).wf = true) : Calls Try.prog 14 #[.pointer (some ⟨g, 0, none⟩), .int .i64 c, .int .i64 n, .string d] w fun en w' => en = .returned (.int .i64 e) ∧ ∃ L', St w0 w' L' (N + 1) g B' ∧ Fr L L' w w' (fun l => l.1 = g) :=
  (send_abs g c n B N L d w h.1 hN hc).mono fun en w' hh => by
    rw [hr] at hh
    obtain ⟨he, L', hs, hf⟩ := hh
    exact ⟨he, L', h.fr hs hf, hf⟩
theorem read_to (c to e : Int) (d : ByteArray) (h : St w0 w L N g B) (hr : readA B c to = (d, e, B')) (hN : N < 1000000) (hc : (Lit.int .i64 c).wf = true) : Calls Try.prog 15 #[.pointer (some ⟨g, 0, none⟩), .int .i64 c, .int .i64 to] w fun en w' => en = .returned (.tuple #[.string d, .int .i64 e]) ∧ ∃ L', St w0 w' L' (N + 1) g B' ∧ Fr L L' w w' (fun l => l.1 = g) :=
  (read_abs g c to B N L w h.1 hN hc).mono fun en w' hh => by
    rw [hr] at hh
    obtain ⟨he, L', hs, hf⟩ := hh
    exact ⟨he, L', h.fr hs hf, hf⟩
theorem busy_to (n : Int) (k : Nat) (h : St w0 w L N g B) (hk : B.n = k) (hn : sideB n = true) : Calls Try.prog 13 #[.pointer (some ⟨g, 0, none⟩), .int .i64 n] w fun e w' => e = .returned (.int .i64 (k : Int)) ∧ w = w' := by
  subst hk
  exact busy_abs g n B N L w h.1 hn
theorem up_to (c : Int) (b : Bool) (h : St w0 w L N g B) (hb : (B.A c).isSome = b) (hc : (Lit.int .i64 c).wf = true) : Calls Try.prog 20 #[.pointer (some ⟨g, 0, none⟩), .int .i64 c] w fun e w' => e = .returned (.bool b) ∧ w = w' := by
  subst hb
  exact up_abs g c B N L w h.1 hc
end
theorem send_put {B : Ab} {c n : Int} {d : ByteArray} {y : AP × AP} (hA : B.A c = some y) (hn : sideB n = true) (hf : ¬ B.most - (pick n y).s.size < (d.size : Int)) (hl : ¬ 0 < (pick n y).lost) : sendA B c n d = (0, setA B c n y { pick n y with s := (pick n y).s ++ d }) := by
  unfold sendA
  rw [hA]
  simp only
  rw [if_pos hn, if_neg hf, if_neg hl]
theorem send_over {B : Ab} {c n : Int} {d : ByteArray} {y : AP × AP} (hA : B.A c = some y) (hn : sideB n = true) (hf : B.most - (pick n y).s.size < (d.size : Int)) : sendA B c n d = (2500, B) := by
  unfold sendA
  rw [hA]
  simp only
  rw [if_pos hn, if_pos hf]
theorem read_get {B : Ab} {c to n : Int} {y : AP × AP} (hA : B.A c = some y) (hto : wrap64 (1 - to) = n) (hn : sideB n = true) : readA B c to = ((pick n y).s, 0, setA B c n y { pick n y with s := ⟨#[]⟩ }) := by
  unfold readA
  rw [hA]
  simp only
  rw [hto, if_pos hn]
def one1 (n : Nat) (y : AP × AP) : Ab := ⟨1, 10, 1, 0, n, fun k => if k = 1 then some y else none⟩
def gone1 : Ab := ⟨1, 10, 1, 0, 0, fun k => if k = 1 then none else if k = 1 then some (zeroAP, zeroAP) else none⟩
def ab_ : ByteArray := ⟨#[97, 98]⟩
theorem wfi {x : Int} (h0 : -9223372036854775808 ≤ x) (h1 : x < 9223372036854775808) : (Lit.int .i64 x).wf = true := WalkArith.wf_i64 (by omega)
set_option maxRecDepth 100000 in
set_option maxHeartbeats 1000000 in
theorem awake_any (w : World) : Calls Try.prog 8 #[] w fun e w' => e = .returned (.bool true) ∧ Below w.heap.size w w' := by
  obtain ⟨B1, hB1⟩ : ∃ B1, B1 = one1 1 (zeroAP, zeroAP) := ⟨_, rfl⟩
  have r1 : dialA (newB 1 10) = (1, 0, B1) := by subst hB1; rfl
  have r2 : dialA B1 = (0, 2501, B1) := by subst hB1; rfl
  obtain ⟨B2, hB2⟩ : ∃ B2, B2 = setA B1 1 0 (zeroAP, zeroAP) ⟨ab_, 0⟩ := ⟨_, rfl⟩
  have r3 : sendA B1 1 0 ⟨#[97, 98]⟩ = (0, B2) := by
    rw [send_put (y := (zeroAP, zeroAP)) (by subst hB1; rfl) rfl (by subst hB1; decide) (by decide), hB2]
    have e : (⟨#[]⟩ : ByteArray) ++ ⟨#[97, 98]⟩ = ab_ := by apply ByteArray.ext; rw [ByteArray.data_append]; rfl
    show (0, setA _ 1 0 _ ⟨(⟨#[]⟩ : ByteArray) ++ ⟨#[97, 98]⟩, 0⟩) = _
    rw [e]
  obtain ⟨B3, hB3⟩ : ∃ B3, B3 = setA B2 1 0 (⟨ab_, 0⟩, zeroAP) ⟨⟨#[]⟩, 0⟩ := ⟨_, rfl⟩
  have r4 : readA B2 1 1 = (⟨#[97, 98]⟩, 0, B3) := by
    rw [read_get (n := 0) (y := (⟨ab_, 0⟩, zeroAP)) (by subst hB2; rfl) (wrap_in (by decide) (by decide)) rfl, hB3]
    rfl
  obtain ⟨B4, hB4⟩ : ∃ B4, hangA B3 1 = (0, B4) := ⟨_, by subst hB3; rfl⟩
  have hA4 : B4.A 1 = none := by
    subst hB3
    have e := congrArg Prod.snd hB4
    rw [← show _ = B4 from e]
    rfl
  have hn4 : B4.n = 0 := by
    subst hB3; subst hB2; subst hB1
    have e := congrArg Prod.snd hB4
    rw [← show _ = B4 from e]
    rfl
  have r5 : sendA B4 1 0 ⟨#[120]⟩ = (2502, B4) := by unfold sendA; rw [hA4]
  have hu4 : (B4.A 1).isSome = false := by rw [hA4]; rfl
  clear hB1 hB2 hB3 hA4
  go_enter Try.func8, Try.ntmps8
  go_wp2_with fail
  refine (new_st 1 10 _ (by decide) (by decide) (by decide) (by decide)).mono ?_
  rintro e w1 ⟨rfl, L1, h1⟩
  go_wp2_with (first | (go_at_call 11; refine (num_any _ _).mono ?_; rintro e w' ⟨rfl, rfl⟩))
  refine (dial_to 0 1 1 0 h1 r1 (by omega) rfl rfl).mono ?_
  rintro e w2 ⟨rfl, L2, h2, -⟩
  go_wp2_with fail
  refine (dial_to 1 0 0 2501 h2 r2 (by omega) rfl rfl).mono ?_
  rintro e w3 ⟨rfl, L3, h3, -⟩
  go_wp2_with fail
  refine (send_to 1 0 0 _ h3 r3 (by omega) (wfi (by decide) (by decide))).mono ?_
  rintro e w4 ⟨rfl, L4, h4, -⟩
  go_wp2_with fail
  refine (read_to 1 1 0 _ h4 r4 (by omega) (wfi (by decide) (by decide))).mono ?_
  rintro e w5 ⟨rfl, L5, h5, -⟩
  go_wp2_with fail
  refine (hang_to 1 0 h5 hB4 (wfi (by decide) (by decide))).mono ?_
  rintro e w6 ⟨rfl, L6, h6, -⟩
  go_wp2_with fail
  refine (send_to 1 0 2502 _ h6 r5 (by omega) (wfi (by decide) (by decide))).mono ?_
  rintro e w7 ⟨rfl, L7, h7, -⟩
  go_wp2_with (first | (go_at_call 11; refine (num_any _ _).mono ?_; rintro e w' ⟨rfl, rfl⟩) | (go_at_call 20; refine (up_to 1 false h7 hu4 (wfi (by decide) (by decide))).mono ?_; rintro e w' ⟨rfl, rfl⟩) | (go_at_call 13; refine (busy_to 0 0 h7 hn4 rfl).mono ?_; rintro e w' ⟨rfl, rfl⟩))
  go_ret
  exact ⟨rfl, h7.2.1⟩
end Go.Proofs.Ytmbnonkbflchoaa
