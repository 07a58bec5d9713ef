/- Two switches side by side, and a box of a law's own beside them. No condition but sizes. -/
import Derived.Test.YtmbnonkbflchoaaCirR
namespace Go.Proofs.Ytmbnonkbflchoaa
open Go.RowKit
set_option linter.unusedVariables false
set_option linter.unusedSimpArgs false
open Go.Maps
/-- Labels of what is made behind w: none of a switch. -/
def fresh (L : Lab) (w : World) : Lab := fun i => if i < w.heap.size then L i else (0, 0, 5)
theorem fresh_old (L : Lab) (w : World) {i : Nat} (h : i < w.heap.size) : fresh L w i = L i := by unfold fresh; rw [if_pos h]
theorem fresh_new (L : Lab) (w : World) {i : Nat} (h : w.heap.size ≤ i) : (fresh L w i).1 = 0 := by unfold fresh; rw [if_neg (by omega)]
theorem fr_fresh {L : Lab} {w w' : World} {T : Lb → Prop} (h : Below w.heap.size w w') : Fr L (fresh L w) w w' T := ⟨fun i hi => fresh_old _ _ hi, h.os, h.tape, h.output, h.size, fun i hi _ => h.block i hi⟩
/-- Two switches, made behind w0. -/
structure Tw (w0 w : World) (L : Lab) (N g1 g2 : Nat) (B C : Ab) : Prop where
  a : SwI w L N g1 B
  b : SwI w L N g2 C
  ne : g1 ≠ g2
  z1 : g1 ≠ 0
  z2 : g2 ≠ 0
  low : Below w0.heap.size w0 w
  lab : ∀ i, i < w0.heap.size → (L i).1 = 0
theorem Tw.same {w0 w w' : World} {L L' : Lab} {N g1 g2 : Nat} {B C : Ab} (h : Tw w0 w L N g1 g2 B C) (hf : Fr L L' w w' (fun _ => False)) : Tw w0 w' L' N g1 g2 B C :=
  { h with a := h.a.fr hf (fun _ _ h => h), b := h.b.fr hf (fun _ _ h => h), low := ChgS.below h.low hf.2 (fun _ _ h => h) h.low.size, lab := fun i hi => by rw [hf.1 i (Nat.lt_of_lt_of_le hi h.low.size)]; exact h.lab i hi }
theorem Tw.step {w0 w w' : World} {L : Lab} {N g1 g2 : Nat} {B C : Ab} (h : Tw w0 w L N g1 g2 B C) (hb : Below w.heap.size w w') : Tw w0 w' (fresh L w) N g1 g2 B C := h.same (fr_fresh hb)
theorem Tw.first {w0 w w' : World} {L L' : Lab} {N M g1 g2 : Nat} {B B' C : Ab} (h : Tw w0 w L N g1 g2 B C) (hs : SwI w' L' M g1 B') (hN : N ≤ M) (hf : Fr L L' w w' (fun l => l.1 = g1)) : Tw w0 w' L' M g1 g2 B' C :=
  { h with a := hs, b := (h.b.fr hf (fun c k e => h.ne e.symm)).more hN, low := ChgS.below h.low hf.2 (fun i hi e => h.z1 (by rw [← e]; exact h.lab i hi)) h.low.size, lab := fun i hi => by rw [hf.1 i (Nat.lt_of_lt_of_le hi h.low.size)]; exact h.lab i hi }
theorem Tw.second {w0 w w' : World} {L L' : Lab} {N M g1 g2 : Nat} {B C C' : Ab} (h : Tw w0 w L N g1 g2 B C) (hs : SwI w' L' M g2 C') (hN : N ≤ M) (hf : Fr L L' w w' (fun l => l.1 = g2)) : Tw w0 w' L' M g1 g2 B C' :=
  { h with b := hs, a := (h.a.fr hf (fun c k e => h.ne e)).more hN, low := ChgS.below h.low hf.2 (fun i hi e => h.z2 (by rw [← e]; exact h.lab i hi)) h.low.size, lab := fun i hi => by rw [hf.1 i (Nat.lt_of_lt_of_le hi h.low.size)]; exact h.lab i hi }
theorem Tw.more {w0 w : World} {L : Lab} {N M g1 g2 : Nat} {B C : Ab} (h : Tw w0 w L N g1 g2 B C) (hN : N ≤ M) : Tw w0 w L M g1 g2 B C := { h with a := h.a.more hN, b := h.b.more hN }
/-- A box of the law's own. -/
def Bx (w : World) (L : Lab) (q : Nat) (t : TypeId) (cs : Array Value) : Prop := Blk w q t cs ∧ (L q).1 = 0
theorem Bx.fr {w w' : World} {L L' : Lab} {q g : Nat} {t : TypeId} {cs : Array Value} (h : Bx w L q t cs) (hf : Fr L L' w w' (fun l => l.1 = g)) (hg : g ≠ 0) : Bx w' L' q t cs :=
  ⟨(hf.blk h.1.lt (fun e => hg (e.symm.trans h.2))).trans h.1, by rw [hf.1 q h.1.lt]; exact h.2⟩
/-- Two switches and a box. -/
def TwB (w0 w : World) (L : Lab) (N g1 g2 : Nat) (B C : Ab) (q : Nat) (t : TypeId) (cs : Array Value) : Prop := Tw w0 w L N g1 g2 B C ∧ Bx w L q t cs
theorem TwB.boxed {w0 w : World} {L : Lab} {N g1 g2 : Nat} {B C : Ab} (h : Tw w0 w L N g1 g2 B C) (t : TypeId) (cs : Array Value) : TwB w0 (w.alloc (.cells cs t)) (fresh L w) N g1 g2 B C w.heap.size t cs :=
  ⟨h.step ((Below.refl _ _).alloc (Nat.le_refl _) _), Blk.new _ _ _, fresh_new _ _ (Nat.le_refl _)⟩
section
variable {w0 w : World} {L : Lab} {N g1 g2 : Nat} {B C B' C' : Ab} {q : Nat} {t : TypeId} {cs : Array Value}
def TwP (w0 : World) (N g1 g2 : Nat) (B C : Ab) (q : Nat) (t : TypeId) (cs : Array Value) (w' : World) : Prop := ∃ L', TwB w0 w' L' N g1 g2 B C q t cs
theorem TwB.first {w' : World} {L' : Lab} {M : Nat} (h : TwB w0 w L N g1 g2 B C q t cs) (hs : SwI w' L' M g1 B') (hN : N ≤ M) (hf : Fr L L' w w' (fun l => l.1 = g1)) : TwB w0 w' L' M g1 g2 B' C q t cs := ⟨h.1.first hs hN hf, h.2.fr hf h.1.z1⟩
theorem TwB.second {w' : World} {L' : Lab} {M : Nat} (h : TwB w0 w L N g1 g2 B C q t cs) (hs : SwI w' L' M g2 C') (hN : N ≤ M) (hf : Fr L L' w w' (fun l => l.1 = g2)) : TwB w0 w' L' M g1 g2 B C' q t cs := ⟨h.1.second hs hN hf, h.2.fr hf h.1.z2⟩
theorem t_dial1 {b x e : Int} (a : Int) (h : TwP w0 N g1 g2 B C q t cs w) (hr : dialA B = (x, e, B')) (hN : N < 1000000) (ha : sideB a = true) (hb : b = 1 - a) : Calls Try.prog 10 #[.pointer (some ⟨g1, 0, none⟩), .int .i64 a, .int .i64 b] w fun en w' => en = .returned (.tuple #[.int .i64 x, .int .i64 e]) ∧ TwP w0 (N + 1) g1 g2 B' C q t cs w' := by
  obtain ⟨L, h⟩ := h
  refine (dial_abs g1 a b B N L w h.1.a hN ha hb).mono fun en w' hh => ?_
  rw [hr] at hh
  obtain ⟨he, L', hs, hf⟩ := hh
  exact ⟨he, L', h.first hs (Nat.le_succ N) hf⟩
theorem t_dial2 {b x e : Int} (a : Int) (h : TwP w0 N g1 g2 B C q t cs w) (hr : dialA C = (x, e, C')) (hN : N < 1000000) (ha : sideB a = true) (hb : b = 1 - a) : Calls Try.prog 10 #[.pointer (some ⟨g2, 0, none⟩), .int .i64 a, .int .i64 b] w fun en w' => en = .returned (.tuple #[.int .i64 x, .int .i64 e]) ∧ TwP w0 (N + 1) g1 g2 B C' q t cs w' := by
  obtain ⟨L, h⟩ := h
  refine (dial_abs g2 a b C N L w h.1.b hN ha hb).mono fun en w' hh => ?_
  rw [hr] at hh
  obtain ⟨he, L', hs, hf⟩ := hh
  exact ⟨he, L', h.second hs (Nat.le_succ N) hf⟩
theorem t_hang1 {e : Int} (c : Int) (h : TwP w0 N g1 g2 B C q t cs w) (hr : hangA B c = (e, B')) (hc : (Lit.int .i64 c).wf = true) : Calls Try.prog 12 #[.pointer (some ⟨g1, 0, none⟩), .int .i64 c] w fun en w' => en = .returned (.int .i64 e) ∧ TwP w0 N g1 g2 B' C q t cs w' := by
  obtain ⟨L, h⟩ := h
  refine (hang_abs g1 c B N L w h.1.a hc).mono fun en w' hh => ?_
  rw [hr] at hh
  obtain ⟨he, L', hs, hf⟩ := hh
  exact ⟨he, L', h.first hs (Nat.le_refl N) hf⟩
theorem t_hang2 {e : Int} (c : Int) (h : TwP w0 N g1 g2 B C q t cs w) (hr : hangA C c = (e, C')) (hc : (Lit.int .i64 c).wf = true) : Calls Try.prog 12 #[.pointer (some ⟨g2, 0, none⟩), .int .i64 c] w fun en w' => en = .returned (.int .i64 e) ∧ TwP w0 N g1 g2 B C' q t cs w' := by
  obtain ⟨L, h⟩ := h
  refine (hang_abs g2 c C N L w h.1.b hc).mono fun en w' hh => ?_
  rw [hr] at hh
  obtain ⟨he, L', hs, hf⟩ := hh
  exact ⟨he, L', h.second hs (Nat.le_refl N) hf⟩
theorem t_send1 {e : Int} (c n : Int) (d : ByteArray) (h : TwP w0 N g1 g2 B C q t cs w) (hr : sendA B c n d = (e, B')) (hN : N < 1000000) (hc : (Lit.int .i64 c).wf = true) : Calls Try.prog 14 #[.pointer (some ⟨g1, 0, none⟩), .int .i64 c, .int .i64 n, .string d] w fun en w' => en = .returned (.int .i64 e) ∧ TwP w0 (N + 1) g1 g2 B' C q t cs w' := by
  obtain ⟨L, h⟩ := h
  refine (send_abs g1 c n B N L d w h.1.a hN hc).mono fun en w' hh => ?_
  rw [hr] at hh
  obtain ⟨he, L', hs, hf⟩ := hh
  exact ⟨he, L', h.first hs (Nat.le_succ N) hf⟩
theorem t_send2 {e : Int} (c n : Int) (d : ByteArray) (h : TwP w0 N g1 g2 B C q t cs w) (hr : sendA C c n d = (e, C')) (hN : N < 1000000) (hc : (Lit.int .i64 c).wf = true) : Calls Try.prog 14 #[.pointer (some ⟨g2, 0, none⟩), .int .i64 c, .int .i64 n, .string d] w fun en w' => en = .returned (.int .i64 e) ∧ TwP w0 (N + 1) g1 g2 B C' q t cs w' := by
  obtain ⟨L, h⟩ := h
  refine (send_abs g2 c n C N L d w h.1.b hN hc).mono fun en w' hh => ?_
  rw [hr] at hh
  obtain ⟨he, L', hs, hf⟩ := hh
  exact ⟨he, L', h.second hs (Nat.le_succ N) hf⟩
theorem t_read1 {e : Int} (c to : Int) {d : ByteArray} (h : TwP w0 N g1 g2 B C q t cs w) (hr : readA B c to = (d, e, B')) (hN : N < 1000000) (hc : (Lit.int .i64 c).wf = true) : Calls Try.prog 15 #[.pointer (some ⟨g1, 0, none⟩), .int .i64 c, .int .i64 to] w fun en w' => en = .returned (.tuple #[.string d, .int .i64 e]) ∧ TwP w0 (N + 1) g1 g2 B' C q t cs w' := by
  obtain ⟨L, h⟩ := h
  refine (read_abs g1 c to B N L w h.1.a hN hc).mono fun en w' hh => ?_
  rw [hr] at hh
  obtain ⟨he, L', hs, hf⟩ := hh
  exact ⟨he, L', h.first hs (Nat.le_succ N) hf⟩
theorem t_read2 {e : Int} (c to : Int) {d : ByteArray} (h : TwP w0 N g1 g2 B C q t cs w) (hr : readA C c to = (d, e, C')) (hN : N < 1000000) (hc : (Lit.int .i64 c).wf = true) : Calls Try.prog 15 #[.pointer (some ⟨g2, 0, none⟩), .int .i64 c, .int .i64 to] w fun en w' => en = .returned (.tuple #[.string d, .int .i64 e]) ∧ TwP w0 (N + 1) g1 g2 B C' q t cs w' := by
  obtain ⟨L, h⟩ := h
  refine (read_abs g2 c to C N L w h.1.b hN hc).mono fun en w' hh => ?_
  rw [hr] at hh
  obtain ⟨he, L', hs, hf⟩ := hh
  exact ⟨he, L', h.second hs (Nat.le_succ N) hf⟩
theorem t_busy1 {k : Nat} (n : Int) (h : TwP w0 N g1 g2 B C q t cs w) (hk : B.n = k) (hn : sideB n = true) : Calls Try.prog 13 #[.pointer (some ⟨g1, 0, none⟩), .int .i64 n] w fun e w' => e = .returned (.int .i64 (k : Int)) ∧ w = w' := by
  subst hk
  obtain ⟨L, h⟩ := h
  exact busy_abs g1 n B N L w h.1.a hn
theorem t_busy2 {k : Nat} (n : Int) (h : TwP w0 N g1 g2 B C q t cs w) (hk : C.n = k) (hn : sideB n = true) : Calls Try.prog 13 #[.pointer (some ⟨g2, 0, none⟩), .int .i64 n] w fun e w' => e = .returned (.int .i64 (k : Int)) ∧ w = w' := by
  subst hk
  obtain ⟨L, h⟩ := h
  exact busy_abs g2 n C N L w h.1.b hn
theorem TwP.box (h : TwP w0 N g1 g2 B C q t cs w) : Blk w q t cs := by
  obtain ⟨L, h⟩ := h
  exact h.2.1
theorem TwP.low (h : TwP w0 N g1 g2 B C q t cs w) : Below w0.heap.size w0 w := by
  obtain ⟨L, h⟩ := h
  exact h.1.low
theorem TwP.drewN (h : TwP w0 N g1 g2 B C q t cs w) (n : Nat) : TwP w0 N g1 g2 B C q t cs (w.drewN n) := by
  obtain ⟨L, h⟩ := h
  have hf : Fr L L w (w.drewN n) (fun _ => False) := ⟨fun _ _ => rfl, rfl, rfl, rfl, Nat.le_refl _, fun _ _ _ => rfl⟩
  exact ⟨L, h.1.same hf, h.2⟩
theorem TwP.drew (h : TwP w0 N g1 g2 B C q t cs w) : TwP w0 N g1 g2 B C q t cs w.drew := by
  obtain ⟨L, h⟩ := h
  have hf : Fr L L w w.drew (fun _ => False) := ⟨fun _ _ => rfl, rfl, rfl, rfl, Nat.le_refl _, fun _ _ _ => rfl⟩
  exact ⟨L, h.1.same hf, h.2⟩
end
/-- The second switch is made. -/
theorem new_second {w0 w : World} {L : Lab} {N g1 : Nat} {B : Ab} (ports most : Int) (h : St w0 w L N g1 B) (h1 : 1 ≤ ports) (h2 : ports ≤ 8) (h3 : 1 ≤ most) (h4 : most ≤ 65536) : Calls Try.prog 9 #[.int .i64 ports, .int .i64 most] w fun e w' => e = .returned (.tuple #[.pointer (some ⟨w.heap.size + 1, 0, none⟩), .int .i64 0]) ∧ ∃ L', Tw w0 w' L' N g1 (w.heap.size + 1) B (newB ports most) :=
  (new_abs ports most w L h1 h2 h3 h4).mono fun e w' hh => by
    obtain ⟨he, hb, L', hs, hf⟩ := hh
    have hg := h.1.g.1
    exact ⟨he, L', { a := h.1.fr hf (fun _ _ h => h), b := hs.more (Nat.zero_le _), ne := by omega, z1 := h.2.2.1, z2 := by omega, low := h.2.1.trans (hb.mono h.2.1.size), lab := fun i hi => by rw [hf.1 i (Nat.lt_of_lt_of_le hi h.2.1.size)]; exact h.2.2.2 i hi }⟩
theorem SwI.off {w : World} {L : Lab} {N g : Nat} {B : Ab} (h : SwI w L N g B) {c : Int} (hc : (N : Int) < c) : B.A c = none := by
  obtain ⟨s, h⟩ := h
  exact h.new c (by have := h.l1; omega)
end Go.Proofs.Ytmbnonkbflchoaa
