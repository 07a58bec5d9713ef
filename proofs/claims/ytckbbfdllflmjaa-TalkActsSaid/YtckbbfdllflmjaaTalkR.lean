/- The reference's exchanges in memory, in plain words; what a call that turns few blocks leaves as it was; the contracts of NewTalk and Again. No condition. -/
import Derived.Test.YtckbbfdllflmjaaTalkG
import Derived.Test.YtckbbfdllflmjaaOptKept
namespace Go.Proofs.Ytckbbfdllflmjaa
open Go.RowKit
set_option linter.unusedVariables false
set_option linter.unusedSimpArgs false
attribute [local go_sem] conv1 conv1d conv1n conv1a conv1ad conv1an conv2 conv2d conv2n conv2a conv2ad conv2an conv4 conv4d conv4n conv4a conv4ad conv4an conv5 conv5d conv5n conv5a conv5ad conv5an size_nums byt_fold
/-- At most the old blocks P have turned. -/
structure Chg (P : Nat → Prop) (w w' : World) : Prop where
  os : w'.os = w.os
  tape : w'.tape = w.tape
  output : w'.output = w.output
  size : w.heap.size ≤ w'.heap.size
  block : ∀ k, k < w.heap.size → ¬ P k → w'.heap[k]? = w.heap[k]?
theorem Chg.row {P : Nat → Prop} {w w' : World} {row : Option Nat} (h : w.grownBy w' row) (hp : ∀ k, row = some k → P k) : Chg P w w' :=
  ⟨h.os, h.tape, h.output, h.size, fun k hk hn => h.block k hk (fun e => hn (hp k e.symm))⟩
theorem Chg.gr {P : Nat → Prop} {w w' : World} {g : Nat} (h : w.grownBy w' (some g)) (hp : P g) : Chg P w w' := Chg.row h (fun k e => by rw [← Option.some.inj e]; exact hp)
theorem Chg.below {P : Nat → Prop} {w w' : World} (h : Below w.heap.size w w') : Chg P w w' := ⟨h.os, h.tape, h.output, h.size, fun k hk _ => h.block k hk⟩
theorem Chg.refl (P : Nat → Prop) (w : World) : Chg P w w := Chg.below (Below.refl _ _)
theorem Chg.trans {P : Nat → Prop} {a b c : World} (h : Chg P a b) (k : Chg P b c) : Chg P a c :=
  ⟨k.os.trans h.os, k.tape.trans h.tape, k.output.trans h.output, Nat.le_trans h.size k.size, fun i hi hn => (k.block i (Nat.lt_of_lt_of_le hi h.size) hn).trans (h.block i hi hn)⟩
theorem Chg.set {P : Nat → Prop} {a w : World} (h : Chg P a w) {p : Addr} (hp : P p.block) (u : Value) : Chg P a (w.setCell p u) :=
  h.trans ⟨rfl, rfl, rfl, by simp [World.setCell], fun k hk hn => Below.heap_setCell _ _ _ _ (fun e => hn (by rw [e]; exact hp))⟩
theorem Chg.mono {P Q : Nat → Prop} {w w' : World} (h : Chg P w w') (hq : ∀ b, P b → Q b) : Chg Q w w' := ⟨h.os, h.tape, h.output, h.size, fun k hk hn => h.block k hk (fun e => hn (hq k e))⟩
theorem Blk.chg {P : Nat → Prop} {w w' : World} {g : Nat} {t : TypeId} {cs : Array Value} (h : Blk w g t cs) (hc : Chg P w w') (hn : ¬ P g) : Blk w' g t cs := (hc.block g h.lt hn).trans h
theorem Below.chg {P : Nat → Prop} {B : Nat} {w0 w w' : World} (h : Below B w0 w) (hc : Chg P w w') (hB : B ≤ w.heap.size) (hp : ∀ k, P k → B ≤ k) : Below B w0 w' :=
  h.trans ⟨hc.os, hc.tape, hc.output, hc.size, fun k hk => hc.block k (by omega) (fun e => by have := hp k e; omega)⟩
theorem Chg.cell {P : Nat → Prop} {w w' : World} {b o : Nat} {v : Value} (hc : Chg P w w') (hn : ¬ P b) (h : w.cell? ⟨b, o, none⟩ = some v) : w'.cell? ⟨b, o, none⟩ = some v :=
  (World.cell?_of_block (w := w) (a := ⟨b, o, none⟩) (hc.block b (cell_lt h) hn)).trans h
theorem OptsAt.chg {P : Nat → Prop} {w w' : World} {A : Option Addr} {n : Nat} {l : List (Int × ByteArray)} (h : OptsAt w A n l) (hc : Chg P w w') (hp : ∀ b off, 0 < n → A = some ⟨b, off, none⟩ → ¬ P b) : OptsAt w' A n l := by
  refine ⟨h.1, fun hn => ?_⟩
  obtain ⟨b, off, rfl, hlt, hcs⟩ := h.2 hn
  refine ⟨b, off, rfl, Nat.lt_of_lt_of_le hlt hc.size, fun j hj => ?_⟩
  obtain ⟨c1, c2⟩ := hcs j hj
  exact ⟨hc.cell (hp b off hn rfl) c1, hc.cell (hp b off hn rfl) c2⟩
theorem Lies.chg {P X : Nat → Prop} {w w' : World} {A : Option Addr} {n cap : Nat} {l : List (Int × ByteArray)} (h : Lies w X A n cap l) (hc : Chg P w w') (hp : ∀ b, P b → X b) : Lies w' X A n cap l :=
  ⟨h.1.chg hc (fun b off _ e hb => (h.2.2.2 _ e).2 (hp _ hb)), h.2.1, h.2.2.1, fun a ha => ⟨Nat.lt_of_lt_of_le (h.2.2.2 a ha).1 hc.size, (h.2.2.2 a ha).2⟩⟩
theorem TAt.chg {P X : Nat → Prop} {w w' : World} {g : Nat} {s : TS} (h : TAt w X g s) (hc : Chg P w w') (hp : ∀ b, P b → X b) (hn : ¬ P g) : TAt w' X g s := by
  obtain ⟨A, n, cap, B, m, cb, h, h1, h2⟩ := h
  exact ⟨A, n, cap, B, m, cb, h.chg hc hn, h1.chg hc hp, h2.chg hc hp⟩
theorem MadeO.chg {P : Nat → Prop} {w w' w2 : World} {A : Option Addr} {n cap : Nat} {l : List (Int × ByteArray)} (h : MadeO w w' A n cap l) (hc : Chg P w' w2) (hp : ∀ a, A = some a → ¬ P a.block) : MadeO w w2 A n cap l := by
  have hnew := h.new
  obtain ⟨⟨h1, h2⟩, h3, h4⟩ := h
  refine ⟨⟨h1, ?_⟩, h3, h4⟩
  rcases h2 with h | ⟨g, cap', cur, e, hg, hh, r⟩
  · exact .inl h
  · injection e with e1 e2 e3
    subst e1
    refine .inr ⟨g, cap', cur, by rw [e3], hg, ?_, r⟩
    have := hnew _ rfl
    exact (hc.block g this.2 (hp _ rfl)).trans hh
/-- A slice of options of which no element lies in the blocks X. -/
def RLies (w : World) (X : Nat → Prop) (A : Option Addr) (n : Nat) (l : List (Int × ByteArray)) : Prop := OptsAt w A n l ∧ ∀ b off, 0 < n → A = some ⟨b, off, none⟩ → ¬ X b
theorem RLies.chg {P X : Nat → Prop} {w w' : World} {A : Option Addr} {n : Nat} {l : List (Int × ByteArray)} (h : RLies w X A n l) (hc : Chg P w w') (hp : ∀ b, P b → X b) : RLies w' X A n l :=
  ⟨h.1.chg hc (fun b off hn e hb => h.2 b off hn e (hp b hb)), h.2⟩
theorem RLies.keep {w w' : World} {X : Nat → Prop} {A : Option Addr} {n : Nat} {l : List (Int × ByteArray)} (h : RLies w X A n l) (hb : Below w.heap.size w w') : RLies w' X A n l := ⟨h.1.keep hb, h.2⟩
theorem RLies.nil (w : World) (X : Nat → Prop) : RLies w X none 0 [] := ⟨OptsAt.nil _ _, fun _ _ h => by omega⟩
theorem RLies.mono {w : World} {X Y : Nat → Prop} {A : Option Addr} {n : Nat} {l : List (Int × ByteArray)} (h : RLies w X A n l) (hx : ∀ b, b < w.heap.size → Y b → X b) : RLies w Y A n l :=
  ⟨h.1, fun b off hn e hy => by
    obtain ⟨b', off', e', hlt, _⟩ := h.1.2 hn
    have := e.symm.trans e'
    injection this with this
    injection this with e1 _
    subst e1
    exact h.2 b off hn e (hx b hlt hy)⟩
theorem Lies.r {w : World} {X : Nat → Prop} {A : Option Addr} {n cap : Nat} {l : List (Int × ByteArray)} (h : Lies w X A n cap l) : RLies w X A n l := ⟨h.1, fun b off _ e => (h.2.2.2 _ e).2⟩
theorem MadeO.r {w w' : World} {X : Nat → Prop} {A : Option Addr} {n cap : Nat} {l : List (Int × ByteArray)} (h : MadeO w w' A n cap l) (hX : ∀ b, X b → b < w.heap.size) : RLies w' X A n l := (h.lies hX).r
def rtC (s : TS) (L : Int) (A : Option Addr) (n cap : Nat) (B : Option Addr) (m cb : Nat) : Array Value := #[.bool (decide (0 < s.left)), .int .i64 s.lc, .int .i64 s.li, .int .i64 s.la, .slice B m cb, .bool s.fav, .int .i64 s.tries, .int .i64 L, .int .i64 s.id, .int .i64 s.ac, .int .i64 s.ai, .int .i64 s.aa, .slice A n cap]
/-- The reference's side: as the program's, but that 'left' is read only while an exchange is pending. -/
def RAt (w : World) (X : Nat → Prop) (r : Nat) (s : TS) : Prop := ∃ L A n cap B m cb, Blk w r 55 (rtC s L A n cap B m cb) ∧ (0 < s.left → L = s.left) ∧ RLies w X A n s.al ∧ RLies w X B m s.ll
theorem RAt.lt {w : World} {X : Nat → Prop} {g : Nat} {s : TS} (h : RAt w X g s) : g < w.heap.size := by
  obtain ⟨L, A, n, cap, B, m, cb, h, _⟩ := h
  exact h.lt
theorem RAt.chg {P X : Nat → Prop} {w w' : World} {g : Nat} {s : TS} (h : RAt w X g s) (hc : Chg P w w') (hp : ∀ b, P b → X b) (hn : ¬ P g) : RAt w' X g s := by
  obtain ⟨L, A, n, cap, B, m, cb, h, hl, h1, h2⟩ := h
  exact ⟨L, A, n, cap, B, m, cb, h.chg hc hn, hl, h1.chg hc hp, h2.chg hc hp⟩
theorem RAt.keep {w w' : World} {X : Nat → Prop} {g : Nat} {s : TS} (h : RAt w X g s) (hb : Below w.heap.size w w') : RAt w' X g s := by
  obtain ⟨L, A, n, cap, B, m, cb, h, hl, h1, h2⟩ := h
  exact ⟨L, A, n, cap, B, m, cb, h.keep hb, hl, h1.keep hb, h2.keep hb⟩
theorem RAt.mono {w : World} {X Y : Nat → Prop} {g : Nat} {s : TS} (h : RAt w X g s) (hx : ∀ b, b < w.heap.size → Y b → X b) : RAt w Y g s := by
  obtain ⟨L, A, n, cap, B, m, cb, h, hl, h1, h2⟩ := h
  exact ⟨L, A, n, cap, B, m, cb, h, hl, h1.mono hx, h2.mono hx⟩
theorem RAt.up {w : World} {X : Nat → Prop} {g : Nat} {s : TS} (h : RAt w X g s) : RAt w (UpX X w.heap.size) g s := h.mono fun b hb hx => by
  rcases hx with hx | hx
  · exact hx
  · omega
theorem RAt.down {w w' : World} {X : Nat → Prop} {g : Nat} {s : TS} (h : RAt w' (UpX X w.heap.size) g s) : RAt w' X g s := h.mono fun b _ hx => .inl hx
theorem RLies.up {w : World} {X : Nat → Prop} {A : Option Addr} {n : Nat} {l : List (Int × ByteArray)} (h : RLies w X A n l) : RLies w (UpX X w.heap.size) A n l := h.mono fun b hb hx => by
  rcases hx with hx | hx
  · exact hx
  · omega
set_option maxHeartbeats 1000000 in
theorem rnew_bad (fav : Bool) (tries : Int) (w : World) (h : tnewB tries = false) : Calls Try.prog 11 #[.bool fav, .int .i64 tries] w fun e w' => e = .returned (.tuple #[.pointer none, .int .i64 2200]) ∧ w = w' := by
  have h4 : tries < 1 ∨ 10 < tries := by have := of_decide_eq_false h; omega
  clear h
  rcases h4 with h4 | h4
  all_goals
    go_enter Try.func11, Try.ntmps11
    go_wp2_with fail
    go_ret2
    exact ⟨rfl, rfl⟩
set_option maxHeartbeats 1000000 in
theorem rnew_ok (fav : Bool) (tries : Int) (w : World) (h : tnewB tries = true) (X : Nat → Prop) : Calls Try.prog 11 #[.bool fav, .int .i64 tries] w fun e w' => e = .returned (.tuple #[.pointer (some ⟨w.heap.size, 0, none⟩), .int .i64 0]) ∧ RAt w' X w.heap.size (ts0 fav tries) ∧ Below w.heap.size w w' := by
  obtain ⟨h4, h5⟩ := of_decide_eq_true h
  clear h
  go_enter Try.func11, Try.ntmps11
  go_wp2_with fail
  go_ret2
  exact ⟨rfl, ⟨0, none, 0, 0, none, 0, 0, Blk.new _ _ _, fun h => absurd h (by unfold ts0; simp), RLies.nil _ _, RLies.nil _ _⟩, (Below.refl _ _).alloc (Nat.le_refl _) _⟩
/-- What a call of the reference leaves that hands back a datagram. -/
def RBapR (xc xi xa : Int) (xl : List (Int × ByteArray)) (E : Int) (X : Nat → Prop) (r : Nat) (S : TS) (w : World) (e : Ending) (w' : World) : Prop :=
  ∃ Q qn qc, e = .returned (.tuple #[.agg #[.int .i64 xc, .int .i64 xi, .int .i64 xa, .slice Q qn qc], .int .i64 E]) ∧ RLies w' X Q qn xl ∧ RAt w' X r S ∧ w.grownBy w' (some r)
theorem rtC_again (s : TS) (L : Int) (A : Option Addr) (n cap : Nat) (B : Option Addr) (m cb : Nat) (x : Int) (h1 : 0 < s.left) (hx : 0 < x) : (rtC s L A n cap B m cb).setIfInBounds 7 (.int .i64 x) = rtC { s with left := x } x A n cap B m cb := by
  unfold rtC
  rw [decide_eq_true h1]
  have e : decide (0 < x) = true := decide_eq_true hx
  simp only [e]
  rfl
theorem rtC_gone (s : TS) (L : Int) (A : Option Addr) (n cap : Nat) (B : Option Addr) (m cb : Nat) (x : Int) : ((rtC s L A n cap B m cb).setIfInBounds 7 (.int .i64 x)).setIfInBounds 0 (.bool false) = rtC { s with left := 0 } x A n cap B m cb := rfl
theorem rtC_gone0 (s : TS) (L : Int) (A : Option Addr) (n cap : Nat) (B : Option Addr) (m cb : Nat) : (rtC s L A n cap B m cb).setIfInBounds 0 (.bool false) = rtC { s with left := 0 } L A n cap B m cb := rfl
theorem RLies.own {w w' : World} {X : Nat → Prop} {A : Option Addr} {n g : Nat} {l : List (Int × ByteArray)} (h : RLies w X A n l) (hg : w.grownBy w' (some g)) (hX : X g) : RLies w' X A n l := h.chg (P := fun b => b = g) (Chg.gr hg rfl) (fun b e => by rw [e]; exact hX)
set_option maxRecDepth 100000 in
set_option maxHeartbeats 1000000 in
theorem ragain_any (X : Nat → Prop) (g : Nat) (s : TS) (w : World) (hp : RAt w X g s) (hX : X g) (hl : 0 ≤ s.left ∧ s.left ≤ 10) :
    Calls Try.prog 20 #[.pointer (some ⟨g, 0, none⟩)] w (RBapR (tAgR s).1 (tAgR s).2.1 (tAgR s).2.2.1 (tAgR s).2.2.2 (tAgE s) X g (tAg s) w) := by
  obtain ⟨L, A, n, cap, B, m, cb, h, hL0, h1, h2⟩ := hp
  have c0 : w.cell? ⟨g, 0, none⟩ = some (.bool (decide (0 < s.left))) := h.cell 0
  have c7 : w.cell? ⟨g, 7, none⟩ = some (.int .i64 L) := h.cell 7
  have c9 : w.cell? ⟨g, 9, none⟩ = some (.int .i64 s.ac) := h.cell 9
  have c10 : w.cell? ⟨g, 10, none⟩ = some (.int .i64 s.ai) := h.cell 10
  have c11 : w.cell? ⟨g, 11, none⟩ = some (.int .i64 s.aa) := h.cell 11
  have c12 : w.cell? ⟨g, 12, none⟩ = some (.slice A n cap) := h.cell 12
  have hlt := h.lt
  have hfr := h.frozen
  have hgw : g ≠ w.heap.size := by omega
  have HH := Lib.hid h; have H1 := Lib.hid h1; have H2 := Lib.hid h2
  clear h h1 h2
  by_cases h0 : s.left = 0
  · have HX := Lib.hid (show tAgR s = (0, 0, 0, []) ∧ tAgE s = 2202 ∧ tAg s = s from ⟨by unfold tAgR; rw [if_pos (.inl h0)], by unfold tAgE; rw [if_pos (.inl h0)], by unfold tAg; rw [if_pos h0]⟩)
    have HL := Lib.hid hL0
    rw [h0] at c0
    clear hL0 h0 hl
    have c0 : w.cell? ⟨g, 0, none⟩ = some (.bool false) := c0
    go_enter Try.func20, Try.ntmps20
    go_wp2_with fail
    refine bodyPost_ret (v := .tuple #[.agg #[.int .i64 0, .int .i64 0, .int .i64 0, .slice none 0 0], .int .i64 2202]) (by simp [results, Try.results20, go_sem]) rfl ?_
    rw [HX.out.1, HX.out.2.1, HX.out.2.2]
    have hb : Below w.heap.size w (w.alloc (.cells #[.int .i64 0, .int .i64 0, .int .i64 0, .slice none 0 0] 34)) := (Below.refl _ _).alloc (Nat.le_refl _) _
    exact ⟨none, 0, 0, rfl, RLies.nil _ _, RAt.keep ⟨L, A, n, cap, B, m, cb, HH.out, HL.out, H1.out, H2.out⟩ hb, gr_alloc (gr_refl _ _) _⟩
  have hpos : 0 < s.left := by omega
  have hLs := hL0 hpos
  rw [decide_eq_true hpos] at c0
  clear hL0
  obtain ⟨L2, hL2⟩ : ∃ L2, L - 1 = L2 := ⟨_, rfl⟩
  have hw : IntKind.i64.wrap (L - 1) = L2 := by rw [IntWalk.i64_in _ (by omega)]; exact hL2
  by_cases h3 : s.left = 1
  · have HX := Lib.hid (show tAgR s = (0, 0, 0, []) ∧ tAgE s = 2202 ∧ tAg s = { s with left := 0 } from ⟨by unfold tAgR; rw [if_pos (.inr h3)], by unfold tAgE; rw [if_pos (.inr h3)], by unfold tAg; rw [if_neg (by omega), h3]; rfl⟩)
    have hle : decide (L2 ≤ 0) = true := by simp; omega
    have HB := Lib.hid (show Blk ((w.setCell ⟨g, 7, none⟩ (.int .i64 L2)).setCell ⟨g, 0, none⟩ (.bool false)) g 55 (rtC { s with left := 0 } L2 A n cap B m cb) from by
      have h := Blk.set_ (Blk.set_ HH.out 7 (.int .i64 L2)) 0 (.bool false)
      rw [rtC_gone] at h; exact h)
    have HG := Lib.hid (show w.grownBy ((w.setCell ⟨g, 7, none⟩ (.int .i64 L2)).setCell ⟨g, 0, none⟩ (.bool false)) (some g) from gr_set (gr_set (gr_refl w g) (.inl rfl) _) (.inl rfl) _)
    have le0 : L2 ≤ 0 := by omega
    clear hLs h3 h0 hpos hl hL2
    go_enter Try.func20, Try.ntmps20
    go_wp2_with fail
    refine bodyPost_ret (v := .tuple #[.agg #[.int .i64 0, .int .i64 0, .int .i64 0, .slice none 0 0], .int .i64 2202]) (by simp [results, Try.results20, go_sem]) rfl ?_
    rw [HX.out.1, HX.out.2.1, HX.out.2.2]
    exact ⟨none, 0, 0, rfl, RLies.nil _ _, RAt.keep ⟨L2, A, n, cap, B, m, cb, HB.out, fun h => absurd h (by simp), H1.out.own HG.out hX, H2.out.own HG.out hX⟩ ((Below.refl _ _).alloc (Nat.le_refl _) _), gr_alloc HG.out _⟩
  · have hle : ¬ L2 ≤ 0 := by omega
    have HX := Lib.hid (show tAgR s = (s.ac, s.ai, s.aa, s.al) ∧ tAgE s = 0 ∧ tAg s = { s with left := L2 } from ⟨by unfold tAgR; rw [if_neg (by omega)], by unfold tAgE; rw [if_neg (by omega)], by unfold tAg; rw [if_neg (by omega), ← hL2, hLs]⟩)
    have HB := Lib.hid (show Blk (w.setCell ⟨g, 7, none⟩ (.int .i64 L2)) g 55 (rtC { s with left := L2 } L2 A n cap B m cb) from by
      have h := Blk.set_ HH.out 7 (.int .i64 L2)
      rw [rtC_again s L A n cap B m cb L2 hpos (by omega)] at h; exact h)
    have HG := Lib.hid (show w.grownBy (w.setCell ⟨g, 7, none⟩ (.int .i64 L2)) (some g) from gr_set (gr_refl w g) (.inl rfl) _)
    have lt0 : 0 < L2 := by omega
    clear hLs h3 h0 hpos hl hL2
    go_enter Try.func20, Try.ntmps20
    go_wp2_with fail
    refine bodyPost_ret (v := .tuple #[.agg #[.int .i64 s.ac, .int .i64 s.ai, .int .i64 s.aa, .slice A n cap], .int .i64 0]) (by simp [results, Try.results20, go_sem]) rfl ?_
    rw [HX.out.1, HX.out.2.1, HX.out.2.2]
    have hq1 := H1.out.own HG.out hX
    have hb : Below (w.setCell ⟨g, 7, none⟩ (.int .i64 L2)).heap.size (w.setCell ⟨g, 7, none⟩ (.int .i64 L2)) ((w.setCell ⟨g, 7, none⟩ (.int .i64 L2)).alloc (.cells #[.int .i64 s.ac, .int .i64 s.ai, .int .i64 s.aa, .slice A n cap] 34)) := (Below.refl _ _).alloc (Nat.le_refl _) _
    exact ⟨A, n, cap, rfl, hq1.keep hb, RAt.keep ⟨L2, A, n, cap, B, m, cb, HB.out, fun _ => rfl, hq1, H2.out.own HG.out hX⟩ hb, gr_alloc HG.out _⟩
end Go.Proofs.Ytckbbfdllflmjaa
