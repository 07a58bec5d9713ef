/- Both sides' exchanges at once, and the contracts of their calls in these words. No condition but memory's own limits. -/
import Derived.Test.YtckbbfdllflmjaaTalkRS
namespace Go.Proofs.Ytckbbfdllflmjaa
open Go.RowKit
set_option linter.unusedVariables false
set_option linter.unusedSimpArgs false
attribute [local go_sem] conv1 conv1d conv1n conv1a conv1ad conv1an conv2 conv2d conv2n conv2a conv2ad conv2an conv4 conv4d conv4n conv4a conv4ad conv4an conv5 conv5d conv5n conv5a conv5ad conv5an size_nums byt_fold
/-- What stays true of a side, whatever is called. -/
def InvS (s : TS) : Prop := (0 ≤ s.left ∧ s.left ≤ 10) ∧ (0 ≤ s.id ∧ s.id ≤ 255) ∧ (1 ≤ s.tries ∧ s.tries ≤ 10) ∧ (0 ≤ s.ac ∧ s.ac ≤ 8)
theorem inv0 {fav : Bool} {tries : Int} (h : tnewB tries = true) : InvS (ts0 fav tries) := by
  have := of_decide_eq_true h
  exact ⟨by unfold ts0; simp, by unfold ts0; simp, by unfold ts0; simpa using this, by unfold ts0; simp⟩
theorem askB_code {c : Int} (h : askB c = true) : 0 ≤ c ∧ c ≤ 8 := by
  unfold askB reqB at h
  simp at h
  omega
theorem inv_ask {s : TS} (c : Int) (os : List (Int × ByteArray)) (h : InvS s) : InvS (tAsk s c os) := by
  unfold tAsk
  by_cases hE : tAskE s c os = 0
  · rw [if_pos hE]
    have hc : askB c = true := by
      unfold tAskE at hE
      cases hb : askB c
      · rw [hb] at hE; simp at hE
      · rfl
    have hc := askB_code hc
    obtain ⟨h1, h2, h3, h4⟩ := h
    refine ⟨⟨?_, ?_⟩, ⟨?_, ?_⟩, h3, hc⟩
    · show 0 ≤ s.tries; omega
    · show s.tries ≤ 10; omega
    · show 0 ≤ nextI s; unfold nextI; omega
    · show nextI s ≤ 255; unfold nextI; omega
  · rw [if_neg hE]; exact h
theorem inv_left {s : TS} {x : Int} (h : InvS s) (h0 : 0 ≤ x) (h1 : x ≤ 10) : InvS { s with left := x } := ⟨⟨h0, h1⟩, h.2⟩
theorem inv_ag {s : TS} (h : InvS s) : InvS (tAg s) := by
  unfold tAg
  have := h.1
  by_cases h0 : s.left = 0
  · rw [if_pos h0]; exact h
  · rw [if_neg h0]; exact inv_left h (by omega) (by omega)
theorem inv_tk {s : TS} (c i a : Int) (os : List (Int × ByteArray)) (h : InvS s) : InvS (tkS s c i a os) := by
  have hz : InvS { s with left := 0 } := inv_left h (by omega) (by omega)
  have hz2 : InvS { s with left := 0, lc := c, li := i, la := a, ll := os } := hz
  unfold tkS tReqS
  repeat' split
  all_goals assumption
/-- Both sides: the program's in block g, the reference's in block r; the options of either lie in none of the blocks Y. -/
structure TK (w0 w : World) (Y : Nat → Prop) (g r : Nat) (s t : TS) : Prop where
  bel : Below w0.heap.size w0 w
  tat : TAt w Y g s
  rat : RAt w Y r t
  ne : g ≠ r
  yg : Y g
  yr : Y r
  yl : ∀ b, Y b → w0.heap.size ≤ b ∧ b < w.heap.size
theorem TK.keep {w0 w w' : World} {Y : Nat → Prop} {g r : Nat} {s t : TS} (h : TK w0 w Y g r s t) (hb : Below w.heap.size w w') : TK w0 w' Y g r s t :=
  ⟨h.bel.trans (hb.mono h.bel.size), h.tat.keep hb, h.rat.keep hb, h.ne, h.yg, h.yr, fun b hy => ⟨(h.yl b hy).1, Nat.lt_of_lt_of_le (h.yl b hy).2 hb.size⟩⟩
theorem TK.chg {P : Nat → Prop} {w0 w w' : World} {Y : Nat → Prop} {g r : Nat} {s t : TS} (h : TK w0 w Y g r s t) (hc : Chg P w w') (hp : ∀ b, P b → Y b) (hg : ¬ P g) (hr : ¬ P r) : TK w0 w' Y g r s t :=
  ⟨Below.chg h.bel hc h.bel.size (fun k hk => (h.yl k (hp k hk)).1), h.tat.chg hc hp hg, h.rat.chg hc hp hr, h.ne, h.yg, h.yr, fun b hy => ⟨(h.yl b hy).1, Nat.lt_of_lt_of_le (h.yl b hy).2 hc.size⟩⟩
theorem TK.prog {w0 w w' : World} {Y Z : Nat → Prop} {g r : Nat} {s t S : TS} (h : TK w0 w Y g r s t) (hg : w.grownBy w' (some g)) (hyz : ∀ b, Y b → Z b) (hz : ∀ b, Z b → Y b ∨ (w.heap.size ≤ b ∧ b < w'.heap.size)) (ht : TAt w' Z g S) : TK w0 w' Z g r S t :=
  have hc : Chg (fun b => b = g) w w' := Chg.gr hg rfl
  ⟨Below.chg h.bel hc h.bel.size (fun k hk => by rw [hk]; exact (h.yl g h.yg).1), ht,
    (h.rat.up.chg hc (fun b e => by rw [e]; exact .inl h.yg) (fun e => h.ne e.symm)).mono (fun b _ hb => (hz b hb).imp id (fun e => e.1)), h.ne, hyz _ h.yg, hyz _ h.yr,
    fun b hb => by
      have h0 := h.bel.size
      rcases hz b hb with e | e
      · exact ⟨(h.yl b e).1, Nat.lt_of_lt_of_le (h.yl b e).2 hg.size⟩
      · exact ⟨by omega, e.2⟩⟩
theorem TK.ref {w0 w w' : World} {Y : Nat → Prop} {g r : Nat} {s t T : TS} (h : TK w0 w Y g r s t) (hg : w.grownBy w' (some r)) (hr : RAt w' Y r T) : TK w0 w' Y g r s T :=
  have hc : Chg (fun b => b = r) w w' := Chg.gr hg rfl
  ⟨Below.chg h.bel hc h.bel.size (fun k hk => by rw [hk]; exact (h.yl r h.yr).1), h.tat.chg hc (fun b e => by rw [e]; exact h.yr) h.ne, hr, h.ne, h.yg, h.yr, fun b hy => ⟨(h.yl b hy).1, Nat.lt_of_lt_of_le (h.yl b hy).2 hg.size⟩⟩
/-- .. and an act in block q, and a slice lent. -/
structure TJ (w0 w : World) (Y : Nat → Prop) (g r : Nat) (s t : TS) (q : Nat) (cs : Array Value) (A : Option Addr) (m : Nat) (l : List (Int × ByteArray)) : Prop where
  k : TK w0 w Y g r s t
  act : Blk w q 36 cs
  qn : ¬ Y q
  lent : RLies w Y A m l
section
variable {w0 w w' : World} {Y Z : Nat → Prop} {g r q m : Nat} {s t S T : TS} {cs : Array Value} {A : Option Addr} {l : List (Int × ByteArray)}
theorem TJ.keep (h : TJ w0 w Y g r s t q cs A m l) (hb : Below w.heap.size w w') : TJ w0 w' Y g r s t q cs A m l := ⟨h.k.keep hb, h.act.keep hb, h.qn, h.lent.keep hb⟩
theorem TJ.alloc (h : TJ w0 w Y g r s t q cs A m l) (o : Obj) : TJ w0 (w.alloc o) Y g r s t q cs A m l := h.keep ((Below.refl _ _).alloc (Nat.le_refl _) _)
theorem TJ.chg {P : Nat → Prop} (h : TJ w0 w Y g r s t q cs A m l) (hc : Chg P w w') (hp : ∀ b, P b → Y b) (hg : ¬ P g) (hr : ¬ P r) : TJ w0 w' Y g r s t q cs A m l :=
  ⟨h.k.chg hc hp hg hr, h.act.chg hc (fun e => h.qn (hp _ e)), h.qn, h.lent.chg hc hp⟩
theorem TJ.prog (h : TJ w0 w Y g r s t q cs A m l) (hg : w.grownBy w' (some g)) (hyz : ∀ b, Y b → Z b) (hz : ∀ b, Z b → Y b ∨ (w.heap.size ≤ b ∧ b < w'.heap.size)) (ht : TAt w' Z g S) : TJ w0 w' Z g r S t q cs A m l :=
  have hc : Chg (fun b => b = g) w w' := Chg.gr hg rfl
  have hq := h.act.lt
  ⟨h.k.prog hg hyz hz ht, h.act.chg hc (fun e => h.qn (by rw [e]; exact h.k.yg)), fun e => by
      rcases hz q e with e | e
      · exact h.qn e
      · omega, (h.lent.up.chg hc (fun b e => by rw [e]; exact .inl h.k.yg)).mono (fun b _ hb => (hz b hb).imp id (fun e => e.1))⟩
theorem TJ.ref (h : TJ w0 w Y g r s t q cs A m l) (hg : w.grownBy w' (some r)) (hr : RAt w' Y r T) : TJ w0 w' Y g r s T q cs A m l :=
  have hc : Chg (fun b => b = r) w w' := Chg.gr hg rfl
  ⟨h.k.ref hg hr, h.act.chg hc (fun e => h.qn (by rw [e]; exact h.k.yr)), h.qn, h.lent.chg hc (fun b e => by rw [e]; exact h.k.yr)⟩
/-- An argument's options. -/
theorem TK.arg (h : TK w0 w Y g r s t) {O : Option Addr} {n : Nat} {os : List (Int × ByteArray)} (hv : OptsAt w0 O n os) : RLies w Y O n os :=
  ⟨hv.keep h.bel, fun b off hn e hb => by
    obtain ⟨b', off', e', hlt, _⟩ := hv.2 hn
    have e := e.symm.trans e'
    injection e with e
    injection e with e1 _
    have := (h.yl b hb).1
    omega⟩
theorem TK.lend (h : TK w0 w Y g r s t) (cs : Array Value) (hb : Below (w.alloc (.cells cs 36)).heap.size (w.alloc (.cells cs 36)) w') {x : Nat} (hx : (w.alloc (.cells cs 36)).heap.size ≤ x) {n : Nat} {ps : List (Int × ByteArray)} (hv : OptsAt w' (some ⟨x, 0, none⟩) n ps) : TJ w0 w' Y g r s t w.heap.size cs (some ⟨x, 0, none⟩) n ps :=
  ⟨(h.keep ((Below.refl _ _).alloc (Nat.le_refl _) _)).keep hb, (Blk.new w _ cs).keep hb, fun e => by have := (h.yl _ e).2; omega, hv, fun b off _ e hy => by
    injection e with e
    injection e with e1 _
    have := (h.yl b hy).2
    simp at hx
    omega⟩
end
theorem ownX_new {w w' : World} {Y : Nat → Prop} {R : Option Addr} {rn rc : Nat} {xl : List (Int × ByteArray)} (hm : MadeO w w' R rn rc xl) : ∀ b, OwnX Y R b → Y b ∨ (w.heap.size ≤ b ∧ b < w'.heap.size) := fun b hb => by
  rcases hb with hb | ⟨a, ha, e⟩
  · exact .inl hb
  · have := hm.new a ha; right; omega
/-- The block of a slice. -/
def RowX (R : Option Addr) : Nat → Prop := fun x => ∃ r, R = some r ∧ r.block = x
theorem rowX_chg {R : Option Addr} {n cap : Nat} {w w' : World} (h : w.grownBy w' (Value.slice R n cap).ownBlock) : Chg (RowX R) w w' := Chg.row h (fun k e => by
  cases R with
  | none => cases e
  | some r => exact ⟨r, rfl, Option.some.inj e⟩)
section
variable {w0 w w' : World} {Y : Nat → Prop} {g r q m : Nat} {s t : TS} {cs : Array Value} {A : Option Addr} {l : List (Int × ByteArray)}
theorem task_to (h : TJ w0 w Y g r s t q cs A m l) (hi : InvS s) {O : Option Addr} {k cap : Nat} {os : List (Int × ByteArray)} (c : Int) (hv : OptsAt w O k os) (hk : k * 24 ≤ 140737488351232) (hcap : O = none → k = 0 ∧ cap = 0) {xc xi xa E : Int} {xl : List (Int × ByteArray)} {S : TS} (hR : tAskR s c os = (xc, xi, xa, xl)) (hE : tAskE s c os = E) (hS : tAsk s c os = S) :
    Calls Try.prog 15 #[.pointer (some ⟨g, 0, none⟩), .int .i64 c, .slice O k cap] w fun e w' => ∃ R rn rc, e = .returned (.tuple #[.agg #[.int .i64 xc, .int .i64 xi, .int .i64 xa, .slice R rn rc], .int .i64 E]) ∧ MadeO w w' R rn rc xl ∧ TJ w0 w' (OwnX Y R) g r S t q cs A m l := by
  refine (task_any Y g s c O k cap os w h.k.tat h.k.yg (fun b hb => (h.k.yl b hb).2) hi.2.1 hv hk hcap).mono ?_
  rintro e w' ⟨R, rn, rc, rfl, hm, ht, hg⟩
  rw [hR] at hm ⊢
  rw [hS] at ht
  rw [hE]
  exact ⟨R, rn, rc, rfl, hm, h.prog hg (fun b hb => .inl hb) (ownX_new hm) ht⟩
theorem tagain_to (h : TJ w0 w Y g r s t q cs A m l) (hi : InvS s) {xc xi xa E : Int} {xl : List (Int × ByteArray)} {S : TS} (hR : tAgR s = (xc, xi, xa, xl)) (hE : tAgE s = E) (hS : tAg s = S) :
    Calls Try.prog 19 #[.pointer (some ⟨g, 0, none⟩)] w fun e w' => ∃ R rn rc, e = .returned (.tuple #[.agg #[.int .i64 xc, .int .i64 xi, .int .i64 xa, .slice R rn rc], .int .i64 E]) ∧ MadeO w w' R rn rc xl ∧ TJ w0 w' (OwnX Y R) g r S t q cs A m l := by
  refine (tagain_any Y g s w h.k.tat h.k.yg hi.1).mono ?_
  rintro e w' ⟨R, rn, rc, rfl, hm, ht, hg⟩
  rw [hR] at hm ⊢
  rw [hS] at ht
  rw [hE]
  exact ⟨R, rn, rc, rfl, hm, h.prog hg (fun b hb => .inl hb) (ownX_new hm) ht⟩
theorem rask_to (h : TJ w0 w Y g r s t q cs A m l) (hi : InvS t) {O : Option Addr} {k cap : Nat} {os : List (Int × ByteArray)} (c : Int) (hv : OptsAt w0 O k os) (hk : k * 24 ≤ 140737488351232) (hcap : O = none → k = 0 ∧ cap = 0) (ho : ∀ o ∈ os, o.2.size ≤ 140737488351232) {xc xi xa E : Int} {xl : List (Int × ByteArray)} {S : TS} (hR : tAskR t c os = (xc, xi, xa, xl)) (hE : tAskE t c os = E) (hS : tAsk t c os = S) :
    Calls Try.prog 16 #[.pointer (some ⟨r, 0, none⟩), .int .i64 c, .slice O k cap] w fun e w' => ∃ Q qn qc, e = .returned (.tuple #[.agg #[.int .i64 xc, .int .i64 xi, .int .i64 xa, .slice Q qn qc], .int .i64 E]) ∧ OptsAt w' Q qn xl ∧ TJ w0 w' Y g r s S q cs A m l ∧ w.grownBy w' (some r) := by
  refine (rask_any Y r t c O k cap os w h.k.rat h.k.yr (fun b hb => (h.k.yl b hb).2) hi.2.1 hi.2.2.1.1 (h.k.arg hv) hk hcap ho).mono ?_
  rintro e w' ⟨Q, qn, qc, rfl, hq, ht, hg⟩
  rw [hR] at hq ⊢
  rw [hS] at ht
  rw [hE]
  exact ⟨Q, qn, qc, rfl, hq.1, h.ref hg ht, hg⟩
theorem ragain_to (h : TJ w0 w Y g r s t q cs A m l) (hi : InvS t) {xc xi xa E : Int} {xl : List (Int × ByteArray)} {S : TS} (hR : tAgR t = (xc, xi, xa, xl)) (hE : tAgE t = E) (hS : tAg t = S) :
    Calls Try.prog 20 #[.pointer (some ⟨r, 0, none⟩)] w fun e w' => ∃ Q qn qc, e = .returned (.tuple #[.agg #[.int .i64 xc, .int .i64 xi, .int .i64 xa, .slice Q qn qc], .int .i64 E]) ∧ OptsAt w' Q qn xl ∧ TJ w0 w' Y g r s S q cs A m l ∧ w.grownBy w' (some r) := by
  refine (ragain_any Y r t w h.k.rat h.k.yr hi.1).mono ?_
  rintro e w' ⟨Q, qn, qc, rfl, hq, ht, hg⟩
  rw [hR] at hq ⊢
  rw [hS] at ht
  rw [hE]
  exact ⟨Q, qn, qc, rfl, hq.1, h.ref hg ht, hg⟩
/-- A list of no or one datagram of the program, both sides known. -/
def TkL (w0 w w' : World) (Y : Nat → Prop) (g r : Nat) (S t : TS) (q : Nat) (cs : Array Value) (A : Option Addr) (m : Nat) (ll : List (Int × ByteArray)) (v : Value) (l : List (Int × Int × Int × List (Int × ByteArray))) : Prop :=
  (l = [] ∧ v = .slice none 0 0 ∧ TJ w0 w' Y g r S t q cs A m ll) ∨ (∃ c i a os b R n rc, l = [(c, i, a, os)] ∧ v = .slice (some ⟨b, 0, none⟩) 1 1 ∧ One w w' b c i a R n rc os ∧ TJ w0 w' (OwnR Y b R) g r S t q cs A m ll)
theorem ttake_to (h : TJ w0 w Y g r s t q cs A m l) (hi : InvS s) {O : Option Addr} {k cap : Nat} {os : List (Int × ByteArray)} (c i a : Int) (yes : Bool) (hv : Lies w Y O k cap os) {E : Int} {L : List (Int × Int × Int × List (Int × ByteArray))} {S : TS} (hL : tkL s c i a os yes = L) (hE : tkE c i a os = E) (hS : tkS s c i a os = S) :
    Calls Try.prog 21 #[.pointer (some ⟨g, 0, none⟩), .agg #[.int .i64 c, .int .i64 i, .int .i64 a, .slice O k cap], .bool yes] w fun e w' => ∃ v, e = .returned (.tuple #[v, .int .i64 E]) ∧ TkL w0 w w' Y g r S t q cs A m l v L := by
  refine (ttake_any Y g s c i a O k cap os yes w h.k.tat h.k.yg (fun b hb => (h.k.yl b hb).2) hi.2.2.2 hv).mono ?_
  rintro e w' ⟨v, rfl, hl, hg⟩
  rw [hL, hS] at hl
  rw [hE]
  refine ⟨v, rfl, ?_⟩
  rcases hl with ⟨e, hv2, ht⟩ | ⟨c', i', a', os', b, R, n, rc, e, hv2, ho, ht⟩
  · exact .inl ⟨e, hv2, h.prog hg (fun b hb => hb) (fun b hb => .inl hb) ht⟩
  · refine .inr ⟨c', i', a', os', b, R, n, rc, e, hv2, ho, h.prog hg (fun b hb => .inl hb) (fun x hx => ?_) ht⟩
    rcases hx with hx | rfl | ⟨a, ha, e⟩
    · exact .inl hx
    · exact .inr ⟨ho.1, ho.2.1.lt⟩
    · have := ho.2.2.1.new a ha; right; omega
theorem rtake_to (h : TJ w0 w Y g r s t q cs A m l) (hi : InvS t) {O : Option Addr} {k cap : Nat} {os : List (Int × ByteArray)} (c i a : Int) (yes : Bool) (hv : OptsAt w0 O k os) (hk : k * 24 ≤ 140737488351232) (hcap : O = none → k = 0 ∧ cap = 0) (ho : ∀ o ∈ os, o.2.size ≤ 140737488351232) {E : Int} {L : List (Int × Int × Int × List (Int × ByteArray))} {S : TS} (hL : tkL t c i a os yes = L) (hE : tkE c i a os = E) (hS : tkS t c i a os = S) :
    Calls Try.prog 22 #[.pointer (some ⟨r, 0, none⟩), .agg #[.int .i64 c, .int .i64 i, .int .i64 a, .slice O k cap], .bool yes] w fun e w' => ∃ v, e = .returned (.tuple #[v, .int .i64 E]) ∧ RListB w w' v L ∧ TJ w0 w' Y g r s S q cs A m l ∧ w.grownBy w' (some r) := by
  refine (rtake_any Y r t c i a O k cap os yes w h.k.rat h.k.yr (fun b hb => (h.k.yl b hb).2) hi.2.2.2 (h.k.arg hv) hk hcap ho).mono ?_
  rintro e w' ⟨v, rfl, hl, ht, hg⟩
  rw [hL] at hl
  rw [hS] at ht
  rw [hE]
  exact ⟨v, rfl, hl, h.ref hg ht, hg⟩
/-- The program's options of one datagram written over. -/
theorem spoil_to {R : Option Addr} {rn rc : Nat} {xl : List (Int × ByteArray)} {wm : World} (h : TJ w0 w Y g r s t q cs A m l) (hm : MadeO wm w R rn rc xl) (hY : ∀ b, RowX R b → Y b) (hg : g < wm.heap.size) (hr : r < wm.heap.size) :
    Calls Try.prog 18 #[.slice R rn rc] w fun e w' => e = .returned (.tuple #[]) ∧ TJ w0 w' Y g r s t q cs A m l := by
  refine (spoil_any wm.heap.size R rn rc xl w hm.1 hm.2.1 (by have := hm.2.2; omega)).mono ?_
  rintro e w' ⟨rfl, hgr⟩
  exact ⟨rfl, h.chg (rowX_chg hgr) hY (fun ⟨a, ha, e⟩ => by have := (hm.new a ha).1; omega) (fun ⟨a, ha, e⟩ => by have := (hm.new a ha).1; omega)⟩
theorem spoils_to {c i a : Int} {b n rc cap : Nat} {R : Option Addr} {os : List (Int × ByteArray)} {wm : World} (h : TJ w0 w (OwnR Y b R) g r s t q cs A m l) (ho : One wm w b c i a R n rc os) (hg : g < wm.heap.size) (hr : r < wm.heap.size) :
    Calls Try.prog 24 #[.slice (some ⟨b, 0, none⟩) 1 cap] w fun e w' => e = .returned (.tuple #[]) ∧ TJ w0 w' (OwnR Y b R) g r s t q cs A m l := by
  refine (spoils_one c i a b R n rc cap os wm w ho).mono ?_
  rintro e w' ⟨rfl, hc⟩
  have hno : ∀ x, x < wm.heap.size → ¬ OneX b R x := fun x hx e => by
    rcases e with rfl | ⟨a, ha, e⟩
    · have := ho.1; omega
    · have := (ho.2.2.1.new a ha).1; omega
  exact ⟨rfl, h.chg hc (fun x hx => .inr hx) (hno g hg) (hno r hr)⟩
end
end Go.Proofs.Ytckbbfdllflmjaa
