/- What package bap's exchanges are in memory, in plain words; the contract of slices.Clone of options. No condition but memory's own limits. -/
import Derived.Test.YtckbbfdllflmjaaBapPut
import Derived.Test.YtckbbfdllflmjaaOptSame
import Derived.Test.YtckbbfdllflmjaaBlk
namespace Go.Proofs.Ytckbbfdllflmjaa
open Go.RowKit
set_option linter.unusedVariables false
set_option linter.unusedSimpArgs false
attribute [local go_sem] conv1 conv1d conv1n conv1a conv1ad conv1an conv2 conv2d conv2n conv2a conv2ad conv2an conv4 conv4d conv4n conv4a conv4ad conv4an conv5 conv5d conv5n conv5a conv5ad conv5an size_nums byt_fold
/-- A side: what it asked (code, id, answer, options), how many tries are left, favoured, tries, id, the last response. -/
structure TS where
  ac : Int
  ai : Int
  aa : Int
  al : List (Int × ByteArray)
  left : Int
  fav : Bool
  tries : Int
  id : Int
  lc : Int
  li : Int
  la : Int
  ll : List (Int × ByteArray)
def tsC (s : TS) (A : Option Addr) (n cap : Nat) (B : Option Addr) (m cb : Nat) : Array Value := #[.int .i64 s.ac, .int .i64 s.ai, .int .i64 s.aa, .slice A n cap, .int .i64 s.left, .bool s.fav, .int .i64 s.tries, .int .i64 s.id, .int .i64 s.lc, .int .i64 s.li, .int .i64 s.la, .slice B m cb]
/-- A slice of options that lies in none of the blocks X, within memory's limits. -/
def Lies (w : World) (X : Nat → Prop) (A : Option Addr) (n cap : Nat) (l : List (Int × ByteArray)) : Prop := OptsAt w A n l ∧ n * 24 ≤ 140737488351232 ∧ (A = none → n = 0 ∧ cap = 0) ∧ ∀ a, A = some a → a.block < w.heap.size ∧ ¬ X a.block
def TAt (w : World) (X : Nat → Prop) (g : Nat) (s : TS) : Prop := ∃ A n cap B m cb, Blk w g 73 (tsC s A n cap B m cb) ∧ Lies w X A n cap s.al ∧ Lies w X B m cb s.ll
theorem TAt.lt {w : World} {X : Nat → Prop} {g : Nat} {s : TS} (h : TAt w X g s) : g < w.heap.size := by
  obtain ⟨A, n, cap, B, m, cb, h, _⟩ := h
  exact h.lt
/-- The options stay while a block that is among X, or a new one, changes. -/
theorem Lies.grown {w w' : World} {X : Nat → Prop} {A : Option Addr} {n cap : Nat} {l : List (Int × ByteArray)} (h : Lies w X A n cap l) {x : Nat} (hg : w.grownBy w' (some x)) (hx : X x) : Lies w' X A n cap l := by
  obtain ⟨h1, h2, h3, h4⟩ := h
  refine ⟨⟨h1.1, fun hn => ?_⟩, h2, h3, fun a ha => ⟨Nat.lt_of_lt_of_le (h4 a ha).1 hg.size, (h4 a ha).2⟩⟩
  obtain ⟨b, off, rfl, hlt, hc⟩ := h1.2 hn
  have hne : some b ≠ some x := fun e => (h4 _ rfl).2 (by rw [Option.some.inj e]; exact hx)
  refine ⟨b, off, rfl, Nat.lt_of_lt_of_le hlt hg.size, fun j hj => ?_⟩
  obtain ⟨c1, c2⟩ := hc j hj
  exact ⟨hg.cell c1 hne, hg.cell c2 hne⟩
theorem Lies.keep {w w' : World} {X : Nat → Prop} {A : Option Addr} {n cap : Nat} {l : List (Int × ByteArray)} (h : Lies w X A n cap l) (hb : Below w.heap.size w w') : Lies w' X A n cap l :=
  ⟨h.1.keep hb, h.2.1, h.2.2.1, fun a ha => ⟨Nat.lt_of_lt_of_le (h.2.2.2 a ha).1 hb.size, (h.2.2.2 a ha).2⟩⟩
theorem Lies.nil (w : World) (X : Nat → Prop) : Lies w X none 0 0 [] := ⟨OptsAt.nil _ _, by omega, fun _ => ⟨rfl, rfl⟩, fun _ h => by cases h⟩
theorem Lies.mono {w : World} {X Y : Nat → Prop} {A : Option Addr} {n cap : Nat} {l : List (Int × ByteArray)} (h : Lies w X A n cap l) (hx : ∀ b, b < w.heap.size → Y b → X b) : Lies w Y A n cap l :=
  ⟨h.1, h.2.1, h.2.2.1, fun a ha => ⟨(h.2.2.2 a ha).1, fun hy => (h.2.2.2 a ha).2 (hx _ (h.2.2.2 a ha).1 hy)⟩⟩
theorem TAt.keep {w w' : World} {X : Nat → Prop} {g : Nat} {s : TS} (h : TAt w X g s) (hb : Below w.heap.size w w') : TAt w' X g s := by
  obtain ⟨A, n, cap, B, m, cb, h, h1, h2⟩ := h
  exact ⟨A, n, cap, B, m, cb, h.keep hb, h1.keep hb, h2.keep hb⟩
theorem TAt.alloc {w : World} {X : Nat → Prop} {g : Nat} {s : TS} (h : TAt w X g s) (o : Obj) : TAt (w.alloc o) X g s := h.keep ((Below.refl _ _).alloc (Nat.le_refl _) _)
theorem TAt.grown {w w' : World} {X : Nat → Prop} {g : Nat} {s : TS} (h : TAt w X g s) {x : Nat} (hg : w.grownBy w' (some x)) (hx : X x) (hne : x ≠ g) : TAt w' X g s := by
  obtain ⟨A, n, cap, B, m, cb, h, h1, h2⟩ := h
  exact ⟨A, n, cap, B, m, cb, h.grown hg (fun e => hne (Option.some.inj e).symm), h1.grown hg hx, h2.grown hg hx⟩
theorem TAt.mono {w : World} {X Y : Nat → Prop} {g : Nat} {s : TS} (h : TAt w X g s) (hx : ∀ b, b < w.heap.size → Y b → X b) : TAt w Y g s := by
  obtain ⟨A, n, cap, B, m, cb, h, h1, h2⟩ := h
  exact ⟨A, n, cap, B, m, cb, h, h1.mono hx, h2.mono hx⟩
/-- A slice's own block among others. -/
def OwnX (X : Nat → Prop) (A : Option Addr) : Nat → Prop := fun b => X b ∨ ∃ a, A = some a ∧ a.block = b
theorem OwnX.none {X : Nat → Prop} {b : Nat} (h : OwnX X none b) : X b := by
  rcases h with h | ⟨a, h, _⟩
  · exact h
  · cases h
/-- A slice of options that a call has made: its cells are its own. -/
def MadeO (w w' : World) (A : Option Addr) (n cap : Nat) (l : List (Int × ByteArray)) : Prop := w'.ownsRow w.heap.size 65 2 (.slice A n cap) n (optCells l) ∧ l.length = n ∧ n * 24 ≤ 140737488351232
theorem MadeO.optsAt {w w' : World} {A : Option Addr} {n cap : Nat} {l : List (Int × ByteArray)} (h : MadeO w w' A n cap l) : OptsAt w' A n l := by
  obtain ⟨h, rfl, _⟩ := h
  exact OptsAt.own h
theorem MadeO.new {w w' : World} {A : Option Addr} {n cap : Nat} {l : List (Int × ByteArray)} (h : MadeO w w' A n cap l) : ∀ a, A = some a → w.heap.size ≤ a.block ∧ a.block < w'.heap.size := by
  intro a ha
  subst ha
  rcases h.1.2 with ⟨hv, _⟩ | ⟨g, cap', cur, hv, hg, hh, _⟩
  · cases hv
  · injection hv with h1 _ _
    obtain rfl := Option.some.inj h1
    exact ⟨hg, (Array.getElem?_eq_some_iff.1 hh).1⟩
theorem MadeO.cap0 {w w' : World} {A : Option Addr} {n cap : Nat} {l : List (Int × ByteArray)} (h : MadeO w w' A n cap l) : A = none → n = 0 ∧ cap = 0 := by
  intro ha
  subst ha
  rcases h.1.2 with ⟨hv, h0⟩ | ⟨g, cap', cur, hv, _⟩
  · injection hv with _ h1 h2
    exact ⟨by omega, by omega⟩
  · injection hv with h1 _ _
    cases h1
theorem MadeO.lies {w w' : World} {X : Nat → Prop} {A : Option Addr} {n cap : Nat} {l : List (Int × ByteArray)} (h : MadeO w w' A n cap l) (hX : ∀ b, X b → b < w.heap.size) : Lies w' X A n cap l :=
  ⟨h.optsAt, h.2.2, h.cap0, fun a ha => ⟨(h.new a ha).2, fun hx => by have := hX _ hx; have := (h.new a ha).1; omega⟩⟩
theorem MadeO.nil (w w' : World) : MadeO w w' none 0 0 [] := ⟨World.ownsRow_nil _ _ _ _, rfl, by omega⟩
def CloneOf (n : Nat) (os : List (Int × ByteArray)) (w : World) (e : Ending) (w' : World) : Prop := ∃ A cap, e = .returned (.slice A n cap) ∧ MadeO w w' A n cap os ∧ Below w.heap.size w w'
theorem nil_yes (W : World) : (binOp .eql 32 (.slice none 0 0) (.slice none 0 0)).run Try.prog W = .ok (.bool true) W := by kernel_rfl
theorem nil_no (a : Addr) (n cap : Nat) (W : World) : (binOp .eql 32 (.slice (some a) n cap) (.slice none 0 0)).run Try.prog W = .ok (.bool false) W := by kernel_rfl
set_option maxRecDepth 100000 in
set_option maxHeartbeats 1000000 in
theorem sclone_any (A : Option Addr) (n cap : Nat) (os : List (Int × ByteArray)) (w : World) (hv : OptsAt w A n os) (hn : n * 24 ≤ 140737488351232) (hcap : A = none → n = 0 ∧ cap = 0) :
    Calls Try.prog 30 #[.slice A n cap] w (CloneOf n os w) := by
  have HV := Lib.hid hv; clear hv
  cases A with
  | none =>
    obtain ⟨rfl, rfl⟩ := hcap rfl
    obtain rfl : os = [] := List.eq_nil_of_length_eq_zero HV.out.1
    clear hcap
    have e0 := nil_yes
    go_enter Try.func30, Try.ntmps30
    go_wp2_with fail
    go_ret
    exact ⟨_, _, rfl, MadeO.nil _ _, Below.refl _ _⟩
  | some a =>
    clear hcap
    obtain ⟨i0, hi, hz0, hz1, hz2⟩ := info_parts info_opt2
    have HZ1 := Lib.hid hz1; have HZ2 := Lib.hid hz2; have HZ0 := Lib.hid hz0; have HI := Lib.hid hi
    clear hz0 hz1 hz2 hi
    have hlen : (optCells os).length = n * 2 := by rw [optCells_len, HV.out.1]
    have HLEN := Lib.hid hlen; clear hlen
    have hnews : ∀ j u, (optCells os)[j]? = some u → (w.alloc (.cells #[] 65)).cell? (a.add j) = some u := by
      intro j u hu
      have hpos : 0 < n := by
        rcases Nat.eq_zero_or_pos n with h | h
        · subst h
          have : os = [] := List.eq_nil_of_length_eq_zero HV.out.1
          subst this
          simp [optCells] at hu
        · exact h
      obtain ⟨b, off, e, hlt, _⟩ := HV.out.2 hpos
      injection e with e
      subst e
      exact OptsAt.news (HV.out.keep ((Below.refl _ _).alloc (Nat.le_refl _) _)) hpos j u hu
    have HNEWS := Lib.hid hnews; clear hnews
    have e0 := nil_no a n cap
    go_enter Try.func30, Try.ntmps30
    go_wp2_with (at_builtin; refine wpList_append_own _ rfl _ _ 32 rfl w.heap.size 65 i0 _ 2 24 Try.underlying32 HI.out HZ0.out HZ1.out HZ2.out rfl (by omega) _ _ _ rfl (own_zero w) a n cap (optCells os) rfl HLEN.out HNEWS.out (optCells_one os) ?c1 ?c2 ?c3 ?_)
    case c1 => unfold maxLen; omega
    case c2 => omega
    case c3 => simp
    intro v w2 hown hgrow hnil
    try simp only [Nat.zero_add, List.nil_append] at hown
    clear hnil
    obtain ⟨A', cap', rfl⟩ := own_slice hown
    have HOWN := Lib.hid hown; clear hown
    go_wp2
    go_ret
    refine ⟨_, _, rfl, ⟨HOWN.out, HV.out.1, hn⟩, ?_⟩
    exact ((Below.refl _ _).alloc (Nat.le_refl _) _).grown hgrow (by simp) (fun k hk => by simp [Value.ownBlock] at hk; omega)
end Go.Proofs.Ytckbbfdllflmjaa
