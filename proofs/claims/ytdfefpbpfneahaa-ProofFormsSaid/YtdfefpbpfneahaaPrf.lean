/- What package chap's proofs are in memory, in plain words. No condition. -/
import Derived.Test.YtdfefpbpfneahaaChapPut
import Derived.Test.YtdfefpbpfneahaaBlk
namespace Go.Proofs.Ytdfefpbpfneahaa
open Go.RowKit
set_option linter.unusedVariables false
set_option linter.unusedSimpArgs false
attribute [local go_sem] conv1 conv1d conv1n conv1a conv1ad conv1an conv2 conv2d conv2n conv2a conv2ad conv2an conv4 conv4d conv4n conv4a conv4ad conv4an conv5 conv5d conv5n conv5a conv5ad conv5an size_nums byt_fold
/-- A side: what it expects, its challenge, how many tries are left, started, proved, its name and secret, taken, failed. -/
structure PS where
  ex : ByteArray
  ch : ByteArray
  left : Int
  st : Bool
  pr : Bool
  nm : ByteArray
  se : ByteArray
  tk : Bool
  fl : Bool
def psC (s : PS) : Array Value := #[.string s.ex, .string s.ch, .int .i64 s.left, .bool s.st, .bool s.pr, .string s.nm, .string s.se, .bool s.tk, .bool s.fl]
def PAt (w : World) (g : Nat) (s : PS) : Prop := Blk w g 66 (psC s)
theorem PAt.cells {w : World} {g : Nat} {s : PS} (h : PAt w g s) : w.cell? ⟨g, 0, none⟩ = some (.string s.ex) ∧ w.cell? ⟨g, 1, none⟩ = some (.string s.ch) ∧ w.cell? ⟨g, 2, none⟩ = some (.int .i64 s.left) ∧ w.cell? ⟨g, 3, none⟩ = some (.bool s.st) ∧ w.cell? ⟨g, 4, none⟩ = some (.bool s.pr) ∧ w.cell? ⟨g, 5, none⟩ = some (.string s.nm) ∧ w.cell? ⟨g, 6, none⟩ = some (.string s.se) ∧ w.cell? ⟨g, 7, none⟩ = some (.bool s.tk) ∧ w.cell? ⟨g, 8, none⟩ = some (.bool s.fl) :=
  ⟨Blk.cell h 0, Blk.cell h 1, Blk.cell h 2, Blk.cell h 3, Blk.cell h 4, Blk.cell h 5, Blk.cell h 6, Blk.cell h 7, Blk.cell h 8⟩
/-- A list of messages in memory. -/
def ChapsAt (w : World) (A : Option Addr) (n : Nat) (l : List (Int × Int × ByteArray × ByteArray)) : Prop :=
  l.length = n ∧ (0 < n → ∃ b off, A = some ⟨b, off, none⟩ ∧ b < w.heap.size ∧ ∀ j (h : j < l.length), w.cell? ⟨b, off + j * 4, none⟩ = some (.int .i64 (l[j]).1) ∧ w.cell? ⟨b, off + j * 4 + 1, none⟩ = some (.int .i64 (l[j]).2.1) ∧ w.cell? ⟨b, off + j * 4 + 2, none⟩ = some (.string (l[j]).2.2.1) ∧ w.cell? ⟨b, off + j * 4 + 3, none⟩ = some (.string (l[j]).2.2.2))
theorem ChapsAt.keep {w w' : World} {A : Option Addr} {n : Nat} {l : List (Int × Int × ByteArray × ByteArray)} (h : ChapsAt w A n l) (hb : Below w.heap.size w w') : ChapsAt w' A n l := by
  refine ⟨h.1, fun hn => ?_⟩
  obtain ⟨b, off, rfl, hlt, hc⟩ := h.2 hn
  refine ⟨b, off, rfl, Nat.lt_of_lt_of_le hlt hb.size, fun j hj => ?_⟩
  obtain ⟨h1, h2, h3, h4⟩ := hc j hj
  exact ⟨(hb.cell (p := ⟨b, _, none⟩) hlt).trans h1, (hb.cell (p := ⟨b, _, none⟩) hlt).trans h2, (hb.cell (p := ⟨b, _, none⟩) hlt).trans h3, (hb.cell (p := ⟨b, _, none⟩) hlt).trans h4⟩
theorem ChapsAt.nil (w : World) (A : Option Addr) : ChapsAt w A 0 [] := ⟨rfl, fun h => absurd h (by omega)⟩
theorem ChapsAt.one (w : World) (b : Nat) (c i : Int) (v n : ByteArray) (h0 : w.cell? ⟨b, 0, none⟩ = some (.int .i64 c)) (h1 : w.cell? ⟨b, 1, none⟩ = some (.int .i64 i)) (h2 : w.cell? ⟨b, 2, none⟩ = some (.string v)) (h3 : w.cell? ⟨b, 3, none⟩ = some (.string n)) (hb : b < w.heap.size) : ChapsAt w (some ⟨b, 0, none⟩) 1 [(c, i, v, n)] := by
  refine ⟨rfl, fun _ => ⟨b, 0, rfl, hb, fun j hj => ?_⟩⟩
  obtain rfl : j = 0 := by simpa using hj
  exact ⟨h0, h1, h2, h3⟩
theorem ChapsAt.at_ {w : World} {A : Option Addr} {n : Nat} {l : List (Int × Int × ByteArray × ByteArray)} (h : ChapsAt w A n l) (k : Nat) (hk : k < n) :
    ∃ b off c i v m, A = some ⟨b, off, none⟩ ∧ b < w.heap.size ∧ l[k]? = some (c, i, v, m) ∧ w.cell? ⟨b, off + k * 4, none⟩ = some (.int .i64 c) ∧ w.cell? ⟨b, off + k * 4 + 1, none⟩ = some (.int .i64 i) ∧ w.cell? ⟨b, off + k * 4 + 2, none⟩ = some (.string v) ∧ w.cell? ⟨b, off + k * 4 + 3, none⟩ = some (.string m) := by
  obtain ⟨b, off, e, hlt, hc⟩ := h.2 (by omega)
  have hj : k < l.length := by rw [h.1]; exact hk
  obtain ⟨h1, h2, h3, h4⟩ := hc k hj
  exact ⟨b, off, _, _, _, _, e, hlt, List.getElem?_eq_getElem hj, h1, h2, h3, h4⟩
theorem ChapsAt.grown {w w' : World} {A : Option Addr} {n g : Nat} {l : List (Int × Int × ByteArray × ByteArray)} (h : ChapsAt w A n l) (hg : w.grownBy w' (some g)) (hne : ∀ a, A = some a → a.block ≠ g) : ChapsAt w' A n l := by
  refine ⟨h.1, fun hn => ?_⟩
  obtain ⟨b, off, rfl, hlt, hc⟩ := h.2 hn
  have hb : some b ≠ some g := fun e => hne _ rfl (Option.some.inj e)
  refine ⟨b, off, rfl, Nat.lt_of_lt_of_le hlt hg.size, fun j hj => ?_⟩
  obtain ⟨h1, h2, h3, h4⟩ := hc j hj
  exact ⟨hg.cell h1 hb, hg.cell h2 hb, hg.cell h3 hb, hg.cell h4 hb⟩
/-- A slice's block is new since a world. -/
def NewA (w : World) (A : Option Addr) : Prop := ∀ a, A = some a → w.heap.size ≤ a.block
theorem NewA.none (w : World) : NewA w none := fun _ h => by cases h
theorem NewA.some {w : World} {b o : Nat} {f : Option _} (h : w.heap.size ≤ b) : NewA w (some ⟨b, o, f⟩) := fun _ h2 => by cases h2; exact h
theorem NewA.mono {w w' : World} {A : Option Addr} (h : NewA w' A) (hs : w.heap.size ≤ w'.heap.size) : NewA w A := fun a ha => Nat.le_trans hs (h a ha)
theorem NewA.ne {w : World} {A : Option Addr} (h : NewA w A) {g : Nat} (hg : g < w.heap.size) : ∀ a, A = Option.some a → a.block ≠ g := fun a ha => by have := h a ha; omega
end Go.Proofs.Ytdfefpbpfneahaa
