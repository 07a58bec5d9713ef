/- A switch whole, in plain words: what it holds (Ab), whose each block is (a label a block), and what stays while blocks of other labels turn. No condition. -/
import Derived.Test.YtmbnonkbflchoaaCirI
namespace Go.Proofs.Ytmbnonkbflchoaa
open Go.RowKit
set_option linter.unusedVariables false
set_option linter.unusedSimpArgs false
open Go.Maps
abbrev Lb := Nat × Int × Nat
abbrev Lab := Nat → Lb
structure AP where
  s : ByteArray
  lost : Int
structure Ab where
  ports : Int
  most : Int
  last : Int
  owed : Int
  n : Nat
  A : Int → Option (AP × AP)
def PsL (L : Lab) (l : Lb) (v : Value) (ps : List Pc) : Prop := (∀ k, v.ownBlock = some k → L k = l) ∧ ∀ p ∈ ps, L p.b = l
def cat : List Pc → ByteArray
  | [] => ⟨#[]⟩
  | p :: ps => p.d ++ cat ps
theorem cat_app (a b : List Pc) : cat (a ++ b) = cat a ++ cat b := by
  induction a with
  | nil =>
    show cat b = ⟨#[]⟩ ++ cat b
    apply ByteArray.ext
    simp
  | cons p a ih =>
    show p.d ++ cat (a ++ b) = (p.d ++ cat a) ++ cat b
    rw [ih, ByteArray.append_assoc]
def PipeI (w : World) (L : Lab) (N : Nat) (l : Lb) (p : Pipe) (a : AP) : Prop := ∃ ps, PsAt w p.v ps ∧ PsL L l p.v ps ∧ cat ps = a.s ∧ p.bytes = (a.s.size : Int) ∧ a.s.size ≤ 65536 ∧ p.lost = a.lost ∧ 0 ≤ a.lost ∧ a.lost ≤ (N : Int) ∧ ps.length ≤ N
def CirI (w : World) (L : Lab) (N : Nat) (g : Nat) (c : Int) (q : Nat) (y : AP × AP) : Prop := ∃ x : Pipe × Pipe, Blk w q 58 (cirC x) ∧ L q = (g, c, 2) ∧ PipeI w L N (g, c, 0) x.1 y.1 ∧ PipeI w L N (g, c, 1) x.2 y.2
structure SwOf (w : World) (L : Lab) (N : Nat) (g : Nat) (B : Ab) (s : Sw) : Prop where
  at_ : SwAt w g s
  live : Live s.D
  lg : L g = (g, 0, 3)
  lm : L s.mb = (g, 0, 3)
  ports : s.ports = B.ports
  most : s.most = B.most
  last : s.last = B.last
  owed : s.owed = B.owed
  n : Maps.size s.D = B.n
  m1 : 1 ≤ B.most
  m2 : B.most ≤ 65536
  l0 : 0 ≤ B.last
  l1 : B.last ≤ (N : Int)
  n1 : B.n ≤ N
  o0 : 0 ≤ B.owed
  o1 : B.owed ≤ 1000000
  new : ∀ c, B.last < c → B.A c = none
  no : ∀ c, B.A c = none → isUp s.D c = false
  yes : ∀ c y, B.A c = some y → ∃ q : Nat, s.D.atKey (keyD c) nilD = .lit (.int .i64 (q : Int)) ∧ CirI w L N g c q y
def SwI (w : World) (L : Lab) (N : Nat) (g : Nat) (B : Ab) : Prop := ∃ s, SwOf w L N g B s
/-- What turns: blocks whose labels T names; labels stay. -/
def Fr (L L' : Lab) (w w' : World) (T : Lb → Prop) : Prop := (∀ i, i < w.heap.size → L' i = L i) ∧ ChgS w w' (fun i => T (L i))
theorem Fr.refl (L : Lab) (w : World) (T : Lb → Prop) : Fr L L w w T := ⟨fun _ _ => rfl, ChgS.refl _ _⟩
theorem Fr.trans {L L' L2 : Lab} {a w w' : World} {T : Lb → Prop} (h : Fr L L' a w T) (h2 : Fr L' L2 w w' T) : Fr L L2 a w' T :=
  ⟨fun i hi => (h2.1 i (Nat.lt_of_lt_of_le hi h.2.2.2.2.1)).trans (h.1 i hi), (h.2.trans h2.2).wide (fun i hi hs => by
    rcases hs with hs | hs
    · exact hs
    · rw [h.1 i hi] at hs; exact hs)⟩
theorem Fr.wide {L L' : Lab} {w w' : World} {T U : Lb → Prop} (h : Fr L L' w w' T) (hs : ∀ l, T l → U l) : Fr L L' w w' U := ⟨h.1, h.2.wide (fun i _ hi => hs _ hi)⟩
theorem Fr.below {L : Lab} {w w' : World} {T : Lb → Prop} (h : Below w.heap.size w w') : Fr L L w w' T := ⟨fun _ _ => rfl, h.os, h.tape, h.output, h.size, fun i hi _ => h.block i hi⟩
theorem Fr.blk {L L' : Lab} {w w' : World} {T : Lb → Prop} (h : Fr L L' w w' T) {i : Nat} (hi : i < w.heap.size) (hn : ¬ T (L i)) : w'.heap[i]? = w.heap[i]? := h.2.2.2.2.2 i hi hn
theorem PsAt.lt {w : World} {v : Value} {ps : List Pc} (h : PsAt w v ps) : (∀ k, v.ownBlock = some k → k < w.heap.size) ∧ ∀ p ∈ ps, p.b < w.heap.size :=
  ⟨fun k hk => (h.1.lt k hk).2, fun p hp => (h.2 p hp).lt⟩
theorem PipeI.fr {w w' : World} {L L' : Lab} {T : Lb → Prop} {N : Nat} {l : Lb} {p : Pipe} {a : AP} (h : PipeI w L N l p a) (hf : Fr L L' w w' T) (hn : ¬ T l) : PipeI w' L' N l p a := by
  obtain ⟨ps, h1, h2, r⟩ := h
  refine ⟨ps, h1.same (fun k hk => hf.blk (h1.lt.1 k hk) (by rw [h2.1 k hk]; exact hn)) (fun q hq => hf.blk (h1.lt.2 q hq) (by rw [h2.2 q hq]; exact hn)), ⟨fun k hk => ?_, fun q hq => ?_⟩, r⟩
  · rw [hf.1 k (h1.lt.1 k hk)]; exact h2.1 k hk
  · rw [hf.1 q.b (h1.lt.2 q hq)]; exact h2.2 q hq
theorem PipeI.more {w : World} {L : Lab} {N M : Nat} {l : Lb} {p : Pipe} {a : AP} (h : PipeI w L N l p a) (hN : N ≤ M) : PipeI w L M l p a := by
  obtain ⟨ps, h1, h2, h3, h4, h5, h6, h7, h8, h9⟩ := h
  exact ⟨ps, h1, h2, h3, h4, h5, h6, h7, by omega, by omega⟩
theorem CirI.fr {w w' : World} {L L' : Lab} {T : Lb → Prop} {N g q : Nat} {c : Int} {y : AP × AP} (h : CirI w L N g c q y) (hf : Fr L L' w w' T) (hn : ∀ k, ¬ T (g, c, k)) : CirI w' L' N g c q y := by
  obtain ⟨x, h1, h2, h3, h4⟩ := h
  exact ⟨x, (hf.blk h1.lt (by rw [h2]; exact hn 2)).trans h1, (hf.1 q h1.lt).trans h2, h3.fr hf (hn 0), h4.fr hf (hn 1)⟩
theorem CirI.more {w : World} {L : Lab} {N M g q : Nat} {c : Int} {y : AP × AP} (h : CirI w L N g c q y) (hN : N ≤ M) : CirI w L M g c q y := by
  obtain ⟨x, h1, h2, h3, h4⟩ := h
  exact ⟨x, h1, h2, h3.more hN, h4.more hN⟩
theorem SwI.fr {w w' : World} {L L' : Lab} {T : Lb → Prop} {N g : Nat} {B : Ab} (h : SwI w L N g B) (hf : Fr L L' w w' T) (hn : ∀ c k, ¬ T (g, c, k)) : SwI w' L' N g B := by
  obtain ⟨s, h⟩ := h
  have hl := sw_lt h.at_
  refine ⟨s, { h with at_ := ?_, lg := ?_, lm := ?_, yes := ?_ }⟩
  · exact sw_fr h.at_ (hf.blk hl.1 (by rw [h.lg]; exact hn _ _)) (hf.blk hl.2 (by rw [h.lm]; exact hn _ _))
  · exact (hf.1 g hl.1).trans h.lg
  · exact (hf.1 _ hl.2).trans h.lm
  · intro c y hc
    obtain ⟨q, h1, h2⟩ := h.yes c y hc
    exact ⟨q, h1, h2.fr hf (hn c)⟩
theorem SwI.more {w : World} {L : Lab} {N M g : Nat} {B : Ab} (h : SwI w L N g B) (hN : N ≤ M) : SwI w L M g B := by
  obtain ⟨s, h⟩ := h
  refine ⟨s, { h with l1 := ?_, n1 := ?_, yes := ?_ }⟩
  · have := h.l1; omega
  · have := h.n1; omega
  · intro c y hc
    obtain ⟨q, h1, h2⟩ := h.yes c y hc
    exact ⟨q, h1, h2.more hN⟩
theorem SwI.g {w : World} {L : Lab} {N g : Nat} {B : Ab} (h : SwI w L N g B) : g < w.heap.size ∧ L g = (g, 0, 3) := by
  obtain ⟨s, h⟩ := h
  exact ⟨h.at_.1.lt, h.lg⟩
theorem atKey_up {D : DU} {c : Int} {q : Nat} (h : D.atKey (keyD c) nilD = .lit (.int .i64 (q : Int))) : isUp D c = true := by
  unfold isUp
  rw [h]
  show (!((q : Int) == -1)) = true
  have : ((q : Int) == -1) = false := decide_eq_false (by omega)
  rw [this]; rfl
theorem SwOf.up {w : World} {L : Lab} {N g : Nat} {B : Ab} {s : Sw} (h : SwOf w L N g B s) (c : Int) : isUp s.D c = (B.A c).isSome := by
  cases hc : B.A c with
  | none => exact h.no c hc
  | some y =>
    obtain ⟨q, h1, -⟩ := h.yes c y hc
    exact atKey_up h1
/-- Nothing but the switch's own two blocks turns, in D too: the circuits stay. -/
theorem SwOf.turn {w w' : World} {L L' : Lab} {N g : Nat} {B : Ab} {s : Sw} (h : SwOf w L N g B s) (hf : Fr L L' w w' (fun l => l = (g, 0, 3))) (c : Int) (y : AP × AP) (hc : B.A c = some y) : ∃ q : Nat, s.D.atKey (keyD c) nilD = .lit (.int .i64 (q : Int)) ∧ CirI w' L' N g c q y := by
  obtain ⟨q, h1, x, h2, h3, h4, h5⟩ := h.yes c y hc
  refine ⟨q, h1, x, (hf.blk h2.lt (by rw [h3]; simp)).trans h2, (hf.1 q h2.lt).trans h3, h4.fr hf (by simp), h5.fr hf (by simp)⟩
end Go.Proofs.Ytmbnonkbflchoaa
