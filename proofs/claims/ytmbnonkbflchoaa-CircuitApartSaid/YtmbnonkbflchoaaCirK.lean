/- Pieces in memory: a pipe's row of pieces and each piece's data; what may turn while they stay. No condition. -/
import Derived.Test.YtmbnonkbflchoaaCirH
import Derived.Test.YtmbnonkbflchoaaAppTwo
import Derived.Laws.IdiomStrings
namespace Go.Proofs.Ytmbnonkbflchoaa
open Go.RowKit
set_option linter.unusedVariables false
set_option linter.unusedSimpArgs false
open Go.Maps
def bytesV (d : ByteArray) : List Value := d.data.toList.map (fun b => Value.int .u8 (b.toNat : Int))
theorem bytesV_len (d : ByteArray) : (bytesV d).length = d.size := by
  unfold bytesV
  rw [List.length_map]
  rfl
theorem bytesV_app (a b : ByteArray) : bytesV (a ++ b) = bytesV a ++ bytesV b := by
  unfold bytesV
  rw [← List.map_append]
  congr 1
structure Pc where
  b : Nat
  cap : Nat
  d : ByteArray
  met : Bool
def pcC (p : Pc) : List Value := [.slice (some ⟨p.b, 0, none⟩) p.d.size p.cap, .bool p.met]
def pcsC (ps : List Pc) : List Value := ps.flatMap pcC
theorem pcsC_app (a b : List Pc) : pcsC (a ++ b) = pcsC a ++ pcsC b := by unfold pcsC; rw [List.flatMap_append]
theorem pcsC_len (a : List Pc) : (pcsC a).length = a.length * 2 := by
  induction a with
  | nil => rfl
  | cons p a ih =>
    show (pcC p ++ pcsC a).length = _
    rw [List.length_append, ih, List.length_cons]
    show 2 + a.length * 2 = _
    omega
theorem pcsC_at {ps : List Pc} {j : Nat} {p : Pc} (h : ps[j]? = some p) : (pcsC ps)[j * 2]? = some (.slice (some ⟨p.b, 0, none⟩) p.d.size p.cap) ∧ (pcsC ps)[j * 2 + 1]? = some (.bool p.met) := by
  have hj := (List.getElem?_eq_some_iff.1 h).1
  have e : ps = ps.take j ++ ([p] ++ ps.drop (j + 1)) := by
    have h2 : ps[j] = p := (List.getElem?_eq_some_iff.1 h).2
    rw [List.singleton_append, ← h2, List.getElem_cons_drop, List.take_append_drop]
  have hl : (pcsC (ps.take j)).length = j * 2 := by rw [pcsC_len, List.length_take]; congr 1; omega
  rw [e, pcsC_app, pcsC_app]
  have hp : pcsC [p] = [.slice (some ⟨p.b, 0, none⟩) p.d.size p.cap, .bool p.met] := by simp [pcsC, pcC]
  constructor
  · rw [List.getElem?_append_right (by omega), hl, hp]
    simp
  · rw [List.getElem?_append_right (by omega), hl, hp]
    simp
/-- A piece's data: a block of bytes; a mark may lie behind its end. -/
def PcAt (w : World) (p : Pc) : Prop := ∃ cur fz, w.heap[p.b]? = some (.cells cur 5 fz) ∧ cur.size ≤ fz.1 ∧ p.d.size ≤ p.cap ∧ p.cap ≤ maxLen ∧ cur.size = p.cap ∧ cur.toList.take p.d.size = bytesV p.d
def PsAt (w : World) (v : Value) (ps : List Pc) : Prop := w.ownsRow 0 63 2 v ps.length (pcsC ps) ∧ ∀ p ∈ ps, PcAt w p
theorem PcAt.lt {w : World} {p : Pc} (h : PcAt w p) : p.b < w.heap.size := by
  obtain ⟨cur, fz, h1, -⟩ := h
  exact (Array.getElem?_eq_some_iff.1 h1).1
theorem PcAt.same {w w' : World} {p : Pc} (h : PcAt w p) (he : w'.heap[p.b]? = w.heap[p.b]?) : PcAt w' p := by
  obtain ⟨cur, fz, h1, r⟩ := h
  exact ⟨cur, fz, he.trans h1, r⟩
theorem own_same {w w' : World} {base n size : Nat} {e : TypeId} {v : Value} {xs : List Value} (h : w.ownsRow base e size v n xs) (he : ∀ k, v.ownBlock = some k → w'.heap[k]? = w.heap[k]?) : w'.ownsRow base e size v n xs := by
  refine ⟨h.1, ?_⟩
  rcases h.2 with hn | ⟨g, cap, cur, rfl, hb, hgg, rest⟩
  · exact .inl hn
  · exact .inr ⟨g, cap, cur, rfl, hb, (he g rfl).trans hgg, rest⟩
theorem PsAt.same {w w' : World} {v : Value} {ps : List Pc} (h : PsAt w v ps) (h1 : ∀ k, v.ownBlock = some k → w'.heap[k]? = w.heap[k]?) (h2 : ∀ p ∈ ps, w'.heap[p.b]? = w.heap[p.b]?) : PsAt w' v ps :=
  ⟨own_same h.1 h1, fun p hp => (h.2 p hp).same (h2 p hp)⟩
theorem PsAt.none (w : World) : PsAt w (.slice none 0 0) [] := ⟨World.ownsRow_nil _ _ _ _, by simp⟩
/-- What may turn: the blocks that S names. -/
def ChgS (w w' : World) (S : Nat → Prop) : Prop := w'.os = w.os ∧ w'.tape = w.tape ∧ w'.output = w.output ∧ w.heap.size ≤ w'.heap.size ∧ ∀ i, i < w.heap.size → ¬ S i → w'.heap[i]? = w.heap[i]?
theorem ChgS.refl (w : World) (S : Nat → Prop) : ChgS w w S := ⟨rfl, rfl, rfl, Nat.le_refl _, fun _ _ _ => rfl⟩
theorem ChgS.trans {a w w' : World} {S T : Nat → Prop} (h : ChgS a w S) (h2 : ChgS w w' T) : ChgS a w' (fun i => S i ∨ T i) :=
  ⟨h2.1.trans h.1, h2.2.1.trans h.2.1, h2.2.2.1.trans h.2.2.1, Nat.le_trans h.2.2.2.1 h2.2.2.2.1, fun i hi hn => (h2.2.2.2.2 i (Nat.lt_of_lt_of_le hi h.2.2.2.1) (fun hs => hn (.inr hs))).trans (h.2.2.2.2 i hi (fun hs => hn (.inl hs)))⟩
theorem ChgS.wide {w w' : World} {S T : Nat → Prop} (h : ChgS w w' S) (hs : ∀ i, i < w.heap.size → S i → T i) : ChgS w w' T :=
  ⟨h.1, h.2.1, h.2.2.1, h.2.2.2.1, fun i hi hn => h.2.2.2.2 i hi (fun h2 => hn (hs i hi h2))⟩
theorem ChgS.gr {w w' : World} {row : Option Nat} (h : w.grownBy w' row) : ChgS w w' (fun i => some i = row) := ⟨h.os, h.tape, h.output, h.size, fun i hi hn => h.block i hi hn⟩
theorem ChgS.chg {w w' : World} {g mb : Nat} (h : Chg w w' g mb) : ChgS w w' (fun i => i = g ∨ i = mb) := ⟨h.1, h.2.1, h.2.2.1, h.2.2.2.1, fun i hi hn => h.2.2.2.2 i hi (fun e => hn (.inl e)) (fun e => hn (.inr e))⟩
theorem ChgS.alloc {a w : World} {S : Nat → Prop} (h : ChgS a w S) (o : Obj) : ChgS a (w.alloc o) S :=
  ⟨h.1, h.2.1, h.2.2.1, Nat.le_trans h.2.2.2.1 (by simp), fun i hi hn => (Below.heap_alloc w o i (Nat.lt_of_lt_of_le hi h.2.2.2.1)).trans (h.2.2.2.2 i hi hn)⟩
theorem ChgS.drewN {a w : World} {S : Nat → Prop} (h : ChgS a w S) (n : Nat) : ChgS a (w.drewN n) S := h
theorem ChgS.drew {a w : World} {S : Nat → Prop} (h : ChgS a w S) : ChgS a w.drew S := h
theorem ChgS.set {a w : World} {S : Nat → Prop} (h : ChgS a w S) {p : Addr} (hp : S p.block ∨ a.heap.size ≤ p.block) (u : Value) : ChgS a (w.setCell p u) S :=
  ⟨h.1, h.2.1, h.2.2.1, by simpa [World.setCell] using h.2.2.2.1, fun i hi hn => (Below.heap_setCell w p u i (by
    rintro rfl
    rcases hp with hp | hp
    · exact hn hp
    · omega)).trans (h.2.2.2.2 i hi hn)⟩
theorem ChgS.below {B : Nat} {a w w' : World} {S : Nat → Prop} (h : Below B a w) (hg : ChgS w w' S) (h1 : ∀ i, i < B → ¬ S i) (h3 : B ≤ w.heap.size) : Below B a w' where
  os := hg.1.trans h.os
  tape := hg.2.1.trans h.tape
  output := hg.2.2.1.trans h.output
  size := Nat.le_trans h.size hg.2.2.2.1
  block := fun i hi => (hg.2.2.2.2 i (by omega) (h1 i hi)).trans (h.block i hi)
theorem info_piece : (Try.prog.info? 63).map (fun i => (i.zero, i.size, i.bytes)) = some (some (.agg #[.slice none 0 0, .bool false]), 2, 32) := by kernel_rfl
theorem row_take (s : ByteArray) (c : Nat) (hc : s.size ≤ c) : (bytesRow s c).size = c ∧ (bytesRow s c).toList.take s.size = bytesV s := by
  have hsz : (bytesRow s c).size = c := by unfold bytesRow; simp; omega
  refine ⟨hsz, ?_⟩
  unfold bytesRow bytesV
  rw [Array.toList_append, List.take_append_of_le_length (by simp)]
  rw [Array.toList_map]
  apply List.take_of_length_le
  simp
end Go.Proofs.Ytmbnonkbflchoaa
