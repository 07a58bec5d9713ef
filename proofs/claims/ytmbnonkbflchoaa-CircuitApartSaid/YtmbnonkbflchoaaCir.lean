/- A switch in memory, and the small contracts of package circuit: New, side, Fail, Up, Busy, Hang. No condition but sizes. -/
import Derived.Test.YtmbnonkbflchoaaBlk
import Derived.Test.YtmbnonkbflchoaaCells
import Derived.Maps.OwnSet
namespace Go.Proofs.Ytmbnonkbflchoaa
open Go.RowKit
set_option linter.unusedVariables false
set_option linter.unusedSimpArgs false
open Go.Maps
abbrev DU := DataW Unit
def ptrE (v : Value) : Option (DU × List MemPlace) :=
  match v with
  | .pointer none => some (.lit (.int .i64 (-1)), [])
  | .pointer (some ⟨b, 0, none⟩) => some (.lit (.int .i64 (b : Int)), [])
  | _ => none
theorem ptrE_inv {v : Value} {d : DU} {ps : List MemPlace} (h : ptrE v = some (d, ps)) : (v = .pointer none ∧ d = .lit (.int .i64 (-1))) ∨ ∃ b : Nat, v = .pointer (some ⟨b, 0, none⟩) ∧ d = .lit (.int .i64 (b : Int)) := by
  unfold ptrE at h
  split at h
  · left; cases h; exact ⟨rfl, rfl⟩
  · right; cases h; exact ⟨_, rfl, rfl⟩
  · cases h
def nilD : DU := .lit (.int .i64 (-1))
def keyD (c : Int) : Lit := .int .i64 c
def isUp (D : DU) (c : Int) : Bool :=
  match D.atKey (keyD c) nilD with
  | .lit (.int _ x) => !(x == -1)
  | _ => true
theorem lawK : Keyed Try.prog 3 := int_keyed Try.underlying3
theorem zeroP (w : World) : (zeroValue 51).run Try.prog w = .ok (.pointer none) w := by kernel_rfl
theorem shrink {w : World} {b n : Nat} {D : DU} (h : w.ownsMap Try.prog 3 ptrE b n D) : w.ownsMap Try.prog 3 ptrE b (Maps.size D) D := by
  obtain ⟨es, clock, hb, F, hs, rfl⟩ := h
  exact ⟨es, clock, hb, F, by simp [Maps.size, length_sorted], rfl⟩
/-- What a look-up answers: nil, or a circuit's address. -/
theorem look {w : World} {b n : Nat} {D : DU} (h : w.ownsMap Try.prog 3 ptrE b n D) {c : Int} (hw : (Lit.int .i64 c).wf = true) : ((Instr.lookup 48 (.map (some b)) (.int .i64 c) false).run Try.prog w = .ok (.pointer none) w ∧ isUp D c = false) ∨ ∃ q : Nat, (Instr.lookup 48 (.map (some b)) (.int .i64 c) false).run Try.prog w = .ok (.pointer (some ⟨q, 0, none⟩)) w ∧ isUp D c = true ∧ D.atKey (keyD c) nilD = .lit (.int .i64 (q : Int)) := by
  obtain ⟨v, ps, hrun, hv⟩ := h.lookup lawK Try.underlying48 (zeroP w) (zd := nilD) (zp := []) rfl (keyOf_int_mk Try.underlying3 hw)
  rcases ptrE_inv hv with ⟨rfl, e⟩ | ⟨q, rfl, e⟩
  · left
    refine ⟨hrun, ?_⟩
    unfold isUp
    rw [show D.atKey (keyD c) nilD = .lit (.int .i64 (-1)) from e]
    rfl
  · right
    refine ⟨q, hrun, ?_, e⟩
    unfold isUp
    rw [show D.atKey (keyD c) nilD = .lit (.int .i64 (q : Int)) from e]
    show (!((q : Int) == -1)) = true
    have : ((q : Int) == -1) = false := decide_eq_false (by omega)
    rw [this]; rfl
structure Sw where
  ports : Int
  most : Int
  last : Int
  owed : Int
  mb : Nat
  D : DU
def swC (s : Sw) : Array Value := #[.int .i64 s.ports, .int .i64 s.most, .int .i64 s.last, .map (some s.mb), .int .i64 s.owed]
/-- The switch at block g. -/
def SwAt (w : World) (g : Nat) (s : Sw) : Prop := Blk w g 50 (swC s) ∧ w.ownsMap Try.prog 3 ptrE s.mb (Maps.size s.D) s.D
def sideB (n : Int) : Bool := n == 0 || n == 1
theorem side_any (n : Int) (w : World) : Calls Try.prog 21 #[.int .i64 n] w fun e w' => e = .returned (.bool (sideB n)) ∧ w = w' := by
  obtain ⟨p, hp⟩ : ∃ p, (n == 0) = p := ⟨_, rfl⟩
  obtain ⟨q, hq⟩ : ∃ q, (n == 1) = q := ⟨_, rfl⟩
  unfold sideB
  rw [hp, hq]
  cases p <;> cases q
  all_goals
    go_enter Try.func21, Try.ntmps21
    go_wp2
    go_ret
    exact ⟨rfl, rfl⟩
def newS (ports most : Int) (mb : Nat) : Sw := ⟨ports, most, 0, 0, mb, .map []⟩
theorem new_ok (ports most : Int) (w : World) (h1 : 1 ≤ ports) (h2 : ports ≤ 8) (h3 : 1 ≤ most) (h4 : most ≤ 65536) : Calls Try.prog 9 #[.int .i64 ports, .int .i64 most] w fun e w' => e = .returned (.tuple #[.pointer (some ⟨w.heap.size + 1, 0, none⟩), .int .i64 0]) ∧ SwAt w' (w.heap.size + 1) (newS ports most w.heap.size) ∧ Below w.heap.size w w' := by
  have hmm := @run_makeMap Try.prog
  have hs : SwAt ((w.alloc (.map #[] 0)).alloc (.cells (swC (newS ports most w.heap.size)) 50)) (w.heap.size + 1) (newS ports most w.heap.size) := ⟨by
    have h := Blk.new (w.alloc (.map #[] 0)) 50 (swC (newS ports most w.heap.size))
    have e : (w.alloc (.map #[] 0)).heap.size = w.heap.size + 1 := by simp
    rw [e] at h
    exact h, (World.ownsMap_made w _ _ _).alloc _⟩
  have HS := Lib.hid hs; clear hs
  have hb : Below w.heap.size w ((w.alloc (.map #[] 0)).alloc (.cells (swC (newS ports most w.heap.size)) 50)) := ((Below.refl _ w).alloc (Nat.le_refl _) _).alloc (by simp) _
  have HB := Lib.hid hb; clear hb
  go_enter Try.func9, Try.ntmps9
  go_wp2
  go_ret2
  exact ⟨rfl, HS, HB⟩
end Go.Proofs.Ytmbnonkbflchoaa
