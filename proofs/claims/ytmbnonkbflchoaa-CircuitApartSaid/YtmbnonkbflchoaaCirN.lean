/- The contracts of package circuit's New, Dial, Hang, Cut, Fail, Up, Busy on a switch in plain words. No condition but sizes. -/
import Derived.Test.YtmbnonkbflchoaaCirM
namespace Go.Proofs.Ytmbnonkbflchoaa
open Go.RowKit
set_option linter.unusedVariables false
set_option linter.unusedSimpArgs false
open Go.Maps
def setL (L : Lab) (i : Nat) (l : Lb) : Lab := fun k => if k = i then l else L k
theorem setL_at (L : Lab) (i : Nat) (l : Lb) : setL L i l i = l := by unfold setL; rw [if_pos rfl]
theorem setL_ne (L : Lab) (i : Nat) (l : Lb) {k : Nat} (h : k ≠ i) : setL L i l k = L k := by unfold setL; rw [if_neg h]
def newB (ports most : Int) : Ab := ⟨ports, most, 0, 0, 0, fun _ => none⟩
theorem new_abs (ports most : Int) (w : World) (L : Lab) (h1 : 1 ≤ ports) (h2 : ports ≤ 8) (h3 : 1 ≤ most) (h4 : most ≤ 65536) : Calls Try.prog 9 #[.int .i64 ports, .int .i64 most] w fun e w' => e = .returned (.tuple #[.pointer (some ⟨w.heap.size + 1, 0, none⟩), .int .i64 0]) ∧ Below w.heap.size w w' ∧ ∃ L', SwI w' L' 0 (w.heap.size + 1) (newB ports most) ∧ Fr L L' w w' (fun _ => False) := by
  refine (new_ok ports most w h1 h2 h3 h4).mono fun e w' h => ?_
  obtain ⟨he, hs, hb⟩ := h
  refine ⟨he, hb, setL (setL L (w.heap.size + 1) (w.heap.size + 1, 0, 3)) w.heap.size (w.heap.size + 1, 0, 3), ⟨_, { at_ := hs, live := live_none, lg := ?_, lm := setL_at _ _ _, ports := rfl, most := rfl, last := rfl, owed := rfl, n := rfl, m1 := h3, m2 := h4, l0 := Int.le_refl _, l1 := Int.le_refl _, n1 := Nat.le_refl _, o0 := Int.le_refl _, o1 := (by show (0 : Int) ≤ 1000000; omega), new := fun _ _ => rfl, no := fun c _ => up_none c, yes := fun c y hy => by cases hy }⟩, fun i hi => ?_, hb.os, hb.tape, hb.output, hb.size, fun i hi _ => hb.block i hi⟩
  · rw [setL_ne _ _ _ (by omega), setL_at]
  · rw [setL_ne _ _ _ (by omega), setL_ne _ _ _ (by omega)]
def zeroAP : AP := ⟨⟨#[]⟩, 0⟩
def dialA (B : Ab) : Int × Int × Ab :=
  if B.ports ≤ B.n then (0, 2501, B)
  else if 0 < B.owed then (0, 2503, { B with owed := B.owed - 1 })
  else (B.last + 1, 0, { B with last := B.last + 1, n := B.n + 1, A := fun k => if k = B.last + 1 then some (zeroAP, zeroAP) else B.A k })
theorem zero_pipe (w : World) (L : Lab) (N : Nat) (l : Lb) : PipeI w L N l zeroPipe zeroAP :=
  ⟨[], PsAt.none w, ⟨fun k hk => (by cases hk), by simp⟩, rfl, rfl, by show 0 ≤ 65536; omega, rfl, Int.le_refl _, by show (0 : Int) ≤ N; omega, Nat.zero_le _⟩
theorem fr_chg {w w' : World} {L : Lab} {g mb : Nat} (h : Chg w w' g mb) (h1 : L g = (g, 0, 3)) (h2 : L mb = (g, 0, 3)) : Fr L L w w' (fun l => l = (g, 0, 3)) :=
  ⟨fun _ _ => rfl, h.1, h.2.1, h.2.2.1, h.2.2.2.1, fun i hi hn => h.2.2.2.2 i hi (fun e => hn (by rw [e]; exact h1)) (fun e => hn (by rw [e]; exact h2))⟩
theorem fr_own {w w' : World} {L L' : Lab} {g : Nat} (h : Fr L L' w w' (fun l => l = (g, 0, 3))) : Fr L L' w w' (fun l => l.1 = g) := h.wide (fun l hl => by rw [hl])
theorem dial_abs (g : Nat) (a b : Int) (B : Ab) (N : Nat) (L : Lab) (w : World) (h : SwI w L N g B) (hN : N < 1000000) (ha : sideB a = true) (hb : b = 1 - a) : Calls Try.prog 10 #[.pointer (some ⟨g, 0, none⟩), .int .i64 a, .int .i64 b] w fun e w' => e = .returned (.tuple #[.int .i64 (dialA B).1, .int .i64 (dialA B).2.1]) ∧ ∃ L', SwI w' L' (N + 1) g (dialA B).2.2 ∧ Fr L L' w w' (fun l => l.1 = g) := by
  have hmore := h.more (Nat.le_succ N)
  obtain ⟨s, h⟩ := h
  have hp := h.ports
  have ho := h.owed
  have hn := h.n
  have hla := h.last
  have l0 := h.l0
  have l1 := h.l1
  have n1 := h.n1
  unfold dialA
  by_cases hf : B.ports ≤ B.n
  · rw [if_pos hf]
    refine (dial_full g s a b w h.at_ ha hb (by rw [hp, hn]; exact hf)).mono fun e w' hh => ?_
    obtain ⟨he, h2, h3⟩ := hh
    have hfr := fr_chg h3 h.lg h.lm
    refine ⟨he, L, ⟨s, { h with at_ := h2, l1 := (by show B.last ≤ ((N + 1 : Nat) : Int); omega), n1 := (by show B.n ≤ N + 1; omega), yes := fun c y hc => ?_ }⟩, fr_own hfr⟩
    obtain ⟨q, k1, k2⟩ := h.turn hfr c y hc
    exact ⟨q, k1, k2.more (Nat.le_succ N)⟩
  · rw [if_neg hf]
    by_cases hw : 0 < B.owed
    · rw [if_pos hw]
      refine (dial_owed g s a b w h.at_ ha hb (by rw [hp, hn]; omega) (by rw [ho]; exact hw) (by rw [ho]; have := h.o1; omega)).mono fun e w' hh => ?_
      obtain ⟨he, h2, h3⟩ := hh
      have hfr := fr_chg h3 h.lg h.lm
      refine ⟨he, L, ⟨_, { h with at_ := h2, owed := (by show s.owed - 1 = B.owed - 1; rw [ho]), l1 := (by show B.last ≤ ((N + 1 : Nat) : Int); omega), n1 := (by show B.n ≤ N + 1; omega), o0 := (by show 0 ≤ B.owed - 1; omega), o1 := (by show B.owed - 1 ≤ 1000000; have := h.o1; omega), yes := fun c y hc => ?_ }⟩, fr_own hfr⟩
      obtain ⟨q, k1, k2⟩ := h.turn hfr c y hc
      exact ⟨q, k1, k2.more (Nat.le_succ N)⟩
    · rw [if_neg hw]
      refine (dial_ok g s a b w h.at_ ha hb (by rw [hp, hn]; omega) (by rw [ho]; omega) (by rw [hla]; exact l0) (by rw [hla]; omega) (by rw [hn]; unfold maxLen; omega)).mono fun e w' hh => ?_
      obtain ⟨⟨he, h2, h3⟩, h4⟩ := hh
      have hfr0 := fr_chg h3 h.lg h.lm
      have hlt := sw_lt h.at_
      have hfr : Fr L (setL L w.heap.size (g, B.last + 1, 2)) w w' (fun l => l = (g, 0, 3)) := ⟨fun i hi => setL_ne _ _ _ (by omega), hfr0.2⟩
      rw [hla] at he h2
      have hnew : isUp s.D (B.last + 1) = false := h.no _ (h.new _ (by omega))
      refine ⟨he, setL L w.heap.size (g, B.last + 1, 2), ⟨_, { at_ := h2, live := live_put h.live _ _, lg := (setL_ne _ _ _ (by omega)).trans h.lg, lm := (setL_ne _ _ _ (by have := hlt.2; show s.mb ≠ _; omega)).trans h.lm, ports := hp, most := h.most, last := rfl, owed := ho, n := ?_, m1 := h.m1, m2 := h.m2, l0 := (by show 0 ≤ B.last + 1; omega), l1 := (by show B.last + 1 ≤ ((N + 1 : Nat) : Int); omega), n1 := (by show B.n + 1 ≤ N + 1; omega), o0 := h.o0, o1 := h.o1, new := ?_, no := ?_, yes := ?_ }⟩, fr_own hfr⟩
      · show Maps.size (s.D.put (keyD (B.last + 1)) _) = B.n + 1
        rw [size_new h.live hnew, hn]
      · intro c hc
        have hc' : B.last + 1 < c := hc
        show (if c = B.last + 1 then some (zeroAP, zeroAP) else B.A c) = none
        rw [if_neg (by omega)]
        exact h.new c (by omega)
      · intro c hc
        have hc' : (if c = B.last + 1 then some (zeroAP, zeroAP) else B.A c) = none := hc
        by_cases e : c = B.last + 1
        · rw [if_pos e] at hc'; cases hc'
        · rw [if_neg e] at hc'
          show isUp (s.D.put (keyD (B.last + 1)) _) c = false
          rw [up_put_ne e]
          exact h.no c hc'
      · intro c y hc
        have hc' : (if c = B.last + 1 then some (zeroAP, zeroAP) else B.A c) = some y := hc
        by_cases e : c = B.last + 1
        · rw [if_pos e] at hc'
          obtain rfl := Option.some.inj hc'
          subst e
          refine ⟨w.heap.size, ?_, (zeroPipe, zeroPipe), h4, setL_at _ _ _, zero_pipe _ _ _ _, zero_pipe _ _ _ _⟩
          exact atKey_put_same h.live.1.isMap (show WideAt.IsKeyLit (keyD (B.last + 1)) from trivial) _ _
        · rw [if_neg e] at hc'
          obtain ⟨q, k1, k2⟩ := h.turn hfr c y hc'
          refine ⟨q, ?_, k2.more (Nat.le_succ N)⟩
          show (s.D.put (keyD (B.last + 1)) _).atKey (keyD c) nilD = _
          rw [atKey_put_other (key_ne e)]
          exact k1
def hangA (B : Ab) (c : Int) : Int × Ab :=
  match B.A c with
  | none => (2502, B)
  | some _ => (0, { B with n := B.n - 1, A := fun k => if k = c then none else B.A k })
theorem hang_turn {w w' : World} {L : Lab} {N g : Nat} {B : Ab} {s : Sw} {c : Int} {y : AP × AP} (h : SwOf w L N g B s) (hc : B.A c = some y) (h2 : SwAt w' g { s with D := s.D.del (keyD c) }) (h3 : Chg w w' g s.mb) : SwI w' L N g { B with n := B.n - 1, A := fun k => if k = c then none else B.A k } ∧ Fr L L w w' (fun l => l.1 = g) := by
  have hfr := fr_chg h3 h.lg h.lm
  have hup : isUp s.D c = true := by rw [h.up, hc]; rfl
  have hn := h.n
  refine ⟨⟨_, { h with at_ := h2, live := live_del h.live _, n := ?_, n1 := (by show B.n - 1 ≤ N; have := h.n1; omega), new := ?_, no := ?_, yes := ?_ }⟩, fr_own hfr⟩
  · show Maps.size (s.D.del (keyD c)) = B.n - 1
    have := size_end h.live hup
    omega
  · intro k hk
    show (if k = c then none else B.A k) = none
    by_cases e : k = c
    · rw [if_pos e]
    · rw [if_neg e]; exact h.new k hk
  · intro k hk
    show isUp (s.D.del (keyD c)) k = false
    by_cases e : k = c
    · subst e; exact up_del _
    · have hk' : (if k = c then none else B.A k) = none := hk
      rw [if_neg e] at hk'
      rw [up_del_ne e]
      exact h.no k hk'
  · intro k y hk
    have hk' : (if k = c then none else B.A k) = some y := hk
    by_cases e : k = c
    · rw [if_pos e] at hk'; cases hk'
    · rw [if_neg e] at hk'
      obtain ⟨q, k1, k2⟩ := h.turn hfr k y hk'
      refine ⟨q, ?_, k2⟩
      show (s.D.del (keyD c)).atKey (keyD k) nilD = _
      rw [atKey_del_other (key_ne e)]
      exact k1
def OpB (L : Lab) (N g : Nat) (w : World) (r : Int × Ab) (e : Ending) (w' : World) : Prop := e = .returned (.int .i64 r.1) ∧ ∃ L', SwI w' L' N g r.2 ∧ Fr L L' w w' (fun l => l.1 = g)
theorem hang_abs (g : Nat) (c : Int) (B : Ab) (N : Nat) (L : Lab) (w : World) (h : SwI w L N g B) (hc : (Lit.int .i64 c).wf = true) : Calls Try.prog 12 #[.pointer (some ⟨g, 0, none⟩), .int .i64 c] w (OpB L N g w (hangA B c)) := by
  have h0 := h
  obtain ⟨s, h⟩ := h
  unfold hangA
  cases hy : B.A c with
  | none =>
    refine (hang_no g s c w h.at_ hc (h.no c hy)).mono fun e w' hh => ?_
    obtain ⟨he, rfl⟩ := hh
    exact ⟨he, L, h0, Fr.refl _ _ _⟩
  | some y =>
    refine (hang_ok g s c w h.at_ hc (by rw [h.up, hy]; rfl)).mono fun e w' hh => ?_
    obtain ⟨he, h2, h3⟩ := hh
    exact ⟨he, L, hang_turn h hy h2 h3⟩
theorem cut_abs (g : Nat) (c : Int) (B : Ab) (N : Nat) (L : Lab) (w : World) (h : SwI w L N g B) (hc : (Lit.int .i64 c).wf = true) : Calls Try.prog 17 #[.pointer (some ⟨g, 0, none⟩), .int .i64 c] w (OpB L N g w (hangA B c)) := by
  have h0 := h
  obtain ⟨s, h⟩ := h
  unfold hangA
  cases hy : B.A c with
  | none =>
    refine (cut_no g s c w h.at_ hc (h.no c hy)).mono fun e w' hh => ?_
    obtain ⟨he, rfl⟩ := hh
    exact ⟨he, L, h0, Fr.refl _ _ _⟩
  | some y =>
    refine (cut_ok g s c w h.at_ hc (by rw [h.up, hy]; rfl)).mono fun e w' hh => ?_
    obtain ⟨he, h2, h3⟩ := hh
    exact ⟨he, L, hang_turn h hy h2 h3⟩
theorem fail_abs (g : Nat) (many : Int) (B : Ab) (N : Nat) (L : Lab) (w : World) (h : SwI w L N g B) (h0 : 0 ≤ many) (h1 : many ≤ 1000000) : Calls Try.prog 16 #[.pointer (some ⟨g, 0, none⟩), .int .i64 many] w (OpB L N g w (0, { B with owed := many })) := by
  obtain ⟨s, h⟩ := h
  refine (fail_any g s many w h.at_ h0).mono fun e w' hh => ?_
  obtain ⟨he, h2, h3⟩ := hh
  have hfr := fr_chg h3 h.lg h.lm
  exact ⟨he, L, ⟨_, { h with at_ := h2, owed := rfl, o0 := h0, o1 := h1, yes := fun c y hc => h.turn hfr c y hc }⟩, fr_own hfr⟩
theorem busy_abs (g : Nat) (n : Int) (B : Ab) (N : Nat) (L : Lab) (w : World) (h : SwI w L N g B) (hn : sideB n = true) : Calls Try.prog 13 #[.pointer (some ⟨g, 0, none⟩), .int .i64 n] w fun e w' => e = .returned (.int .i64 (B.n : Int)) ∧ w = w' := by
  obtain ⟨s, h⟩ := h
  refine (busy_any g s n w h.at_ hn).mono fun e w' hh => ?_
  rw [h.n] at hh
  exact hh
theorem up_abs (g : Nat) (c : Int) (B : Ab) (N : Nat) (L : Lab) (w : World) (h : SwI w L N g B) (hc : (Lit.int .i64 c).wf = true) : Calls Try.prog 20 #[.pointer (some ⟨g, 0, none⟩), .int .i64 c] w fun e w' => e = .returned (.bool (B.A c).isSome) ∧ w = w' := by
  obtain ⟨s, h⟩ := h
  refine (up_any g s c w h.at_ hc).mono fun e w' hh => ?_
  rw [h.up] at hh
  exact hh
end Go.Proofs.Ytmbnonkbflchoaa
