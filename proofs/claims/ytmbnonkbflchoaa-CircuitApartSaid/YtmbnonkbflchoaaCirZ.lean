/- The contracts of package circuit's Lose and Turn on a switch in plain words; the plain law of CircuitApart. No condition but sizes. -/
import Derived.Test.YtmbnonkbflchoaaCirY
import Derived.Test.YtmbnonkbflchoaaCirP
namespace Go.Proofs.Ytmbnonkbflchoaa
open Go.RowKit
set_option linter.unusedVariables false
set_option linter.unusedSimpArgs false
open Go.Maps
theorem lose_abs (g : Nat) (c n : Int) (B : Ab) (N : Nat) (L : Lab) (w : World) (y : AP × AP) (h : SwI w L N g B) (hN : N < 1000000) (hc : (Lit.int .i64 c).wf = true) (hy : B.A c = some y) (hn : sideB n = true) : Calls Try.prog 18 #[.pointer (some ⟨g, 0, none⟩), .int .i64 c, .int .i64 n] w (OpB L (N + 1) g w (0, setA B c n y { pick n y with lost := (pick n y).lost + 1 })) := by
  obtain ⟨s, h⟩ := h
  obtain ⟨m, hm, rfl⟩ := side_nat hn
  obtain ⟨q, hq, x, hb, hL, h1, h2⟩ := h.yes c y hy
  obtain ⟨ps, hps, hpl, hcat, hby, hsz, hlo, hl0, hl1, hlen⟩ := pick_pipe hm h1 h2
  refine (lose_ok g s c m q x w h.at_ hc hq hm hb (by rw [hlo]; exact hl0) (by rw [hlo]; omega)).mono fun e w' hh => ?_
  obtain ⟨he, hs', hb', hg⟩ := hh
  have hf := fr_row hg hL
  refine ⟨he, L, cir_turn h hy hq hm hL h1 h2 hb.lt hs' hb' ?_ (hf.wide (fun l hl => .inr hl))⟩
  have := pipe_lost (k := (pick (m : Int) y).lost + 1) (pick_pipe hm h1 h2) hf (by intro e; injection e with _ e; injection e with _ e; omega) (by omega) (by omega)
  rw [hlo]
  exact this
theorem with_th {m : Nat} (hm : m = 0 ∨ m = 1) (x : Pipe × Pipe) : withP m (thP m x) x = x := by rcases hm with rfl | rfl <;> rfl
theorem turn_abs (g : Nat) (c n : Int) (bit : Nat) (B : Ab) (N : Nat) (L : Lab) (w : World) (y : AP × AP) (h : SwI w L N g B) (hN : N < 1000000) (hc : (Lit.int .i64 c).wf = true) (hy : B.A c = some y) (hn : sideB n = true) (hbit : bit < 64) : Calls Try.prog 19 #[.pointer (some ⟨g, 0, none⟩), .int .i64 c, .int .i64 n, .int .i64 (bit : Int)] w fun e w' => ∃ a, OpB L (N + 1) g w (0, setA B c n y a) e w' := by
  obtain ⟨s, h⟩ := h
  obtain ⟨m, hm, rfl⟩ := side_nat hn
  obtain ⟨q, hq, x, hb, hL, h1, h2⟩ := h.yes c y hy
  obtain ⟨ps, hps, hpl, hcat, hby, hsz, hlo, hl0, hl1, hlen⟩ := pick_pipe hm h1 h2
  have key : ∀ e w', TurnR g s q m x ps w e w' → ∃ a, OpB L (N + 1) g w (0, setA B c (m : Int) y a) e w' := by
    intro e w' hh
    obtain ⟨he, hs', hb', ⟨ps', hps', hlen', hcs, hbs⟩, hch⟩ := hh
    have hf : Fr L L w w' (fun l => l = (g, c, m) ∨ l = (g, c, 2)) := ⟨fun _ _ => rfl, hch.wide (fun i _ hi => by
      rcases hi with hi | ⟨p, hp, rfl⟩
      · left; exact hpl.1 _ hi.symm
      · left; exact hpl.2 p hp)⟩
    refine ⟨⟨cat ps', (pick (m : Int) y).lost⟩, he, L, cir_turn (p := thP m x) h hy hq hm hL h1 h2 hb.lt hs' (by rw [with_th hm]; exact hb') ?_ hf⟩
    refine ⟨ps', hps', ⟨hpl.1, fun p hp => ?_⟩, rfl, ?_, ?_, hlo, hl0, ?_, ?_⟩
    · obtain ⟨p0, hp0, e0⟩ := hbs p hp
      rw [e0]; exact hpl.2 p0 hp0
    · show (thP m x).bytes = ((cat ps').size : Int)
      rw [hcs, hcat]; exact hby
    · show (cat ps').size ≤ 65536
      rw [hcs, hcat]; exact hsz
    · show (pick (m : Int) y).lost ≤ ((N + 1 : Nat) : Int)
      omega
    · omega
  rcases hm with rfl | rfl
  · exact (turn_ok0 g s c q bit x ps w h.at_ hc hq hb hps hbit (by rw [hcat]; exact hsz) (by omega)).mono key
  · exact (turn_ok1 g s c q bit x ps w h.at_ hc hq hb hps hbit (by rw [hcat]; exact hsz) (by omega)).mono key
section
variable {w0 w : World} {L : Lab} {N g : Nat} {B B' : Ab}
theorem lose_to (c n : Int) (y : AP × AP) (h : St w0 w L N g B) (hy : B.A c = some y) (hn : sideB n = true) (hN : N < 1000000) (hc : (Lit.int .i64 c).wf = true) : Calls Try.prog 18 #[.pointer (some ⟨g, 0, none⟩), .int .i64 c, .int .i64 n] w fun en w' => en = .returned (.int .i64 0) ∧ ∃ a L', St w0 w' L' (N + 1) g (setA B c n y a) :=
  (lose_abs g c n B N L w y h.1 hN hc hy hn).mono fun en w' hh => by
    obtain ⟨he, L', hs, hf⟩ := hh
    exact ⟨he, _, L', h.fr hs hf⟩
theorem turn_to (c n : Int) (bit : Nat) (y : AP × AP) (h : St w0 w L N g B) (hy : B.A c = some y) (hn : sideB n = true) (hN : N < 1000000) (hc : (Lit.int .i64 c).wf = true) (hbit : bit < 64) : Calls Try.prog 19 #[.pointer (some ⟨g, 0, none⟩), .int .i64 c, .int .i64 n, .int .i64 (bit : Int)] w fun en w' => en = .returned (.int .i64 0) ∧ ∃ a L', St w0 w' L' (N + 1) g (setA B c n y a) :=
  (turn_abs g c n bit B N L w y h.1 hN hc hy hn hbit).mono fun en w' hh => by
    obtain ⟨a, he, L', hs, hf⟩ := hh
    exact ⟨he, a, L', h.fr hs hf⟩
end
def zz : AP × AP := (zeroAP, zeroAP)
theorem emp_app (a : ByteArray) : (⟨#[]⟩ : ByteArray) ++ a = a := by apply ByteArray.ext; rw [ByteArray.data_append]; simp
theorem ap_start (a b : ByteArray) (k : Int) (hk : k = 0 ∨ k = 1) (ha : a.size ≤ 1000) (hb : b.size ≤ 1000) : ∃ B1 B2 B3 B4 y, dialA (newB 3 4096) = (1, 0, B1) ∧ dialA B1 = (2, 0, B2) ∧ sendA B2 1 k a = (0, B3) ∧ sendA B3 2 k b = (0, B4) ∧ B4.A 1 = some y ∧ B4.A 2 = some (with_ k ⟨b, 0⟩ zz) := by
  have hs : sideB k = true := by rcases hk with rfl | rfl <;> rfl
  have hp : pick k zz = zeroAP := by rcases hk with rfl | rfl <;> rfl
  have z0 : zeroAP.s.size = 0 := rfl
  refine ⟨_, _, _, _, _, rfl, rfl, send_put (y := zz) rfl hs (by rw [hp, z0]; show ¬ (4096 : Int) - ((0 : Nat) : Int) < _; omega) (by rw [hp]; decide), send_put (y := zz) rfl hs (by rw [hp, z0]; show ¬ (4096 : Int) - ((0 : Nat) : Int) < _; omega) (by rw [hp]; decide), rfl, ?_⟩
  rw [hp]
  show some (with_ k ⟨zeroAP.s ++ b, 0⟩ zz) = _
  rw [show zeroAP.s ++ b = b from emp_app b]
def ApB (B : Ab) (k : Int) (b : ByteArray) (u : Bool) : Prop := B.A 2 = some (with_ k ⟨b, 0⟩ zz) ∧ (B.A 1).isSome = u
theorem ap_set {B : Ab} {k : Int} {b : ByteArray} {y : AP × AP} (h : B.A 2 = some (with_ k ⟨b, 0⟩ zz)) (n : Int) (p : AP) : ApB (setA B 1 n y p) k b true := by
  constructor
  · show (if (2 : Int) = 1 then some (with_ n p y) else B.A 2) = _
    rw [if_neg (by decide)]; exact h
  · show (if (1 : Int) = 1 then some (with_ n p y) else B.A 1).isSome = true
    rw [if_pos rfl]; rfl
theorem ap_cut {B : Ab} {k : Int} {b : ByteArray} {y : AP × AP} (h : B.A 2 = some (with_ k ⟨b, 0⟩ zz)) (h1 : B.A 1 = some y) : ∃ B', hangA B 1 = (0, B') ∧ ApB B' k b false := by
  refine ⟨_, by unfold hangA; rw [h1], ?_, ?_⟩
  · show (if (2 : Int) = 1 then none else B.A 2) = _
    rw [if_neg (by decide)]; exact h
  · rfl
theorem ap_read {B : Ab} {k k' : Int} {b : ByteArray} {y : AP × AP} (h : B.A 2 = some (with_ k ⟨b, 0⟩ zz)) (h1 : B.A 1 = some y) (hk : k = 0 ∨ k = 1) (hk' : k' = 1 - k) : ∃ d B', readA B 1 k' = (d, 0, B') ∧ ApB B' k b true := by
  have hs : sideB k = true := by rcases hk with rfl | rfl <;> rfl
  exact ⟨_, _, read_get (n := k) h1 (by subst hk'; rcases hk with rfl | rfl <;> decide +kernel) hs, ap_set h _ _⟩
theorem ap_end {B : Ab} {k k' : Int} {b : ByteArray} {u : Bool} (h : ApB B k b u) (hk : k = 0 ∨ k = 1) (hk' : k' = 1 - k) : ∃ B1 B2, readA B 2 k' = (b, 0, B1) ∧ readA B1 2 k = (⟨#[]⟩, 0, B2) ∧ (B2.A 2).isSome = true ∧ (B2.A 1).isSome = u := by
  obtain ⟨h1, h2⟩ := h
  have hs : sideB k = true := by rcases hk with rfl | rfl <;> rfl
  have hs' : sideB k' = true := by subst hk'; rcases hk with rfl | rfl <;> rfl
  have hp : pick k (with_ k (⟨b, 0⟩ : AP) zz) = ⟨b, 0⟩ := by rcases hk with rfl | rfl <;> rfl
  have r1 : readA B 2 k' = (b, 0, setA B 2 k (with_ k ⟨b, 0⟩ zz) ⟨⟨#[]⟩, 0⟩) := by
    rw [read_get (n := k) h1 (by subst hk'; rcases hk with rfl | rfl <;> decide +kernel) hs, hp]
  have hA : (setA B 2 k (with_ k (⟨b, 0⟩ : AP) zz) ⟨⟨#[]⟩, 0⟩).A 2 = some (with_ k ⟨⟨#[]⟩, 0⟩ (with_ k ⟨b, 0⟩ zz)) := by
    rfl
  have hp2 : pick k' (with_ k (⟨⟨#[]⟩, 0⟩ : AP) (with_ k ⟨b, 0⟩ zz)) = zeroAP := by subst hk'; rcases hk with rfl | rfl <;> rfl
  have r2 := read_get (to := k) (n := k') hA (by subst hk'; rcases hk with rfl | rfl <;> decide +kernel) hs'
  rw [hp2] at r2
  refine ⟨_, _, r1, r2, ?_, ?_⟩
  · rfl
  · exact h2
end Go.Proofs.Ytmbnonkbflchoaa
