/- The contracts of package circuit's Send, Read, Lose on a switch in plain words. No condition but sizes. -/
import Derived.Test.YtmbnonkbflchoaaCirL
import Derived.Test.YtmbnonkbflchoaaCirN
namespace Go.Proofs.Ytmbnonkbflchoaa
open Go.RowKit
set_option linter.unusedVariables false
set_option linter.unusedSimpArgs false
open Go.Maps
def pick (n : Int) (y : AP × AP) : AP := if n = 0 then y.1 else y.2
def with_ (n : Int) (p : AP) (y : AP × AP) : AP × AP := if n = 0 then (p, y.2) else (y.1, p)
def setA (B : Ab) (c n : Int) (y : AP × AP) (p : AP) : Ab := { B with A := fun k => if k = c then some (with_ n p y) else B.A k }
def sendA (B : Ab) (c n : Int) (d : ByteArray) : Int × Ab :=
  match B.A c with
  | none => (2502, B)
  | some y => if sideB n then
      (if B.most - (pick n y).s.size < (d.size : Int) then (2500, B)
       else if 0 < (pick n y).lost then (0, setA B c n y { pick n y with lost := (pick n y).lost - 1 })
       else (0, setA B c n y { pick n y with s := (pick n y).s ++ d }))
    else (2500, B)
def readA (B : Ab) (c to : Int) : ByteArray × Int × Ab :=
  match B.A c with
  | none => (⟨#[]⟩, 2502, B)
  | some y => if sideB (wrap64 (1 - to)) then ((pick (wrap64 (1 - to)) y).s, 0, setA B c (wrap64 (1 - to)) y { pick (wrap64 (1 - to)) y with s := ⟨#[]⟩ }) else (⟨#[]⟩, 2500, B)
/-- One circuit's one pipe is turned. -/
theorem cir_turn {w w' : World} {L L' : Lab} {N g q : Nat} {c : Int} {n : Nat} {B : Ab} {s : Sw} {y : AP × AP} {p : Pipe} {a : AP} {x : Pipe × Pipe} (h : SwOf w L N g B s) (hy : B.A c = some y) (hq : s.D.atKey (keyD c) nilD = .lit (.int .i64 (q : Int))) (hn : n = 0 ∨ n = 1) (hL : L q = (g, c, 2))
    (h1 : PipeI w L N (g, c, 0) x.1 y.1) (h2 : PipeI w L N (g, c, 1) x.2 y.2) (hql : q < w.heap.size)
    (hs : SwAt w' g s) (hb : Blk w' q 58 (cirC (withP n p x))) (hp : PipeI w' L' (N + 1) (g, c, n) p a) (hf : Fr L L' w w' (fun l => l = (g, c, n) ∨ l = (g, c, 2))) : SwI w' L' (N + 1) g (setA B c (n : Int) y a) ∧ Fr L L' w w' (fun l => l.1 = g) := by
  have hlt := sw_lt h.at_
  refine ⟨⟨s, { h with at_ := hs, lg := (hf.1 g hlt.1).trans h.lg, lm := (hf.1 _ hlt.2).trans h.lm, l1 := (by show B.last ≤ ((N + 1 : Nat) : Int); have := h.l1; omega), n1 := (by show B.n ≤ N + 1; have := h.n1; omega), new := ?_, no := ?_, yes := ?_ }⟩, hf.wide (fun l hl => by rcases hl with rfl | rfl <;> rfl)⟩
  · intro k hk
    have hk' : B.last < k := hk
    have hne : k ≠ c := by
      intro e
      subst e
      rw [h.new _ hk'] at hy
      cases hy
    show (if k = c then _ else B.A k) = none
    rw [if_neg hne]
    exact h.new _ hk'
  · intro k hk
    have hk' : (if k = c then some (with_ (n : Int) a y) else B.A k) = none := hk
    by_cases e : k = c
    · rw [if_pos e] at hk'; cases hk'
    · rw [if_neg e] at hk'; exact h.no k hk'
  · intro k z hk
    have hk' : (if k = c then some (with_ (n : Int) a y) else B.A k) = some z := hk
    by_cases e : k = c
    · rw [if_pos e] at hk'
      obtain rfl := Option.some.inj hk'
      subst e
      refine ⟨q, hq, withP n p x, hb, (hf.1 q hql).trans hL, ?_, ?_⟩
      · rcases hn with rfl | rfl
        · exact hp
        · exact (h1.fr hf (by rintro (e | e) <;> cases e)).more (Nat.le_succ N)
      · rcases hn with rfl | rfl
        · exact (h2.fr hf (by rintro (e | e) <;> cases e)).more (Nat.le_succ N)
        · exact hp
    · rw [if_neg e] at hk'
      obtain ⟨q', k1, k2⟩ := h.yes k z hk'
      exact ⟨q', k1, (k2.fr hf (fun j => by rintro (e2 | e2) <;> (injection e2 with _ e3; injection e3 with e4 _; exact e e4))).more (Nat.le_succ N)⟩
theorem side_nat {n : Int} (h : sideB n = true) : ∃ m : Nat, (m = 0 ∨ m = 1) ∧ n = (m : Int) := by
  rcases side_two h with rfl | rfl
  · exact ⟨0, .inl rfl, rfl⟩
  · exact ⟨1, .inr rfl, rfl⟩
theorem pick_pipe {w : World} {L : Lab} {N g : Nat} {c : Int} {x : Pipe × Pipe} {y : AP × AP} {m : Nat} (hm : m = 0 ∨ m = 1) (h1 : PipeI w L N (g, c, 0) x.1 y.1) (h2 : PipeI w L N (g, c, 1) x.2 y.2) : PipeI w L N (g, c, m) (thP m x) (pick (m : Int) y) := by
  rcases hm with rfl | rfl
  · exact h1
  · exact h2
theorem open_th {m : Nat} (hm : m = 0 ∨ m = 1) : True := trivial
/-- Labels behind a piece that is laid: the piece's block and, if it is new, the row's. -/
def sendL (L : Lab) (w : World) (l : Lb) : Lab := fun k => if w.heap.size ≤ k then l else L k
theorem sendL_old (L : Lab) (w : World) (l : Lb) {k : Nat} (h : k < w.heap.size) : sendL L w l k = L k := by unfold sendL; rw [if_neg (by omega)]
theorem sendL_new (L : Lab) (w : World) (l : Lb) {k : Nat} (h : w.heap.size ≤ k) : sendL L w l k = l := by unfold sendL; rw [if_pos h]
theorem wrap_in {x : Int} (h0 : -70000 ≤ x) (h1 : x ≤ 200000) : wrap64 x = x := IntWalk.wrap64_in _ (by omega)
theorem send_laid (g : Nat) (c : Int) (m q : Nat) (s : Sw) (B : Ab) (N : Nat) (L : Lab) (d : ByteArray) (w : World) (x : Pipe × Pipe) (y : AP × AP) (h : SwOf w L N g B s) (hc : (Lit.int .i64 c).wf = true) (hN : N < 1000000) (hy : B.A c = some y) (hq : s.D.atKey (keyD c) nilD = .lit (.int .i64 (q : Int))) (hm : m = 0 ∨ m = 1) (hb : Blk w q 58 (cirC x)) (hL : L q = (g, c, 2)) (h1 : PipeI w L N (g, c, 0) x.1 y.1) (h2 : PipeI w L N (g, c, 1) x.2 y.2)
    (hfit : ¬ B.most - (pick (m : Int) y).s.size < (d.size : Int)) (hlost : ¬ 0 < (pick (m : Int) y).lost) : Calls Try.prog 14 #[.pointer (some ⟨g, 0, none⟩), .int .i64 c, .int .i64 (m : Int), .string d] w (OpB L (N + 1) g w (0, setA B c (m : Int) y { pick (m : Int) y with s := (pick (m : Int) y).s ++ d })) := by
  obtain ⟨ps, hps, hpl, hcat, hby, hsz, hlo, hl0, hl1, hlen⟩ := pick_pipe hm h1 h2
  have hmost := h.most
  have hm2 := h.m2
  have hm1 := h.m1
  have hql := hb.lt
  have key : ∀ e w', SendR g s q m x d ps w e w' → OpB L (N + 1) g w (0, setA B c (m : Int) y { pick (m : Int) y with s := (pick (m : Int) y).s ++ d }) e w' := by
    intro e w' hh
    obtain ⟨he, hs', v', cap, hb', hps', hv', hch⟩ := hh
    have hl := hps.lt
    have hF : Fr L (sendL L w (g, c, m)) w w' (fun l => l = (g, c, m) ∨ l = (g, c, 2)) := by
      refine ⟨fun i hi => sendL_old _ _ _ hi, hch.wide (fun i hi hs => ?_)⟩
      rcases hs with rfl | hs
      · right; exact hL
      · left; exact hpl.1 _ hs.symm
    refine ⟨he, sendL L w (g, c, m), cir_turn h hy hq hm hL h1 h2 hql hs' hb' ?_ hF⟩
    refine ⟨_, hps', ⟨fun k hk => ?_, fun p hp => ?_⟩, ?_, ?_, ?_, hlo, hl0, ?_, ?_⟩
    · rcases hv' k hk with h3 | h3
      · rw [sendL_old _ _ _ (hl.1 _ h3.symm)]; exact hpl.1 _ h3.symm
      · exact sendL_new _ _ _ (by omega)
    · rcases List.mem_append.1 hp with hp | hp
      · rw [sendL_old _ _ _ (hl.2 p hp)]; exact hpl.2 p hp
      · obtain rfl := List.mem_singleton.1 hp
        exact sendL_new _ _ _ (Nat.le_refl _)
    · rw [cat_app, hcat]
      congr 1
      show d ++ ⟨#[]⟩ = d
      apply ByteArray.ext
      rw [ByteArray.data_append]
      simp
    · show (thP m x).bytes + (d.size : Int) = ((((pick (m : Int) y).s ++ d).size : Nat) : Int)
      rw [ByteArray.size_append, hby]
      omega
    · show ((pick (m : Int) y).s ++ d).size ≤ 65536
      rw [ByteArray.size_append]
      omega
    · show (pick (m : Int) y).lost ≤ ((N + 1 : Nat) : Int)
      omega
    · rw [List.length_append]
      show ps.length + 1 ≤ N + 1
      omega
  rcases hm with rfl | rfl
  · refine (send_ok0 g s c q x d ps w h.at_ hc hq hb hps (wrap_in ?_ ?_) (wrap_in ?_ ?_) ?_ ?_ (by omega) (by omega)).mono key
    · have e : x.1.bytes = _ := hby; rw [e, hmost]; omega
    · have e : x.1.bytes = _ := hby; rw [e, hmost]; omega
    · have e : x.1.bytes = _ := hby; rw [e]; omega
    · have e : x.1.bytes = _ := hby; rw [e]; omega
    · have e : x.1.bytes = _ := hby; rw [e, hmost]; exact hfit
    · have e : x.1.lost = _ := hlo; rw [e]; omega
  · refine (send_ok1 g s c q x d ps w h.at_ hc hq hb hps (wrap_in ?_ ?_) (wrap_in ?_ ?_) ?_ ?_ (by omega) (by omega)).mono key
    · have e : x.2.bytes = _ := hby; rw [e, hmost]; omega
    · have e : x.2.bytes = _ := hby; rw [e, hmost]; omega
    · have e : x.2.bytes = _ := hby; rw [e]; omega
    · have e : x.2.bytes = _ := hby; rw [e]; omega
    · have e : x.2.bytes = _ := hby; rw [e, hmost]; exact hfit
    · have e : x.2.lost = _ := hlo; rw [e]; omega
theorem fr_row {w w' : World} {L : Lab} {q : Nat} {l : Lb} (h : w.grownBy w' (some q)) (hL : L q = l) : Fr L L w w' (fun k => k = l) :=
  ⟨fun _ _ => rfl, (ChgS.gr h).wide (fun i _ hi => by rw [← hL]; congr 1; exact Option.some.inj hi)⟩
theorem th_with {m : Nat} (hm : m = 0 ∨ m = 1) (x : Pipe × Pipe) : thP m x = if m = 0 then x.1 else x.2 := rfl
/-- A pipe whose pieces stay. -/
theorem pipe_lost {w w' : World} {L : Lab} {N g : Nat} {c k : Int} {m : Nat} {p : Pipe} {a : AP} {T : Lb → Prop} (h : PipeI w L N (g, c, m) p a) (hf : Fr L L w w' T) (hT : ¬ T (g, c, m)) (h0 : 0 ≤ k) (h1 : k ≤ ((N + 1 : Nat) : Int)) : PipeI w' L (N + 1) (g, c, m) { p with lost := k } { a with lost := k } := by
  obtain ⟨ps, i1, i2, i3, i4, i5, i6, i7, i8, i9⟩ := h.fr hf hT
  exact ⟨ps, i1, i2, i3, i4, i5, rfl, h0, h1, by omega⟩
theorem send_abs (g : Nat) (c n : Int) (B : Ab) (N : Nat) (L : Lab) (d : ByteArray) (w : World) (h : SwI w L N g B) (hN : N < 1000000) (hc : (Lit.int .i64 c).wf = true) : Calls Try.prog 14 #[.pointer (some ⟨g, 0, none⟩), .int .i64 c, .int .i64 n, .string d] w (OpB L (N + 1) g w (sendA B c n d)) := by
  have hmore := h.more (Nat.le_succ N)
  obtain ⟨s, h⟩ := h
  unfold sendA
  cases hy : B.A c with
  | none =>
    refine (send_no g s c n d w h.at_ hc (h.no c hy)).mono fun e w' hh => ?_
    obtain ⟨he, rfl⟩ := hh
    exact ⟨he, L, hmore, Fr.refl _ _ _⟩
  | some y =>
    simp only
    cases hn : sideB n with
    | false =>
      refine (send_side g s c n d w h.at_ hc (by rw [h.up, hy]; rfl) hn).mono fun e w' hh => ?_
      obtain ⟨he, rfl⟩ := hh
      exact ⟨he, L, hmore, Fr.refl _ _ _⟩
    | true =>
      rw [if_pos rfl]
      obtain ⟨m, hm, rfl⟩ := side_nat hn
      obtain ⟨q, hq, x, hb, hL, h1, h2⟩ := h.yes c y hy
      have hpk := pick_pipe hm h1 h2
      obtain ⟨ps, hps, hpl, hcat, hby, hsz, hlo, hl0, hl1, hlen⟩ := hpk
      have hmost := h.most
      have hm2 := h.m2
      have hm1 := h.m1
      have hw : wrap64 (s.most - (thP m x).bytes) = s.most - (thP m x).bytes := wrap_in (by rw [hby, hmost]; omega) (by rw [hby, hmost]; omega)
      by_cases hbig : B.most - (pick (m : Int) y).s.size < (d.size : Int)
      · rw [if_pos hbig]
        refine (send_big g s c m q x d w h.at_ hc hq hm hb hw (by rw [hby, hmost]; exact hbig)).mono fun e w' hh => ?_
        obtain ⟨he, k, rfl⟩ := hh
        exact ⟨he, L, hmore.fr (T := fun _ => False) ⟨fun _ _ => rfl, rfl, rfl, rfl, Nat.le_refl _, fun _ _ _ => rfl⟩ (fun _ _ h => h), ⟨fun _ _ => rfl, rfl, rfl, rfl, Nat.le_refl _, fun _ _ _ => rfl⟩⟩
      · rw [if_neg hbig]
        by_cases hlost : 0 < (pick (m : Int) y).lost
        · rw [if_pos hlost]
          refine (send_lost g s c m q x d w h.at_ hc hq hm hb hw (by rw [hby, hmost]; exact hbig) (by rw [hlo]; exact hlost) (by rw [hlo]; omega)).mono fun e w' hh => ?_
          obtain ⟨he, hs', hb', hg⟩ := hh
          have hf := fr_row hg hL
          refine ⟨he, L, cir_turn h hy hq hm hL h1 h2 hb.lt hs' hb' ?_ (hf.wide (fun l hl => .inr hl))⟩
          have := pipe_lost (k := (pick (m : Int) y).lost - 1) (pick_pipe hm h1 h2) hf (by intro e; injection e with _ e; injection e with _ e; omega) (by omega) (by omega)
          rw [hlo]
          exact this
        · rw [if_neg hlost]
          exact send_laid g c m q s B N L d w x y h hc hN hy hq hm hb hL h1 h2 hbig hlost
theorem read_abs (g : Nat) (c to : Int) (B : Ab) (N : Nat) (L : Lab) (w : World) (h : SwI w L N g B) (hN : N < 1000000) (hc : (Lit.int .i64 c).wf = true) : Calls Try.prog 15 #[.pointer (some ⟨g, 0, none⟩), .int .i64 c, .int .i64 to] w fun e w' => e = .returned (.tuple #[.string (readA B c to).1, .int .i64 (readA B c to).2.1]) ∧ ∃ L', SwI w' L' (N + 1) g (readA B c to).2.2 ∧ Fr L L' w w' (fun l => l.1 = g) := by
  have hmore := h.more (Nat.le_succ N)
  obtain ⟨s, h⟩ := h
  unfold readA
  cases hy : B.A c with
  | none =>
    refine (read_no g s c to w h.at_ hc (h.no c hy)).mono fun e w' hh => ?_
    obtain ⟨he, rfl⟩ := hh
    exact ⟨he, L, hmore, Fr.refl _ _ _⟩
  | some y =>
    simp only
    cases hn : sideB (wrap64 (1 - to)) with
    | false =>
      refine (read_side g s c to w h.at_ hc (by rw [h.up, hy]; rfl) hn).mono fun e w' hh => ?_
      obtain ⟨he, rfl⟩ := hh
      exact ⟨he, L, hmore, Fr.refl _ _ _⟩
    | true =>
      rw [if_pos rfl]
      obtain ⟨m, hm, hmm⟩ := side_nat hn
      rw [hmm]
      obtain ⟨q, hq, x, hb, hL, h1, h2⟩ := h.yes c y hy
      obtain ⟨ps, hps, hpl, hcat, hby, hsz, hlo, hl0, hl1, hlen⟩ := pick_pipe hm h1 h2
      have key : ∀ e w', ReadR g s q m x ps w e w' → e = .returned (.tuple #[.string (pick (m : Int) y).s, .int .i64 0]) ∧ ∃ L', SwI w' L' (N + 1) g (setA B c (m : Int) y { pick (m : Int) y with s := ⟨#[]⟩ }) ∧ Fr L L' w w' (fun l => l.1 = g) := by
        intro e w' hh
        obtain ⟨he, hs', hb', hch⟩ := hh
        have hf : Fr L L w w' (fun l => l = (g, c, 2)) := ⟨fun _ _ => rfl, hch.wide (fun i _ hi => by rw [hi]; exact hL)⟩
        rw [hcat] at he
        refine ⟨he, L, cir_turn h hy hq hm hL h1 h2 hb.lt hs' hb' ?_ (hf.wide (fun l hl => .inr hl))⟩
        exact ⟨[], PsAt.none w', ⟨fun k hk => (by cases hk), by simp⟩, rfl, rfl, Nat.zero_le _, hlo, hl0, (by show (pick (m : Int) y).lost ≤ ((N + 1 : Nat) : Int); omega), Nat.zero_le _⟩
      rcases hm with rfl | rfl
      · exact (read_ok0 g s c to q x ps w h.at_ hc hq hb hps hmm (by rw [hcat]; omega) (by omega)).mono key
      · exact (read_ok1 g s c to q x ps w h.at_ hc hq hb hps hmm (by rw [hcat]; omega) (by omega)).mono key
end Go.Proofs.Ytmbnonkbflchoaa
