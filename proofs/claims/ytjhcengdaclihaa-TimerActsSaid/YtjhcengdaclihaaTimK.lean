/- Timers and the reference's timers side by side. No condition. -/
import Derived.Test.YtjhcengdaclihaaTimI
import Derived.Test.YtjhcengdaclihaaTimJ
import Derived.Test.YtjhcengdaclihaaTimAk
namespace Go.Proofs.Ytjhcengdaclihaa
open Go.RowKit
set_option linter.unusedVariables false
set_option linter.unusedSimpArgs false
open Go.Maps
theorem rset_any {r : Nat} {u : Value} {S : List Tm} (id at_ : Int) {w : World} (h : RA w r u S) (hl : S.length ≤ 256) (hi : Ids S) : Calls Try.prog 11 #[.pointer (some ⟨r, 0, none⟩), .int .i64 id, .int .i64 at_] w fun e w' => e = .returned (.int .i64 (setC id at_ S)) ∧ RsR r (setA id at_ S) w w' := by
  unfold setA setC
  by_cases h1 : id < 0 ∨ at_ < 0
  · rw [if_pos h1]
    refine (rset_bad r S id at_ w h1).mono ?_
    rintro e w' ⟨rfl, rfl⟩
    exact ⟨rfl, RsR.refl h⟩
  · rw [if_neg h1]
    have h2 : ¬ id < 0 := fun e => h1 (.inl e)
    have h3 : ¬ at_ < 0 := fun e => h1 (.inr e)
    cases hh : hasT id S with
    | true =>
      rw [if_neg (by simp)]
      exact rset_ok r u S id at_ w h hl hi h2 h3 (.inl hh)
    | false =>
      by_cases h4 : 256 ≤ S.length
      · rw [if_pos ⟨rfl, h4⟩]
        refine (rset_full r u S id at_ w h hl h2 h3 hh h4).mono ?_
        rintro e w' ⟨rfl, rfl⟩
        exact ⟨rfl, RsR.refl h⟩
      · rw [if_neg (fun e => h4 e.2)]
        exact rset_ok r u S id at_ w h hl hi h2 h3 (.inr (by omega))
theorem rstop_any {r : Nat} {u : Value} {S : List Tm} (id : Int) {w : World} (h : RA w r u S) (hl : S.length ≤ 256) (hi : Ids S) : Calls Try.prog 13 #[.pointer (some ⟨r, 0, none⟩), .int .i64 id] w fun e w' => e = .returned (.int .i64 (stopC id S)) ∧ RsR r (stopT id S) w w' := by
  unfold stopC
  cases hh : hasT id S with
  | true => exact rstop_ok r u S id w h hl hi hh
  | false =>
    rw [stop_none hh]
    refine (rstop_not r u S id w h hl hh).mono ?_
    rintro e w' ⟨rfl, rfl⟩
    exact ⟨rfl, RsR.refl h⟩
theorem rdue_any {r : Nat} {u : Value} {S : List Tm} (now : Int) {w : World} (h : RA w r u S) (hl : S.length ≤ 256) : Calls Try.prog 16 #[.pointer (some ⟨r, 0, none⟩), .int .i64 now] w fun e w' => RdR r now S w e w' := by
  have hrow := h.row
  rcases hrow.2 with ⟨e, h0⟩ | ⟨b, cap, cur, e, -, -, hnc, -⟩
  · obtain rfl : S = [] := List.eq_nil_of_length_eq_zero h0
    exact rdue_nil r u now w h e
  · exact rdue_row r b cap u S now w h e hnc hl
theorem tag_ne {w : World} {b c : Nat} {cs ds : Array Value} {t t' : TypeId} {fr fr' : Nat × Nat} (h : w.heap[b]? = some (.cells cs t fr)) (h' : w.heap[c]? = some (.cells ds t' fr')) (hn : t ≠ t') : b ≠ c := by
  rintro rfl
  rw [h] at h'
  injection h' with h3
  injection h3 with _ h4
  exact hn h4
theorem map_ne {w : World} {b c : Nat} {cs : Array Value} {t : TypeId} {fr : Nat × Nat} {es : Array MapEntry} {k : Nat} (h : w.heap[b]? = some (.cells cs t fr)) (h' : w.heap[c]? = some (.map es k)) : b ≠ c := by
  rintro rfl
  rw [h] at h'
  cases h'
theorem row_tag {w : World} {base n size : Nat} {e : TypeId} {u : Value} {xs : List Value} (ho : w.ownsRow base e size u n xs) {q : Nat} (hq : u.ownBlock = some q) : ∃ cs fr, w.heap[q]? = some (.cells cs e fr) := by
  rcases ho.2 with ⟨rfl, -⟩ | ⟨q2, cap, cur, rfl, -, hh, -⟩
  · simp [Value.ownBlock] at hq
  · simp only [Value.ownBlock, Option.map_some, Option.some.injEq] at hq
    subst hq
    exact ⟨_, _, hh⟩
/-- A block of cells of another kind stays where a pile moves. -/
theorem mv_stay {w0 w w' : World} {g mb b : Nat} {v v' : Value} {S : List Tm} {cs : Array Value} {t : TypeId} {fr : Nat × Nat} (ht : TO w0 w g mb v S) (hm : Mv w w' g mb v v') (h : w.heap[b]? = some (.cells cs t fr)) (h1 : t ≠ 56) (h2 : t ≠ 59) : w'.heap[b]? = w.heap[b]? := by
  obtain ⟨D, ts, hp, -⟩ := ht.ta
  obtain ⟨es, c, hmp, -⟩ := hp.map_
  refine hm.1.2.2.2.2 b (Array.getElem?_eq_some_iff.1 h).1 (tag_ne h hp.blk h1) (map_ne h hmp) (fun e => ?_)
  obtain ⟨cs2, fr2, hh⟩ := row_tag hp.row e
  exact tag_ne h hh h2 rfl
theorem RA.mv {w0 w w' : World} {g mb r : Nat} {v v' u : Value} {S S2 : List Tm} (h : RA w r u S2) (ht : TO w0 w g mb v S) (hm : Mv w w' g mb v v') : RA w' r u S2 :=
  ⟨(mv_stay ht hm h.blk (by decide) (by decide)).trans h.blk, own_same h.row (fun q hq => by
    obtain ⟨cs, fr, hh⟩ := row_tag h.row hq
    exact mv_stay ht hm hh (by decide) (by decide))⟩
theorem TO.grow {w0 w w' : World} {g mb r : Nat} {v u : Value} {S S2 : List Tm} (ht : TO w0 w g mb v S) (h : RA w r u S2) (hb : w0.heap.size ≤ r) (hg : w.grownBy w' (some r)) : TO w0 w' g mb v S := by
  obtain ⟨D, ts, hp, hr⟩ := ht.ta
  obtain ⟨es, c, hmp, -⟩ := hp.map_
  have e1 := tag_ne hp.blk h.blk (by decide)
  have e2 : mb ≠ r := (map_ne h.blk hmp).symm
  refine ⟨⟨D, ts, hp.same (hg.block g hp.blk.lt (by simpa using e1)) (hg.block mb (World.ownsMap.lt hp.map_) (by simpa using e2)) (fun q hq => hg.block q (hp.apart.2.2 q hq) (fun e => ?_)), hr⟩, Below.growOwn ht.bel (fun q e => Option.some.inj e ▸ hb) hg, ht.hg, ht.hm, ht.hv⟩
  obtain ⟨cs, fr, hh⟩ := row_tag hp.row hq
  exact tag_ne hh h.blk (by decide) (Option.some.inj e)
/-- Both hold the same. -/
structure Ac (w0 w : World) (g mb r : Nat) (v u : Value) (S : List Tm) : Prop where
  t : TO w0 w g mb v S
  a : RA w r u S
  b : w0.heap.size ≤ r
theorem Ac.keep {w0 w w' : World} {g mb r : Nat} {v u : Value} {S : List Tm} (h : Ac w0 w g mb r v u S) (hb : Below w.heap.size w w') : Ac w0 w' g mb r v u S := ⟨h.t.keep hb, h.a.keep hb, h.b⟩
def AcR (w0 w : World) (g mb r : Nat) (S : List Tm) : Prop := ∃ v u, Ac w0 w g mb r v u S
/-- Between the two calls: the timers hold S', the reference S. -/
structure Am (w0 w : World) (g mb r : Nat) (v u : Value) (S S' : List Tm) : Prop where
  t : TO w0 w g mb v S'
  a : RA w r u S
  b : w0.heap.size ≤ r
  l : S.length ≤ 256
  i : Ids S
theorem Ac.mv {w0 w w' : World} {g mb r : Nat} {v v' u : Value} {S S' : List Tm} (h : Ac w0 w g mb r v u S) (h2 : TO w0 w' g mb v' S') (hm : Mv w w' g mb v v') : Am w0 w' g mb r v' u S S' := ⟨h2, h.a.mv h.t hm, h.b, h.t.len, h.t.ids.2⟩
theorem Am.drew {w0 w : World} {g mb r : Nat} {v u : Value} {S S' : List Tm} (h : Am w0 w g mb r v u S S') : Am w0 w.drew g mb r v u S S' := ⟨h.t.keep (Below.refl _ _).drew, h.a.keep (Below.refl _ _).drew, h.b, h.l, h.i⟩
theorem Am.fin {w0 w w' : World} {g mb r : Nat} {v u : Value} {S S' : List Tm} (h : Am w0 w g mb r v u S S') (hr : RsR r S' w w') : AcR w0 w' g mb r S' := by
  obtain ⟨u', h1, h2⟩ := hr
  exact ⟨v, u', h.t.grow h.a h.b h2, h1, h.b⟩
end Go.Proofs.Ytjhcengdaclihaa
