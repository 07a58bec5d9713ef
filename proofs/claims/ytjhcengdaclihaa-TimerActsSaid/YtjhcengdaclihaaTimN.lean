/- Two timers side by side; append of one own row to another. No condition. -/
import Derived.Test.YtjhcengdaclihaaTimX
import Derived.Laws.AppendOwnNone
namespace Go.Proofs.Ytjhcengdaclihaa
open Go.RowKit
set_option linter.unusedVariables false
set_option linter.unusedSimpArgs false
open Go.Maps
theorem run_append_rows (w : World) (base base2 : Nat) (ty : TypeId) (i : TypeInfo) (hi : Try.prog.info? 3 = some i) (hz : i.zero = some (.int .i64 0))
    (hsize : i.size = 1) (hby : i.bytes = 8) (v : Value) (n : Nat) (xs : List Value) (hown : w.ownsRow base 3 1 v n xs)
    (u : Value) (m : Nat) (zs : List Int) (hown2 : w.ownsRow base2 3 1 u m (intCells zs)) (h63 : n + m ≤ 1000) (hbase : base ≤ w.heap.size) :
    ∃ v' w', (Builtin.append_ #[37, 37] ty #[v, u]).run Try.prog w = .ok v' w' ∧ w'.ownsRow base 3 1 v' (n + m) (xs ++ intCells zs) ∧ w.grownBy w' v.ownBlock := by
  rcases hown2.2 with ⟨rfl, h0⟩ | ⟨g, cap, cur, rfl, hq, hh, r'⟩
  · subst h0
    have hl := hown2.1
    have e : intCells zs = [] := List.eq_nil_of_length_eq_zero (by simpa using hl)
    refine ⟨v, w, run_append_owned_none (P := Try.prog) (w := w) base 37 ty 3 i 1 Try.underlying37 hi v n xs hown, ?_, ⟨rfl, rfl, rfl, Nat.le_refl _, fun _ _ _ => rfl⟩⟩
    rw [e, List.append_nil]
    exact hown
  · have hl := hown2.1
    obtain ⟨v', w', h1, h2, h3, -⟩ := run_append_own_at (P := Try.prog) w base 37 ty 3 i (.int .i64 0) 1 8 Try.underlying37 hi hz hsize hby rfl (by omega) v n xs hown ⟨g, 0, none⟩ m cap (intCells zs) hl (fun j u hu => by
      have hj := (List.getElem?_eq_some_iff.1 hu).1
      have hadd : (⟨g, 0, none⟩ : Addr).add j = ⟨g, j, none⟩ := by unfold Addr.add; split <;> simp_all
      rw [hadd, hown2.cellAt j (by omega)]
      exact hu) (intCells_one zs) (by unfold maxLen; omega) (by omega) hbase
    exact ⟨v', w', h1, h2, h3⟩
theorem wpList_append_rows {w : World} {ops : Array Oper} {rest : List Oper} {o : Oper} {a : Act} {Q : Exit → Act → World → Prop} (hgd : o.guard = none) (s x : Operand)
    (ho : o.op = .call { callee := .builtin .append, args := #[s, x], argTypes := #[37, 37] }) (base base2 : Nat) (i : TypeInfo) (hi : Try.prog.info? 3 = some i) (hz : i.zero = some (.int .i64 0))
    (hsize : i.size = 1) (hby : i.bytes = 8) (v : Value) (n : Nat) (xs : List Value) (hs : a.eval s = v) (hown : w.ownsRow base 3 1 v n xs)
    (u : Value) (m : Nat) (zs : List Int) (hx : a.eval x = u) (hown2 : w.ownsRow base2 3 1 u m (intCells zs)) (h63 : n + m ≤ 1000) (hbase : base ≤ w.heap.size)
    (h : ∀ v' w', w'.ownsRow base 3 1 v' (n + m) (xs ++ intCells zs) → w.grownBy w' v.ownBlock → wpList Try.prog ops Q rest (a.put o.dst v') w') :
    wpList Try.prog ops Q (o :: rest) a w := by
  refine wpList_plain hgd fun K hK => ?_
  obtain ⟨v', w', hr, h2, h3⟩ := run_append_rows w base base2 o.type i hi hz hsize hby v n xs hown u m zs hown2 h63 hbase
  unfold Oper.wp execOp
  simp only [ho, resolve, invoke, builtin, Sem.run_bind, Sem.run_pure, Result.andThen_ok, List.map_toArray, List.map_cons, List.map_nil, hs, hx, hr]
  exact hK _ _ (h v' w' h2 h3)
/-- Two piles in different blocks: one is moved, the other stays. -/
theorem PileAt.other {w w' : World} {g m g2 m2 : Nat} {v v' u : Value} {D D2 : DU} {ts ts2 : List Tm} (h : PileAt w g m v D ts) (h2 : PileAt w g2 m2 u D2 ts2) (e1 : g ≠ g2) (e2 : m ≠ m2) (e3 : ∀ r, v.ownBlock = some r → u.ownBlock ≠ some r) (hm : Mv w w' g m v v') : PileAt w' g2 m2 u D2 ts2 := by
  have kinds : ∀ {b n : Nat} {cs : Array Value} {t : TypeId} {fr : Nat × Nat} {es : Array MapEntry} {c : Nat}, w.heap[b]? = some (.cells cs t fr) → w.heap[n]? = some (.map es c) → b ≠ n := by
    intro b n cs t fr es c h1 h2 e
    subst e
    rw [h1] at h2
    cases h2
  obtain ⟨es, c, hb, -⟩ := h.map_
  obtain ⟨es2, c2, hb2, -⟩ := h2.map_
  have hg := h.blk
  have hg2 := h2.blk
  unfold Blk at hg hg2
  have rows : ∀ {W : World} {b : Nat} {v : Value} {n : Nat} {xs : List Value} {r : Nat}, W.ownsRow b 59 2 v n xs → v.ownBlock = some r → ∃ cs fr, W.heap[r]? = some (.cells cs 59 fr) := by
    intro W b v n xs r ho hr
    rcases ho.2 with ⟨rfl, -⟩ | ⟨q, cap, cur, rfl, -, hh, -⟩
    · simp [Value.ownBlock] at hr
    · simp only [Value.ownBlock, Option.map_some, Option.some.injEq] at hr
      subst hr
      exact ⟨_, _, hh⟩
  have tags : ∀ {b r : Nat} {cs cs2 : Array Value} {t t2 : TypeId} {fr fr2 : Nat × Nat}, w.heap[b]? = some (.cells cs t fr) → w.heap[r]? = some (.cells cs2 t2 fr2) → t ≠ t2 → b ≠ r := by
    intro b r cs cs2 t t2 fr fr2 h1 h2 ht e
    subst e
    rw [h1] at h2
    injection h2 with h3
    injection h3 with _ h4
    exact ht h4
  have st := hm.1.2.2.2.2
  refine h2.same (st g2 h2.blk.lt (Ne.symm e1) (kinds hg2 hb) (fun e => ?_)) (st m2 (World.ownsMap.lt h2.map_) (Ne.symm (kinds hg hb2)) (Ne.symm e2) (fun e => ?_)) (fun r hr => st r (h2.apart.2.2 r hr) (fun e => ?_) (fun e => ?_) (fun e => e3 r e hr))
  · obtain ⟨cs, fr, hr⟩ := rows h.row e
    exact tags hg2 hr (by decide) rfl
  · obtain ⟨cs, fr, hr⟩ := rows h.row e
    exact kinds hr hb2 rfl
  · obtain ⟨cs, fr, hr2⟩ := rows h2.row hr
    subst e
    exact tags hg hr2 (by decide) rfl
  · obtain ⟨cs, fr, hr2⟩ := rows h2.row hr
    exact kinds hr2 hb e
structure Two (w0 w : World) (g m : Nat) (v : Value) (S : List Tm) (g2 m2 : Nat) (v2 : Value) (S2 : List Tm) : Prop where
  a : TO w0 w g m v S
  b : TO w0 w g2 m2 v2 S2
  gg : g ≠ g2
  mm : m ≠ m2
  vv : ∀ r, v.ownBlock = some r → v2.ownBlock ≠ some r
theorem Two.symm {w0 w : World} {g m g2 m2 : Nat} {v v2 : Value} {S S2 : List Tm} (h : Two w0 w g m v S g2 m2 v2 S2) : Two w0 w g2 m2 v2 S2 g m v S := ⟨h.b, h.a, h.gg.symm, h.mm.symm, fun r e e2 => h.vv r e2 e⟩
theorem Two.keep {w0 w w' : World} {g m g2 m2 : Nat} {v v2 : Value} {S S2 : List Tm} (h : Two w0 w g m v S g2 m2 v2 S2) (hb : Below w.heap.size w w') : Two w0 w' g m v S g2 m2 v2 S2 := ⟨h.a.keep hb, h.b.keep hb, h.gg, h.mm, h.vv⟩
theorem Two.mv {w0 w w' : World} {g m g2 m2 : Nat} {v v' v2 : Value} {S S' S2 : List Tm} (h : Two w0 w g m v S g2 m2 v2 S2) (h1 : TO w0 w' g m v' S') (hm : Mv w w' g m v v') : Two w0 w' g m v' S' g2 m2 v2 S2 := by
  obtain ⟨D, ts, hp, -⟩ := h.a.ta
  obtain ⟨D2, ts2, hp2, hr2⟩ := h.b.ta
  refine ⟨h1, ⟨⟨D2, ts2, hp.other hp2 h.gg h.mm h.vv hm, hr2⟩, h1.bel, h.b.hg, h.b.hm, h.b.hv⟩, h.gg, h.mm, fun r e e2 => ?_⟩
  rcases hm.2 r e with e3 | e3
  · exact h.vv r e3 e2
  · have := hp2.apart.2.2 r e2
    omega
theorem due_due {lo hi : Int} (h : lo ≤ hi) (S : List Tm) : dueL lo S ++ dueL hi (restL lo S) = dueL hi S ∧ restL hi (restL lo S) = restL hi S := by
  induction S with
  | nil => exact ⟨rfl, rfl⟩
  | cons x S ih =>
    by_cases hx : x.2 ≤ lo
    · obtain ⟨a1, a2⟩ := due_cons (S := S) hx
      obtain ⟨b1, b2⟩ := due_cons (S := S) (Int.le_trans hx h)
      rw [a1, a2, b1, b2]
      exact ⟨by rw [List.cons_append, ih.1], ih.2⟩
    · obtain ⟨a1, a2⟩ := due_stop (S := S) hx
      rw [a1, a2]
      exact ⟨rfl, rfl⟩
end Go.Proofs.Ytjhcengdaclihaa
