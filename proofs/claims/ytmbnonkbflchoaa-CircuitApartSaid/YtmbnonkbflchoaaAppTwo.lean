/- An append to a row that is owned: where the answer lies: in the same block or in a new one. No condition. -/
import Derived.Test.YtmbnonkbflchoaaCells
import Derived.Laws.AppendOwn
namespace Go.Proofs.Ytmbnonkbflchoaa
open Go.RowKit
set_option linter.unusedVariables false
set_option linter.unusedSimpArgs false
theorem append_block {P : Program} (w : World) (base : Nat) (t ty e : TypeId) (i : TypeInfo) (z : Value) (ht : P.underlying t = some (.slice e)) (hi : P.info? e = some i) (hz : i.zero = some z)
    (v : Value) (n : Nat) (xs : List Value) (hown : w.ownsRow base e i.size v n xs) (a : Addr) (m c : Nat) (news : List Value) (hl : news.length = m * i.size) (hnews : ∀ j u, news[j]? = some u → w.cell? (a.add j) = some u) (h1 : ∀ u ∈ news, u.oneCell' = true)
    (hm : 0 < m) (h63 : n + m ≤ maxLen) (hbytes : (n + m) * i.bytes ≤ 140737488355328) {v' : Value} {w' : World} (hr : (Builtin.append_ #[t, t] ty #[v, .slice (some a) m c]).run P w = .ok v' w') : v'.ownBlock = v.ownBlock ∨ v'.ownBlock = some w.heap.size := by
  have hsmall : n + m ≤ 9223372036854775807 := by simp only [maxLen] at h63; omega
  rcases hown.2 with ⟨rfl, rfl⟩ | ⟨g, cap, cur, rfl, hbg, hg, hnc, hcm, hcs, htake⟩
  · right
    have h2 := run_append_nil (P := P) w t ty e i z ht hi hz a m c news hl hnews hm (by omega) (by have hb := hbytes; simp only [Nat.zero_add] at hb; omega)
    rw [hr] at h2
    injection h2 with h3 h4
    rw [h3]
    rfl
  · by_cases hroom : n + m ≤ cap
    · left
      have h2 := run_append_room (P := P) w t ty e i ht hi g n cap cur hg a m c news hl hnews h1 hroom (by rw [hl, hcs, ← Nat.add_mul]; exact Nat.mul_le_mul_right _ hroom)
      rw [hr] at h2
      injection h2 with h3 h4
      rw [h3]
      rfl
    · right
      have h2 := run_append_grow (P := P) w t ty e i z ht hi hz ⟨g, 0, none⟩ n cap xs hown.1 (hown.cells (g := g) rfl) a m c news hl hnews (by omega) (by omega) (growslice_fits (by omega) hbytes)
      rw [hr] at h2
      injection h2 with h3 h4
      rw [h3]
      rfl
theorem wpList_append_two {P : Program} {w : World} {ops : Array Oper} {rest : List Oper} {o : Oper} {a : Act} {Q : Exit → Act → World → Prop} (hgd : o.guard = none) (s x : Operand) (t : TypeId)
    (ho : o.op = .call { callee := .builtin .append, args := #[s, x], argTypes := #[t, t] })
    (base : Nat) (e : TypeId) (i : TypeInfo) (z : Value) (size bytes : Nat) (ht : P.underlying t = some (.slice e)) (hi : P.info? e = some i) (hz : i.zero = some z)
    (hsize : i.size = size) (hby : i.bytes = bytes) (hzs : z.cells.size = size) (hsz : 0 < size)
    (v : Value) (n : Nat) (xs : List Value) (hs : a.eval s = v) (hown : w.ownsRow base e size v n xs)
    (ad : Addr) (m c : Nat) (news : List Value) (hx : a.eval x = .slice (some ad) m c) (hl : news.length = m * size) (hnews : ∀ j u, news[j]? = some u → w.cell? (ad.add j) = some u) (h1 : ∀ u ∈ news, u.oneCell' = true)
    (hm : 0 < m) (h63 : n + m ≤ maxLen) (hbytes : (n + m) * bytes ≤ 140737488355328) (hbase : base ≤ w.heap.size)
    (h : ∀ v' w', w'.ownsRow base e size v' (n + m) (xs ++ news) → w.grownBy w' v.ownBlock → (v'.ownBlock = v.ownBlock ∨ v'.ownBlock = some w.heap.size) → wpList P ops Q rest (a.put o.dst v') w') : wpList P ops Q (o :: rest) a w := by
  subst hsize
  subst hby
  refine wpList_plain hgd fun _ hK => ?_
  obtain ⟨v', w', hr, h2, h3, -⟩ := run_append_own (P := P) w base t o.type e i z i.size i.bytes ht hi hz rfl rfl hzs hsz v n xs hown ad m c news hl hnews h1 h63 hbytes hbase
  have h5 := append_block (P := P) w base t o.type e i z ht hi hz v n xs hown ad m c news hl hnews h1 hm h63 hbytes hr
  unfold Oper.wp execOp
  simp only [ho, resolve, invoke, builtin, Sem.run_bind, Sem.run_pure, Result.andThen_ok, List.map_toArray, List.map_cons, List.map_nil, hs, hx, hr]
  exact hK _ _ (h v' w' h2 h3 h5)
/-- Two rows that lie in no block together. -/
def ApartV (v u : Value) : Prop := ∀ g, v.ownBlock = some g → u.ownBlock = some g → False
theorem apart_sym {v u : Value} (h : ApartV v u) : ApartV u v := fun g h1 h2 => h g h2 h1
theorem own_belowW {w W : World} {base n size : Nat} {e : TypeId} {v : Value} {xs : List Value} (h : w.ownsRow base e size v n xs) (hb : Below w.heap.size w W) : W.ownsRow base e size v n xs := by
  refine h.kept (row := some w.heap.size) ⟨hb.os, hb.tape, hb.output, hb.size, fun i hi _ => hb.block i hi⟩ ?_
  cases hv : v.ownBlock with
  | none => left; rfl
  | some k => right; intro e; have := (h.lt k hv).2; have e := Option.some.inj e; omega
/-- One row grows, the other stays. -/
theorem two_step {B n m size : Nat} {e : TypeId} {wr W w4 : World} {o : Obj} {v u v4 : Value} {xs ys : List Value} (hb : Below wr.heap.size wr W) (ho : wr.ownsRow B e size v n xs) (hu : wr.ownsRow B e size u m ys) (hap : ApartV v u)
    (hgrow : (W.alloc o).grownBy w4 v.ownBlock) (hblk : v4.ownBlock = v.ownBlock ∨ v4.ownBlock = some (W.alloc o).heap.size) :
    w4.ownsRow B e size u m ys ∧ ApartV v4 u ∧ wr.heap.size ≤ w4.heap.size ∧ (∀ b < B, b < wr.heap.size → w4.heap[b]? = wr.heap[b]?) ∧ (∀ (X : Nat) (a : World), X ≤ B → X ≤ wr.heap.size → Below X a wr → Below X a w4) := by
  have hW : (W.alloc o).ownsRow B e size u m ys := (own_belowW hu hb).alloc o
  have hsz : wr.heap.size ≤ (W.alloc o).heap.size := by have := hb.size; simp; omega
  refine ⟨hW.kept hgrow ?_, ?_, Nat.le_trans hsz hgrow.size, ?_, ?_⟩
  · cases hv : u.ownBlock with
    | none => left; rfl
    | some k => right; intro e; exact hap k e.symm hv
  · intro g h1 h2
    rcases hblk with h | h
    · exact hap g (h.symm.trans h1) h2
    · have := (hu.lt g h2).2
      have e := Option.some.inj (h.symm.trans h1)
      omega
  · intro b hbB hbw
    rw [hgrow.block b (by omega) (by intro e; have := (ho.lt b e.symm).1; omega)]
    exact (Below.heap_alloc W o b (by have := hb.size; omega)).trans (hb.block b hbw)
  · intro X a hX hXw hba
    exact (below_step hba hb hXw |>.alloc (by have := hb.size; omega) o).grown hgrow (by omega) (fun c hc => by have := (ho.lt c hc).1; omega)
end Go.Proofs.Ytmbnonkbflchoaa
