/- What the law CircuitPorts keeps: the circuits that are up, as a list of numbers and as a row of the law's own beside the switch. No condition. -/
import Derived.Test.YtmbnonkbflchoaaCirT
import Derived.Test.YtmbnonkbflchoaaCirS
import Derived.Maps.AppendAt
namespace Go.Proofs.Ytmbnonkbflchoaa
open Go.RowKit
set_option linter.unusedVariables false
set_option linter.unusedSimpArgs false
open Go.Maps
theorem u64_range (z : Int) : 0 ≤ IntKind.u64.wrap z ∧ IntKind.u64.wrap z ≤ 18446744073709551615 := by
  simp [IntKind.wrap, IntKind.bits, IntKind.signed]; omega
structure Ups (p : Nat) (B : Ab) (last : Int) (us : List Int) : Prop where
  ports : B.ports = (p : Int)
  owed : B.owed = 0
  last_ : B.last = last
  n : B.n = us.length
  le : us.length ≤ p
  nd : us.Nodup
  pos : ∀ c ∈ us, 1 ≤ c ∧ c ≤ last
  up : ∀ c ∈ us, (B.A c).isSome = true
theorem Ups.zero (p : Nat) : Ups p (newB (p : Int) 100) 0 [] :=
  { ports := rfl, owed := rfl, last_ := rfl, n := rfl, le := Nat.zero_le _, nd := List.nodup_nil, pos := fun c h => (by cases h), up := fun c h => (by cases h) }
theorem Ups.full {p : Nat} {B : Ab} {last : Int} {us : List Int} (h : Ups p B last us) (hf : ¬ us.length < p) : dialA B = (0, 2501, B) := dialA_full (by have := h.ports; have := h.n; omega)
theorem Ups.dial {p : Nat} {B : Ab} {last : Int} {us : List Int} (h : Ups p B last us) (hf : us.length < p) (h0 : 0 ≤ last) : ∃ B', dialA B = (last + 1, 0, B') ∧ Ups p B' (last + 1) (us ++ [last + 1]) := by
  have e := h.last_
  refine ⟨_, by rw [dialA_new (by have := h.ports; have := h.n; omega) (by have := h.owed; omega), e], ?_⟩
  refine { ports := h.ports, owed := h.owed, last_ := rfl, n := ?_, le := ?_, nd := ?_, pos := ?_, up := ?_ }
  · show B.n + 1 = _; rw [h.n, List.length_append]; rfl
  · rw [List.length_append]; exact hf
  · refine List.nodup_append.2 ⟨h.nd, by simp, fun a ha b hb => ?_⟩
    obtain rfl := List.mem_singleton.1 hb
    have := (h.pos a ha).2
    omega
  · intro c hc
    rcases List.mem_append.1 hc with hc | hc
    · have := h.pos c hc; omega
    · obtain rfl := List.mem_singleton.1 hc; omega
  · intro c hc
    show (if c = last + 1 then some (zeroAP, zeroAP) else B.A c).isSome = true
    by_cases he : c = last + 1
    · rw [if_pos he]; rfl
    · rw [if_neg he]
      rcases List.mem_append.1 hc with hc | hc
      · exact h.up c hc
      · exact absurd (List.mem_singleton.1 hc) he
theorem cut_list {us : List Int} {k : Nat} {c : Int} (hc : us[k]? = some c) : us = us.take k ++ c :: us.drop (k + 1) := by
  obtain ⟨hk, rfl⟩ := List.getElem?_eq_some_iff.1 hc
  rw [← List.drop_eq_getElem_cons hk, List.take_append_drop]
theorem Ups.hang {p : Nat} {B : Ab} {last : Int} {us : List Int} (h : Ups p B last us) {k : Nat} {c : Int} (hc : us[k]? = some c) :
    ∃ B', hangA B c = (0, B') ∧ hangA B' c = (2502, B') ∧ Ups p B' last (us.take k ++ us.drop (k + 1)) := by
  have hm : c ∈ us := List.mem_of_getElem? hc
  have hl := cut_list hc
  have hk := (List.getElem?_eq_some_iff.1 hc).1
  have hup := h.up c hm
  cases hA : B.A c with
  | none => rw [hA] at hup; cases hup
  | some y =>
    refine ⟨{ B with n := B.n - 1, A := fun k => if k = c then none else B.A k }, by unfold hangA; rw [hA], ?_, ?_⟩
    · unfold hangA
      simp
    · have hnd := h.nd
      rw [hl] at hnd
      obtain ⟨n1, n2, n3⟩ := List.nodup_append.1 hnd
      obtain ⟨n4, n5⟩ := List.nodup_cons.1 n2
      have hsub : ∀ d, d ∈ us.take k ++ us.drop (k + 1) → d ∈ us ∧ d ≠ c := by
        intro d hd
        rcases List.mem_append.1 hd with hd | hd
        · exact ⟨List.mem_of_mem_take hd, n3 d hd c List.mem_cons_self⟩
        · exact ⟨List.mem_of_mem_drop hd, fun e => n4 (by rw [← e]; exact hd)⟩
      have hlen : (us.take k ++ us.drop (k + 1)).length = us.length - 1 := by rw [List.length_append, List.length_take, List.length_drop]; omega
      refine { ports := h.ports, owed := h.owed, last_ := h.last_, n := ?_, le := ?_, nd := ?_, pos := ?_, up := ?_ }
      · show B.n - 1 = _; rw [hlen, h.n]
      · rw [hlen]; have := h.le; omega
      · exact List.nodup_append.2 ⟨n1, n5, fun a ha b hb => n3 a ha b (List.mem_cons_of_mem _ hb)⟩
      · exact fun d hd => h.pos d (hsub d hd).1
      · intro d hd
        obtain ⟨h1, h2⟩ := hsub d hd
        show (if d = c then none else B.A d).isSome = true
        rw [if_neg h2]
        exact h.up d h1
/-- A row of the law's own: none of the switch's blocks. -/
def RowL (L : Lab) (v : Value) : Prop := ∀ k, v.ownBlock = some k → (L k).1 = 0
theorem RowL.none (L : Lab) : RowL L (.slice none 0 0) := fun k hk => by cases hk
theorem St.row {w0 w w' : World} {L : Lab} {N g m : Nat} {B : Ab} {v : Value} {e : TypeId} {size : Nat} {xs : List Value} (h : St w0 w L N g B) (hv : RowL L v) (ho : w.ownsRow w0.heap.size e size v m xs) (hg : w.grownBy w' v.ownBlock) : St w0 w' (fresh L w) N g B := by
  have hf : Fr L (fresh L w) w w' (fun l => l.1 = 0) := ⟨fun i hi => fresh_old _ _ hi, hg.os, hg.tape, hg.output, hg.size, fun i hi hn => hg.block i hi (fun e => hn (hv i e.symm))⟩
  exact ⟨h.1.fr hf (fun c k e => h.2.2.1 e), h.2.1.grown hg h.2.1.size (fun k hk => (ho.lt k hk).1), h.2.2.1, fun i hi => by rw [hf.1 i (Nat.lt_of_lt_of_le hi h.2.1.size)]; exact h.2.2.2 i hi⟩
theorem St.fresh_ {w0 w w' : World} {L : Lab} {N g : Nat} {B : Ab} (h : St w0 w L N g B) (hb : Below w.heap.size w w') : St w0 w' (fresh L w) N g B := by
  have hf : Fr L (fresh L w) w w' (fun _ => False) := fr_fresh hb
  exact ⟨h.1.fr hf (fun _ _ h => h), ChgS.below h.2.1 hf.2 (fun _ _ h => h) h.2.1.size, h.2.2.1, fun i hi => by rw [hf.1 i (Nat.lt_of_lt_of_le hi h.2.1.size)]; exact h.2.2.2 i hi⟩
theorem RowL.fr {L L' : Lab} {w w' : World} {v : Value} {T : Lb → Prop} {b m : Nat} {e : TypeId} {size : Nat} {xs : List Value} (h : RowL L v) (ho : w.ownsRow b e size v m xs) (hf : Fr L L' w w' T) : RowL L' v :=
  fun k hk => by rw [hf.1 k (ho.lt k hk).2]; exact h k hk
theorem RowL.grown {L : Lab} {w : World} {x : Nat} {v v' : Value} {b m : Nat} {e : TypeId} {size : Nat} {xs : List Value} (h : RowL L v) (ho : w.ownsRow b e size v m xs) (hx : w.heap.size ≤ x) (hb : v'.ownBlock = v.ownBlock ∨ v'.ownBlock = some x) : RowL (fresh L w) v' := by
  intro k hk
  rcases hb with e | e
  · rw [hk] at e; have hk' := e.symm
    rw [fresh_old _ _ (ho.lt k hk').2]; exact h k hk'
  · rw [hk] at e
    obtain rfl := Option.some.inj e
    exact fresh_new _ _ hx
theorem RowL.new {L : Lab} {w w' : World} {v : Value} {m : Nat} {e : TypeId} {size : Nat} {xs : List Value} (ho : w'.ownsRow w.heap.size e size v m xs) : RowL (fresh L w) v :=
  fun k hk => fresh_new _ _ (ho.lt k hk).1
theorem own_fr {L L' : Lab} {w w' : World} {v : Value} {g b m : Nat} {e : TypeId} {size : Nat} {xs : List Value} (h : RowL L v) (ho : w.ownsRow b e size v m xs) (hf : Fr L L' w w' (fun l => l.1 = g)) (hg : g ≠ 0) : w'.ownsRow b e size v m xs := by
  refine ⟨ho.1, ?_⟩
  rcases ho.2 with h0 | ⟨q, cap, cur, rfl, hq, hh, r⟩
  · exact .inl h0
  · exact .inr ⟨q, cap, cur, rfl, hq, (hf.blk (Array.getElem?_eq_some_iff.1 hh).1 (fun e => hg (by rw [← e]; exact h q rfl))).trans hh, r⟩
theorem own_base {w : World} {b b' m : Nat} {v : Value} {e : TypeId} {size : Nat} {xs : List Value} (h : w.ownsRow b e size v m xs) (hb : b' ≤ b) : w.ownsRow b' e size v m xs := by
  refine ⟨h.1, ?_⟩
  rcases h.2 with h0 | ⟨g, cap, cur, rfl, hg, r⟩
  · exact .inl h0
  · exact .inr ⟨g, cap, cur, rfl, Nat.le_trans hb hg, r⟩
theorem row_cell {w : World} {b m k : Nat} {v : Value} {zs : List Int} {c : Int} (h : w.ownsRow b 3 1 v m (intCells zs)) (hc : zs[k]? = some c) : ∃ r cap, v = .slice (some ⟨r, 0, none⟩) m cap ∧ m ≤ cap ∧ cap ≤ maxLen ∧ ∀ j z, zs[j]? = some z → w.cell? ⟨r, j, none⟩ = some (.int .i64 z) := by
  rcases h.2 with ⟨rfl, hm⟩ | ⟨r, cap, cur, rfl, hb, hg, hnc, hcm, hcs, htk⟩
  · have := h.1
    rw [intCells_len] at this
    have := (List.getElem?_eq_some_iff.1 hc).1
    omega
  · refine ⟨r, cap, rfl, hnc, hcm, fun j z hz => ?_⟩
    rw [cell_of_row w r j cur _ _ hg]
    have a1 : (intCells zs)[j]? = some (.int .i64 z) := by unfold intCells; rw [List.getElem?_map, hz]; rfl
    rw [← htk, List.getElem?_take] at a1
    split at a1
    · simpa using a1
    · cases a1
theorem row_of {w : World} {b m k r cap : Nat} {zs : List Int} {c : Int} (h : w.ownsRow b 3 1 (.slice (some ⟨r, 0, none⟩) m cap) m (intCells zs)) (hc : zs[k]? = some c) : m ≤ cap ∧ cap ≤ maxLen ∧ ∀ j z, zs[j]? = some z → w.cell? ⟨r, j, none⟩ = some (.int .i64 z) := by
  obtain ⟨r', cap', e, h1, h2, h3⟩ := row_cell h hc
  injection e with e1 _ e3
  injection e1 with e1
  injection e1 with e1 _
  subst e1 e3
  exact ⟨h1, h2, h3⟩
theorem pick_k (z : Int) (m : Nat) (hm : 0 < m) (hm8 : m ≤ 8) : ∃ q kk : Nat, IntKind.u64.wrap ((IntKind.u64.wrap z).tdiv 2) = (q : Int) ∧ (q : Int).tmod (m : Int) = (kk : Int) ∧ wrap64 (kk : Int) = (kk : Int) ∧ kk < m := by
  obtain ⟨u, hu⟩ : ∃ u, u = IntKind.u64.wrap z := ⟨_, rfl⟩
  have h1 : 0 ≤ u ∧ u ≤ 18446744073709551615 := by subst hu; exact u64_range z
  refine ⟨(u / 2).toNat, (u / 2).toNat % m, ?_, ?_, ?_, Nat.mod_lt _ hm⟩
  · rw [← hu, Int.tdiv_eq_ediv_of_nonneg h1.1, IntWalk.u64_in _ (by omega)]; omega
  · rw [Int.tmod_eq_emod_of_nonneg (by omega)]; rfl
  · have := Nat.mod_lt (u / 2).toNat hm
    exact wrap_in (by omega) (by omega)
/-- The cells of a part of a row. -/
theorem part_cells {w : World} {r o : Nat} {zs xs : List Int} (h : ∀ j z, zs[j]? = some z → w.cell? ⟨r, j, none⟩ = some (.int .i64 z)) (hx : ∀ j, xs[j]? = none ∨ xs[j]? = zs[o + j]?) : ∀ j u, (intCells xs)[j]? = some u → w.cell? ((⟨r, o, none⟩ : Addr).add j) = some u := by
  intro j u hu
  have hadd : (⟨r, o, none⟩ : Addr).add j = ⟨r, o + j, none⟩ := by unfold Addr.add; split <;> simp_all
  rw [hadd]
  unfold intCells at hu
  rw [List.getElem?_map] at hu
  rcases hx j with e | e
  · rw [e] at hu; cases hu
  · cases hz : xs[j]? with
    | none => rw [hz] at hu; cases hu
    | some z =>
      rw [hz] at hu
      obtain rfl := Option.some.inj hu
      exact h _ _ (by rw [← e]; exact hz)
theorem take_part (zs : List Int) (k j : Nat) : (zs.take k)[j]? = none ∨ (zs.take k)[j]? = zs[0 + j]? := by
  rw [List.getElem?_take, Nat.zero_add]
  split
  · exact .inr rfl
  · exact .inl rfl
theorem drop_part (zs : List Int) (k j : Nat) : (zs.drop k)[j]? = none ∨ (zs.drop k)[j]? = zs[k + j]? := by
  rw [List.getElem?_drop]; exact .inr rfl
theorem row_none {us : List Int} {m : Nat} {w : World} {b : Nat} {v : Value} (h : w.ownsRow b 3 1 v m (intCells us)) : us.length = m := by
  have := h.1; rw [intCells_len] at this; omega
def PoB (w0 : World) (g p i : Nat) (last : Int) (v : Value) (us : List Int) (w : World) : Prop :=
  ∃ (B : Ab) (L : Lab), St w0 w L i g B ∧ Ups p B last us ∧ w.ownsRow w0.heap.size 3 1 v us.length (intCells us) ∧ RowL L v ∧ 0 ≤ last ∧ i ≤ 100
end Go.Proofs.Ytmbnonkbflchoaa
