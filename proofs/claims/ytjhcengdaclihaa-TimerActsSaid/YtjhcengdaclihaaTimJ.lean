/- The reference's Due. No condition. -/
import Derived.Test.YtjhcengdaclihaaTimH
import Derived.Laws.AppendOwnNone
namespace Go.Proofs.Ytjhcengdaclihaa
open Go.RowKit
set_option linter.unusedVariables false
set_option linter.unusedSimpArgs false
open Go.Maps
theorem RA.cells_ {w : World} {r b cap k : Nat} {u : Value} {S : List Tm} {x : Tm} (h : RA w r u S) (hu : u = .slice (some ⟨b, 0, none⟩) S.length cap) (hx : S[k]? = some x) : w.cell? ⟨b, k * 2, none⟩ = some (.int .i64 x.1) ∧ w.cell? ⟨b, k * 2 + 1, none⟩ = some (.int .i64 x.2) := by
  obtain ⟨b', cap', e, -, -, -, h1, h2⟩ := h.at_ hx
  rw [hu] at e
  injection e with e1 _ e2
  injection e1 with e1
  injection e1 with e1
  subst e1
  exact ⟨h1, h2⟩
theorem own_zero_t (w : World) : (w.alloc (.cells #[] 44)).ownsRow w.heap.size 44 2 (.slice (some ⟨w.heap.size, 0, none⟩) 0 0) 0 [] :=
  World.ownsRow_made w #[] 0 (Nat.le_refl _) (by unfold maxLen; omega) rfl
theorem own_base {w : World} {b1 b2 n size : Nat} {e : TypeId} {u : Value} {xs : List Value} (h : w.ownsRow b1 e size u n xs) (hb : b2 ≤ b1) : w.ownsRow b2 e size u n xs := by
  refine ⟨h.1, ?_⟩
  rcases h.2 with h' | ⟨q, cap, cur, e, hq, hh⟩
  · exact .inl h'
  · exact .inr ⟨q, cap, cur, e, Nat.le_trans hb hq, hh⟩
theorem drop_at' {S : List Tm} {k : Nat} {x : Tm} (hx : S[k]? = some x) : S.drop k = x :: S.drop (k + 1) := by
  have hk := (List.getElem?_eq_some_iff.1 hx).1
  rw [List.drop_eq_getElem_cons hk, (List.getElem?_eq_some_iff.1 hx).2]
def RdR (r : Nat) (now : Int) (S : List Tm) (w : World) (e : Ending) (w' : World) : Prop := ∃ A cap, e = .returned (.slice A (dueL now S).length cap) ∧ w'.ownsRow w.heap.size 3 1 (.slice A (dueL now S).length cap) (dueL now S).length (intCells (dueL now S)) ∧ RsR r (restL now S) w w'
def DuX (w : World) (now : Int) (S : List Tm) (k : Nat) (v : Value) (wr : World) : Prop :=
  wr.ownsRow w.heap.size 3 1 v k (intCells ((S.take k).map Prod.fst)) ∧ Below w.heap.size w wr ∧ dueL now S = (S.take k).map Prod.fst ++ dueL now (S.drop k) ∧ restL now S = restL now (S.drop k)
theorem DuX.step {w : World} {now : Int} {S : List Tm} {k : Nat} {v v' : Value} {wr w' : World} {x : Tm} {o : Obj} (h : DuX w now S k v wr) (hx : S[k]? = some x) (hn : x.2 ≤ now) (hg : (wr.alloc o).grownBy w' v.ownBlock) (hown : w'.ownsRow w.heap.size 3 1 v' (k + 1) (intCells ((S.take k).map Prod.fst) ++ [.int .i64 x.1])) : DuX w now S (k + 1) v' w' := by
  obtain ⟨h1, h2, h3, h4⟩ := h
  have e1 : S.take (k + 1) = S.take k ++ [x] := by rw [List.take_add_one, hx]; rfl
  have e2 := drop_at' hx
  obtain ⟨d1, d2⟩ := due_cons (S := S.drop (k + 1)) hn
  refine ⟨?_, Below.growOwn (h2.alloc h2.size _) (fun q e => (own_lt h1 q e).1) hg, ?_, ?_⟩
  · rw [e1, List.map_append, intCells_app]
    exact hown
  · rw [h3, e2, d1, e1]; simp
  · rw [h4, e2, d2]
theorem DuX.fin {w wr w5 : World} {now : Int} {S : List Tm} {r k : Nat} {u : Value} {A : Option Addr} {cap N : Nat} {u' : Value} {o : Obj} {cs : List Value} (h : DuX w now S k (.slice A k cap) wr) (hra : RA w r u S) (hs : dueL now (S.drop k) = [] ∧ restL now (S.drop k) = S.drop k) (hk : k ≤ S.length) (hg : (wr.alloc o).grownBy w5 (some wr.heap.size)) (hrow : w5.ownsRow wr.heap.size 44 2 u' N cs) (hc : cs = tmC (S.drop k)) : RdR r now S w (.returned (.slice A k cap)) (w5.setCell ⟨r, 0, none⟩ u') := by
  obtain ⟨h1, h2, h3, h4⟩ := h
  rw [hs.1, List.append_nil] at h3
  rw [hs.2] at h4
  have ha : Below w.heap.size w (wr.alloc o) := h2.alloc h2.size _
  have hb5 : Below w.heap.size w w5 := Below.growOwn ha (fun q e => by obtain rfl := Option.some.inj e; exact h2.size) hg
  have el : (dueL now S).length = k := by rw [h3]; simp; omega
  rw [← h3] at h1
  refine ⟨A, cap, by rw [el], ?_, by rw [h4]; exact hra.fin2 hb5 (own_base hrow h2.size) hc⟩
  rw [el]
  have l1 := own_lt h1
  have o1 : w5.ownsRow w.heap.size 3 1 (.slice A k cap) k (intCells (dueL now S)) := own_same h1 (fun q hq => by
    have hq2 := (l1 q hq).2
    rw [hg.block q (by simp; omega) (fun e => by have := Option.some.inj e; omega)]
    exact Below.heap_alloc wr o q hq2)
  refine own_same o1 (fun q hq => Below.heap_setCell w5 ⟨r, 0, none⟩ u' q (fun e => ?_))
  have e : q = r := e
  have := (l1 q hq).1
  have := hra.blk.lt
  omega
theorem due_off {now : Int} {S : List Tm} {k : Nat} {x : Tm} (hx : S[k]? = some x) (hn : ¬ x.2 ≤ now) : dueL now (S.drop k) = [] ∧ restL now (S.drop k) = S.drop k := by
  rw [drop_at' hx]
  exact due_stop hn
theorem due_end {now : Int} {S : List Tm} : dueL now (S.drop S.length) = [] ∧ restL now (S.drop S.length) = S.drop S.length := by
  rw [List.drop_eq_nil_of_le (Nat.le_refl _)]
  exact ⟨rfl, rfl⟩
set_option maxHeartbeats 4000000 in
set_option maxRecDepth 100000 in
theorem rdue_nil (r : Nat) (u : Value) (now : Int) (w : World) (h : RA w r u []) (hu : u = .slice none 0 0) : Calls Try.prog 16 #[.pointer (some ⟨r, 0, none⟩), .int .i64 now] w fun e w' => RdR r now [] w e w' := by
  subst hu
  obtain ⟨i0, hi0, hz0, hz1, hz2⟩ := info_parts info_rt
  have HI := Lib.hid hi0
  clear hz0 hz1 hz2 hi0
  have c0 : w.cell? ⟨r, 0, none⟩ = some (.slice none 0 0) := h.blk.cell 0
  have fr := h.blk.frozen 0
  have hl := h.blk.lt
  have H := Lib.hid h
  have hz := own_zero_t w
  have hb : Below w.heap.size w (w.alloc (.cells #[] 44)) := (Below.refl _ _).alloc (Nat.le_refl _) _
  have FIN := Lib.hid (show RdR r now [] w (.returned (.slice none 0 0)) ((w.setCell ⟨r, 0, none⟩ (.slice (some ⟨w.heap.size, 0, none⟩) 0 0)).alloc (.cells #[] 44)) from by
    rw [← World.setCell_alloc_past (.cells #[] 44) r 0 (.slice (some ⟨w.heap.size, 0, none⟩) 0 0) hl]
    exact ⟨none, 0, rfl, World.ownsRow_nil _ _ _ _, h.fin2 hb hz rfl⟩)
  have HZ := Lib.hid hz
  clear h hz hb
  go_enter Try.func16, Try.ntmps16
  go_wp2_with fail
  go_loopw [5, 6] (fun v i wr => v = .slice none 0 0 ∧ i = .int .i64 0 ∧ wr = w) (fun _ _ _ => 0)
  case atStart => exact ⟨rfl, rfl, by trivial⟩
  case round =>
    obtain ⟨rfl, rfl, rfl⟩ := hrel
    go_wp2_with (at_builtin; refine wpList_append_own_none rfl _ _ 26 rfl wr.heap.size 44 i0 2 Try.underlying26 HI.out (.slice (some ⟨wr.heap.size, 0, none⟩) 0 0) 0 [] rfl HZ.out rfl ?_)
    go_wp2_with fail
    go_ret
    exact FIN.out
set_option maxHeartbeats 4000000 in
set_option maxRecDepth 100000 in
theorem rdue_row (r b cap : Nat) (u : Value) (S : List Tm) (now : Int) (w : World) (h : RA w r u S) (hu : u = .slice (some ⟨b, 0, none⟩) S.length cap) (hcap : S.length ≤ cap) (hlen : S.length ≤ 256) : Calls Try.prog 16 #[.pointer (some ⟨r, 0, none⟩), .int .i64 now] w fun e w' => RdR r now S w e w' := by
  obtain ⟨i0, hi0, hz0, hz1, hz2⟩ := info_parts info_rt
  have HZ1 := Lib.hid hz1; have HZ2 := Lib.hid hz2; have HZ0 := Lib.hid hz0; have HI := Lib.hid hi0
  obtain ⟨i1, hj0, hy0, hy1, hy2⟩ := info_parts info_int
  have HY1 := Lib.hid hy1; have HY2 := Lib.hid hy2; have HY0 := Lib.hid hy0; have HJ := Lib.hid hj0
  clear hz0 hz1 hz2 hi0 hy0 hy1 hy2 hj0
  have c0 : w.cell? ⟨r, 0, none⟩ = some (.slice (some ⟨b, 0, none⟩) S.length cap) := by rw [← hu]; exact h.blk.cell 0
  have hrl := h.blk.lt
  have hrow := h.row
  have hbl : b < w.heap.size := (own_lt hrow b (by rw [hu]; rfl)).2
  rw [hu] at hrow
  have HR := Lib.hid hrow
  have H := Lib.hid h
  have HU := Lib.hid hu
  have HL := Lib.hid hlen
  have HC := Lib.hid (fun (W : World) (hW : Below w.heap.size w W) => (hW.cell (p := ⟨r, 0, none⟩) hrl).trans c0)
  have HBC := Lib.hid (fun (W : World) (hW : Below w.heap.size w W) (o : Nat) => hW.cell (p := ⟨b, o, none⟩) hbl)
  clear h hrow hu hlen c0
  go_enter Try.func16, Try.ntmps16
  go_wp2_with fail
  go_loopw [5, 6] (fun v i wr => ∃ k : Nat, i = .int .i64 k ∧ k ≤ S.length ∧ DuX w now S k v wr) (fun _ i _ => S.length - (intOf i).toNat)
  case atStart => exact ⟨0, rfl, by omega, World.ownsRow_nil _ _ _ _, Below.refl _ _, rfl, rfl⟩
  case round =>
    obtain ⟨k, rfl, hk, hd⟩ := hrel
    obtain ⟨uA, ucap, e⟩ := own_form hd.1
    subst e
    have D := Lib.hid hd
    have HO := Lib.hid hd.1
    have HB := Lib.hid hd.2.1
    clear hd
    have c1 := HC.out wr HB.out
    have hrl2 : r < wr.heap.size := Nat.lt_of_lt_of_le hrl HB.out.size
    have HW := Lib.hid (show wrap64 ((k : Int) + 1) = (k : Int) + 1 from by have := HL.out; exact wrap_in (by omega) (by omega))
    by_cases hlt : k < S.length
    · obtain ⟨x, hx⟩ : ∃ x, S[k]? = some x := ⟨_, List.getElem?_eq_getElem hlt⟩
      obtain ⟨x0, x1⟩ := H.out.cells_ HU.out hx
      have x0 := (HBC.out wr HB.out (k * 2)).trans x0
      have x1 := (HBC.out wr HB.out (k * 2 + 1)).trans x1
      have y1 : (k : Int) < (S.length : Int) := by omega
      have HX := Lib.hid hx
      have HK := Lib.hid hlt
      by_cases hn : x.2 ≤ now
      · have HN := Lib.hid hn
        clear hx hlt hk
        go_wp2_with (at_builtin; refine wpList_append_lies _ rfl _ _ 37 rfl w.heap.size 3 i1 _ 1 8 Try.underlying37 HJ.out HY0.out HY1.out HY2.out rfl (by omega) (.slice uA k ucap) k (intCells ((S.take k).map Prod.fst)) rfl (HO.out.alloc _) ⟨wr.heap.size, 0, none⟩ 1 1 [.int .i64 x.1] rfl rfl (World.news_of_block (cs := #[.int .i64 x.1]) (t := 3) (fr := (0, 0)) (heap_alloc_new wr _)) (by simp [Value.oneCell']) (by omega) ?c1 ?c2 ?c3 _ rfl ?_)
        case c1 => have := HL.out; have := HK.out; unfold maxLen; omega
        case c2 => have := HL.out; have := HK.out; omega
        case c3 => have := HB.out.size; simp; omega
        intro gg cap2 w3 hown hgrow hat hlt3
        have ST := Lib.hid (D.out.step HX.out HN.out hgrow (by rw [List.map_take]; exact hown))
        clear hown hgrow hat hlt3 x0 x1 c1
        have hw := HW.out
        go_wp2_with fail
        go_roundw
        case rel => exact ⟨k + 1, by first | (clear hw; go_num) | (rw [hw]; rfl), HK.out, ST.out⟩
        case measure =>
          first
            | (have := HK.out; clear hw; simp [intOf]; omega)
            | (show S.length - (intOf (.int .i64 (wrap64 ((k : Int) + 1)))).toNat < S.length - (intOf (.int .i64 (k : Int))).toNat; rw [hw]; clear hw; have := HK.out; show S.length - ((k : Int) + 1).toNat < S.length - (k : Int).toNat; omega)
      · have OFF := Lib.hid (due_off hx hn)
        have HKL := Lib.hid hk
        clear hx hlt
        have z1 : (k : Int) ≤ (S.length : Int) := by have := HKL.out; omega
        have z2 : (S.length : Int) ≤ (cap : Int) := by omega
        have hb0 : Below w.heap.size w (wr.alloc (.cells #[] 44)) := HB.out.alloc HB.out.size _
        have HNW := Lib.hid (show ∀ o, (∀ j v, ((tmC S).drop (k * 2))[j]? = some v → w.cell? ((⟨b, o, none⟩ : Addr).add j) = some v) → ∀ j v, ((tmC S).drop (k * 2))[j]? = some v → (wr.alloc (.cells #[] 44)).cell? ((⟨b, o, none⟩ : Addr).add j) = some v from fun o hh j v hj => by
          have h1 := hh j v hj
          have hadd : (⟨b, o, none⟩ : Addr).add j = ⟨b, o + j, none⟩ := by unfold Addr.add; split <;> simp_all
          rw [hadd] at h1 ⊢
          exact (hb0.cell (p := ⟨b, o + j, none⟩) hbl).trans h1)
        have HN5 := Lib.hid (HNW.out (k * 2) (row_news HR.out (k * 2)))
        have HN0 := Lib.hid (show cap = k → ∀ j v, ((tmC S).drop (k * 2))[j]? = some v → (wr.alloc (.cells #[] 44)).cell? ((⟨b, 0, none⟩ : Addr).add j) = some v from fun e j v hj => by
          have := (List.getElem?_eq_some_iff.1 hj).1
          rw [List.length_drop, tmC_len] at this
          omega)
        clear hb0 hk
        have hcp : ¬ cap = k := by have := HK.out; omega
        go_wp2_with (at_builtin; refine wpList_append_own_at _ rfl _ _ 26 rfl wr.heap.size 44 i0 _ 2 16 Try.underlying26 HI.out HZ0.out HZ1.out HZ2.out rfl (by omega) (.slice (some ⟨wr.heap.size, 0, none⟩) 0 0) 0 [] rfl (own_zero_t wr) _ _ _ ((tmC S).drop (k * 2)) rfl (by rw [List.length_drop, tmC_len]; have := HKL.out; omega) (by first | exact HN0.out rfl | exact HN5.out) (fun v hv => tmC_one S v (List.mem_of_mem_drop hv)) (by have := HL.out; unfold maxLen; omega) (by have := HL.out; omega) (by simp) ?_)
        intro v6 w6 hown6 hgrow6 hnil6 hat6
        obtain ⟨A6, cap6, e6⟩ := own_form hown6
        subst e6
        have FIN := Lib.hid (D.out.fin H.out OFF.out HKL.out hgrow6 hown6 (by simp [tmC_drop]))
        have hb6 : Below w.heap.size w w6 := Below.growOwn (row := some wr.heap.size) (HB.out.alloc HB.out.size _) (fun q e => Option.some.inj e ▸ HB.out.size) hgrow6
        have c6 := HC.out w6 hb6
        have fr := (H.out.blk.keep hb6).frozen 0
        clear hown6 hgrow6 hnil6 hat6 hb6 c1
        go_wp2_with fail
        go_ret
        exact FIN.out
    · have hkn : k = S.length := by omega
      have OFF := Lib.hid (show dueL now (S.drop k) = [] ∧ restL now (S.drop k) = S.drop k from by rw [hkn]; exact due_end)
      have HKL := Lib.hid hk
      have y1 : ¬ (k : Int) < (S.length : Int) := by omega
      clear hlt hkn
      have z1 : (k : Int) ≤ (S.length : Int) := by have := HKL.out; omega
      have z2 : (S.length : Int) ≤ (cap : Int) := by omega
      have hb0 : Below w.heap.size w (wr.alloc (.cells #[] 44)) := HB.out.alloc HB.out.size _
      have HNW := Lib.hid (show ∀ o, (∀ j v, ((tmC S).drop (k * 2))[j]? = some v → w.cell? ((⟨b, o, none⟩ : Addr).add j) = some v) → ∀ j v, ((tmC S).drop (k * 2))[j]? = some v → (wr.alloc (.cells #[] 44)).cell? ((⟨b, o, none⟩ : Addr).add j) = some v from fun o hh j v hj => by
        have h1 := hh j v hj
        have hadd : (⟨b, o, none⟩ : Addr).add j = ⟨b, o + j, none⟩ := by unfold Addr.add; split <;> simp_all
        rw [hadd] at h1 ⊢
        exact (hb0.cell (p := ⟨b, o + j, none⟩) hbl).trans h1)
      have HN5 := Lib.hid (HNW.out (k * 2) (row_news HR.out (k * 2)))
      have HN0 := Lib.hid (show cap = k → ∀ j v, ((tmC S).drop (k * 2))[j]? = some v → (wr.alloc (.cells #[] 44)).cell? ((⟨b, 0, none⟩ : Addr).add j) = some v from fun e j v hj => by
        have := (List.getElem?_eq_some_iff.1 hj).1
        rw [List.length_drop, tmC_len] at this
        omega)
      clear hb0 hk
      rcases Decidable.em (cap = k) with hcp | hcp
      · subst hcp
        go_wp2_with (at_builtin; refine wpList_append_own_at _ rfl _ _ 26 rfl wr.heap.size 44 i0 _ 2 16 Try.underlying26 HI.out HZ0.out HZ1.out HZ2.out rfl (by omega) (.slice (some ⟨wr.heap.size, 0, none⟩) 0 0) 0 [] rfl (own_zero_t wr) _ _ _ ((tmC S).drop (cap * 2)) rfl (by rw [List.length_drop, tmC_len]; have := HKL.out; omega) (by first | exact HN0.out rfl | exact HN5.out) (fun v hv => tmC_one S v (List.mem_of_mem_drop hv)) (by have := HL.out; unfold maxLen; omega) (by have := HL.out; omega) (by simp) ?_)
        intro v6 w6 hown6 hgrow6 hnil6 hat6
        obtain ⟨A6, cap6, e6⟩ := own_form hown6
        subst e6
        have FIN := Lib.hid (D.out.fin H.out OFF.out HKL.out hgrow6 hown6 (by simp [tmC_drop]))
        have hb6 : Below w.heap.size w w6 := Below.growOwn (row := some wr.heap.size) (HB.out.alloc HB.out.size _) (fun q e => Option.some.inj e ▸ HB.out.size) hgrow6
        have c6 := HC.out w6 hb6
        have fr := (H.out.blk.keep hb6).frozen 0
        clear hown6 hgrow6 hnil6 hat6 hb6 c1
        go_wp2_with fail
        go_ret
        exact FIN.out
      · skip
        go_wp2_with (at_builtin; refine wpList_append_own_at _ rfl _ _ 26 rfl wr.heap.size 44 i0 _ 2 16 Try.underlying26 HI.out HZ0.out HZ1.out HZ2.out rfl (by omega) (.slice (some ⟨wr.heap.size, 0, none⟩) 0 0) 0 [] rfl (own_zero_t wr) _ _ _ ((tmC S).drop (k * 2)) rfl (by rw [List.length_drop, tmC_len]; have := HKL.out; omega) (by first | exact HN0.out rfl | exact HN5.out) (fun v hv => tmC_one S v (List.mem_of_mem_drop hv)) (by have := HL.out; unfold maxLen; omega) (by have := HL.out; omega) (by simp) ?_)
        intro v6 w6 hown6 hgrow6 hnil6 hat6
        obtain ⟨A6, cap6, e6⟩ := own_form hown6
        subst e6
        have FIN := Lib.hid (D.out.fin H.out OFF.out HKL.out hgrow6 hown6 (by simp [tmC_drop]))
        have hb6 : Below w.heap.size w w6 := Below.growOwn (row := some wr.heap.size) (HB.out.alloc HB.out.size _) (fun q e => Option.some.inj e ▸ HB.out.size) hgrow6
        have c6 := HC.out w6 hb6
        have fr := (H.out.blk.keep hb6).frozen 0
        clear hown6 hgrow6 hnil6 hat6 hb6 c1
        go_wp2_with fail
        go_ret
        exact FIN.out
end Go.Proofs.Ytjhcengdaclihaa
