/- The reference's Stop. No condition. -/
import Derived.Test.YtjhcengdaclihaaTimG
import Derived.Test.YtjhcengdaclihaaTimPt
namespace Go.Proofs.Ytjhcengdaclihaa
open Go.RowKit
set_option linter.unusedVariables false
set_option linter.unusedSimpArgs false
open Go.Maps
theorem info_rt : (Try.prog.info? 44).map (fun i => (i.zero, i.size, i.bytes)) = some (some (.agg #[.int .i64 0, .int .i64 0]), 2, 16) := by kernel_rfl
theorem tmC_drop (ts : List Tm) (n : Nat) : tmC (ts.drop n) = (tmC ts).drop (n * 2) := by
  induction ts generalizing n with
  | nil => simp [tmC]
  | cons a ts ih =>
    cases n with
    | zero => rfl
    | succ n =>
      have e : (n + 1) * 2 = n * 2 + 1 + 1 := by omega
      rw [e]
      simp only [List.drop_succ_cons, tmC, ih]
theorem tmC_one (ts : List Tm) : ∀ u ∈ tmC ts, u.oneCell' = true := by
  induction ts with
  | nil => intro u hu; cases hu
  | cons a ts ih =>
    intro u hu
    simp only [tmC, List.mem_cons] at hu
    rcases hu with rfl | rfl | hu
    · rfl
    · rfl
    · exact ih u hu
/-- The row's cells from off on. -/
theorem row_news {w : World} {base b n cap : Nat} {e : TypeId} {size : Nat} {xs : List Value} (h : w.ownsRow base e size (.slice (some ⟨b, 0, none⟩) n cap) n xs) (off : Nat) : ∀ j u, (xs.drop off)[j]? = some u → w.cell? ((⟨b, off, none⟩ : Addr).add j) = some u := by
  intro j u hu
  have hadd : (⟨b, off, none⟩ : Addr).add j = ⟨b, off + j, none⟩ := by unfold Addr.add; split <;> simp_all
  rw [List.getElem?_drop] at hu
  have hj := (List.getElem?_eq_some_iff.1 hu).1
  rw [hadd, h.cellAt (off + j) (by have := h.1; omega)]
  exact hu
theorem stop_at {id : Int} {S : List Tm} {k : Nat} {x : Tm} (hi : Ids S) (hx : S[k]? = some x) (he : x.1 = id) : stopT id S = S.take k ++ S.drop (k + 1) := by
  subst he
  have hk := (List.getElem?_eq_some_iff.1 hx).1
  have e : S = S.take k ++ x :: S.drop (k + 1) := by
    conv => lhs; rw [← List.take_append_drop k S, List.drop_eq_getElem_cons hk, (List.getElem?_eq_some_iff.1 hx).2]
  have hi2 := hi
  rw [e] at hi2
  have hp := List.pairwise_append.1 hi2
  have hc := List.pairwise_cons.1 hp.2.1
  have f1 : stopT x.1 (S.take k) = S.take k := List.filter_eq_self.2 (fun y hy => by have := hp.2.2 y hy x (by simp); simpa using this)
  have f2 : stopT x.1 (S.drop (k + 1)) = S.drop (k + 1) := List.filter_eq_self.2 (fun y hy => by have := hc.1 y hy; simpa using Ne.symm this)
  have f3 : stopT x.1 S = stopT x.1 (S.take k ++ x :: S.drop (k + 1)) := by rw [← e]
  rw [f3]
  show (S.take k ++ x :: S.drop (k + 1)).filter _ = _
  rw [List.filter_append, List.filter_cons_of_neg (by simp)]
  exact congr (congrArg _ f1) f2
def RsR (r : Nat) (S : List Tm) (w w' : World) : Prop := ∃ u', RA w' r u' S ∧ w.grownBy w' (some r)
/-- The store of a new row. -/
theorem RA.fin {w w2 : World} {r : Nat} {u u' : Value} {S S' : List Tm} (h : RA w r u S) (hg : Below w.heap.size w w2) (hrow : w2.ownsRow w.heap.size 44 2 u' S'.length (tmC S')) : RsR r S' w (w2.setCell ⟨r, 0, none⟩ u') := by
  have hl := h.blk.lt
  refine ⟨u', ⟨by simpa using (h.blk.keep hg).set_ 0 u', ?_⟩, ⟨hg.os, hg.tape, hg.output, by simpa using hg.size, fun i hi hn => ?_⟩⟩
  · have h1 := own_same hrow (w' := w2.setCell ⟨r, 0, none⟩ u') (fun q hq => Below.heap_setCell w2 ⟨r, 0, none⟩ u' q (fun e => by have := (own_lt hrow q hq).1; have e : q = r := e; omega))
    refine ⟨h1.1, ?_⟩
    rcases h1.2 with h' | ⟨q, cap, cur, e, -, hh⟩
    · exact .inl h'
    · exact .inr ⟨q, cap, cur, e, Nat.zero_le _, hh⟩
  · exact (Below.heap_setCell w2 ⟨r, 0, none⟩ u' i (fun e => hn (by rw [show i = r from e]))).trans (hg.block i hi)
theorem RA.fin2 {w w2 : World} {r N : Nat} {u u' : Value} {S S' : List Tm} {cs : List Value} (h : RA w r u S) (hg : Below w.heap.size w w2) (hrow : w2.ownsRow w.heap.size 44 2 u' N cs) (hc : cs = tmC S') : RsR r S' w (w2.setCell ⟨r, 0, none⟩ u') := by
  subst hc
  have h1 := hrow.1
  rw [tmC_len] at h1
  obtain rfl : N = S'.length := by omega
  exact h.fin hg hrow
theorem Below.grown0 {w0 w w' : World} {base n size : Nat} {e : TypeId} {u : Value} {xs : List Value} (h : Below w0.heap.size w0 w) (ho : w.ownsRow base e size u n xs) (hb : w0.heap.size ≤ base) (hg : w.grownBy w' u.ownBlock) : Below w0.heap.size w0 w' := Below.growOwn h (fun r e => by have := (own_lt ho r e).1; omega) hg
theorem rstop_not (r : Nat) (u : Value) (S : List Tm) (id : Int) (w : World) (h : RA w r u S) (hl : S.length ≤ 256) (hn : hasT id S = false) : Calls Try.prog 13 #[.pointer (some ⟨r, 0, none⟩), .int .i64 id] w fun e w' => e = .returned (.int .i64 1101) ∧ w = w' := by
  go_enter Try.func13, Try.ntmps13
  go_wp2_with fail
  refine (place_any r u S id w h hl).mono ?_
  rintro e w' ⟨rfl, rfl⟩
  rw [place_no hn 0]
  go_wp2_with fail
  go_ret
  exact ⟨rfl, rfl⟩
set_option maxHeartbeats 1000000 in
set_option maxRecDepth 100000 in
theorem rstop_ok (r : Nat) (u : Value) (S : List Tm) (id : Int) (w : World) (h : RA w r u S) (hl : S.length ≤ 256) (hi : Ids S) (hn : hasT id S = true) : Calls Try.prog 13 #[.pointer (some ⟨r, 0, none⟩), .int .i64 id] w fun e w' => e = .returned (.int .i64 0) ∧ RsR r (stopT id S) w w' := by
  obtain ⟨k, x, hp, hx, he⟩ := place_yes hn 0
  rw [Nat.zero_add] at hp
  have hk := (List.getElem?_eq_some_iff.1 hx).1
  obtain ⟨b, cap, hu, c0, hcap, hbl, -, -⟩ := h.at_ hx
  have hst := stop_at hi hx he
  have hrow := h.row
  rw [hu] at hrow
  have HN2 := Lib.hid (row_news hrow ((k + 1) * 2))
  have HN1 := Lib.hid (fun j v (hj : ((tmC S).take (k * 2))[j]? = some v) => row_news hrow 0 j v (by
    rw [List.drop_zero]
    rw [List.getElem?_take] at hj
    split at hj
    · exact hj
    · cases hj))
  have HRL := Lib.hid hrow.1
  obtain ⟨i0, hi0, hz0, hz1, hz2⟩ := info_parts info_rt
  have HZ1 := Lib.hid hz1; have HZ2 := Lib.hid hz2; have HZ0 := Lib.hid hz0; have HI := Lib.hid hi0
  have y1 : (k : Int) ≤ (cap : Int) := by omega
  have y2 : k ≤ cap := by omega
  have y3 : (k : Int) + 1 ≤ (S.length : Int) := by omega
  have y4 : (S.length : Int) ≤ (cap : Int) := by omega
  have y5 : ¬ (k : Int) < 0 := by omega
  have HL := Lib.hid hl
  have HK := Lib.hid hk
  have HW := Lib.hid (show wrap64 ((k : Int) + 1) = (k : Int) + 1 from wrap_in (by omega) (by omega))
  have H := Lib.hid h
  have HU := Lib.hid hu
  have HST := Lib.hid hst
  clear h hrow hz0 hz1 hz2 hi0 hx he hi hl hu hst hn
  go_enter Try.func13, Try.ntmps13
  go_wp2_with fail
  refine (place_any r u S id w H.out HL.out).mono ?_
  rintro e w' ⟨rfl, rfl⟩
  rw [hp]
  clear hp
  go_wp2_with (at_builtin; refine wpList_append_own_at _ rfl _ _ 26 rfl w.heap.size 44 i0 _ 2 16 Try.underlying26 HI.out HZ0.out HZ1.out HZ2.out rfl (by omega) (.slice none 0 0) 0 [] rfl (World.ownsRow_nil _ _ _ _) ⟨b, 0, none⟩ k cap ((tmC S).take (k * 2)) rfl ?c0 HN1.out ?c1 ?c2 ?c3 (Nat.le_refl _) ?_)
  case c0 => rw [List.length_take, HRL.out]; have := HK.out; omega
  case c1 => exact fun v hv => tmC_one S v (List.mem_of_mem_take hv)
  case c2 => have := HL.out; have := HK.out; unfold maxLen; omega
  case c3 => have := HL.out; have := HK.out; omega
  intro v5 w5 hown5 hgrow5 hnil5 hat5
  have hb5 : Below w.heap.size w w5 := Below.growOwn (Below.refl _ _) (fun q e => by simp [Value.ownBlock] at e) hgrow5
  have c05 : w5.cell? ⟨r, 0, none⟩ = some (.slice (some ⟨b, 0, none⟩) S.length cap) := (hb5.cell (p := ⟨r, 0, none⟩) H.out.blk.lt).trans c0
  have HN5 := Lib.hid (show ∀ j v, ((tmC S).drop ((k + 1) * 2))[j]? = some v → w5.cell? ((⟨b, (k + 1) * 2, none⟩ : Addr).add j) = some v from fun j v hj => by
    have h1 := HN2.out j v hj
    have hadd : (⟨b, (k + 1) * 2, none⟩ : Addr).add j = ⟨b, (k + 1) * 2 + j, none⟩ := by unfold Addr.add; split <;> simp_all
    rw [hadd] at h1 ⊢
    exact (hb5.cell (p := ⟨b, (k + 1) * 2 + j, none⟩) hbl).trans h1)
  have HN0 := Lib.hid (show cap = k + 1 → ∀ j v, ((tmC S).drop ((k + 1) * 2))[j]? = some v → w5.cell? ((⟨b, 0, none⟩ : Addr).add j) = some v from fun e j v hj => by
    have := (List.getElem?_eq_some_iff.1 hj).1
    rw [List.length_drop, HRL.out] at this
    omega)
  obtain ⟨A5, cap5, e5⟩ := own_form hown5
  subst e5
  have HO5 := Lib.hid hown5
  have HB5 := Lib.hid hb5
  clear hown5 hgrow5 hnil5 hat5 hb5 c0 HN1 HN2
  rcases Decidable.em (cap = k + 1) with hcp | hcp
  · subst hcp
    have hw := HW.out
    go_wp2_with (at_builtin; refine wpList_append_own_at _ rfl _ _ 26 rfl w.heap.size 44 i0 _ 2 16 Try.underlying26 HI.out HZ0.out HZ1.out HZ2.out rfl (by clear hw; omega) (.slice A5 k cap5) k ((tmC S).take (k * 2)) rfl HO5.out _ _ _ ((tmC S).drop ((k + 1) * 2)) rfl (by clear hw; rw [List.length_drop, HRL.out]; have := HK.out; omega) (by first | exact HN0.out rfl | exact HN5.out) (fun v hv => tmC_one S v (List.mem_of_mem_drop hv)) (by clear hw; have := HL.out; have := HK.out; unfold maxLen; omega) (by clear hw; have := HL.out; have := HK.out; omega) HB5.out.size ?_)
    intro v6 w6 hown6 hgrow6 hnil6 hat6
    clear hw
    obtain ⟨A6, cap6, e6⟩ := own_form hown6
    subst e6
    have hb6 : Below w.heap.size w w6 := Below.grown0 HB5.out HO5.out (Nat.le_refl _) hgrow6
    have hc6 : (tmC S).take (k * 2) ++ (tmC S).drop ((k + 1) * 2) = tmC (stopT id S) := by rw [HST.out, tmC_app, tmC_take, tmC_drop]
    have FIN := Lib.hid (H.out.fin2 hb6 hown6 hc6)
    have c06 : w6.cell? ⟨r, 0, none⟩ = some (.slice (some ⟨b, 0, none⟩) S.length _) := (hb6.cell (p := ⟨r, 0, none⟩) H.out.blk.lt).trans (by rw [H.out.blk.cell 0, HU.out]; rfl)
    have fr6 := (H.out.blk.keep hb6).frozen 0
    clear hown6 hgrow6 hnil6 hat6 hb6 hc6 c05
    go_wp2_with fail
    go_ret
    exact ⟨rfl, FIN.out⟩
  · skip
    have hw := HW.out
    go_wp2_with (at_builtin; refine wpList_append_own_at _ rfl _ _ 26 rfl w.heap.size 44 i0 _ 2 16 Try.underlying26 HI.out HZ0.out HZ1.out HZ2.out rfl (by clear hw; omega) (.slice A5 k cap5) k ((tmC S).take (k * 2)) rfl HO5.out _ _ _ ((tmC S).drop ((k + 1) * 2)) rfl (by clear hw; rw [List.length_drop, HRL.out]; have := HK.out; omega) (by first | exact HN0.out rfl | exact HN5.out) (fun v hv => tmC_one S v (List.mem_of_mem_drop hv)) (by clear hw; have := HL.out; have := HK.out; unfold maxLen; omega) (by clear hw; have := HL.out; have := HK.out; omega) HB5.out.size ?_)
    intro v6 w6 hown6 hgrow6 hnil6 hat6
    clear hw
    obtain ⟨A6, cap6, e6⟩ := own_form hown6
    subst e6
    have hb6 : Below w.heap.size w w6 := Below.grown0 HB5.out HO5.out (Nat.le_refl _) hgrow6
    have hc6 : (tmC S).take (k * 2) ++ (tmC S).drop ((k + 1) * 2) = tmC (stopT id S) := by rw [HST.out, tmC_app, tmC_take, tmC_drop]
    have FIN := Lib.hid (H.out.fin2 hb6 hown6 hc6)
    have c06 : w6.cell? ⟨r, 0, none⟩ = some (.slice (some ⟨b, 0, none⟩) S.length _) := (hb6.cell (p := ⟨r, 0, none⟩) H.out.blk.lt).trans (by rw [H.out.blk.cell 0, HU.out]; rfl)
    have fr6 := (H.out.blk.keep hb6).frozen 0
    clear hown6 hgrow6 hnil6 hat6 hb6 hc6 c05
    go_wp2_with fail
    go_ret
    exact ⟨rfl, FIN.out⟩
end Go.Proofs.Ytjhcengdaclihaa
