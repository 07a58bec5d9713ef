/- The contract of Timers.Due. No condition. -/
import Derived.Test.YtjhcengdaclihaaTimS
import Derived.Test.YtjhcengdaclihaaIntView
namespace Go.Proofs.Ytjhcengdaclihaa
open Go.RowKit
set_option linter.unusedVariables false
set_option linter.unusedSimpArgs false
open Go.Maps
def dueL (now : Int) (S : List Tm) : List Int := (S.takeWhile (fun x => decide (x.2 ≤ now))).map Prod.fst
def restL (now : Int) (S : List Tm) : List Tm := S.dropWhile (fun x => decide (x.2 ≤ now))
def lenOf : Value → Nat
  | .slice _ n _ => n
  | _ => 0
theorem two_new (w : World) (o o' : Obj) : ((w.alloc o).alloc o').heap[w.heap.size + 1]? = some o' := by
  have := heap_alloc_new (w.alloc o) o'
  simpa using this
/-- A row of ints is no part of a pile. -/
theorem own_apart_pile {w : World} {g mb base n : Nat} {v u : Value} {D : DU} {ts : List Tm} {xs : List Value} (h : PileAt w g mb v D ts) (ho : w.ownsRow base 3 1 u n xs) : u.ownBlock ≠ some g ∧ u.ownBlock ≠ some mb ∧ ∀ r, u.ownBlock = some r → v.ownBlock ≠ some r := by
  rcases ho.2 with ⟨rfl, -⟩ | ⟨r, cap, cur, rfl, hq, hh, r'⟩
  · exact ⟨by simp [Value.ownBlock], by simp [Value.ownBlock], by simp [Value.ownBlock]⟩
  · simp only [Value.ownBlock, Option.map_some, ne_eq, Option.some.injEq]
    refine ⟨?_, ?_, ?_⟩
    · rintro rfl
      have h2 := h.blk
      unfold Blk at h2
      rw [hh] at h2
      injection h2 with h3
      injection h3 with _ h4
      exact absurd h4 (by decide)
    · rintro rfl
      obtain ⟨es, clock, hb, -⟩ := h.map_
      rw [hh] at hb
      cases hb
    · rintro q rfl e
      rcases h.row.2 with ⟨rfl, -⟩ | ⟨r2, cap2, cur2, rfl, hq2, hh2, -⟩
      · simp [Value.ownBlock] at e
      · simp only [Value.ownBlock, Option.map_some, Option.some.injEq] at e
        subst e
        rw [hh] at hh2
        injection hh2 with h3
        injection h3 with _ h4
        exact absurd h4 (by decide)
theorem own_lt {w : World} {base n size : Nat} {e : TypeId} {u : Value} {xs : List Value} (ho : w.ownsRow base e size u n xs) : ∀ r, u.ownBlock = some r → base ≤ r ∧ r < w.heap.size := by
  intro r hr
  rcases ho.2 with ⟨rfl, -⟩ | ⟨r2, cap, cur, rfl, hq, hh, r'⟩
  · simp [Value.ownBlock] at hr
  · simp only [Value.ownBlock, Option.map_some, Option.some.injEq] at hr
    subst hr
    exact ⟨hq, (Array.getElem?_eq_some_iff.1 hh).1⟩
theorem own_same {w w' : World} {base n size : Nat} {e : TypeId} {u : Value} {xs : List Value} (ho : w.ownsRow base e size u n xs) (h : ∀ r, u.ownBlock = some r → w'.heap[r]? = w.heap[r]?) : w'.ownsRow base e size u n xs := by
  refine ⟨ho.1, ?_⟩
  rcases ho.2 with h' | ⟨r2, cap, cur, rfl, hq, hh, r'⟩
  · exact .inl h'
  · exact .inr ⟨r2, cap, cur, rfl, hq, (h r2 rfl).trans hh, r'⟩
/-- A row of ints stays as it is where a pile moves. -/
theorem own_mv {w w' : World} {g mb base n : Nat} {v v' u : Value} {D : DU} {ts : List Tm} {xs : List Value} (h : PileAt w g mb v D ts) (ho : w.ownsRow base 3 1 u n xs) (hm : Mv w w' g mb v v') : w'.ownsRow base 3 1 u n xs := by
  obtain ⟨a1, a2, a3⟩ := own_apart_pile h ho
  refine own_same ho (fun r hr => hm.1.2.2.2.2 r (own_lt ho r hr).2 (fun e => a1 (e ▸ hr)) (fun e => a2 (e ▸ hr)) (a3 r hr))
theorem PileAt.same {w w' : World} {g mb : Nat} {v : Value} {D : DU} {ts : List Tm} (h : PileAt w g mb v D ts) (h1 : w'.heap[g]? = w.heap[g]?) (h2 : w'.heap[mb]? = w.heap[mb]?) (h3 : ∀ r, v.ownBlock = some r → w'.heap[r]? = w.heap[r]?) : PileAt w' g mb v D ts := by
  refine ⟨h1.trans h.blk, own_same h.row h3, ?_, h.ok, h.le⟩
  obtain ⟨es, clock, hb, r⟩ := h.map_
  exact ⟨es, clock, h2.trans hb, r⟩
theorem PileAt.grown {w w' : World} {g mb base n : Nat} {v u : Value} {D : DU} {ts : List Tm} {xs : List Value} (h : PileAt w g mb v D ts) (ho : w.ownsRow base 3 1 u n xs) (hg : w.grownBy w' u.ownBlock) : PileAt w' g mb v D ts := by
  obtain ⟨a1, a2, a3⟩ := own_apart_pile h ho
  exact h.same (hg.block g h.blk.lt (Ne.symm a1)) (hg.block mb (World.ownsMap.lt h.map_) (Ne.symm a2)) (fun r hr => hg.block r (h.apart.2.2 r hr) (fun e => a3 r e.symm hr))
theorem Mv.grow {w0 w w' : World} {g mb : Nat} {v v' u : Value} (h : Mv w0 w g mb v v') (hu : ∀ r, u.ownBlock = some r → w0.heap.size ≤ r) (hg : w.grownBy w' u.ownBlock) : Mv w0 w' g mb v v' := by
  obtain ⟨⟨a1, a2, a3, a4, a5⟩, a6⟩ := h
  refine ⟨⟨hg.os.trans a1, hg.tape.trans a2, hg.output.trans a3, Nat.le_trans a4 hg.size, fun i hi n1 n2 n3 => ?_⟩, a6⟩
  rw [hg.block i (by omega) (fun e => by have := hu i e.symm; omega)]
  exact a5 i hi n1 n2 n3
/-- What a round of Due finds: the timers that are left, and the ids that are due. -/
def DuS (w0 : World) (g mb : Nat) (v0 : Value) (now : Int) (S0 : List Tm) (u : Value) (w : World) (v : Value) (S : List Tm) (ids : List Int) : Prop :=
  TA w g mb v S ∧ Mv w0 w g mb v0 v ∧ w.ownsRow w0.heap.size 3 1 u ids.length (intCells ids) ∧ ids.length + S.length ≤ 256 ∧ ids ++ dueL now S = dueL now S0 ∧ restL now S = restL now S0
def DuR (w0 : World) (g mb : Nat) (v0 : Value) (now : Int) (S0 : List Tm) (u : Value) (w : World) : Prop := ∃ v S ids, DuS w0 g mb v0 now S0 u w v S ids
def DuE (w0 : World) (g mb : Nat) (v0 : Value) (now : Int) (S0 : List Tm) (u : Value) (w : World) : Prop := ∃ v, TA w g mb v (restL now S0) ∧ Mv w0 w g mb v0 v ∧ w.ownsRow w0.heap.size 3 1 u (dueL now S0).length (intCells (dueL now S0))
theorem due_cons {now : Int} {x : Tm} {S : List Tm} (h : x.2 ≤ now) : dueL now (x :: S) = x.1 :: dueL now S ∧ restL now (x :: S) = restL now S := by
  unfold dueL restL
  simp [h]
theorem due_stop {now : Int} {x : Tm} {S : List Tm} (h : ¬ x.2 ≤ now) : dueL now (x :: S) = [] ∧ restL now (x :: S) = x :: S := by
  unfold dueL restL
  simp [h]
theorem DuS.stop {w0 w : World} {g mb : Nat} {v0 u v : Value} {now : Int} {S0 S : List Tm} {ids : List Int} (h : DuS w0 g mb v0 now S0 u w v S ids) (hs : dueL now S = [] ∧ restL now S = S) : DuE w0 g mb v0 now S0 u w := by
  obtain ⟨h1, h2, h3, h4, h5, h6⟩ := h
  rw [hs.1, List.append_nil] at h5
  rw [hs.2] at h6
  subst h5
  refine ⟨v, by rw [← h6]; exact h1, h2, h3⟩
/-- Behind heap.Pop. -/
def DuM (w0 : World) (g mb : Nat) (v0 : Value) (now : Int) (S0 : List Tm) (u : Value) (ids : List Int) (x : Tm) (S : List Tm) (w : World) : Prop := ∃ v, TA w g mb v S ∧ Mv w0 w g mb v0 v ∧ w.ownsRow w0.heap.size 3 1 u ids.length (intCells ids) ∧ ids.length + S.length + 1 ≤ 256 ∧ (ids ++ [x.1]) ++ dueL now S = dueL now S0 ∧ restL now S = restL now S0
theorem DuS.pop {w0 w w1 : World} {g mb : Nat} {v0 u v : Value} {now : Int} {S0 S : List Tm} {ids : List Int} {x : Tm} (h : DuS w0 g mb v0 now S0 u w v (x :: S) ids) {D : DU} {ts : List Tm} (hp : PileAt w g mb v D ts) (hi : ts.Perm (x :: S)) (hq : PoR ts x g mb v w w1) (hx : x.2 ≤ now) : DuM w0 g mb v0 now S0 u ids x S w1 := by
  obtain ⟨h1, h2, h3, h4, h5, h6⟩ := h
  obtain ⟨v1, D1, ts1, a1, a2, a3, a4⟩ := hq
  have hs : Srt (x :: S) ∧ Ids (x :: S) := by obtain ⟨_, _, _, _, _, b1, b2⟩ := h1; exact ⟨b1, b2⟩
  obtain ⟨e1, e2⟩ := due_cons (S := S) hx
  rw [e1] at h5
  rw [e2] at h6
  have h4' : ids.length + (S.length + 1) ≤ 256 := h4
  refine ⟨v1, ⟨D1, ts1, a1, a4, (List.perm_cons x).1 (a3.trans hi), (List.pairwise_cons.1 hs.1).2, (List.pairwise_cons.1 hs.2).2⟩, h2.trans a2, own_mv hp h3 a2, by omega, by simpa using h5, h6⟩
theorem DuM.fin {w0 w1 w2 : World} {g mb : Nat} {v0 u u' : Value} {now : Int} {S0 S : List Tm} {ids : List Int} {x : Tm} (h : DuM w0 g mb v0 now S0 u ids x S w1) {o o' : Obj} (hg : ((w1.alloc o).alloc o').grownBy w2 u.ownBlock) (hown : w2.ownsRow w0.heap.size 3 1 u' (ids.length + 1) (intCells ids ++ [.int .i64 x.1])) : DuR w0 g mb v0 now S0 u' w2 := by
  obtain ⟨v, ⟨D, ts, hp, hr⟩, h2, h3, h4, h5, h6⟩ := h
  have hb : Below w1.heap.size w1 ((w1.alloc o).alloc o') := ((Below.refl _ _).alloc (Nat.le_refl _) _).alloc (by simp) _
  have ho : ((w1.alloc o).alloc o').ownsRow w0.heap.size 3 1 u ids.length (intCells ids) := (h3.alloc _).alloc _
  refine ⟨v, S, ids ++ [x.1], ⟨D, ts, (hp.keep hb).grown ho hg, hr⟩, Mv.grow (h2.trans (Mv.below hb)) (fun r hr => (own_lt h3 r hr).1) hg, ?_, by simp; omega, h5, h6⟩
  have e1 : (ids ++ [x.1]).length = ids.length + 1 := by simp
  have e2 : intCells (ids ++ [x.1]) = intCells ids ++ [.int .i64 x.1] := by simp [intCells]
  rw [e1, e2]
  exact hown
theorem TA.len0 {w : World} {g mb : Nat} {v : Value} (h : TA w g mb v []) : ∃ A cap, w.cell? ⟨g, 0, none⟩ = some (.slice A 0 cap) := by
  obtain ⟨D, ts, hp, -, hpm, -⟩ := h
  have el : ts.length = 0 := hpm.length_eq
  obtain ⟨A, cap, hv⟩ := own_form hp.row
  have c0 := hp.blk.cell 0
  rw [hv, el] at c0
  exact ⟨A, cap, c0⟩
set_option maxHeartbeats 1000000 in
set_option maxRecDepth 100000 in
theorem due_any (g mb : Nat) (v0 : Value) (S0 : List Tm) (now : Int) (w0 : World) (h : TA w0 g mb v0 S0) : Calls Try.prog 14 #[.pointer (some ⟨g, 0, none⟩), .int .i64 now] w0 fun e w' => ∃ u, e = .returned u ∧ DuE w0 g mb v0 now S0 u w' := by
  have hstart : DuR w0 g mb v0 now S0 (.slice none 0 0) w0 := ⟨v0, S0, [], h, Mv.refl _ _ _ _, World.ownsRow_nil _ _ _ _, by simpa using h.len, by simp, rfl⟩
  clear h
  obtain ⟨i0, hi, hz0, hz1, hz2⟩ := info_parts info_int
  have HZ1 := Lib.hid hz1; have HZ2 := Lib.hid hz2; have HZ0 := Lib.hid hz0; have HI := Lib.hid hi
  clear hz0 hz1 hz2 hi
  go_enter Try.func14, Try.ntmps14
  go_wp2_with fail
  go_loopw [5] (fun u wr => DuR w0 g mb v0 now S0 u wr) (fun u _ => 256 - lenOf u)
  case atStart => exact hstart
  case round =>
    obtain ⟨v, S, ids, hd⟩ := hrel
    have HD := Lib.hid hd
    clear hstart
    cases S with
    | nil =>
      obtain ⟨A, cap, c0⟩ := hd.1.len0
      clear hd
      go_wp2_with fail
      go_ret
      exact ⟨_, rfl, HD.out.stop ⟨rfl, rfl⟩⟩
    | cons x S =>
      obtain ⟨r, cap, -, c0, x0, x1⟩ := hd.1.row
      have hl : (0 : Int) < (S.length : Int) + 1 := by omega
      by_cases hx : x.2 ≤ now
      · obtain ⟨D, ts, hp, hh, hpm, hs, -⟩ := hd.1
        have hx0 := head_ hh hpm hs
        have HP := Lib.hid hp
        have HH := Lib.hid hh
        have HL := Lib.hid (show ts.length = S.length + 1 from hpm.length_eq)
        have HPM := Lib.hid hpm
        have HX := Lib.hid hx
        obtain ⟨uA, ucap, hu⟩ := own_form hd.2.2.1
        subst hu
        have h4 := hd.2.2.2.1
        have HLN := Lib.hid (show ids.length + 1 ≤ 256 by simp at h4; omega)
        clear h4
        have hta : ∀ W : World, (Instr.typeAssert (.iface 59 (.agg #[.int .i64 x.1, .int .i64 x.2])) 20 59 true).run Try.prog W = .ok (.tuple #[.agg #[.int .i64 x.1, .int .i64 x.2], .bool true]) W := fun W => by kernel_rfl
        clear hp hh hpm hs hd
        go_wp2_with fail
        refine (hpop_any g mb S.length v D ts wr HP.out HH.out HL.out).mono ?_
        rintro e w1 ⟨rfl, hq⟩
        rw [hx0] at hq ⊢
        have hm := HD.out.pop HP.out HPM.out hq HX.out
        have HM := Lib.hid hm
        obtain ⟨v1, -, hmv, ho, -⟩ := hm
        have HO := Lib.hid ho
        have HSZ := Lib.hid hmv.1.2.2.2.1
        clear hq ho hmv hx0 c0 x0 x1 HP HH HL HPM HD HX hx hl
        go_wp2_with (at_builtin; refine wpList_append_lies _ rfl _ _ 37 rfl w0.heap.size 3 i0 _ 1 8 Try.underlying37 HI.out HZ0.out HZ1.out HZ2.out rfl (by omega) (.slice uA ids.length ucap) ids.length (intCells ids) rfl ((HO.out.alloc _).alloc _) ⟨w1.heap.size + 1, 0, none⟩ 1 1 [.int .i64 x.1] rfl rfl (World.news_of_block (cs := #[.int .i64 x.1]) (t := 3) (fr := (0, 0)) (two_new w1 _ _)) (by simp [Value.oneCell']) (by omega) ?c1 ?c2 ?c3 _ rfl ?_)
        case c1 => have := HLN.out; unfold maxLen; omega
        case c2 => have := HLN.out; omega
        case c3 => have := HSZ.out; simp; omega
        intro gg cap2 w2 hown hgrow hat hlt
        have FIN := Lib.hid (HM.out.fin hgrow hown)
        clear hown hgrow hat hlt
        go_wp2_with fail
        go_roundw
        case rel => exact FIN.out
        case measure => have := HLN.out; simp [lenOf]; omega
      · clear hd
        go_wp2_with fail
        go_ret
        exact ⟨_, rfl, HD.out.stop (due_stop (by omega))⟩
end Go.Proofs.Ytjhcengdaclihaa
