/- Contracts of withylaw0's CopyInts, LendInts, KeptInts, SpoilInts. No condition but memory's own limits. -/
import Derived.Test.YtppegmggcmjboaaIntView
namespace Go.Proofs.Ytppegmggcmjboaa
open Go.RowKit
set_option linter.unusedVariables false
set_option linter.unusedSimpArgs false
attribute [local go_sem] conv1 conv1d conv1n conv1a conv1ad conv1an conv2 conv2d conv2n conv2a conv2ad conv2an conv4 conv4d conv4n conv4a conv4ad conv4an conv5 conv5d conv5n conv5a conv5ad conv5an size_nums byt_fold
def CopyOf (n : Nat) (os : List Int) (w : World) (e : Ending) (w' : World) : Prop :=
  ∃ v, e = .returned v ∧ w'.ownsRow w.heap.size 3 1 v n (intCells os) ∧ Below w.heap.size w w'
set_option maxRecDepth 100000 in
set_option maxHeartbeats 1000000 in
theorem copy_any (A : Option Addr) (n cap : Nat) (os : List Int) (w : World) (hv : IntsAt w A n os) (hn : n * 8 ≤ 140737488351232) (hcap : A = none → n = 0 ∧ cap = 0) :
    Calls Try.prog 16 #[.slice A n cap] w (CopyOf n os w) := by
  have HV := Lib.hid hv; clear hv
  cases A with
  | none =>
    obtain ⟨rfl, rfl⟩ := hcap rfl
    obtain rfl : os = [] := List.eq_nil_of_length_eq_zero HV.out.1
    clear hcap
    go_enter Try.func16, Try.ntmps16
    go_wp2_with fail
    go_ret
    exact ⟨_, rfl, own_zero w, (Below.refl _ _).alloc (Nat.le_refl _) _⟩
  | some a =>
    clear hcap
    obtain ⟨i0, hi, hz0, hz1, hz2⟩ := info_parts info_int
    have HZ1 := Lib.hid hz1; have HZ2 := Lib.hid hz2; have HZ0 := Lib.hid hz0; have HI := Lib.hid hi
    clear hz0 hz1 hz2 hi
    have hlen : (intCells os).length = n * 1 := by rw [intCells_len, HV.out.1]; omega
    have HLEN := Lib.hid hlen; clear hlen
    have hnews : ∀ j u, (intCells os)[j]? = some u → (w.alloc (.cells #[] 3)).cell? (a.add j) = some u := by
      intro j u hu
      have hpos : 0 < n := by
        rcases Nat.eq_zero_or_pos n with h | h
        · subst h
          have : os = [] := List.eq_nil_of_length_eq_zero HV.out.1
          subst this
          simp [intCells] at hu
        · exact h
      obtain ⟨b, off, e, hlt, _⟩ := HV.out.2 hpos
      injection e with e
      subst e
      exact IntsAt.news (HV.out.keep ((Below.refl _ _).alloc (Nat.le_refl _) _)) hpos j u hu
    have HNEWS := Lib.hid hnews; clear hnews
    go_enter Try.func16, Try.ntmps16
    go_wp2_with (at_builtin; refine wpList_append_own _ rfl _ _ 22 rfl w.heap.size 3 i0 _ 1 8 Try.underlying22 HI.out HZ0.out HZ1.out HZ2.out rfl (by omega) _ _ _ rfl (own_zero w) a n cap (intCells os) rfl HLEN.out HNEWS.out (intCells_one os) ?c1 ?c2 ?c3 ?_)
    case c1 => unfold maxLen; omega
    case c2 => omega
    case c3 => simp
    intro v w2 hown hgrow hnil
    try simp only [Nat.zero_add, List.nil_append] at hown
    have HOWN := Lib.hid hown; clear hown hnil
    go_wp2
    go_ret
    refine ⟨_, rfl, HOWN.out, ?_⟩
    exact ((Below.refl _ _).alloc (Nat.le_refl _) _).grown hgrow (by simp) (fun k hk => by simp [Value.ownBlock] at hk; omega)
def lentOf (os : List Int) : List Int := os ++ [-7777, -8888]
def LentAt (n : Nat) (os : List Int) (w : World) (e : Ending) (w' : World) : Prop :=
  ∃ g cap, e = .returned (.slice (some ⟨g, 0, none⟩) n cap) ∧ n + 2 ≤ cap ∧ cap ≤ 9223372036854775807 ∧ IntsAt w' (some ⟨g, 0, none⟩) (n + 2) (lentOf os) ∧ Below w.heap.size w w'
theorem lentOf_len (os : List Int) : (lentOf os).length = os.length + 2 := by simp [lentOf]
theorem lentOf_cells (os : List Int) : intCells (lentOf os) = intCells os ++ [.int .i64 (-7777), .int .i64 (-8888)] := by
  unfold intCells lentOf; rw [List.map_append]; rfl
theorem two_cells (w : World) (x0 x1 : Value) (t : TypeId) : ∀ j u, [x0, x1][j]? = some u → (w.alloc (.cells #[x0, x1] t)).cell? ((⟨w.heap.size, 0, none⟩ : Addr).add j) = some u :=
  World.news_of_block (cs := #[x0, x1]) (fr := (0, 0)) (heap_alloc_new w _)
set_option maxRecDepth 100000 in
set_option maxHeartbeats 1000000 in
theorem lend_any (A : Option Addr) (n cap : Nat) (os : List Int) (w : World) (hv : IntsAt w A n os) (hn : n * 8 ≤ 140737488351232) (hcap : A = none → n = 0 ∧ cap = 0) :
    Calls Try.prog 6 #[.slice A n cap] w (LentAt n os w) := by
  have HV := Lib.hid hv; clear hv
  have HC := Lib.hid hcap; clear hcap
  obtain ⟨i0, hi, hz0, hz1, hz2⟩ := info_parts info_int
  have HZ1 := Lib.hid hz1; have HZ2 := Lib.hid hz2; have HZ0 := Lib.hid hz0; have HI := Lib.hid hi
  clear hz0 hz1 hz2 hi
  go_enter Try.func6, Try.ntmps6
  go_wp2_with fail
  refine (copy_any A n cap os w HV.out hn HC.out).mono ?_
  rintro e w1 ⟨v, rfl, hown, hb1⟩
  have hz1 := hb1.size
  have HOWN := Lib.hid hown; clear hown
  go_wp2_with (at_builtin; refine wpList_append_own _ rfl _ _ 22 rfl w.heap.size 3 i0 _ 1 8 Try.underlying22 HI.out HZ0.out HZ1.out HZ2.out rfl (by omega) _ _ _ rfl (HOWN.out.alloc _) ⟨w1.heap.size, 0, none⟩ 2 2 [.int .i64 (-7777), .int .i64 (-8888)] rfl rfl (two_cells w1 _ _ _) (by simp [Value.oneCell']) ?c1 ?c2 ?c3 ?_)
  case c1 => unfold maxLen; omega
  case c2 => omega
  case c3 => simp; omega
  intro v2 w2 hown2 hgrow hnil
  clear hnil
  have hbel : Below w.heap.size w w2 := (hb1.alloc hz1 _).grown hgrow (by simp; omega) (fun k hk => (HOWN.out.lt k hk).1)
  have hlen : os.length = n := HV.out.1
  obtain ⟨g, cap2, cur, rfl, hg, hh, hnc, hcm, hcs, htk⟩ : ∃ g cap cur, v2 = .slice (some ⟨g, 0, none⟩) (n + 2) cap ∧ w.heap.size ≤ g ∧ w2.heap[g]? = some (.cells cur 3 (0, 0)) ∧ n + 2 ≤ cap ∧ cap ≤ maxLen ∧ cur.size = cap * 1 ∧ cur.toList.take ((n + 2) * 1) = intCells os ++ [.int .i64 (-7777), .int .i64 (-8888)] := by
    rcases hown2.2 with ⟨_, h0⟩ | ⟨g, cap, cur, r⟩
    · omega
    · exact ⟨g, cap, cur, r⟩
  have hview : IntsAt w2 (some ⟨g, 0, none⟩) (n + 2) (lentOf os) := by
    have h2 := IntsAt.own (zs := lentOf os) (A := some ⟨g, 0, none⟩) (cap := cap2) (w := w2) (base := w.heap.size) (e := 3) (by rw [lentOf_cells, lentOf_len, hlen]; exact hown2)
    rw [lentOf_len, hlen] at h2
    exact h2
  have HVIEW := Lib.hid hview
  unfold maxLen at hcm
  clear hview hown2 hh hcs htk hlen
  go_wp2
  go_ret
  exact ⟨g, cap2, rfl, hnc, by omega, HVIEW.out, hbel⟩
set_option maxRecDepth 100000 in
set_option maxHeartbeats 1000000 in
theorem kept_any (g n cap cap' : Nat) (A : Option Addr) (os : List Int) (w : World) (hl : IntsAt w (some ⟨g, 0, none⟩) (n + 2) (lentOf os)) (hv : IntsAt w A n os) (hcap : n + 2 ≤ cap) (hcm : cap ≤ 9223372036854775807) :
    Calls Try.prog 13 #[.slice (some ⟨g, 0, none⟩) n cap, .slice A n cap'] w fun e w' => e = .returned (.bool true) ∧ Below w.heap.size w w' := by
  have hos := hv.1
  have hh : IntsAt w (some ⟨g, 0, none⟩) n os := IntsAt.head hl hos
  have HV := Lib.hid hv; clear hv
  have HH := Lib.hid hh; clear hh
  obtain ⟨b1, off1, k1, e1, hb1, o1, c1⟩ := hl.at_ n (by omega)
  obtain ⟨b2, off2, k2, e2, hb2, o2, c2⟩ := hl.at_ (n + 1) (by omega)
  injection e1 with e1
  injection e1 with e1 e1'
  injection e2 with e2
  injection e2 with e2 e2'
  subst e1 e1' e2 e2'
  have r1 : k1 = -7777 := by
    unfold lentOf at o1
    rw [List.getElem?_append_right (by omega), hos] at o1
    simpa using o1.symm
  have r2 : k2 = -8888 := by
    unfold lentOf at o2
    rw [List.getElem?_append_right (by omega), hos, show n + 1 - n = 1 by omega] at o2
    simpa using o2.symm
  subst r1 r2
  simp only [Nat.zero_add] at c1 c2
  clear hl o1 o2 hos
  go_enter Try.func13, Try.ntmps13
  go_wp2_with fail
  refine (same_any _ _ _ _ _ _ os os w HH.out HV.out (by omega)).mono ?_
  rintro e w1 ⟨rfl, hbel⟩
  rw [same_refl]
  have g1 := (hbel.cell (p := ⟨g, n, none⟩) hb1).trans c1
  have g2 := (hbel.cell (p := ⟨g, n + 1, none⟩) hb1).trans c2
  go_wp2
  go_ret
  exact ⟨rfl, hbel⟩
theorem intCells_set (ps : List Int) (k : Nat) (y : Int) : (intCells ps).set k (.int .i64 y) = intCells (ps.set k y) := by
  unfold intCells; rw [List.map_set]
def SpR (base n : Nat) (w : World) (v : Value) (wr : World) : Prop := w.grownBy wr v.ownBlock ∧ ∃ ps : List Int, ps.length = n ∧ wr.ownsRow base 3 1 v n (intCells ps)
theorem sp_step {base n cap g k : Nat} {w wr : World} {ps : List Int} {y : Int} (hg : w.grownBy wr (some g)) (hp : ps.length = n) (ho : wr.ownsRow base 3 1 (.slice (some ⟨g, 0, none⟩) n cap) n (intCells ps)) :
    SpR base n w (.slice (some ⟨g, 0, none⟩) n cap) (wr.setCell ⟨g, k, none⟩ (.int .i64 y)) := by
  refine ⟨⟨hg.os, hg.tape, hg.output, by simpa [World.setCell] using hg.size, fun j hj hne => ?_⟩, ps.set k y, by simpa using hp, ?_⟩
  · rw [Below.heap_setCell _ _ _ _ (fun e => hne (by simp [Value.ownBlock, e]))]
    exact hg.block j hj hne
  · rw [← intCells_set ps k y]
    exact (ho.stored k _).1
set_option maxRecDepth 100000 in
set_option maxHeartbeats 1000000 in
theorem spoil_any (base : Nat) (A : Option Addr) (n cap : Nat) (os : List Int) (w : World) (hv : w.ownsRow base 3 1 (.slice A n cap) n (intCells os)) (hlen : os.length = n) (hn : n ≤ 9223372036854775807) :
    Calls Try.prog 14 #[.slice A n cap] w fun e w' => e = .returned (.tuple #[]) ∧ w.grownBy w' (Value.slice A n cap).ownBlock := by
  have HV := Lib.hid hv; clear hv
  go_enter Try.func14, Try.ntmps14
  go_wp2_with fail
  go_loopw [2] (fun i wr => ∃ k : Nat, i = .int .i64 k ∧ k ≤ n ∧ SpR base n w (.slice A n cap) wr) (fun i _ => n - (intOf i).toNat)
  case atStart => exact ⟨0, rfl, by omega, ⟨rfl, rfl, rfl, Nat.le_refl _, fun _ _ _ => rfl⟩, os, hlen, HV.out⟩
  case round =>
    obtain ⟨k, rfl, hkn, hgr, ps, hps, hown⟩ := hrel
    have HG := Lib.hid hgr; clear hgr
    have HP := Lib.hid hps; clear hps
    by_cases hlt : k < n
    · obtain ⟨g, rfl⟩ : ∃ g, A = some ⟨g, 0, none⟩ := by
        rcases HV.out.2 with ⟨_, h0⟩ | ⟨g, cap', cur, hv, _⟩
        · omega
        · injection hv with hA _ _
          exact ⟨g, hA⟩
      have HOWN := Lib.hid hown; clear hown
      obtain ⟨x, hx⟩ : ∃ x, ps[k]? = some x := ⟨ps[k]'(by rw [HP.out]; exact hlt), List.getElem?_eq_getElem _⟩
      have c1 : wr.cell? ⟨g, k, none⟩ = some (.int .i64 x) := by
        rw [HOWN.out.cellAt k (by omega)]; unfold intCells; rw [List.getElem?_map, hx]; rfl
      have f1 := HOWN.out.frozenAt k
      clear hx
      go_wp2_with fail
      go_roundw
      case rel => exact ⟨k + 1, by go_num, by omega, sp_step HG.out HP.out HOWN.out⟩
      case measure => simp [intOf]; omega
    · go_wp2_with fail
      go_end0
      exact ⟨rfl, HG.out⟩
end Go.Proofs.Ytppegmggcmjboaa
