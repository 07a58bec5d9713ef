/- The contract of opts.Get: which options or error. No condition. -/
import Derived.Test.YtmonkjogonjflaaOptRead
import Derived.Deep.RegionLaw
import Derived.Deep.AppendLies
import Derived.BigRegion
namespace Go.Proofs.Ytmonkjogonjflaa
open Go.RowKit
set_option linter.unusedVariables false
set_option linter.unusedSimpArgs false
attribute [local go_sem] conv1 conv1d conv1n conv1a conv1ad conv1an conv2 conv2d conv2n conv2a conv2ad conv2an conv4 conv4d conv4n conv4a conv4ad conv4an conv5 conv5d conv5n conv5a conv5ad conv5an size_nums byt_fold
theorem info_opt : (Try.prog.info? 46).map (fun i => (i.zero, i.size, i.bytes)) = some (some (.agg #[.int .i64 0, .string ⟨#[]⟩]), 2, 24) := by kernel_rfl

def GetR (s : ByteArray) (w : World) (v : Value) (t : ByteArray) (wr : World) : Prop :=
  ∃ acc, UR s t acc ∧ wr.ownsRow w.heap.size 46 2 v acc.length (optCells acc) ∧ Below w.heap.size w wr

theorem get_step {s t : ByteArray} {w w2 : World} {v : Value} {acc : List (Int × ByteArray)} {n : Nat} (hU : UR s (t.extract (uN t) t.size) (acc ++ [uOne t])) (hN : uN t = n)
    (hown : w2.ownsRow w.heap.size 46 2 v (acc.length + 1) (optCells acc ++ [.int .i64 (byt t 0), .string (t.extract 2 n)])) (hb : Below w.heap.size w w2) : GetR s w v (t.extract n t.size) w2 := by
  refine ⟨acc ++ [uOne t], by rw [← hN]; exact hU, ?_, hb⟩
  rw [optCells_snoc, List.length_append]
  unfold uOne
  rw [hN]
  exact hown
set_option maxRecDepth 100000 in
set_option maxHeartbeats 1000000 in
theorem optget_any (s : ByteArray) (w : World) : Calls Try.prog 24 #[.string s] w (OptGet s w) := by
  by_cases hs : 2048 < s.size
  case pos =>
    go_enter Try.func24, Try.ntmps24
    go_wp2
    go_ret2
    exact optget_nil (Below.refl _ _) (uRead_long hs)
  obtain ⟨i0, hi, hz0, hz1, hz2⟩ := info_parts info_opt
  have HZ1 := Lib.hid hz1; have HZ2 := Lib.hid hz2; have HZ0 := Lib.hid hz0; have HI := Lib.hid hi
  clear hz0 hz1 hz2 hi
  go_enter Try.func24, Try.ntmps24
  go_wp2
  go_loopw [0, 4] (fun u v wr => ∃ t, u = .string t ∧ GetR s w v t wr) (fun u _ _ => match u with | .string t => t.size | _ => 0)
  case atStart => exact ⟨s, rfl, [], UR.start s, World.ownsRow_nil _ _ _ _, Below.refl _ _⟩
  case round =>
    obtain ⟨t, rfl, acc, hU, hown, hbel⟩ := hrel
    by_cases ht : t.size = 0
    · have he := eq_empty t ht
      subst he
      have hdone := hU.done ht
      have HD := Lib.hid hdone; clear hdone
      have HO := Lib.hid hown; clear hown
      clear ht hU
      go_wp2
      go_ret2
      exact optget_ok hbel (uRead_ok (by omega) HD.out) HO.out
    · have he1 : t.toList.isEmpty = false := nonempty_of _ (by omega)
      have he2 : ¬ t.toList = [] := by intro h; rw [h] at he1; cases he1
      have h40 : 0 < t.size := by omega
      obtain ⟨r0, r1⟩ := byt_range t 1
      obtain ⟨q0, q1⟩ := byt_range t 0
      cases hb : uBad t
      · obtain ⟨hU2, hn1, hn2⟩ := hU.step h40 hb
        have HU2 := Lib.hid hU2
        have HO := Lib.hid hown
        clear hU2 hown hb hU
        have h41 : 1 < t.size := by omega
        obtain ⟨n, hn⟩ : ∃ n : Nat, byt t 1 = (n : Int) := ⟨uN t, uN_eq t⟩
        have HN : Hid (uN t = n) := by have := uN_eq t; show uN t = n; omega
        have hn3 : 2 ≤ n := by have := HN.out; omega
        have hn4 : n ≤ t.size := by have := HN.out; omega
        clear hn1 hn2
        go_wp2_with fail
        have y1 : (2 : Int) ≤ (n : Int) := by omega
        have y2 : (n : Int) ≤ (t.size : Int) := by omega
        have hacc : acc.length ≤ 2000 := by have := HU2.out.2.1; rw [List.length_append] at this; simp at this; omega
        have y3 : (0 : Int) < (t.size : Int) := by omega
        have hzr := hbel.size
        have y4 : IntKind.i64.wrap (byt t 0) = byt t 0 := IntWalk.i64_in _ (by omega)
        go_region_law (refine step_append_lies _ (by rfl) _ _ _ (by rfl) w.heap.size 46 i0 _ 2 24 Try.underlying22 HI.out HZ0.out HZ1.out HZ2.out rfl (by omega) u4 acc.length (optCells acc) (by rfl) ((HO.out.alloc _).drew) ⟨wr.heap.size, 0, none⟩ 1 1 [.int .i64 (byt t 0), .string (t.extract 2 n)] (by rfl) (by rfl) (World.news_of_block (cs := #[.int .i64 (byt t 0), .string (t.extract 2 n)]) (t := 46) (fr := (0, 0)) (heap_alloc_new wr _)) (by simp [Value.oneCell']) (by omega) (by unfold maxLen; omega) (by omega) (by simp; omega) (wr.heap.size + 1) (by simp) ?_; intro gg cap w2 hown2 hgrow hat hlt2)
        clear y4
        have hbel2 : Below w.heap.size w w2 := (((hbel.alloc hzr _).drew).grown hgrow (by simp; omega) (fun k hk => (HO.out.lt k hk).1))
        go_wp2
        go_roundw
        case rel => exact ⟨_, rfl, get_step HU2.out HN.out hown2 hbel2⟩
        case measure => simp [size_ext]; omega
      · have hbad := hU.bad h40 hb
        have HBAD := Lib.hid hbad
        clear hbad hown hU
        by_cases h2 : t.size < 2
        · go_wp2
          go_ret2
          exact optget_nil hbel (uRead_bad (by omega) HBAD.out)
        · have h41 : 1 < t.size := by omega
          have hb3 : byt t 1 < 2 ∨ (t.size : Int) < byt t 1 := by unfold uBad at hb; have := of_decide_eq_true hb; omega
          clear hb
          rcases hb3 with hb3 | hb3
          · go_wp2
            go_ret2
            exact optget_nil hbel (uRead_bad (by omega) HBAD.out)
          · go_wp2
            all_goals
              go_ret2
              exact optget_nil hbel (uRead_bad (by omega) HBAD.out)
end Go.Proofs.Ytmonkjogonjflaa
