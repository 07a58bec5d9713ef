/- The contract of the reference's Unopts: it answers as opts.Get does. No condition. -/
import Derived.Test.YtmonkjogonjflaaOptGet
namespace Go.Proofs.Ytmonkjogonjflaa
open Go.RowKit
set_option linter.unusedVariables false
set_option linter.unusedSimpArgs false
attribute [local go_sem] conv1 conv1d conv1n conv1a conv1ad conv1an conv2 conv2d conv2n conv2a conv2ad conv2an conv4 conv4d conv4n conv4a conv4ad conv4an conv5 conv5d conv5n conv5a conv5ad conv5an size_nums byt_fold

def UnR (s : ByteArray) (w : World) (v : Value) (i : Nat) (wr : World) : Prop :=
  i ≤ s.size ∧ ∃ acc, UR s (s.extract i s.size) acc ∧ wr.ownsRow w.heap.size 46 2 v acc.length (optCells acc) ∧ Below w.heap.size w wr
theorem un_step {s : ByteArray} {w w2 : World} {v : Value} {acc : List (Int × ByteArray)} {i n : Nat} (hi : i < s.size) (hU : UR s ((s.extract i s.size).extract (uN (s.extract i s.size)) (s.extract i s.size).size) (acc ++ [uOne (s.extract i s.size)])) (hN : uN (s.extract i s.size) = n) (hn : i + n ≤ s.size) (hn2 : 2 ≤ n)
    (hown : w2.ownsRow w.heap.size 46 2 v (acc.length + 1) (optCells acc ++ [.int .i64 (byt s i), .string (s.extract (i + 2) (i + n))])) (hb : Below w.heap.size w w2) : UnR s w v (i + n) w2 := by
  refine ⟨hn, acc ++ [uOne (s.extract i s.size)], ?_, ?_, hb⟩
  · rw [hN, ext_ext _ _ _ _ _ (by rw [size_ext]; omega), size_ext] at hU
    rw [show i + (min s.size s.size - i) = s.size by omega] at hU
    exact hU
  · rw [optCells_snoc, List.length_append]
    unfold uOne
    rw [hN, ext_ext _ _ _ _ _ (by omega), byt_ext _ _ _ _ (by omega)]
    exact hown

set_option maxRecDepth 100000 in
set_option maxHeartbeats 1000000 in
theorem runopts_any (s : ByteArray) (w : World) : Calls Try.prog 25 #[.string s] w (OptGet s w) := by
  by_cases hs : 2048 < s.size
  case pos =>
    go_enter Try.func25, Try.ntmps25
    go_wp2
    go_ret2
    exact optget_nil (Below.refl _ _) (uRead_long hs)
  obtain ⟨i0, hi, hz0, hz1, hz2⟩ := info_parts info_opt
  have HZ1 := Lib.hid hz1; have HZ2 := Lib.hid hz2; have HZ0 := Lib.hid hz0; have HI := Lib.hid hi
  clear hz0 hz1 hz2 hi
  go_enter Try.func25, Try.ntmps25
  go_wp2
  go_loopw [4, 5] (fun v u wr => ∃ i : Nat, u = .int .i64 i ∧ UnR s w v i wr) (fun _ u _ => s.size - (intOf u).toNat)
  case atStart => exact ⟨0, rfl, by omega, [], by rw [ext_all _ _ (Nat.le_refl _)]; exact UR.start s, World.ownsRow_nil _ _ _ _, Below.refl _ _⟩
  case round =>
    obtain ⟨i, rfl, hi, acc, hU, hown, hbel⟩ := hrel
    have hts : (s.extract i s.size).size = s.size - i := by rw [size_ext]; omega
    have HTS := Lib.hid hts; clear hts
    by_cases ht : i < s.size
    case neg =>
      have hdone := hU.done (by rw [HTS.out]; omega)
      have HD := Lib.hid hdone; clear hdone
      have HO := Lib.hid hown; clear hown
      clear hU
      go_wp2
      go_ret2
      exact optget_ok hbel (uRead_ok (by omega) HD.out) HO.out
    have HT1 : Hid (i + 1 < s.size → byt (s.extract i s.size) 1 = byt s (i + 1)) := fun h => byt_ext _ _ _ _ (by omega)
    obtain ⟨r0, r1⟩ := byt_range s (i + 1)
    obtain ⟨q0, q1⟩ := byt_range s i
    cases hb : uBad (s.extract i s.size)
    · obtain ⟨hU2, hn1, hn2⟩ := hU.step (by rw [HTS.out]; omega) hb
      rw [HTS.out] at hn2
      have HU2 := Lib.hid hU2
      have HO := Lib.hid hown
      clear hU2 hown hb hU
      have h41 : i + 1 < s.size := by omega
      obtain ⟨n, hn⟩ : ∃ n : Nat, byt s (i + 1) = (n : Int) := ⟨uN (s.extract i s.size), by rw [← HT1.out h41]; exact uN_eq _⟩
      have HN : Hid (uN (s.extract i s.size) = n) := by have := uN_eq (s.extract i s.size); rw [HT1.out h41] at this; show uN (s.extract i s.size) = n; omega
      have hn3 : 2 ≤ n := by have := HN.out; omega
      have hn4 : i + n ≤ s.size := by have := HN.out; omega
      clear hn1 hn2
      go_wp2_with fail
      have hacc : acc.length ≤ 2000 := by have := HU2.out.2.1; rw [List.length_append] at this; simp at this; omega
      have hzr := hbel.size
      have y1 : IntKind.i64.wrap ((i : Int) + 2) = (i : Int) + 2 := IntWalk.i64_in _ (by omega)
      have y2 : IntKind.i64.wrap ((i : Int) + (n : Int)) = (i : Int) + (n : Int) := IntWalk.i64_in _ (by omega)
      have y3 : (i : Int) + 2 ≤ (i : Int) + (n : Int) := by omega
      have y5 : (i : Int) + (n : Int) ≤ (s.size : Int) := by omega
      have y6 : (i : Int) < (s.size : Int) := by omega
      have y7 : (0 : Int) ≤ (i : Int) + 2 := by omega
      have y8 : (0 : Int) ≤ (i : Int) + (n : Int) := by omega
      have y9 : ((i : Int) + 2).toNat = i + 2 := by omega
      have y10 : ((i : Int) + (n : Int)).toNat = i + n := by omega
      have y4 : IntKind.i64.wrap (byt s i) = byt s i := IntWalk.i64_in _ (by omega)
      go_region_law (refine step_append_lies _ (by rfl) _ _ _ (by rfl) w.heap.size 46 i0 _ 2 24 Try.underlying22 HI.out HZ0.out HZ1.out HZ2.out rfl (by omega) u4 acc.length (optCells acc) (by rfl) ((HO.out.alloc _).drew) ⟨wr.heap.size, 0, none⟩ 1 1 [.int .i64 (byt s i), .string (s.extract (i + 2) (i + n))] (by rfl) (by rfl) (World.news_of_block (cs := #[.int .i64 (byt s i), .string (s.extract (i + 2) (i + n))]) (t := 46) (fr := (0, 0)) (heap_alloc_new wr _)) (by simp [Value.oneCell']) (by omega) (by unfold maxLen; omega) (by omega) (by simp; omega) (wr.heap.size + 1) (by simp) ?_; intro gg cap w2 hown2 hgrow hat hlt2)
      clear y1 y2 y3 y4 y5 y6 y7 y8 y9 y10
      have hbel2 : Below w.heap.size w w2 := (((hbel.alloc hzr _).drew).grown hgrow (by simp; omega) (fun k hk => (HO.out.lt k hk).1))
      go_wp2
      go_roundw
      case rel => exact ⟨i + n, by go_num, un_step ht HU2.out HN.out hn4 hn3 hown2 hbel2⟩
      case measure => simp [intOf]; omega
    · have hbad := hU.bad (by rw [HTS.out]; omega) hb
      have HBAD := Lib.hid hbad
      clear hbad hown hU
      unfold uBad at hb
      have hb2 := of_decide_eq_true hb
      rw [HTS.out] at hb2
      clear hb
      by_cases h2 : s.size - i < 2
      · go_wp2
        go_ret2
        exact optget_nil hbel (uRead_bad (by omega) HBAD.out)
      · have h41 : i + 1 < s.size := by omega
        rw [HT1.out h41] at hb2
        have hb3 : byt s (i + 1) < 2 ∨ (s.size : Int) - (i : Int) < byt s (i + 1) := by omega
        clear hb2
        rcases hb3 with hb3 | hb3
        · go_wp2
          go_ret2
          exact optget_nil hbel (uRead_bad (by omega) HBAD.out)
        · go_wp2
          all_goals
            go_ret2
            exact optget_nil hbel (uRead_bad (by omega) HBAD.out)
end Go.Proofs.Ytmonkjogonjflaa
