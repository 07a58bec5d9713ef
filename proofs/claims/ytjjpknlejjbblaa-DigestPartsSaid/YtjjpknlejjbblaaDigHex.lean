/- The contracts of digest.Chap and of the law's hex. No condition but memory's own limits. -/
import Derived.Test.YtjjpknlejjbblaaDigOf
import Derived.Deep.RegionLaw
namespace Go.Proofs.Ytjjpknlejjbblaa
open Go.RowKit
set_option linter.unusedVariables false
set_option linter.unusedSimpArgs false
attribute [local go_sem] conv1 conv1d conv1n conv1a conv1ad conv1an conv2 conv2d conv2n conv2a conv2ad conv2an conv4 conv4d conv4n conv4a conv4ad conv4an conv5 conv5d conv5n conv5a conv5ad conv5an size_nums byt_fold
attribute [local go_sem high] run_string_add_sum
def chapT (id : Int) (a b : ByteArray) : ByteArray := strOfNums [id % 256] ++ a ++ b
theorem chapT_size (id : Int) (a b : ByteArray) : (chapT id a b).size = 1 + a.size + b.size := by unfold chapT; rw [size_app, size_app, size_nums]; rfl
set_option maxHeartbeats 1000000 in
theorem dchap_any (id : Int) (a b : ByteArray) (w : World) (ha : a.size ≤ 400000000000000) (hb : b.size ≤ 400000000000000) : Calls Try.prog 11 #[.int .i64 id, .string a, .string b] w fun e w' => e = .returned (.string (md5 (chapT id a b))) ∧ Below w.heap.size w w' := by
  have hT : strOfNums [id % 256] ++ a ++ b = chapT id a b := rfl
  have hz := chapT_size id a b
  have HZ := Lib.hid hz; clear hz
  go_enter Try.func11, Try.ntmps11
  go_wp2_with fail
  refine (of_any _ _ (by have := HZ.out; omega)).mono ?_
  rintro e w1 ⟨rfl, hb1⟩
  go_wp2_with fail
  go_ret
  exact ⟨rfl, ((Below.refl _ _).alloc (Nat.le_refl _) _).trans (hb1.mono (by simp))⟩
def hexAll : ByteArray := ⟨#[48, 49, 50, 51, 52, 53, 54, 55, 56, 57, 97, 98, 99, 100, 101, 102]⟩
def hx (n : Int) : Int := byt hexAll n.toNat
def hexL (s : ByteArray) (k : Nat) : List Int := (List.range k).flatMap fun i => [hx (byt s i / 16), hx (byt s i % 16)]
theorem hexL_len (s : ByteArray) : ∀ k, (hexL s k).length = 2 * k
  | 0 => rfl
  | k + 1 => by unfold hexL; rw [List.range_succ, List.flatMap_append, List.length_append]; have := hexL_len s k; unfold hexL at this; rw [this]; simp; omega
theorem hexL_succ (s : ByteArray) (k : Nat) : hexL s (k + 1) = hexL s k ++ [hx (byt s k / 16), hx (byt s k % 16)] := by unfold hexL; rw [List.range_succ, List.flatMap_append]; simp
set_option maxRecDepth 100000 in
set_option maxHeartbeats 2000000 in
theorem hex_any (s : ByteArray) (w : World) (h0 : 0 < s.size) (hs : s.size ≤ 1000) : Calls Try.prog 8 #[.string s] w fun e w' => e = .returned (.string (strOfNums (hexL s s.size))) ∧ Below w.heap.size w w' := by
  obtain ⟨i0, hi, hz0, hz1, hz2⟩ := info_parts info_u8
  have HZ1 := Lib.hid hz1; have HZ2 := Lib.hid hz2; have HZ0 := Lib.hid hz0; have HI := Lib.hid hi
  clear hz0 hz1 hz2 hi
  go_enter Try.func8, Try.ntmps8
  go_wp2_with fail
  obtain ⟨AL, hAL⟩ : ∃ AL, hexAll = AL := ⟨_, rfl⟩
  have hAL2 : (⟨#[48, 49, 50, 51, 52, 53, 54, 55, 56, 57, 97, 98, 99, 100, 101, 102]⟩ : ByteArray) = AL := hAL
  rw [hAL2]
  have hsz : AL.size = 16 := by rw [← hAL]; rfl
  have hsz2 : 16 ≤ AL.size := by omega
  have HAL := Lib.hid hAL
  clear hAL hAL2 hsz
  go_loopw [4, 5] (fun v i wr => ∃ k : Nat, i = .int .i64 k ∧ k ≤ s.size ∧ wr.ownsRow w.heap.size 5 1 v (2 * k) (u8Cells (hexL s k)) ∧ Below w.heap.size w wr) (fun _ i _ => s.size - (intOf i).toNat)
  case atStart => exact ⟨0, rfl, by omega, World.ownsRow_nil _ _ _ _, Below.refl _ _⟩
  case round =>
    obtain ⟨k, rfl, hk, hown, hbel⟩ := hrel
    have HO := Lib.hid hown; clear hown
    have hzr := hbel.size
    by_cases hlt : k < s.size
    · have y1 : (k : Int) < (s.size : Int) := by omega
      obtain ⟨b0, b1⟩ := byt_range s k
      obtain ⟨a, ha⟩ : ∃ a : Nat, byt s k / 16 = (a : Int) := ⟨(byt s k / 16).toNat, by omega⟩
      obtain ⟨c, hc⟩ : ∃ c : Nat, byt s k % 16 = (c : Int) := ⟨(byt s k % 16).toNat, by omega⟩
      have a16 : a < 16 := by omega
      have c16 : c < 16 := by omega
      have hsu := hexL_succ s k
      rw [ha, hc] at hsu
      have HSU := Lib.hid hsu
      clear hsu
      go_wp2_with fail
      have t1 : (byt s k).tdiv 16 = (a : Int) := by rw [Int.tdiv_eq_ediv_of_nonneg b0]; exact ha
      have t2 : (byt s k).tmod 16 = (c : Int) := by rw [Int.tmod_eq_emod_of_nonneg b0]; exact hc
      have u1 : IntKind.u8.wrap (a : Int) = a := IntWalk.u8_in _ (by omega)
      have u2 : IntKind.u8.wrap (c : Int) = c := IntWalk.u8_in _ (by omega)
      have ia : a < AL.size := by omega
      have ic : c < AL.size := by omega
      have ja : (a : Int) < (AL.size : Int) := by omega
      have jc : (c : Int) < (AL.size : Int) := by omega
      go_region_law (refine step_append_lies _ (by rfl) _ _ _ (by rfl) w.heap.size 5 i0 _ 1 1 Try.underlying26 HI.out HZ0.out HZ1.out HZ2.out rfl (by omega) u4 (2 * k) (u8Cells (hexL s k)) (by rfl) ((HO.out.alloc _).drew) ⟨wr.heap.size, 0, none⟩ 2 2 [.int .u8 (byt AL a), .int .u8 (byt AL c)] (by rfl) (by rfl) (World.news_of_block (cs := #[.int .u8 (byt AL a), .int .u8 (byt AL c)]) (t := 5) (fr := (0, 0)) (heap_alloc_new wr _)) (by simp [Value.oneCell']) (by omega) (by unfold maxLen; omega) (by omega) (by simp; omega) (wr.heap.size + 1) (by simp) ?_; intro gg cap w2 hown2 hgrow hat hlt2)
      all_goals
        have hbel2 : Below w.heap.size w w2 := (((hbel.alloc hzr _).drew).grown hgrow (by simp; omega) (fun k hk => (HO.out.lt k hk).1))
        have hown3 : w2.ownsRow w.heap.size 5 1 (.slice (some ⟨gg, 0, none⟩) (2 * k + 2) cap) (2 * (k + 1)) (u8Cells (hexL s (k + 1))) := by
          rw [HSU.out, show 2 * (k + 1) = 2 * k + 2 from by omega]
          unfold hx
          rw [HAL.out]
          unfold u8Cells at hown2 ⊢
          rw [List.map_append]
          exact hown2
        have HO3 := Lib.hid hown3
        clear hown2 hown3 hgrow hat hlt2 t1 t2 u1 u2 ha hc
        go_wp2
        go_roundw
        case rel => exact ⟨k + 1, by go_num, by omega, HO3.out, hbel2⟩
        case measure => simp [intOf]; omega
    · obtain rfl : k = s.size := by omega
      have hconv := conv_own wr (hexL s s.size) _ HO.out (by omega)
      go_wp2_with fail
      go_ret
      exact ⟨rfl, hbel⟩
end Go.Proofs.Ytjjpknlejjbblaa
