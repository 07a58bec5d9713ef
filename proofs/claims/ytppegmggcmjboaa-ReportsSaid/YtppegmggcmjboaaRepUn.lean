/- The contract of the reference's Unreport: as report.Get. No condition. -/
import Derived.Test.YtppegmggcmjboaaRepGet
import Derived.Test.YtppegmggcmjboaaIntLend
import Derived.Deep.RegionLaw
namespace Go.Proofs.Ytppegmggcmjboaa
open Go.RowKit
set_option linter.unusedVariables false
set_option linter.unusedSimpArgs false
attribute [local go_sem] conv1 conv1d conv1n conv1a conv1ad conv1an conv2 conv2d conv2n conv2a conv2ad conv2an conv4 conv4d conv4n conv4a conv4ad conv4an conv5 conv5d conv5n conv5a conv5ad conv5an size_nums byt_fold
theorem or4 (a b c d : Int) (ha : 0 ≤ a ∧ a ≤ 255) (hb : 0 ≤ b ∧ b ≤ 255) (hc : 0 ≤ c ∧ c ≤ 255) (hd : 0 ≤ d ∧ d ≤ 255) :
    bits .or .i64 (a * 16777216) (b * 65536) = a * 16777216 + b * 65536 ∧ bits .or .i64 (a * 16777216 + b * 65536) (c * 256) = a * 16777216 + b * 65536 + c * 256 ∧ bits .or .i64 (a * 16777216 + b * 65536 + c * 256) d = a * 16777216 + b * 65536 + c * 256 + d := by
  refine ⟨?_, ?_, ?_⟩
  · exact bits_join .i64 63 (by decide) (fun n a b => by rw [IntKind.wrap_i64]; omega) 24 _ _ (by omega) (by omega) (by omega) (by omega) (by omega) (by omega)
  · exact bits_join .i64 63 (by decide) (fun n a b => by rw [IntKind.wrap_i64]; omega) 16 _ _ (by omega) (by omega) (by omega) (by omega) (by omega) (by omega)
  · exact bits_join .i64 63 (by decide) (fun n a b => by rw [IntKind.wrap_i64]; omega) 8 _ _ (by omega) (by omega) (by omega) (by omega) (by omega) (by omega)
def UnR (s : ByteArray) (w : World) (v : Value) (k : Nat) (wr : World) : Prop :=
  wr.ownsRow w.heap.size 3 1 v k (intCells ((gL s).take k)) ∧ Below w.heap.size w wr
set_option maxRecDepth 100000 in
set_option maxHeartbeats 2000000 in
theorem runrep_any (s : ByteArray) (w : World) : Calls Try.prog 10 #[.string s] w (RepGet s w) := by
  by_cases h48 : s.size = 48
  case neg =>
    have hb : ((s.size : Int) != 48) = true := by simp; omega
    go_enter Try.func10, Try.ntmps10
    go_wp2_with fail
    go_ret2
    exact repget_bad (Below.refl _ _) h48
  have H48 := Lib.hid h48
  have hb : ((s.size : Int) != 48) = false := by simp; omega
  have l1 : s.size ≤ 48 := by omega
  have l2 : 48 ≤ s.size := by omega
  have hlen := gL_len h48
  have HL := Lib.hid hlen
  clear h48 hlen
  obtain ⟨i0, hi, hz0, hz1, hz2⟩ := info_parts info_int
  have HZ1 := Lib.hid hz1; have HZ2 := Lib.hid hz2; have HZ0 := Lib.hid hz0; have HI := Lib.hid hi
  clear hz0 hz1 hz2 hi
  go_enter Try.func10, Try.ntmps10
  go_wp2_with fail
  go_loopw [4, 5] (fun v i wr => ∃ k i0 : Nat, i0 = 4 * k ∧ i = .int .i64 i0 ∧ k ≤ 12 ∧ UnR s w v k wr) (fun _ i _ => 48 - (intOf i).toNat)
  case atStart => exact ⟨0, 0, rfl, rfl, by omega, by simpa [intCells] using World.ownsRow_nil _ _ _ _, Below.refl _ _⟩
  case round =>
    obtain ⟨k, q, hq, rfl, hk, hown, hbel⟩ := hrel
    have HO := Lib.hid hown; clear hown
    by_cases hlt : k < 12
    · have y1 : (q : Int) < 48 := by omega
      have HQ := Lib.hid hq
      have q0 : q < s.size := by omega
      obtain ⟨qa, ha⟩ : ∃ qa, q + 1 = qa := ⟨_, rfl⟩
      obtain ⟨qb, hb'⟩ : ∃ qb, q + 2 = qb := ⟨_, rfl⟩
      obtain ⟨qc, hc'⟩ : ∃ qc, q + 3 = qc := ⟨_, rfl⟩
      have q1 : qa < s.size := by omega
      have q2 : qb < s.size := by omega
      have q3 : qc < s.size := by omega
      have hqn : q ≤ 44 := by omega
      have ca : (q : Int) + 1 = (qa : Int) := by omega
      have cb : (q : Int) + 2 = (qb : Int) := by omega
      have cc : (q : Int) + 3 = (qc : Int) := by omega
      have HA := Lib.hid ha; have HB := Lib.hid hb'; have HC := Lib.hid hc'
      clear hq ha hb' hc'
      have b0 := byt_range s q; have b1 := byt_range s qa; have b2 := byt_range s qb; have b3 := byt_range s qc
      obtain ⟨o1, o2, o3⟩ := or4 _ _ _ _ b0 b1 b2 b3
      obtain ⟨b00, b01⟩ := b0; obtain ⟨b10, b11⟩ := b1; obtain ⟨b20, b21⟩ := b2; obtain ⟨b30, b31⟩ := b3
      go_wp2_with fail
      have v1 : IntKind.i64.wrap (qa : Int) = qa := IntWalk.i64_in _ (by omega)
      have v2 : IntKind.i64.wrap (qb : Int) = qb := IntWalk.i64_in _ (by omega)
      have v3 : IntKind.i64.wrap (qc : Int) = qc := IntWalk.i64_in _ (by omega)
      have w4 : IntKind.i64.wrap (byt s q) = byt s q := IntWalk.i64_in _ (by omega)
      have w5 : IntKind.i64.wrap (byt s qa) = byt s qa := IntWalk.i64_in _ (by omega)
      have w6 : IntKind.i64.wrap (byt s qb) = byt s qb := IntWalk.i64_in _ (by omega)
      have w7 : IntKind.i64.wrap (byt s qc) = byt s qc := IntWalk.i64_in _ (by omega)
      have w8 : IntKind.i64.wrap (byt s q * 16777216) = byt s q * 16777216 := IntWalk.i64_in _ (by omega)
      have w9 : IntKind.i64.wrap (byt s qa * 65536) = byt s qa * 65536 := IntWalk.i64_in _ (by omega)
      have wa : IntKind.i64.wrap (byt s qb * 256) = byt s qb * 256 := IntWalk.i64_in _ (by omega)
      have hzr := hbel.size
      go_region_law (refine step_append_lies _ (by rfl) _ _ _ (by rfl) w.heap.size 3 i0 _ 1 8 Try.underlying22 HI.out HZ0.out HZ1.out HZ2.out rfl (by omega) u4 k (intCells ((gL s).take k)) (by rfl) ((HO.out.alloc _).drew) ⟨wr.heap.size, 0, none⟩ 1 1 [.int .i64 (byt s q * 16777216 + byt s qa * 65536 + byt s qb * 256 + byt s qc)] (by rfl) (by rfl) (World.news_of_block (cs := #[.int .i64 (byt s q * 16777216 + byt s qa * 65536 + byt s qb * 256 + byt s qc)]) (t := 3) (fr := (0, 0)) (heap_alloc_new wr _)) (by simp [Value.oneCell']) (by omega) (by unfold maxLen; omega) (by omega) (by simp; omega) (wr.heap.size + 1) (by simp) ?_; intro gg cap w2 hown2 hgrow hat hlt2)
      all_goals
        clear w4 w5 w6 w7 w8 w9 wa o1 o2 o3 v1 v2 v3 ca cb cc
        have hbel2 : Below w.heap.size w w2 := (((hbel.alloc hzr _).drew).grown hgrow (by simp; omega) (fun k hk => (HO.out.lt k hk).1))
        have hgk : (gL s)[k]? = some (gV s k) := by
          have h := H48.out
          unfold gL; rw [if_pos h, List.getElem?_map, List.getElem?_eq_getElem (by simp; omega)]; simp
        have hX : byt s q * 16777216 + byt s qa * 65536 + byt s qb * 256 + byt s qc = gV s k := by unfold gV; rw [← HA.out, ← HB.out, ← HC.out, HQ.out]
        have hown3 : w2.ownsRow w.heap.size 3 1 (.slice (some ⟨gg, 0, none⟩) (k + 1) cap) (k + 1) (intCells ((gL s).take (k + 1))) := by
          rw [take_snoc hgk]
          unfold intCells at hown2 ⊢
          rw [List.map_append, ← hX]
          exact hown2
        have HO3 := Lib.hid hown3
        clear hown2 hown3 hgrow hat hlt2 hX hgk
        go_wp2
        go_roundw
        case rel => exact ⟨k + 1, q + 4, by have := HQ.out; omega, by go_num, by omega, HO3.out, hbel2⟩
        case measure => simp [intOf]; omega
    · obtain rfl : k = 12 := by omega
      obtain rfl : q = 48 := by omega
      have ho2 : wr.ownsRow w.heap.size 3 1 u4 12 (intCells (gL s)) := by
        have h := HO.out
        rw [List.take_of_length_le (by have := HL.out; omega)] at h
        exact h
      have HO2 := Lib.hid ho2; clear ho2
      go_wp2
      go_ret2
      exact repget_ok hbel H48.out HO2.out
end Go.Proofs.Ytppegmggcmjboaa
