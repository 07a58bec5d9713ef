/- The contracts of digest.constants and digest.Of: MD5. No condition but memory's own limits. -/
import Derived.Test.YtdfefpbpfneahaaDigTurn
import Derived.Great.BuildSlice
import Derived.Deep.RegionWith
namespace Go.Proofs.Ytdfefpbpfneahaa
open Go.RowKit
set_option linter.unusedVariables false
set_option linter.unusedSimpArgs false
attribute [local go_sem] conv1 conv1d conv1n conv1a conv1ad conv1an conv2 conv2d conv2n conv2a conv2ad conv2an conv4 conv4d conv4n conv4a conv4ad conv4an conv5 conv5d conv5n conv5a conv5ad conv5an size_nums byt_fold
def kArr : Array Value := (kL.map (Value.int .u32)).toArray
theorem kArr_size : kArr.size = 64 := by unfold kArr; simp; decide
theorem kArr_one : kArr.all (·.oneCell') = true := by
  rw [Array.all_eq_true_iff_forall_mem]
  intro v hv
  unfold kArr at hv
  simp at hv
  obtain ⟨x, _, rfl⟩ := hv
  rfl
theorem alloc_setRow (W : World) (cs cs' : Array Value) (t : TypeId) : (W.alloc (.cells cs t)).setRow W.heap.size cs' = W.alloc (.cells cs' t) := by
  have h : ∀ (A : Array Obj) (o : Obj) (f : Obj → Obj), (A.push o).modify A.size f = A.push (f o) := by
    intro A o f
    apply Array.ext_getElem?
    intro i
    rw [Array.getElem?_modify, Array.getElem?_push, Array.getElem?_push]
    by_cases e : A.size = i
    · subst e; simp
    · rw [if_neg e]
      have e2 : ¬ i = A.size := fun x => e x.symm
      rw [if_neg e2, if_neg e2]
  show ({ W with heap := (W.heap.push (.cells cs t)).modify W.heap.size _ } : World) = { W with heap := W.heap.push (.cells cs' t) }
  rw [h]
set_option maxRecDepth 100000 in
set_option maxHeartbeats 2000000 in
theorem consts_any (w : World) : Calls Try.prog 42 #[] w fun e w' => e = .returned (.agg kArr) ∧ Below w.heap.size w w' := by
  go_enter Try.func42, Try.ntmps42
  go_wp2_with (first
    | (refine wpList_buildFlatArrTo rfl 86 76 64 _ rfl .u32 kL (some 1) rfl Try.underlying86 (by kernel_rfl) (by kernel_rfl) (by kernel_rfl) ?_)
    | (refine wpList_store_rowTo rfl 86 _ _ rfl rfl w.heap.size kArr rfl rfl 86 _ (heap_alloc_new _ _) (by kernel_rfl) (by kernel_rfl) kArr_one ?_; rw [alloc_setRow]))
  refine bodyPost_ret (v := .agg kArr) (results_cell_row Try.results42 _ _ w.heap.size 86 kArr (0, 0) _ rfl (heap_alloc_new _ _) Try.underlying86 rfl (by kernel_rfl)) rfl ⟨rfl, (Below.refl _ _).alloc (Nat.le_refl _) _⟩
def padL (z : Nat) : List Int := 128 :: List.replicate z 0
theorem zcells_set (z : Nat) : ((zcells (1 + z)).setIfInBounds 0 (.int .u8 128)) = ((padL z).map (Value.int .u8)).toArray := by
  apply Array.toList_inj.1
  rw [Array.toList_setIfInBounds, zcells_eq]
  unfold padL
  simp [Nat.add_comm 1 z, List.replicate_succ]
theorem zcells_get (z : Nat) : (zcells (1 + z))[0]? = some (.int .u8 0) := by
  rw [← Array.getElem?_toList, zcells_eq, Nat.add_comm]; simp [List.replicate_succ]
theorem nums_app (xs ys : List Int) : strOfNums xs ++ strOfNums ys = strOfNums (xs ++ ys) := by
  apply ByteArray.ext; simp [strOfNums, ByteArray.data_append]
theorem U32At.made (w : World) (zs : List Int) (cs : Array Value) (t : TypeId) (n : Nat) (b : Nat) (hb : b = w.heap.size) (hn : zs.length = n) (h : cs.toList = zs.map (Value.int .u32)) : U32At (w.alloc (.cells cs t)) (some ⟨b, 0, none⟩) n zs := by
  subst hb
  refine ⟨hn, fun _ => ⟨w.heap.size, 0, rfl, by simp, fun j hj => ?_⟩⟩
  rw [cell_of_row _ _ _ _ _ _ (heap_alloc_new w (.cells cs t))]
  have a1 : (zs.map (Value.int .u32))[j]? = some (.int .u32 zs[j]) := by rw [List.getElem?_map, List.getElem?_eq_getElem hj]; rfl
  rw [← h] at a1
  simp only [Nat.zero_add]
  simpa using a1
theorem tail_eq (n z : Nat) (x0 x1 : Int) (hz : zeros n = z) (h0 : (n : Int) * 8 % 4294967296 = x0) (h1 : (n : Int) * 8 / 4294967296 = x1) : strOfNums (padL z) ++ strOfNums (lB [x0, x1]) = strOfNums (tailOf n) := by
  rw [nums_app]; unfold tailOf lB padL; rw [hz, h0, h1]; simp
attribute [local go_sem high] run_string_add_sum
set_option maxRecDepth 100000 in
set_option maxHeartbeats 4000000 in
theorem of_any (s : ByteArray) (w : World) (hs : s.size ≤ 1000000000000000) : Calls Try.prog 39 #[.string s] w fun e w' => e = .returned (.string (md5 s)) ∧ Below w.heap.size w w' := by
  obtain ⟨z, hz⟩ : ∃ z, zeros s.size = z := ⟨_, rfl⟩
  have hz2 : z < 64 := by rw [← hz]; unfold zeros; omega
  obtain ⟨r, hr⟩ : ∃ r, s.size % 64 = r := ⟨_, rfl⟩
  obtain ⟨q, hq⟩ : ∃ q, 119 - r = q := ⟨_, rfl⟩
  have e1 : (s.size : Int) % 64 = (r : Int) := by omega
  have e2 : 119 - (r : Int) = (q : Int) := by omega
  have e3 : (q : Int) % 64 = (z : Int) := by unfold zeros at hz; omega
  obtain ⟨p, hp⟩ : ∃ p, 1 + z = p := ⟨_, rfl⟩
  have e4 : 1 + (z : Int) = (p : Int) := by omega
  have hp0 : (0 : Int) < (p : Int) := by omega
  have hmk := fun W => run_mk p (by omega) W
  have hcell : (zcells p)[0]? = some (.int .u8 0) := by rw [← hp]; exact zcells_get z
  have HS := Lib.hid (show (zcells p).setIfInBounds 0 (.int .u8 128) = ((padL z).map (Value.int .u8)).toArray by rw [← hp]; exact zcells_set z)
  obtain ⟨x0, h0⟩ : ∃ x0, (s.size : Int) * 8 % 4294967296 = x0 := ⟨_, rfl⟩
  obtain ⟨x1, h1⟩ : ∃ x1, (s.size : Int) * 8 / 4294967296 = x1 := ⟨_, rfl⟩
  have HT := Lib.hid (tail_eq s.size z x0 x1 hz h0 h1)
  have r0 : 0 ≤ x0 ∧ x0 < 4294967296 := by omega
  have r1 : 0 ≤ x1 ∧ x1 < 4294967296 := by omega
  have hr64 : r < 64 := by omega
  have hq64 : q < 120 := by omega
  have HP := Lib.hid hp; have HZ := Lib.hid hz
  clear hz hr hq hp
  go_enter Try.func39, Try.ntmps39
  go_wp2_with fail
  rw [HS.out]
  clear hmk hcell e1 e2 e3 e4
  obtain ⟨P, hP⟩ : ∃ P, strOfNums (padL z) = P := ⟨_, rfl⟩
  obtain ⟨V, hV⟩ : ∃ V, strOfNums (lB [x0, x1]) = V := ⟨_, rfl⟩
  have hPl : (padL z).length = p := by rw [← HP.out]; unfold padL; simp; omega
  have hPs : P.size ≤ 64 := by rw [← hP, size_nums, hPl]; have := HP.out; omega
  have hVs : V.size ≤ 8 := by rw [← hV, size_nums, lB_len]; simp
  have hY : s ++ (P ++ V) = padded s := by unfold padded; rw [← HT.out, hP, hV]
  have hb0 : Blk (w.alloc (.cells ((padL z).map (Value.int .u8)).toArray 5)) w.heap.size 5 ((padL z).map (Value.int .u8)).toArray := Blk.new _ _ _
  have cv1 := conv_in (padL z) (w.alloc (.cells ((padL z).map (Value.int .u8)).toArray 5)).drew w.heap.size p hb0.drew
  have cv2 := conv_in (padL z) ((w.alloc (.cells ((padL z).map (Value.int .u8)).toArray 5)).alloc (.cells #[.int .u32 x0, .int .u32 x1] 76)).drew w.heap.size p (hb0.alloc _).drew
  rw [hPl, hP] at cv1 cv2
  have HB0 := Lib.hid hb0; have HV := Lib.hid hV; have HY := Lib.hid hY; have HPL := Lib.hid hPl; have HPP := Lib.hid hP
  clear hb0 hV hY hPl hP
  have ov1 : ¬ 9223372036854775807 < P.size + V.size := by omega
  have ov2 : ¬ 9223372036854775807 < s.size + (P.size + V.size) := by omega
  have k0 : IntKind.u32.wrap ((s.size : Int) * 8) = x0 := by rw [IntKind.wrap_u32]; exact h0
  have k1 : IntKind.u32.wrap x1 = x1 := by rw [IntKind.wrap_u32]; omega
  clear h0
  go_region_with (first | (go_at_call 41; refine (words_any _ 2 2 [x0, x1] _ ?hv (by omega) (by omega) ?hr).mono ?_; (case hv => exact (U32At.made _ [x0, x1] _ _ 2 _ (by simp) rfl rfl)); (case hr => intro y hy; simp at hy; omega); rintro e w2 ⟨rfl, hb2⟩; rw [HV.out]; have cv3 := conv_in (padL z) w2 w.heap.size p (((HB0.out.alloc _).drew).keep hb2); rw [HPL.out, HPP.out] at cv3))
  all_goals
    have hz2' := hb2.size
    simp at hz2'
    have bel2 : Below w.heap.size w w2 := by
      refine below_step ?_ hb2 (by simp; omega)
      exact ((((Below.refl _ _).alloc (Nat.le_refl _) _).alloc (by simp) _)).drew
    rw [HY.out]
    clear hb2 cv1 cv2 cv3 ov1 ov2 k0 k1
    have hmod := padded_mod s
    have hsz : (padded s).size ≤ 1000000000000100 := by rw [padded_size]; have := HZ.out; omega
    have hmd : md5 s = stOut (blks (padded s) ((padded s).size / 64)) := rfl
    generalize padded s = Y at hmod hsz hmd ⊢
    obtain ⟨m, hm⟩ : ∃ m, Y.size / 64 = m := ⟨_, rfl⟩
    have hYm : Y.size = 64 * m := by omega
    rw [hm] at hmd
    have HYM := Lib.hid hYm; have HMD := Lib.hid hmd
    clear hmod hm hYm hmd h1 r0 r1 hs hp0 hPs hVs
    go_wp2_with (first
      | (go_at_call 42; refine (consts_any _).mono ?_; rintro e w3 ⟨rfl, hb3⟩)
      | (refine wpList_buildTo rfl 89 _ rfl (some 33) rfl (stCells st0) (by kernel_rfl) ?_))
    have hz3 := hb3.size
    have bel3 := below_step bel2 hb3 (by omega)
    have HST0 : Hid (Blk (w3.alloc (.cells (stCells st0) 89)) w3.heap.size 89 (stCells (blks Y 0))) := Lib.hid (Blk.new _ _ _)
    clear hb3 bel2
    go_loopw [0] (fun v wr => ∃ j : Nat, ∃ X : ByteArray, v = .string X ∧ j ≤ m ∧ X = Y.extract (64 * j) Y.size ∧ Blk wr w3.heap.size 89 (stCells (blks Y j)) ∧ Below w.heap.size w wr) (fun v _ => match v with | .string X => X.size | _ => 0)
    case atStart => exact ⟨0, Y, rfl, by omega, (ext_all _ _ (Nat.le_refl _)).symm, HST0.out, bel3.alloc (by omega) _⟩
    case round =>
      obtain ⟨j, X, rfl, hj, hX, hblk, hbel⟩ := hrel
      have hzr := hbel.size
      have hYs := HYM.out
      have hXs : X.size = 64 * m - 64 * j := by rw [hX, size_ext]; omega
      have HX := Lib.hid hX; have HBK := Lib.hid hblk
      by_cases hlt : j < m
      · have h64 : 64 ≤ X.size := by omega
        have hne := nonempty_of X (by omega)
        have hB : X.extract 0 64 = Y.extract (64 * j) (64 * j + 64) := by rw [hX]; exact ext_ext _ _ _ _ _ (by omega)
        have hB2 : (X.extract 0 64).size = 64 := by rw [size_ext]; omega
        have hR : X.extract 64 X.size = Y.extract (64 * (j + 1)) Y.size := by
          apply bytes_ext
          · simp only [size_ext]; omega
          · intro i hi
            simp only [size_ext] at hi
            rw [byt_ext _ _ _ _ (by omega), hX, byt_ext _ _ _ _ (by omega), byt_ext _ _ _ _ (by omega)]
            congr 1; omega
        have HB := Lib.hid hB; have HB2 := Lib.hid hB2; have HR := Lib.hid hR
        have hXZ := Lib.hid hXs
        clear hB hB2 hR hX hXs hYs hblk
        go_wp2_with fail
        refine (turn_any w3.heap.size (blks Y j) (X.extract 0 64) _ HBK.out HB2.out (blks_ok Y j)).mono ?_
        rintro e w4 ⟨rfl, hbk4, hgr4⟩
        have hbel4 := hbel.grown hgr4 hzr (fun k hk => by injection hk with hk; omega)
        have HBK4 := Lib.hid hbk4
        clear hgr4 hbk4
        go_wp2_with fail
        go_roundw
        case rel => exact ⟨j + 1, _, rfl, by omega, HR.out, by rw [show blks Y (j + 1) = blk (blks Y j) (Y.extract (64 * j) (64 * j + 64)) from rfl, ← HB.out]; exact HBK4.out, hbel4⟩
        case measure => simp; omega
      · obtain rfl : j = m := by omega
        have hem := empty_of X (by omega)
        have hv : U32At wr (some ⟨w3.heap.size, 0, none⟩) 4 [(blks Y j).a, (blks Y j).b, (blks Y j).c, (blks Y j).d] := by
          refine ⟨rfl, fun _ => ⟨w3.heap.size, 0, rfl, hblk.lt, fun i hi => ?_⟩⟩
          obtain ⟨c0, c1, c2, c3⟩ := stCells_h (blks Y j)
          rw [hblk.cell]
          simp at hi
          rcases (by omega : i = 0 ∨ i = 1 ∨ i = 2 ∨ i = 3) with rfl | rfl | rfl | rfl
          · exact c0
          · exact c1
          · exact c2
          · exact c3
        have HV4 := Lib.hid hv
        have hok := Lib.hid (blks_ok Y j)
        clear hv hX hXs hYs hblk
        go_wp2_with fail
        refine (words_any _ 4 4 _ _ HV4.out (by omega) (by omega) (fun y hy => ?_)).mono ?_
        · have h := hok.out
          obtain ⟨h1, h2, h3, h4⟩ := h
          simp at hy
          rcases hy with rfl | rfl | rfl | rfl
          · exact h1
          · exact h2
          · exact h3
          · exact h4
        rintro e w5 ⟨rfl, hb5⟩
        go_wp2_with fail
        go_ret
        exact ⟨by rw [HMD.out]; unfold stOut lB; simp, below_step hbel hb5 hzr⟩
end Go.Proofs.Ytdfefpbpfneahaa
