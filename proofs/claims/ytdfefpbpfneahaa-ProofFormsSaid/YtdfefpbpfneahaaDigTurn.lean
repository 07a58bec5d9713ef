/- The contract of digest's state.turn: a block is gone over. No condition. -/
import Derived.Test.YtdfefpbpfneahaaDigB
import Derived.Test.YtdfefpbpfneahaaStill
import Derived.Lib.EndianBits
namespace Go.Proofs.Ytdfefpbpfneahaa
open Go.RowKit
set_option linter.unusedVariables false
set_option linter.unusedSimpArgs false
attribute [local go_sem] conv1 conv1d conv1n conv1a conv1ad conv1an conv2 conv2d conv2n conv2a conv2ad conv2an conv4 conv4d conv4n conv4a conv4ad conv4an conv5 conv5d conv5n conv5a conv5ad conv5an size_nums byt_fold
/-- A word's first m bytes. -/
def pw (x : ByteArray) (j m : Nat) : Int :=
  if m = 0 then 0 else if m = 1 then byt x (4 * j) else if m = 2 then byt x (4 * j) + byt x (4 * j + 1) * 256 else if m = 3 then byt x (4 * j) + byt x (4 * j + 1) * 256 + byt x (4 * j + 2) * 65536 else wd x j
theorem pw_rng (x : ByteArray) (j m : Nat) (h : m ≤ 3) : 0 ≤ pw x j m ∧ pw x j m < 256 ^ m := by
  have a := byt_range x (4 * j); have b := byt_range x (4 * j + 1); have c := byt_range x (4 * j + 2)
  rcases (by omega : m = 0 ∨ m = 1 ∨ m = 2 ∨ m = 3) with rfl | rfl | rfl | rfl <;> (simp [pw]) <;> omega
theorem or_low32 (j : Nat) (lo hi : Int) (h0 : 0 ≤ lo) (h1 : lo < 2 ^ j) (h5 : lo < 4294967296) (h2 : 0 ≤ hi) (h3 : hi % 2 ^ j = 0) (h4 : hi < 4294967296) : bits .or .u32 lo hi = lo + hi :=
  bits_join_low .u32 32 (by decide) (fun n a b => by rw [IntKind.wrap_u32]; omega) j lo hi h0 h1 (by simpa using h5) h2 h3 (by simpa using h4)
theorem pw_step (x : ByteArray) (j m : Nat) (h : m < 4) : bits .or .u32 (pw x j m) (byt x (4 * j + m) * 256 ^ m) = pw x j (m + 1) := by
  have a := byt_range x (4 * j); have b := byt_range x (4 * j + 1); have c := byt_range x (4 * j + 2); have d := byt_range x (4 * j + 3)
  rcases (by omega : m = 0 ∨ m = 1 ∨ m = 2 ∨ m = 3) with rfl | rfl | rfl | rfl
  · rw [or_low32 0 _ _ (by simp [pw]) (by simp [pw]) (by simp [pw]) (by simp; omega) (by simp) (by simp; omega)]; simp [pw]
  · rw [or_low32 8 _ _ (by simp [pw]; omega) (by simp [pw]; omega) (by simp [pw]; omega) (by simp; omega) (by simp) (by simp; omega)]; simp [pw]
  · rw [or_low32 16 _ _ (by simp [pw]; omega) (by simp [pw]; omega) (by simp [pw]; omega) (by simp; omega) (by simp) (by simp; omega)]; simp [pw]
  · rw [or_low32 24 _ _ (by simp [pw]; omega) (by simp [pw]; omega) (by simp [pw]; omega) (by simp; omega) (by simp) (by simp; omega)]; simp [pw, wd]
theorem pw_full (x : ByteArray) (j m : Nat) (h : 4 ≤ m) : pw x j m = wd x j := by
  unfold pw; rw [if_neg (by omega), if_neg (by omega), if_neg (by omega), if_neg (by omega)]
def pwL (x : ByteArray) (k : Nat) : List Int := (List.range 16).map fun j => pw x j (k - 4 * j)
def pwC (x : ByteArray) (k : Nat) : Array Value := ((pwL x k).map (Value.int .u32)).toArray
theorem pwC_get (x : ByteArray) (k q : Nat) (hq : q < 16) : (pwC x k)[q]? = some (.int .u32 (pw x q (k - 4 * q))) := by
  unfold pwC pwL; simp [hq]
theorem pwC_step (x : ByteArray) (k q r : Nat) (hk : k = 4 * q + r) (hr : r < 4) (hq : q < 16) : (pwC x k).setIfInBounds q (.int .u32 (pw x q (r + 1))) = pwC x (k + 1) := by
  apply Array.ext_getElem?
  intro j
  rw [Array.getElem?_setIfInBounds]
  have hs : ∀ k, (pwC x k).size = 16 := fun k => by simp [pwC, pwL]
  by_cases hj : j < 16
  · rw [pwC_get x (k + 1) j hj]
    by_cases e : q = j
    · subst e
      rw [if_pos rfl, if_pos (by rw [hs]; omega)]
      have : k + 1 - 4 * q = r + 1 := by omega
      rw [this]
    · rw [if_neg e, pwC_get x k j hj]
      by_cases h : j < q
      · rw [pw_full _ _ _ (by omega), pw_full _ _ _ (by omega)]
      · have h1 : k - 4 * j = 0 := by omega
        have h2 : k + 1 - 4 * j = 0 := by omega
        rw [h1, h2]
  · have := hs k; have := hs (k + 1)
    rw [if_neg (by omega), Array.getElem?_eq_none (by omega), Array.getElem?_eq_none (by omega)]
theorem pwC_start (x : ByteArray) : pwC x 0 = #[.int .u32 0, .int .u32 0, .int .u32 0, .int .u32 0, .int .u32 0, .int .u32 0, .int .u32 0, .int .u32 0, .int .u32 0, .int .u32 0, .int .u32 0, .int .u32 0, .int .u32 0, .int .u32 0, .int .u32 0, .int .u32 0] := by
  have : pwL x 0 = List.replicate 16 0 := by
    unfold pwL
    apply List.ext_getElem (by simp)
    intro j a b
    rw [List.getElem_replicate, List.getElem_map, List.getElem_range]; unfold pw; rw [if_pos (by omega)]
  unfold pwC; rw [this]; rfl
def stCells (s : St) : Array Value := #[.int .u32 s.a, .int .u32 s.b, .int .u32 s.c, .int .u32 s.d] ++ (kL.map (Value.int .u32)).toArray
theorem stCells_k (s : St) (i : Nat) (h : i < 64) : (stCells s)[4 + i]? = some (.int .u32 (fK i)) := by
  have hl : kL.length = 64 := by decide
  unfold stCells
  rw [Array.getElem?_append_right (by simp)]
  simp only [List.size_toArray, List.length_cons, List.length_nil, Nat.reduceAdd, Nat.add_sub_cancel_left]
  rw [List.getElem?_toArray, List.getElem?_map, List.getElem?_eq_getElem (by omega)]
  unfold fK; rw [getD_lt _ _ _ (by omega)]; rfl
theorem stCells_h (s : St) : (stCells s)[0]? = some (.int .u32 s.a) ∧ (stCells s)[1]? = some (.int .u32 s.b) ∧ (stCells s)[2]? = some (.int .u32 s.c) ∧ (stCells s)[3]? = some (.int .u32 s.d) := by
  unfold stCells
  refine ⟨?_, ?_, ?_, ?_⟩ <;> (rw [Array.getElem?_append_left (by simp)]; rfl)
theorem gr_of_below {w w' : World} {g : Nat} (h : Below w.heap.size w w') (_ : True ∨ g = g) : w.grownBy w' (some g) := ⟨h.os, h.tape, h.output, h.size, fun i hi _ => h.block i hi⟩
def stMix (s R : St) (k : Nat) : St := ⟨if 1 ≤ k then (s.a + R.a) % 4294967296 else s.a, if 2 ≤ k then (s.b + R.b) % 4294967296 else s.b, if 3 ≤ k then (s.c + R.c) % 4294967296 else s.c, if 4 ≤ k then (s.d + R.d) % 4294967296 else s.d⟩
theorem set_app (A K : Array Value) (j : Nat) (h : j < A.size) (v : Value) : (A ++ K).setIfInBounds j v = A.setIfInBounds j v ++ K := by
  apply Array.toList_inj.1
  rw [Array.toList_setIfInBounds, Array.toList_append, Array.toList_append, Array.toList_setIfInBounds, List.set_append_left _ _ (by simpa using h)]
theorem stMix_step0 (s R : St) : (stCells (stMix s R 0)).setIfInBounds 0 (.int .u32 ((s.a + R.a) % 4294967296)) = stCells (stMix s R 1) := by
  unfold stCells; rw [set_app _ _ _ (by simp)]; rfl
theorem stMix_step1 (s R : St) : (stCells (stMix s R 1)).setIfInBounds 1 (.int .u32 ((s.b + R.b) % 4294967296)) = stCells (stMix s R 2) := by
  unfold stCells; rw [set_app _ _ _ (by simp)]; rfl
theorem stMix_step2 (s R : St) : (stCells (stMix s R 2)).setIfInBounds 2 (.int .u32 ((s.c + R.c) % 4294967296)) = stCells (stMix s R 3) := by
  unfold stCells; rw [set_app _ _ _ (by simp)]; rfl
theorem stMix_step3 (s R : St) : (stCells (stMix s R 3)).setIfInBounds 3 (.int .u32 ((s.d + R.d) % 4294967296)) = stCells (stMix s R 4) := by
  unfold stCells; rw [set_app _ _ _ (by simp)]; rfl
def T2 (g : Nat) (w : World) (x : ByteArray) (s : St) (w2 : World) : Prop := (∀ j, j < 16 → w2.cell? ⟨w.heap.size, j, none⟩ = some (.int .u32 (wd x j))) ∧ Blk w2 g 89 (stCells s) ∧ Below w.heap.size w w2
set_option maxRecDepth 100000 in
set_option maxHeartbeats 4000000 in
theorem turn_any (g : Nat) (s : St) (x : ByteArray) (w : World) (hg : Blk w g 89 (stCells s)) (hx : x.size = 64) (hs : s.ok) :
    Calls Try.prog 43 #[.pointer (some ⟨g, 0, none⟩), .string x] w fun e w' => e = .returned (.tuple #[]) ∧ Blk w' g 89 (stCells (blk s x)) ∧ w.grownBy w' (some g) := by
  have HG := Lib.hid hg; have HX := Lib.hid hx; have HS := Lib.hid hs
  have hglt := hg.lt
  have x64 : 64 ≤ x.size := by omega
  clear hg hx hs
  go_enter Try.func43, Try.ntmps43
  go_wp2_with fail
  go_loopw [15] (fun i wr => ∃ k : Nat, i = .int .i64 k ∧ k ≤ 64 ∧ Blk wr w.heap.size 92 (pwC x k) ∧ Below w.heap.size w wr) (fun i _ => 64 - (intOf i).toNat)
  case atStart => exact ⟨0, rfl, by omega, by rw [pwC_start]; exact heap_alloc_new w _, (Below.refl _ _).alloc (Nat.le_refl _) _⟩
  case round =>
    obtain ⟨k, rfl, hk, hblk, hgr⟩ := hrel
    by_cases hlt : k < 64
    · have y1 : (k : Int) < 64 := by omega
      obtain ⟨q, hq⟩ : ∃ q, k / 4 = q := ⟨_, rfl⟩
      obtain ⟨r, hr⟩ : ∃ r, k % 4 = r := ⟨_, rfl⟩
      have hkqr : k = 4 * q + r := by omega
      have hq16 : q < 16 := by omega
      have hr4 : r < 4 := by omega
      have hst := pwC_step x k q r hkqr hr4 hq16
      have hcell : wr.cell? ⟨w.heap.size, q, none⟩ = some (.int .u32 (pw x q r)) := by
        rw [hblk.cell, pwC_get x k q hq16]; congr 3; omega
      have hfr := hblk.frozen
      have hor := pw_step x q r hr4
      rw [← hkqr] at hor
      obtain ⟨p0, p1⟩ := pw_rng x q r (by omega)
      obtain ⟨b0, b1⟩ := byt_range x k
      have hqi : (k : Int) / 4 = (q : Int) := by omega
      have hri : (k : Int).tmod 4 = (r : Int) := by rw [Int.tmod_eq_emod_of_nonneg (by omega)]; omega
      have kx : k < x.size := by omega
      have HST := Lib.hid hst; have HBLK := Lib.hid hblk; have HK := Lib.hid hkqr; have HGR := Lib.hid hgr
      clear hst hblk hkqr hq hr hgr
      go_wp2_with fail
      have hwq : IntKind.i64.wrap (q : Int) = q := IntWalk.i64_in _ (by omega)
      have hwr : IntKind.i64.wrap (r : Int) = r := IntWalk.i64_in _ (by omega)
      have hqI : (q : Int) < 16 := by omega
      have hqJ : 0 ≤ (q : Int) := by omega
      have hwb : IntKind.u32.wrap (byt x k) = byt x k := by rw [IntKind.wrap_u32]; omega
      rcases (by omega : r = 0 ∨ r = 1 ∨ r = 2 ∨ r = 3) with rfl | rfl | rfl | rfl
      all_goals
        have w0 : IntKind.i64.wrap 0 = 0 := by decide
        have w8 : IntKind.i64.wrap 8 = 8 := by decide
        have w16 : IntKind.i64.wrap 16 = 16 := by decide
        have w24 : IntKind.i64.wrap 24 = 24 := by decide
        have v1 : IntKind.u32.wrap (byt x k * 256) = byt x k * 256 := by rw [IntKind.wrap_u32]; omega
        have v2 : IntKind.u32.wrap (byt x k * 65536) = byt x k * 65536 := by rw [IntKind.wrap_u32]; omega
        have v3 : IntKind.u32.wrap (byt x k * 16777216) = byt x k * 16777216 := by rw [IntKind.wrap_u32]; omega
        simp at hor
        clear p0 p1
        (refine region_tail 14 (by kernel_rfl) (by kernel_rfl) ?_; simp only [List.take_succ_cons, List.take_zero, List.drop_succ_cons, List.drop_zero]; (repeat (first | (refine wpStill_step (fun K hK => ?_); go_simp; refine hK _ ?_; clear hK K) | (refine wpStill_step (fun K hK => ?_); go_simp; refine ⟨_, rfl, hK _ ?_⟩; clear hK K))); refine wpStill_nil ?_)
        clear v1 v2 v3 w0 w8 w16 w24 hwq hwr hqi hri hor
        go_wp2_with fail
        go_roundw
        case rel =>
          refine ⟨k + 1, by go_num, by omega, ?_, ?_⟩
          · rw [← HST.out]; exact (HBLK.out.drew).set_ q _
          · exact (HGR.out.drew).setCell (Nat.le_refl _) _
        case measure => simp [intOf]; omega
    · obtain rfl : k = 64 := by omega
      have hpl : pwL x 64 = (List.range 16).map (wd x) := by
        unfold pwL
        exact List.map_congr_left (fun j hj => by have := List.mem_range.1 hj; exact pw_full _ _ _ (by omega))
      have hcw : ∀ j, j < 16 → wr.cell? ⟨w.heap.size, j, none⟩ = some (.int .u32 (wd x j)) := fun j hj => by rw [hblk.cell]; unfold pwC; rw [hpl]; simp [hj]
      have hgb := HG.out.below hgr hglt
      have HBG := Lib.hid hgb; have HW := Lib.hid hcw; have HGR := Lib.hid hgr
      have hst := HS.out
      obtain ⟨⟨a0, a1⟩, ⟨b0, b1⟩, ⟨c0, c1⟩, ⟨d0, d1⟩⟩ := hst
      have g0 : wr.cell? ⟨g, 0, none⟩ = some (.int .u32 s.a) := by rw [hgb.cell]; exact (stCells_h s).1
      have g1 : wr.cell? ⟨g, 1, none⟩ = some (.int .u32 s.b) := by rw [hgb.cell]; exact (stCells_h s).2.1
      have g2 : wr.cell? ⟨g, 2, none⟩ = some (.int .u32 s.c) := by rw [hgb.cell]; exact (stCells_h s).2.2.1
      have g3 : wr.cell? ⟨g, 3, none⟩ = some (.int .u32 s.d) := by rw [hgb.cell]; exact (stCells_h s).2.2.2
      clear hgb hcw hpl hblk hgr
      go_wp2_with fail
      go_quiet (fail)
      clear g0 g1 g2 g3
      go_wp2_with fail
      go_loopw [6, 7, 8, 9, 53] (fun a b c d i w2 => ∃ k : Nat, i = .int .i64 k ∧ k ≤ 64 ∧ a = .int .u32 (rnds (wd x) s k).a ∧ b = .int .u32 (rnds (wd x) s k).b ∧ c = .int .u32 (rnds (wd x) s k).c ∧ d = .int .u32 (rnds (wd x) s k).d ∧ T2 g w x s w2) (fun _ _ _ _ i _ => 64 - (intOf i).toNat)
      case atStart => exact ⟨0, rfl, by omega, rfl, rfl, rfl, rfl, HW.out, HBG.out, below_drewN HGR.out _⟩
      case round =>
        obtain ⟨k, rfl, hk2, rfl, rfl, rfl, rfl, hcw2, hbg2, hbel2⟩ := hrel
        have hok := rnds_ok (W := wd x) HS.out k
        have hsucc : rnds (wd x) s (k + 1) = rnd (wd x) k (rnds (wd x) s k) := rfl
        have hend : k = 64 → rnds (wd x) s k = rnds (wd x) s 64 := fun h => by rw [h]
        generalize rnds (wd x) s k = R at hok hsucc hend ⊢
        obtain ⟨⟨ra0, ra1⟩, ⟨rb0, rb1⟩, ⟨rc0, rc1⟩, ⟨rd0, rd1⟩⟩ := hok
        have HCW := Lib.hid hcw2; have HBG2 := Lib.hid hbg2; have HBEL2 := Lib.hid hbel2; have HSU := Lib.hid hsucc; have HEN := Lib.hid hend
        clear hcw2 hsucc hend
        by_cases hlt2 : k < 64
        · have y2 : (k : Int) < 64 := by omega
          obtain ⟨F, hF⟩ : ∃ F, fF k R.b R.c R.d = F := ⟨_, rfl⟩
          obtain ⟨G, hG⟩ : ∃ G, fG k = G := ⟨_, rfl⟩
          obtain ⟨T, hT⟩ : ∃ T, fT k = T := ⟨_, rfl⟩
          obtain ⟨Kk, hK⟩ : ∃ Kk, fK k = Kk := ⟨_, rfl⟩
          obtain ⟨Wg, hW⟩ : ∃ Wg, wd x G = Wg := ⟨_, rfl⟩
          have fr := fF_rng k R.b R.c R.d; rw [hF] at fr
          have gr := fG_lt k hlt2; rw [hG] at gr
          have tr := fT_rng k hlt2; rw [hT] at tr
          have kr := fK_rng k hlt2; rw [hK] at kr
          have wr2 := wd_rng x G; rw [hW] at wr2
          obtain ⟨X1, h1⟩ : ∃ X1, (R.a + F) % 4294967296 = X1 := ⟨_, rfl⟩
          obtain ⟨X2, h2⟩ : ∃ X2, (X1 + Kk) % 4294967296 = X2 := ⟨_, rfl⟩
          obtain ⟨X3, h3⟩ : ∃ X3, (X2 + Wg) % 4294967296 = X3 := ⟨_, rfl⟩
          obtain ⟨Rt, hRt⟩ : ∃ Rt, rotl X3 T = Rt := ⟨_, rfl⟩
          have rr := rotl_rng X3 T; rw [hRt] at rr
          obtain ⟨B', hB'⟩ : ∃ B', (R.b + Rt) % 4294967296 = B' := ⟨_, rfl⟩
          have hfin : rnd (wd x) k R = ⟨R.d, B', R.b, R.c⟩ := by
            unfold rnd inner
            rw [hG, hW, hF, hK, hT]
            have : (R.a + F + Kk + Wg) % 4294967296 = X3 := by omega
            rw [this, hRt, hB']
          have cm : ∀ W : World, Calls Try.prog 44 #[.int .i64 k, .int .u32 R.b, .int .u32 R.c, .int .u32 R.d] W fun e w' => e = .returned (.tuple #[.int .u32 F, .int .i64 G]) ∧ W = w' := fun W => by rw [← hF, ← hG]; exact mix_any k _ _ _ W hlt2
          have ct : ∀ W : World, Calls Try.prog 46 #[.int .i64 k] W fun e w' => e = .returned (.int .i64 T) ∧ w' = W := fun W => (turns_any k W hlt2).mono (fun e w' h => ⟨by rw [h.1, hT], h.2.symm⟩)
          have cr : ∀ W : World, Calls Try.prog 45 #[.int .u32 X3, .int .i64 T] W fun e w' => e = .returned (.int .u32 Rt) ∧ w' = W := fun W => (rot_any X3 T W (by omega) (by omega) tr.1 tr.2).mono (fun e w' h => ⟨by rw [h.1, hRt], h.2.symm⟩)
          have CM := Lib.hid cm; have CT := Lib.hid ct; have CR := Lib.hid cr; have HFIN := Lib.hid hfin
          have q1 : IntKind.u32.wrap (R.a + F) = X1 := by rw [IntKind.wrap_u32]; omega
          have q2 : IntKind.u32.wrap (X1 + Kk) = X2 := by rw [IntKind.wrap_u32]; omega
          have q3 : IntKind.u32.wrap (X2 + Wg) = X3 := by rw [IntKind.wrap_u32]; omega
          have q4 : IntKind.u32.wrap (R.b + Rt) = B' := by rw [IntKind.wrap_u32]; omega
          have ck : wr.cell? ⟨g, 4 + k, none⟩ = some (.int .u32 Kk) := by rw [hbg2.cell, stCells_k s k hlt2, hK]
          have cw : wr.cell? ⟨w.heap.size, G, none⟩ = some (.int .u32 Wg) := by rw [HCW.out G gr, hW]
          have gI : (G : Int) < 16 := by omega
          clear cm ct cr hfin hF hG hT hK hW h1 h2 h3 hRt hB' fr kr wr2 rr tr gr hbg2 hbel2
          go_wp2_with fail
          refine (CM.out _).mono ?_
          rintro e w' ⟨rfl, rfl⟩
          go_wp2_with fail
          go_quiet ((first | (go_at_call 46; exact Calls.quiet_of_same (CT.out _)) | (go_at_call 45; exact Calls.quiet_of_same (CR.out _))))
          clear q1 q2 q3 q4 ck cw
          go_wp2_with fail
          go_roundw
          case rel =>
            (repeat apply Exists.intro)
            refine And.symm ⟨rfl, ?_⟩
            refine ⟨k + 1, by go_num, by omega, ?_, ?_, ?_, ?_, HCW.out, HBG2.out, below_drewN HBEL2.out _⟩
            all_goals rw [HSU.out, HFIN.out]
          case measure => simp [intOf]; omega
        · obtain rfl : k = 64 := by omega
          have hR := HEN.out rfl
          have HR := Lib.hid hR
          clear hR
          go_wp2_with fail
          have hgl0 : Blk wr g 89 (stCells (stMix s R 0)) := hbg2
          go_loopw [92] (fun i w3 => ∃ k : Nat, i = .int .i64 k ∧ k ≤ 4 ∧ Blk w3 g 89 (stCells (stMix s R k)) ∧ w.grownBy w3 (some g)) (fun i _ => 4 - (intOf i).toNat)
          case atStart => exact ⟨0, rfl, by omega, hgl0, gr_of_below (g := g) hbel2 (.inr rfl)⟩
          case round =>
            clear hgl0 hbg2 hbel2
            obtain ⟨j, rfl, hj, hbg, hgr⟩ := hrel
            have HB3 := Lib.hid hbg; have HG3 := Lib.hid hgr
            have hfr := hbg.frozen
            have hc := fun i => hbg.cell i
            rcases (by omega : j = 0 ∨ j = 1 ∨ j = 2 ∨ j = 3 ∨ j = 4) with rfl | rfl | rfl | rfl | rfl
            · have c1 : wr.cell? ⟨g, 0, none⟩ = some (.int .u32 s.a) := by rw [hc]; exact (stCells_h _).1
              have i1 : ∀ W : World, (Instr.index 85 (.agg #[.int .u32 R.a, .int .u32 R.b, .int .u32 R.c, .int .u32 R.d]) (.int .i64 0)).run Try.prog W = .ok (.int .u32 R.a) W := fun _ => by kernel_rfl
              have q1 : IntKind.u32.wrap (s.a + R.a) = (s.a + R.a) % 4294967296 := IntKind.wrap_u32 _
              clear hbg hgr hc
              go_wp2_with fail
              (refine region_tail 11 (by kernel_rfl) (by kernel_rfl) ?_; simp only [List.take_succ_cons, List.take_zero, List.drop_succ_cons, List.drop_zero]; (repeat (first | (refine wpStill_step (fun K hK => ?_); go_simp; refine hK _ ?_; clear hK K) | (refine wpStill_step (fun K hK => ?_); go_simp; refine ⟨_, rfl, hK _ ?_⟩; clear hK K))); refine wpStill_nil ?_)
              go_wp2_with fail
              go_roundw
              case rel =>
                refine ⟨1, rfl, by omega, ?_, gr_set (gr_drew HG3.out) (.inl rfl) _⟩
                have h := (HB3.out.drew).set_ 0 (.int .u32 ((s.a + R.a) % 4294967296))
                rw [stMix_step0] at h
                exact h
              case measure => simp [intOf]
            · have c1 : wr.cell? ⟨g, 1, none⟩ = some (.int .u32 s.b) := by rw [hc]; exact (stCells_h _).2.1
              have i1 : ∀ W : World, (Instr.index 85 (.agg #[.int .u32 R.a, .int .u32 R.b, .int .u32 R.c, .int .u32 R.d]) (.int .i64 1)).run Try.prog W = .ok (.int .u32 R.b) W := fun _ => by kernel_rfl
              have q1 : IntKind.u32.wrap (s.b + R.b) = (s.b + R.b) % 4294967296 := IntKind.wrap_u32 _
              clear hbg hgr hc
              go_wp2_with fail
              (refine region_tail 11 (by kernel_rfl) (by kernel_rfl) ?_; simp only [List.take_succ_cons, List.take_zero, List.drop_succ_cons, List.drop_zero]; (repeat (first | (refine wpStill_step (fun K hK => ?_); go_simp; refine hK _ ?_; clear hK K) | (refine wpStill_step (fun K hK => ?_); go_simp; refine ⟨_, rfl, hK _ ?_⟩; clear hK K))); refine wpStill_nil ?_)
              go_wp2_with fail
              go_roundw
              case rel =>
                refine ⟨2, rfl, by omega, ?_, gr_set (gr_drew HG3.out) (.inl rfl) _⟩
                have h := (HB3.out.drew).set_ 1 (.int .u32 ((s.b + R.b) % 4294967296))
                rw [stMix_step1] at h
                exact h
              case measure => simp [intOf]
            · have c1 : wr.cell? ⟨g, 2, none⟩ = some (.int .u32 s.c) := by rw [hc]; exact (stCells_h _).2.2.1
              have i1 : ∀ W : World, (Instr.index 85 (.agg #[.int .u32 R.a, .int .u32 R.b, .int .u32 R.c, .int .u32 R.d]) (.int .i64 2)).run Try.prog W = .ok (.int .u32 R.c) W := fun _ => by kernel_rfl
              have q1 : IntKind.u32.wrap (s.c + R.c) = (s.c + R.c) % 4294967296 := IntKind.wrap_u32 _
              clear hbg hgr hc
              go_wp2_with fail
              (refine region_tail 11 (by kernel_rfl) (by kernel_rfl) ?_; simp only [List.take_succ_cons, List.take_zero, List.drop_succ_cons, List.drop_zero]; (repeat (first | (refine wpStill_step (fun K hK => ?_); go_simp; refine hK _ ?_; clear hK K) | (refine wpStill_step (fun K hK => ?_); go_simp; refine ⟨_, rfl, hK _ ?_⟩; clear hK K))); refine wpStill_nil ?_)
              go_wp2_with fail
              go_roundw
              case rel =>
                refine ⟨3, rfl, by omega, ?_, gr_set (gr_drew HG3.out) (.inl rfl) _⟩
                have h := (HB3.out.drew).set_ 2 (.int .u32 ((s.c + R.c) % 4294967296))
                rw [stMix_step2] at h
                exact h
              case measure => simp [intOf]
            · have c1 : wr.cell? ⟨g, 3, none⟩ = some (.int .u32 s.d) := by rw [hc]; exact (stCells_h _).2.2.2
              have i1 : ∀ W : World, (Instr.index 85 (.agg #[.int .u32 R.a, .int .u32 R.b, .int .u32 R.c, .int .u32 R.d]) (.int .i64 3)).run Try.prog W = .ok (.int .u32 R.d) W := fun _ => by kernel_rfl
              have q1 : IntKind.u32.wrap (s.d + R.d) = (s.d + R.d) % 4294967296 := IntKind.wrap_u32 _
              clear hbg hgr hc
              go_wp2_with fail
              (refine region_tail 11 (by kernel_rfl) (by kernel_rfl) ?_; simp only [List.take_succ_cons, List.take_zero, List.drop_succ_cons, List.drop_zero]; (repeat (first | (refine wpStill_step (fun K hK => ?_); go_simp; refine hK _ ?_; clear hK K) | (refine wpStill_step (fun K hK => ?_); go_simp; refine ⟨_, rfl, hK _ ?_⟩; clear hK K))); refine wpStill_nil ?_)
              go_wp2_with fail
              go_roundw
              case rel =>
                refine ⟨4, rfl, by omega, ?_, gr_set (gr_drew HG3.out) (.inl rfl) _⟩
                have h := (HB3.out.drew).set_ 3 (.int .u32 ((s.d + R.d) % 4294967296))
                rw [stMix_step3] at h
                exact h
              case measure => simp [intOf]
            · clear hc hfr hbg hgr
              go_wp2_with fail
              go_end0
              refine ⟨rfl, ?_, HG3.out⟩
              have h := HB3.out
              have e : stMix s R 4 = blk s x := by rw [HR.out]; rfl
              rw [e] at h
              exact h
end Go.Proofs.Ytdfefpbpfneahaa
