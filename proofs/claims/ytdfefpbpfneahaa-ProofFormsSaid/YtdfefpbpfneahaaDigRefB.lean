/- The contract of the reference's block: as the program's turn. No condition. -/
import Derived.Test.YtdfefpbpfneahaaDigRefA
namespace Go.Proofs.Ytdfefpbpfneahaa
open Go.RowKit
set_option linter.unusedVariables false
set_option linter.unusedSimpArgs false
attribute [local go_sem] conv1 conv1d conv1n conv1a conv1ad conv1an conv2 conv2d conv2n conv2a conv2ad conv2an conv4 conv4d conv4n conv4a conv4ad conv4an conv5 conv5d conv5n conv5a conv5ad conv5an size_nums byt_fold
theorem xor_nt (x : Int) : bits .xor .u32 x 4294967295 = nt x := by
  show IntKind.u32.wrap ((BitVec.ofInt 32 x ^^^ BitVec.ofInt 32 4294967295).toNat : Nat) = IntKind.u32.wrap ((BitVec.ofInt 32 IntKind.u32.max ^^^ BitVec.ofInt 32 x).toNat : Nat)
  rw [BitVec.xor_comm]; rfl
def mL (x : ByteArray) (k : Nat) : List Int := (List.range 16).map fun j => if j < k then wd x j else 0
def mC (x : ByteArray) (k : Nat) : Array Value := ((mL x k).map (Value.int .u32)).toArray
theorem mC_get (x : ByteArray) (k q : Nat) (hq : q < 16) : (mC x k)[q]? = some (.int .u32 (if q < k then wd x q else 0)) := by unfold mC mL; simp [hq]
theorem mC_step (x : ByteArray) (k : Nat) (hk : k < 16) : (mC x k).setIfInBounds k (.int .u32 (wd x k)) = mC x (k + 1) := by
  apply Array.ext_getElem?
  intro j
  rw [Array.getElem?_setIfInBounds]
  have hs : ∀ k, (mC x k).size = 16 := fun k => by simp [mC, mL]
  by_cases hj : j < 16
  · rw [mC_get x (k + 1) j hj, mC_get x k j hj]
    by_cases e : k = j
    · subst e
      rw [if_pos rfl, if_pos (by rw [hs]; omega), if_pos (by omega)]
    · rw [if_neg e]
      by_cases h : j < k
      · rw [if_pos h, if_pos (by omega)]
      · rw [if_neg h, if_neg (by omega)]
  · have := hs k; have := hs (k + 1)
    rw [if_neg (by omega), Array.getElem?_eq_none (by omega), Array.getElem?_eq_none (by omega)]
theorem mC_start (x : ByteArray) : mC x 0 = #[.int .u32 0, .int .u32 0, .int .u32 0, .int .u32 0, .int .u32 0, .int .u32 0, .int .u32 0, .int .u32 0, .int .u32 0, .int .u32 0, .int .u32 0, .int .u32 0, .int .u32 0, .int .u32 0, .int .u32 0, .int .u32 0] := by
  have : mL x 0 = List.replicate 16 0 := by
    unfold mL
    apply List.ext_getElem (by simp)
    intro j a b
    rw [List.getElem_replicate, List.getElem_map, if_neg (by omega)]
  unfold mC; rw [this]; rfl
def hC (s : St) : Array Value := #[.int .u32 s.a, .int .u32 s.b, .int .u32 s.c, .int .u32 s.d]
def R2 (w : World) (x : ByteArray) (wr : World) : Prop := Blk wr w.heap.size 76 (mC x 16) ∧ Below w.heap.size w wr
set_option maxRecDepth 100000 in
set_option maxHeartbeats 4000000 in
theorem rblock_any (g gb off gk ch cb ck : Nat) (s : St) (x : ByteArray) (w : World) (hg : Blk w g 76 (hC s)) (hne : g ≠ gk) (hb : ∀ j, j < 64 → w.cell? ⟨gb, off + j, none⟩ = some (.int .u8 (byt x j))) (hbl : gb < w.heap.size) (hk : Blk w gk 76 kArr) (hs : s.ok) (hck : 64 ≤ ck) (hcb : 64 ≤ cb) (hch : 4 ≤ ch) :
    Calls Try.prog 37 #[.slice (some ⟨g, 0, none⟩) 4 ch, .slice (some ⟨gb, off, none⟩) 64 cb, .slice (some ⟨gk, 0, none⟩) 64 ck] w fun e w' => e = .returned (.tuple #[]) ∧ Blk w' g 76 (hC (blk s x)) ∧ w.grownBy w' (some g) := by
  have HG := Lib.hid hg; have HB := Lib.hid hb; have HK := Lib.hid hk; have HS := Lib.hid hs
  have hglt := hg.lt
  have hklt := hk.lt
  clear hg hb hk hs
  have hmk : ∀ w : World, (Instr.makeSlice 77 (.int .i64 16) (.int .i64 16)).run Try.prog w = .ok (.slice (some ⟨w.heap.size, 0, none⟩) 16 16) (w.alloc (.cells #[.int .u32 0, .int .u32 0, .int .u32 0, .int .u32 0, .int .u32 0, .int .u32 0, .int .u32 0, .int .u32 0, .int .u32 0, .int .u32 0, .int .u32 0, .int .u32 0, .int .u32 0, .int .u32 0, .int .u32 0, .int .u32 0] 76)) := fun _ => by kernel_rfl
  go_enter Try.func37, Try.ntmps37
  go_wp2_with fail
  clear hmk
  go_loopw [7] (fun i wr => ∃ k : Nat, i = .int .i64 k ∧ k ≤ 16 ∧ Blk wr w.heap.size 76 (mC x k) ∧ Below w.heap.size w wr) (fun i _ => 16 - (intOf i).toNat)
  case atStart => exact ⟨0, rfl, by omega, by rw [mC_start]; exact heap_alloc_new w _, (Below.refl _ _).alloc (Nat.le_refl _) _⟩
  case round =>
    obtain ⟨k, rfl, hk, hblk, hgr⟩ := hrel
    by_cases hlt : k < 16
    · have y1 : (k : Int) < 16 := by omega
      obtain ⟨p0, h0⟩ : ∃ p0, 4 * k = p0 := ⟨_, rfl⟩
      obtain ⟨p1, h1⟩ : ∃ p1, p0 + 1 = p1 := ⟨_, rfl⟩
      obtain ⟨p2, h2⟩ : ∃ p2, p0 + 2 = p2 := ⟨_, rfl⟩
      obtain ⟨p3, h3⟩ : ∃ p3, p0 + 3 = p3 := ⟨_, rfl⟩
      have i0 : 4 * (k : Int) = (p0 : Int) := by omega
      have i1 : (p0 : Int) + 1 = (p1 : Int) := by omega
      have i2 : (p0 : Int) + 2 = (p2 : Int) := by omega
      have i3 : (p0 : Int) + 3 = (p3 : Int) := by omega
      have l0 : (p0 : Int) < 64 := by omega
      have l1 : (p1 : Int) < 64 := by omega
      have l2 : (p2 : Int) < 64 := by omega
      have l3 : (p3 : Int) < 64 := by omega
      have c0 : wr.cell? ⟨gb, off + p0, none⟩ = some (.int .u8 (byt x p0)) := (hgr.cell (p := ⟨gb, off + p0, none⟩) hbl).trans (HB.out p0 (by omega))
      have c1 : wr.cell? ⟨gb, off + p1, none⟩ = some (.int .u8 (byt x p1)) := (hgr.cell (p := ⟨gb, off + p1, none⟩) hbl).trans (HB.out p1 (by omega))
      have c2 : wr.cell? ⟨gb, off + p2, none⟩ = some (.int .u8 (byt x p2)) := (hgr.cell (p := ⟨gb, off + p2, none⟩) hbl).trans (HB.out p2 (by omega))
      have c3 : wr.cell? ⟨gb, off + p3, none⟩ = some (.int .u8 (byt x p3)) := (hgr.cell (p := ⟨gb, off + p3, none⟩) hbl).trans (HB.out p3 (by omega))
      have hwd : byt x p0 + byt x p1 * 256 + byt x p2 * 65536 + byt x p3 * 16777216 = wd x k := by unfold wd; rw [h0, h1, h2, h3]
      obtain ⟨b00, b01⟩ := byt_range x p0; obtain ⟨b10, b11⟩ := byt_range x p1; obtain ⟨b20, b21⟩ := byt_range x p2; obtain ⟨b30, b31⟩ := byt_range x p3
      generalize byt x p0 = B0 at *
      generalize byt x p1 = B1 at *
      generalize byt x p2 = B2 at *
      generalize byt x p3 = B3 at *
      have o1 := or_low32 8 B0 (B1 * 256) (by omega) (by omega) (by omega) (by omega) (by omega) (by omega)
      have o2 := or_low32 16 (B0 + B1 * 256) (B2 * 65536) (by omega) (by omega) (by omega) (by omega) (by omega) (by omega)
      have o3 := or_low32 24 (B0 + B1 * 256 + B2 * 65536) (B3 * 16777216) (by omega) (by omega) (by omega) (by omega) (by omega) (by omega)
      have cm : wr.cell? ⟨w.heap.size, k, none⟩ = some (.int .u32 0) := by rw [hblk.cell, mC_get x k k hlt, if_neg (by omega)]
      have hfr := hblk.frozen
      have HST := Lib.hid (mC_step x k hlt); have HBLK := Lib.hid hblk; have HGR := Lib.hid hgr; have HWD := Lib.hid hwd
      clear h0 h1 h2 h3 hblk hgr hwd
      go_wp2_with fail
      have w0 : IntKind.i64.wrap (p0 : Int) = p0 := IntWalk.i64_in _ (by omega)
      have w1 : IntKind.i64.wrap (p1 : Int) = p1 := IntWalk.i64_in _ (by omega)
      have w2 : IntKind.i64.wrap (p2 : Int) = p2 := IntWalk.i64_in _ (by omega)
      have w3 : IntKind.i64.wrap (p3 : Int) = p3 := IntWalk.i64_in _ (by omega)
      have v0 : IntKind.u32.wrap B0 = B0 := by rw [IntKind.wrap_u32]; omega
      have v1 : IntKind.u32.wrap B1 = B1 := by rw [IntKind.wrap_u32]; omega
      have v2 : IntKind.u32.wrap B2 = B2 := by rw [IntKind.wrap_u32]; omega
      have v3 : IntKind.u32.wrap B3 = B3 := by rw [IntKind.wrap_u32]; omega
      have t1 : IntKind.u32.wrap (B1 * 256) = B1 * 256 := by rw [IntKind.wrap_u32]; omega
      have t2 : IntKind.u32.wrap (B2 * 65536) = B2 * 65536 := by rw [IntKind.wrap_u32]; omega
      have t3 : IntKind.u32.wrap (B3 * 16777216) = B3 * 16777216 := by rw [IntKind.wrap_u32]; omega
      (refine region_tail 36 (by kernel_rfl) (by kernel_rfl) ?_; simp only [List.take_succ_cons, List.take_zero, List.drop_succ_cons, List.drop_zero]; (repeat (first | (refine wpStill_step (fun K hK => ?_); go_simp; refine hK _ ?_; clear hK K) | (refine wpStill_step (fun K hK => ?_); go_simp; refine ⟨_, rfl, hK _ ?_⟩; clear hK K))); refine wpStill_nil ?_)
      clear w0 w1 w2 w3 v0 v1 v2 v3 t1 t2 t3 o1 o2 o3 i0 i1 i2 i3
      go_wp2_with fail
      go_roundw
      case rel =>
        refine ⟨k + 1, by go_num, by omega, ?_, (HGR.out.drew).setCell (Nat.le_refl _) _⟩
        rw [← HST.out, ← HWD.out]
        exact (HBLK.out.drew).set_ k _
      case measure => simp [intOf]; omega
    · obtain rfl : k = 16 := by omega
      have hgb := HG.out.below hgr hglt
      have HR2 : Hid (R2 w x wr) := Lib.hid ⟨hblk, hgr⟩
      have hst := HS.out
      obtain ⟨⟨a0, a1⟩, ⟨b0, b1⟩, ⟨c0, c1⟩, ⟨d0, d1⟩⟩ := hst
      have g0 : wr.cell? ⟨g, 0, none⟩ = some (.int .u32 s.a) := by rw [hgb.cell]; rfl
      have g1 : wr.cell? ⟨g, 1, none⟩ = some (.int .u32 s.b) := by rw [hgb.cell]; rfl
      have g2 : wr.cell? ⟨g, 2, none⟩ = some (.int .u32 s.c) := by rw [hgb.cell]; rfl
      have g3 : wr.cell? ⟨g, 3, none⟩ = some (.int .u32 s.d) := by rw [hgb.cell]; rfl
      clear hgb hblk hgr
      go_wp2_with fail
      go_quiet (fail)
      clear g0 g1 g2 g3
      go_wp2_with fail
      go_loopw [8, 9, 10, 11, 12] (fun a b c d i w2 => ∃ k : Nat, i = .int .i64 k ∧ k ≤ 64 ∧ a = .int .u32 (rnds (wd x) s k).a ∧ b = .int .u32 (rnds (wd x) s k).b ∧ c = .int .u32 (rnds (wd x) s k).c ∧ d = .int .u32 (rnds (wd x) s k).d ∧ R2 w x w2) (fun _ _ _ _ i _ => 64 - (intOf i).toNat)
      case atStart => exact ⟨0, rfl, by omega, rfl, rfl, rfl, rfl, HR2.out.1, below_drewN HR2.out.2 _⟩
      case round =>
        clear HR2
        obtain ⟨k, rfl, hk2, rfl, rfl, rfl, rfl, hblk, hbel⟩ := hrel
        have hok := rnds_ok (W := wd x) HS.out k
        have hsucc : rnds (wd x) s (k + 1) = rnd (wd x) k (rnds (wd x) s k) := rfl
        have hend : k = 64 → rnds (wd x) s k = rnds (wd x) s 64 := fun h => by rw [h]
        generalize rnds (wd x) s k = R at hok hsucc hend ⊢
        obtain ⟨⟨ra0, ra1⟩, ⟨rb0, rb1⟩, ⟨rc0, rc1⟩, ⟨rd0, rd1⟩⟩ := hok
        have HBK := Lib.hid hblk; have HBE := Lib.hid hbel; have HSU := Lib.hid hsucc; have HEN := Lib.hid hend
        clear hsucc hend
        by_cases hlt2 : k < 64
        · have y2 : (k : Int) < 64 := by omega
          obtain ⟨F, hF⟩ : ∃ F, fF k R.b R.c R.d = F := ⟨_, rfl⟩
          obtain ⟨G, hG⟩ : ∃ G, fG k = G := ⟨_, rfl⟩
          obtain ⟨T, hT⟩ : ∃ T, fT k = T := ⟨_, rfl⟩
          obtain ⟨Kk, hK⟩ : ∃ Kk, fK k = Kk := ⟨_, rfl⟩
          obtain ⟨Wg, hW⟩ : ∃ Wg, wd x G = Wg := ⟨_, rfl⟩
          have fr := fF_rng k R.b R.c R.d; rw [hF] at fr
          have gr := fG_lt k hlt2; rw [hG] at gr
          have tr := fT_rng k hlt2; rw [hT] at tr
          have kr := fK_rng k hlt2; rw [hK] at kr
          have wr2 := wd_rng x G; rw [hW] at wr2
          obtain ⟨X1, h1⟩ : ∃ X1, (F + R.a) % 4294967296 = X1 := ⟨_, rfl⟩
          obtain ⟨X2, h2⟩ : ∃ X2, (X1 + Kk) % 4294967296 = X2 := ⟨_, rfl⟩
          obtain ⟨X3, h3⟩ : ∃ X3, (X2 + Wg) % 4294967296 = X3 := ⟨_, rfl⟩
          obtain ⟨Rt, hRt⟩ : ∃ Rt, rotl X3 T = Rt := ⟨_, rfl⟩
          have rr := rotl_rng X3 T; rw [hRt] at rr
          obtain ⟨B', hB'⟩ : ∃ B', (R.b + Rt) % 4294967296 = B' := ⟨_, rfl⟩
          have hfin : rnd (wd x) k R = ⟨R.d, B', R.b, R.c⟩ := by
            unfold rnd inner
            rw [hG, hW, hF, hK, hT]
            have : (R.a + F + Kk + Wg) % 4294967296 = X3 := by omega
            rw [this, hRt, hB']
          obtain ⟨U, hU⟩ : ∃ U, 32 - T = U := ⟨_, rfl⟩
          have s3 : bits .or .u32 (X3 * 2 ^ T % 4294967296) (X3 / 2 ^ U) = Rt := by rw [← hRt]; unfold rotl; rw [hU]
          obtain ⟨S1, s1⟩ : ∃ S1, X3 * 2 ^ T % 4294967296 = S1 := ⟨_, rfl⟩
          obtain ⟨S2, s2⟩ : ∃ S2, X3 / 2 ^ U = S2 := ⟨_, rfl⟩
          rw [s1, s2] at s3
          have s1' : IntKind.u32.wrap (X3 * 2 ^ T) = S1 := by rw [IntKind.wrap_u32]; exact s1
          have hUi : 32 - (T : Int) = (U : Int) := by omega
          have hUw : IntKind.i64.wrap (U : Int) = U := IntWalk.i64_in _ (by omega)
          have hUl : (U : Int) ≤ 32 := by omega
          have hTl : (T : Int) ≤ 32 := by omega
          have ct : ∀ W : World, Calls Try.prog 40 #[.int .i64 k] W fun e w' => e = .returned (.int .i64 T) ∧ Below W.heap.size W w' := fun W => (rturns_any k W hlt2).mono (fun e w' h => ⟨by rw [h.1, hT], h.2⟩)
          have CT := Lib.hid ct; have HFIN := Lib.hid hfin
          have q1 : IntKind.u32.wrap (F + R.a) = X1 := by rw [IntKind.wrap_u32]; omega
          have q2 : IntKind.u32.wrap (X1 + Kk) = X2 := by rw [IntKind.wrap_u32]; omega
          have q3 : IntKind.u32.wrap (X2 + Wg) = X3 := by rw [IntKind.wrap_u32]; omega
          have q4 : IntKind.u32.wrap (R.b + Rt) = B' := by rw [IntKind.wrap_u32]; omega
          have ck : wr.cell? ⟨gk, k, none⟩ = some (.int .u32 Kk) := by
            rw [(HK.out.below hbel hklt).cell, ← hK]
            have hl : kL.length = 64 := by decide
            unfold kArr fK
            rw [List.getElem?_toArray, List.getElem?_map, List.getElem?_eq_getElem (by omega), getD_lt _ _ _ (by omega)]; rfl
          have cw : wr.cell? ⟨w.heap.size, G, none⟩ = some (.int .u32 Wg) := by rw [hblk.cell, mC_get x 16 G gr, if_pos gr, hW]
          have gI : (G : Int) < 16 := by omega
          have hzr := hbel.size
          obtain ⟨q, hq⟩ : ∃ q, k / 16 = q := ⟨_, rfl⟩
          have hqi : (k : Int) / 16 = (q : Int) := by omega
          have HF := Lib.hid hF; have HGG := Lib.hid hG; have HQ := Lib.hid hq
          rcases (by omega : q = 0 ∨ q = 1 ∨ q = 2 ∨ q = 3) with rfl | rfl | rfl | rfl
          · simp at hqi
            have hFe : bits .or .u32 (bits .and .u32 R.b R.c) (bits .and .u32 (bits .xor .u32 R.b 4294967295) R.d) = F := by simp only [xor_nt]; rw [← hF]; unfold fF; rw [hq]; rfl
            have hGe : (k : Int) = (G : Int) := by rw [← hG]; unfold fG; rw [hq]; simp
            obtain rfl : k = G := by omega
            clear ct hfin hF hGe hG hT hK hW h1 h2 h3 hRt hB' fr kr wr2 rr tr gr hblk hbel hU s1 hq
            go_wp2_with fail
            go_quiet (fail)
            go_wp2_with fail
            refine (CT.out _).mono ?_
            rintro e w5 ⟨rfl, hb5⟩
            go_wp2_with fail
            go_quiet (fail)
            clear q1 q2 q3 q4 ck cw s1' s2 s3 hFe hUi hUw
            go_wp2_with fail
            go_roundw
            case rel =>
              have hbn : Below w.heap.size w w5 := below_step (below_drewN HBE.out _) hb5 hzr
              have hbk5 : Blk w5 w.heap.size 76 (mC x 16) := Blk.keep (HBK.out.drewN _) hb5
              (repeat apply Exists.intro)
              refine And.symm ⟨rfl, ?_⟩
              refine ⟨k + 1, by go_num, by omega, ?_, ?_, ?_, ?_, hbk5.drewN _, below_drewN hbn _⟩
              all_goals rw [HSU.out, HFIN.out]
            case measure => simp [intOf]; omega
          · simp at hqi
            have hFe : bits .or .u32 (bits .and .u32 R.d R.b) (bits .and .u32 (bits .xor .u32 R.d 4294967295) R.c) = F := by simp only [xor_nt]; rw [← hF]; unfold fF; rw [hq]; rfl
            have hGe : (5 * (k : Int) + 1) % 16 = (G : Int) := by rw [← hG]; unfold fG; rw [hq]; simp
            clear ct hfin hF hG hT hK hW h1 h2 h3 hRt hB' fr kr wr2 rr tr gr hblk hbel hU s1 hq
            go_wp2_with fail
            go_quiet (fail)
            go_wp2_with fail
            refine (CT.out _).mono ?_
            rintro e w5 ⟨rfl, hb5⟩
            go_wp2_with fail
            go_quiet (fail)
            clear q1 q2 q3 q4 ck cw s1' s2 s3 hFe hUi hUw hGe
            go_wp2_with fail
            go_roundw
            case rel =>
              have hbn : Below w.heap.size w w5 := below_step (below_drewN HBE.out _) hb5 hzr
              have hbk5 : Blk w5 w.heap.size 76 (mC x 16) := Blk.keep (HBK.out.drewN _) hb5
              (repeat apply Exists.intro)
              refine And.symm ⟨rfl, ?_⟩
              refine ⟨k + 1, by go_num, by omega, ?_, ?_, ?_, ?_, hbk5.drewN _, below_drewN hbn _⟩
              all_goals rw [HSU.out, HFIN.out]
            case measure => simp [intOf]; omega
          · simp at hqi
            have hFe : bits .xor .u32 (bits .xor .u32 R.b R.c) R.d = F := by rw [← hF]; unfold fF; rw [hq]; rfl
            have hGe : (3 * (k : Int) + 5) % 16 = (G : Int) := by rw [← hG]; unfold fG; rw [hq]; simp
            clear ct hfin hF hG hT hK hW h1 h2 h3 hRt hB' fr kr wr2 rr tr gr hblk hbel hU s1 hq
            go_wp2_with fail
            go_quiet (fail)
            go_wp2_with fail
            refine (CT.out _).mono ?_
            rintro e w5 ⟨rfl, hb5⟩
            go_wp2_with fail
            go_quiet (fail)
            clear q1 q2 q3 q4 ck cw s1' s2 s3 hFe hUi hUw hGe
            go_wp2_with fail
            go_roundw
            case rel =>
              have hbn : Below w.heap.size w w5 := below_step (below_drewN HBE.out _) hb5 hzr
              have hbk5 : Blk w5 w.heap.size 76 (mC x 16) := Blk.keep (HBK.out.drewN _) hb5
              (repeat apply Exists.intro)
              refine And.symm ⟨rfl, ?_⟩
              refine ⟨k + 1, by go_num, by omega, ?_, ?_, ?_, ?_, hbk5.drewN _, below_drewN hbn _⟩
              all_goals rw [HSU.out, HFIN.out]
            case measure => simp [intOf]; omega
          · simp at hqi
            have hFe : bits .xor .u32 R.c (bits .or .u32 R.b (bits .xor .u32 R.d 4294967295)) = F := by simp only [xor_nt]; rw [← hF]; unfold fF; rw [hq]; rfl
            have hGe : 7 * (k : Int) % 16 = (G : Int) := by rw [← hG]; unfold fG; rw [hq]; simp
            clear ct hfin hF hG hT hK hW h1 h2 h3 hRt hB' fr kr wr2 rr tr gr hblk hbel hU s1 hq
            go_wp2_with fail
            go_quiet (fail)
            go_wp2_with fail
            refine (CT.out _).mono ?_
            rintro e w5 ⟨rfl, hb5⟩
            go_wp2_with fail
            go_quiet (fail)
            clear q1 q2 q3 q4 ck cw s1' s2 s3 hFe hUi hUw hGe
            go_wp2_with fail
            go_roundw
            case rel =>
              have hbn : Below w.heap.size w w5 := below_step (below_drewN HBE.out _) hb5 hzr
              have hbk5 : Blk w5 w.heap.size 76 (mC x 16) := Blk.keep (HBK.out.drewN _) hb5
              (repeat apply Exists.intro)
              refine And.symm ⟨rfl, ?_⟩
              refine ⟨k + 1, by go_num, by omega, ?_, ?_, ?_, ?_, hbk5.drewN _, below_drewN hbn _⟩
              all_goals rw [HSU.out, HFIN.out]
            case measure => simp [intOf]; omega
        · obtain rfl : k = 64 := by omega
          have hR := HEN.out rfl
          have HR := Lib.hid hR
          clear hR
          have hgb := HG.out.below hbel hglt
          have g0 : wr.cell? ⟨g, 0, none⟩ = some (.int .u32 s.a) := by rw [hgb.cell]; rfl
          have g1 : wr.cell? ⟨g, 1, none⟩ = some (.int .u32 s.b) := by rw [hgb.cell]; rfl
          have g2 : wr.cell? ⟨g, 2, none⟩ = some (.int .u32 s.c) := by rw [hgb.cell]; rfl
          have g3 : wr.cell? ⟨g, 3, none⟩ = some (.int .u32 s.d) := by rw [hgb.cell]; rfl
          have hfr := hgb.frozen
          have HGB := Lib.hid hgb
          clear hgb hblk hbel
          go_wp2_with fail
          go_end0
          refine ⟨rfl, ?_, ?_⟩
          · have h := (((HGB.out.set_ 0 (.int .u32 ((s.a + R.a) % 4294967296))).set_ 1 (.int .u32 ((s.b + R.b) % 4294967296))).set_ 2 (.int .u32 ((s.c + R.c) % 4294967296))).set_ 3 (.int .u32 ((s.d + R.d) % 4294967296))
            have e : ((((hC s).setIfInBounds 0 (.int .u32 ((s.a + R.a) % 4294967296))).setIfInBounds 1 (.int .u32 ((s.b + R.b) % 4294967296))).setIfInBounds 2 (.int .u32 ((s.c + R.c) % 4294967296))).setIfInBounds 3 (.int .u32 ((s.d + R.d) % 4294967296)) = hC (blk s x) := by
              unfold blk; rw [← HR.out]; rfl
            rw [e] at h
            exact h
          · exact gr_set (gr_set (gr_set (gr_set (gr_of_below (g := g) HBE.out (.inr rfl)) (.inl rfl) _) (.inl rfl) _) (.inl rfl) _) (.inl rfl) _
end Go.Proofs.Ytdfefpbpfneahaa
