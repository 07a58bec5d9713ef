/- Statement PolicyNaks: the walk. No condition. -/
import Derived.Test.YtjmcgekegenobaaPolNp
import Derived.Test.YtjmcgekegenobaaPolT
import Derived.Test.YtjmcgekegenobaaPolG2
namespace Go.Proofs.Ytjmcgekegenobaa
open Go.RowKit
set_option linter.unusedVariables false
set_option linter.unusedSimpArgs false
attribute [local go_sem] conv1 conv1d conv1n conv1a conv1ad conv1an conv2 conv2d conv2n conv2a conv2ad conv2an conv4 conv4d conv4n conv4a conv4ad conv4an conv5 conv5d conv5n conv5a conv5ad conv5an size_nums byt_fold
def NakO (own : Lk) (L : List (Int × ByteArray)) (s0 : Tri) (B g bb : Nat) (A : Option Addr) (n : Nat) (w : World) (i : Nat) (wr : World) : Prop :=
  i ≤ n ∧ Blk wr bb 36 (cells3 (stN L s0 i)) ∧ Blk wr g 23 (lkC own) ∧ OptsAt wr A n L ∧ B ≤ wr.heap.size ∧ Below w.heap.size w wr
def NakI (own : Lk) (L : List (Int × ByteArray)) (s : Tri) (x : Int × ByteArray) (B g bb : Nat) (A : Option Addr) (n : Nat) (w : World) (k : Nat) (wr : World) : Prop :=
  k ≤ 3 ∧ Blk wr bb 36 (cells3 (part x s k)) ∧ Blk wr g 23 (lkC own) ∧ OptsAt wr A n L ∧ B ≤ wr.heap.size ∧ Below w.heap.size w wr
theorem OptsAt.far2 {w : World} {A : Option Addr} {n : Nat} {os : List (Int × ByteArray)} {bb i j : Nat} {a b : Value} (h : OptsAt w A n os) (hA : ∀ ad, A = some ad → ad.block ≠ bb) : OptsAt ((w.setCell ⟨bb, i, none⟩ a).setCell ⟨bb, j, none⟩ b) A n os := by
  refine ⟨h.1, fun hn => ?_⟩
  obtain ⟨c, off, rfl, hlt, hc⟩ := h.2 hn
  have hne : c ≠ bb := hA _ rfl
  refine ⟨c, off, rfl, by simpa using hlt, fun j hj => ?_⟩
  obtain ⟨c1, c2⟩ := hc j hj
  exact ⟨cellS (.inl hne) (cellS (.inl hne) c1), cellS (.inl hne) (cellS (.inl hne) c2)⟩
set_option maxRecDepth 100000 in
set_option maxHeartbeats 8000000 in
theorem naks_walk0 (magic unit mrru : Int) (g u v : Nat) (hg : bits .and .i64 magic 65535 = (g : Int)) (hu : bits .and .i64 unit 65535 = (u : Int)) (hv : bits .and .i64 mrru 65535 = (v : Int)) (G : Int) (d0 d1 d2 : ByteArray) (hG : wrap64 (1 + (g : Int)) = G) (hd0 : strOfNums [(u : Int) / 256 % 256, bits .and .i64 (u : Int) 255 % 256] = d0) (hd1 : strOfNums [0, G / 65536 % 256, bits .and .i64 (G / 256) 255 % 256, bits .and .i64 G 255 % 256] = d1) (hd2 : strOfNums [(v : Int) / 256 % 256, bits .and .i64 (v : Int) 255 % 256] = d2) (L : List (Int × ByteArray)) (hmay : mayB (ownN G) = true) (hfit : FitsAll (ls3 (d0, d1, d2))) (hj1 : judV (ownN G) (ls3 (d0, d1, d2)) = 1) (hj2 : judL (ownN G) (ls3 (d0, d1, d2)) = L) (hend : judV (ownN G) (ls3 (stN L (d0, d1, d2) L.length)) = 0 ∧ judL (ownN G) (ls3 (stN L (d0, d1, d2) L.length)) = ls3 (stN L (d0, d1, d2) L.length) ∧ FitsAll (ls3 (stN L (d0, d1, d2) L.length))) (w : World) : Calls Try.prog 7 #[.int .i64 magic, .int .i64 unit, .int .i64 mrru] w fun e w' => e = .returned (.bool true) ∧ Below w.heap.size w w' := by
  have HFIT := Lib.hid hfit; have HJ1 := Lib.hid hj1; have HJ2 := Lib.hid hj2; have HEND := Lib.hid hend
  clear hfit hj1 hj2 hend
  go_enter Try.func7, Try.ntmps7
  go_wp2_with fail
  refine (awake_any _).mono ?_
  rintro e w1 ⟨rfl, hb1⟩
  go_wp2_with fail
  obtain ⟨bb, hbb⟩ : ∃ bb, w1.heap.size + 1 + 1 + 1 + 1 = bb := ⟨_, rfl⟩
  rw [hbb]
  generalize hWB : (((w1.alloc _).alloc _).alloc _).alloc _ = WB
  have sB : WB.heap.size = bb := by rw [← hWB, ← hbb]; simp
  have gB : Blk WB w1.heap.size 23 (lkC (ownN G)) := by rw [← hWB]; exact (((Blk.new w1 _ _).alloc _).alloc _).alloc _
  have bB : Below w.heap.size w WB := by rw [← hWB]; exact (((hb1.alloc hb1.size _).alloc (by have := hb1.size; simp; omega) _).alloc (by have := hb1.size; simp; omega) _).alloc (by have := hb1.size; simp; omega) _
  clear hWB
  have oA : OptsAt (WB.alloc (.cells (cells3 (d0, d1, d2)) 36)) (some ⟨bb, 0, none⟩) 3 (ls3 (d0, d1, d2)) := OptsAt.made_at WB bb sB.symm _ _ _ 3 rfl rfl
  have kA : Blk (WB.alloc (.cells (cells3 (d0, d1, d2)) 36)) bb 36 (cells3 (d0, d1, d2)) := Blk.new_at _ _ sB.symm _ _
  have gA : Blk (WB.alloc (.cells (cells3 (d0, d1, d2)) 36)) w1.heap.size 23 (lkC (ownN G)) := gB.alloc _
  have bA : Below w.heap.size w (WB.alloc (.cells (cells3 (d0, d1, d2)) 36)) := bB.alloc bB.size _
  have zg : w1.heap.size ≠ bb := by omega
  refine (judge2_any (ownN G) (some ⟨bb, 0, none⟩) 3 3 (ls3 (d0, d1, d2)) (WB.alloc (.cells (cells3 (d0, d1, d2)) 36)) oA (by omega) (by intro h; cases h) (Nat.le_refl _) HFIT.out).mono ?_
  rintro e w2 h2
  obtain ⟨A2, n2, cap2, rfl, hr2, hb2, hfr⟩ := judge2_ok hmay h2
  clear h2
  rw [HJ2.out] at hr2
  rw [HJ1.out]
  have bel2 := below_step bA hb2 bA.size
  have kk2 := kA.keep hb2
  have gg2 := gA.keep hb2
  have hwb : w.heap.size ≤ bb := by have := bB.size; omega
  have hA2 : ∀ ad, A2 = some ad → ad.block ≠ bb := by intro ad e; have := hfr ad e; have := kA.lt; omega
  have hn2 : (n2 : Int) ≤ 9223372036854775807 := by have := hr2.2.1; omega
  have hlen := hr2.1.1
  have HR2 := Lib.hid hr2; have HK2 := Lib.hid kk2; have HG2 := Lib.hid gg2; have HA2 := Lib.hid hA2
  clear hr2 kk2 gg2 hA2 oA kA gA hfr
  have HLEN := Lib.hid hlen; clear hlen
  go_wp2_with (first | (go_at_call 11; refine (num_any _ _).mono ?_; rintro e w' ⟨rfl, rfl⟩))
  go_loopw [14] (fun i wr => ∃ k : Nat, i = .int .i64 k ∧ NakO (ownN G) L (d0, d1, d2) 0 w1.heap.size bb A2 n2 w k wr) (fun i _ => n2 - (intOf i).toNat)
  case atStart => exact ⟨0, rfl, Nat.zero_le _, HK2.out, HG2.out, HR2.out.1, Nat.zero_le _, bel2⟩
  case round =>
    obtain ⟨i, rfl, hi, hk, hgb, hos, -, hbel⟩ := hrel
    by_cases hlt : i < n2
    · obtain ⟨b, off, xk, xd, rfl, hb, hx, -, -⟩ := hos.at_ i hlt
      have hst := stN_succ (s := (d0, d1, d2)) hx
      obtain ⟨s, hs⟩ : ∃ s, stN L (d0, d1, d2) i = s := ⟨_, rfl⟩
      rw [hs] at hk hst
      have HX := Lib.hid hx; have HST := Lib.hid hst; have HKK := Lib.hid hk; have HGB := Lib.hid hgb; have HOS := Lib.hid hos
      clear hx hst hk hgb hos hs
      have hne : b ≠ bb := HA2.out _ rfl
      have hii : (i : Int) < (n2 : Int) := by omega
      have hi0 : (0 : Int) ≤ (i : Int) := by omega
      go_wp2_with fail
      go_loopw [15] (fun kv wr => ∃ k : Nat, kv = .int .i64 k ∧ NakI (ownN G) L s (xk, xd) 0 w1.heap.size bb (some ⟨b, off, none⟩) n2 w k wr) (fun kv _ => 3 - (intOf kv).toNat)
      case atStart => exact ⟨0, rfl, Nat.zero_le _, HKK.out, HGB.out, HOS.out, Nat.zero_le _, hbel⟩
      case round =>
        obtain ⟨k, rfl, hk, hkb, hgb, hos, -, hbel2⟩ := hrel
        have hlt2 := hkb.lt
        obtain ⟨b', off', xk', xd', eb, hb', hx', c1, c2⟩ := hos.at_ i hlt
        obtain ⟨rfl, rfl, -⟩ := Addr.mk.inj (Option.some.inj eb)
        rw [HX.out] at hx'
        obtain ⟨rfl, rfl⟩ := Prod.mk.inj (Option.some.inj hx')
        clear eb hx'
        have HKB := Lib.hid hkb; have HGB2 := Lib.hid hgb; have HOS2 := Lib.hid hos
        have hfz := hkb.frozen
        by_cases hk3 : k < 3
        · have hk3i : (k : Int) < 3 := by omega
          have hk0i : (0 : Int) ≤ (k : Int) := by omega
          rcases (by omega : k = 0 ∨ k = 1 ∨ k = 2) with rfl | rfl | rfl
          · have e0 : wr.cell? ⟨bb, 0, none⟩ = some (.int .i64 1) := hkb.cell 0
            have e1 : wr.cell? ⟨bb, 1, none⟩ = some (.string s.1) := hkb.cell 1
            clear hkb hgb hos
            by_cases hq : xk = 1
            · have q1 : ((1 : Int) == xk) = true := decide_eq_true hq.symm
              have q2 : decide ((1 : Int) = xk) = true := decide_eq_true hq.symm
              have hup : up (xk, xd) 1 s.1 = xd := if_pos hq
              have HUP := Lib.hid hup; clear hup
              go_wp2_with fail
              go_quiet (fail)
              go_wp2_with fail
              go_roundw
              case rel =>
                refine ⟨1, rfl, by omega, ?_, ((HGB2.out.drewN nq).far zg _).far zg _, OptsAt.far2 (w := wr.drewN nq) HOS2.out (fun ad e => by cases e; exact hne), Nat.zero_le _, Below.setCell (Below.setCell (by apply below_drewN; exact hbel2) hwb _) hwb _⟩
                show Blk _ bb _ (cells3 (up (xk, xd) 1 s.1, s.2.1, s.2.2))
                rw [HUP.out]
                exact ((HKB.out.drewN nq).set_ 0 (.int .i64 1)).set_ 1 (.string xd)
              case measure => simp [intOf]
            · have q1 : ((1 : Int) == xk) = false := decide_eq_false (fun h => hq h.symm)
              have q2 : decide ((1 : Int) = xk) = false := decide_eq_false (fun h => hq h.symm)
              have hup : up (xk, xd) 1 s.1 = s.1 := if_neg hq
              have HUP := Lib.hid hup; clear hup
              go_wp2_with fail
              go_quiet (fail)
              go_wp2_with fail
              go_roundw
              case rel =>
                refine ⟨1, rfl, by omega, ?_, HGB2.out.drewN nq, HOS2.out, Nat.zero_le _, by apply below_drewN; exact hbel2⟩
                show Blk _ bb _ (cells3 (up (xk, xd) 1 s.1, s.2.1, s.2.2))
                rw [HUP.out]
                exact HKB.out
              case measure => simp [intOf]
          · have e0 : wr.cell? ⟨bb, 2, none⟩ = some (.int .i64 5) := hkb.cell 2
            have e1 : wr.cell? ⟨bb, 3, none⟩ = some (.string s.2.1) := hkb.cell 3
            clear hkb hgb hos
            by_cases hq : xk = 5
            · have q1 : ((5 : Int) == xk) = true := decide_eq_true hq.symm
              have q2 : decide ((5 : Int) = xk) = true := decide_eq_true hq.symm
              have hup : up (xk, xd) 5 s.2.1 = xd := if_pos hq
              have HUP := Lib.hid hup; clear hup
              go_wp2_with fail
              go_quiet (fail)
              go_wp2_with fail
              go_roundw
              case rel =>
                refine ⟨2, rfl, by omega, ?_, ((HGB2.out.drewN nq).far zg _).far zg _, OptsAt.far2 (w := wr.drewN nq) HOS2.out (fun ad e => by cases e; exact hne), Nat.zero_le _, Below.setCell (Below.setCell (by apply below_drewN; exact hbel2) hwb _) hwb _⟩
                show Blk _ bb _ (cells3 (up (xk, xd) 1 s.1, up (xk, xd) 5 s.2.1, s.2.2))
                rw [HUP.out]
                exact ((HKB.out.drewN nq).set_ 2 (.int .i64 5)).set_ 3 (.string xd)
              case measure => simp [intOf]
            · have q1 : ((5 : Int) == xk) = false := decide_eq_false (fun h => hq h.symm)
              have q2 : decide ((5 : Int) = xk) = false := decide_eq_false (fun h => hq h.symm)
              have hup : up (xk, xd) 5 s.2.1 = s.2.1 := if_neg hq
              have HUP := Lib.hid hup; clear hup
              go_wp2_with fail
              go_quiet (fail)
              go_wp2_with fail
              go_roundw
              case rel =>
                refine ⟨2, rfl, by omega, ?_, HGB2.out.drewN nq, HOS2.out, Nat.zero_le _, by apply below_drewN; exact hbel2⟩
                show Blk _ bb _ (cells3 (up (xk, xd) 1 s.1, up (xk, xd) 5 s.2.1, s.2.2))
                rw [HUP.out]
                exact HKB.out
              case measure => simp [intOf]
          · have e0 : wr.cell? ⟨bb, 4, none⟩ = some (.int .i64 17) := hkb.cell 4
            have e1 : wr.cell? ⟨bb, 5, none⟩ = some (.string s.2.2) := hkb.cell 5
            clear hkb hgb hos
            by_cases hq : xk = 17
            · have q1 : ((17 : Int) == xk) = true := decide_eq_true hq.symm
              have q2 : decide ((17 : Int) = xk) = true := decide_eq_true hq.symm
              have hup : up (xk, xd) 17 s.2.2 = xd := if_pos hq
              have HUP := Lib.hid hup; clear hup
              go_wp2_with fail
              go_quiet (fail)
              go_wp2_with fail
              go_roundw
              case rel =>
                refine ⟨3, rfl, by omega, ?_, ((HGB2.out.drewN nq).far zg _).far zg _, OptsAt.far2 (w := wr.drewN nq) HOS2.out (fun ad e => by cases e; exact hne), Nat.zero_le _, Below.setCell (Below.setCell (by apply below_drewN; exact hbel2) hwb _) hwb _⟩
                show Blk _ bb _ (cells3 (up (xk, xd) 1 s.1, up (xk, xd) 5 s.2.1, up (xk, xd) 17 s.2.2))
                rw [HUP.out]
                exact ((HKB.out.drewN nq).set_ 4 (.int .i64 17)).set_ 5 (.string xd)
              case measure => simp [intOf]
            · have q1 : ((17 : Int) == xk) = false := decide_eq_false (fun h => hq h.symm)
              have q2 : decide ((17 : Int) = xk) = false := decide_eq_false (fun h => hq h.symm)
              have hup : up (xk, xd) 17 s.2.2 = s.2.2 := if_neg hq
              have HUP := Lib.hid hup; clear hup
              go_wp2_with fail
              go_quiet (fail)
              go_wp2_with fail
              go_roundw
              case rel =>
                refine ⟨3, rfl, by omega, ?_, HGB2.out.drewN nq, HOS2.out, Nat.zero_le _, by apply below_drewN; exact hbel2⟩
                show Blk _ bb _ (cells3 (up (xk, xd) 1 s.1, up (xk, xd) 5 s.2.1, up (xk, xd) 17 s.2.2))
                rw [HUP.out]
                exact HKB.out
              case measure => simp [intOf]
        · have e3 : k = 3 := by omega
          subst e3
          clear hkb hgb hos hfz
          go_wp2_with fail
          go_roundw
          case rel => exact ⟨i + 1, by go_num, by omega, by rw [HST.out]; exact HKB.out, HGB2.out, HOS2.out, Nat.zero_le _, hbel2⟩
          case measure => simp [intOf]; omega
    · have ei : i = L.length := by have := HLEN.out; omega
      rw [ei] at hk
      obtain ⟨j1, j2, j3⟩ := HEND.out
      obtain ⟨s, hs⟩ : ∃ s, stN L (d0, d1, d2) L.length = s := ⟨_, rfl⟩
      rw [hs] at hk j1 j2 j3
      have HJ3 := Lib.hid j3; have HJJ1 := Lib.hid j1; have HJJ2 := Lib.hid j2
      have o3 := opts3 hk
      have HO3 := Lib.hid o3
      have p0 : wr.cell? ⟨w1.heap.size, 0, none⟩ = some (.int .i64 0) := hgb.cell 0
      have p1 : wr.cell? ⟨w1.heap.size, 1, none⟩ = some (.int .i64 G) := hgb.cell 1
      have p2 : wr.cell? ⟨w1.heap.size, 2, none⟩ = some (.int .i64 0) := hgb.cell 2
      have p3 : wr.cell? ⟨w1.heap.size, 3, none⟩ = some (.bool false) := hgb.cell 3
      have p4 : wr.cell? ⟨w1.heap.size, 4, none⟩ = some (.string ⟨#[]⟩) := hgb.cell 4
      have p5 : wr.cell? ⟨w1.heap.size, 5, none⟩ = some (.int .i64 0) := hgb.cell 5
      clear j1 j2 j3 hs o3 hk hgb hos HEND
      go_wp2_with fail
      refine (judge_any (ownN G) (some ⟨bb, 0, none⟩) 3 3 (ls3 s) _ HO3.out (by omega) (by intro h; cases h) (Nat.le_refl _) HJ3.out).mono ?_
      rintro e w4 h4
      obtain ⟨A4, n4, cap4, rfl, hr4, hb4⟩ := judge_ok hmay h4
      clear h4
      rw [HJJ2.out] at hr4
      rw [HJJ1.out]
      have bel4 := below_step hbel hb4 hbel.size
      have HR4 := Lib.hid hr4; clear hr4
      go_wp2_with (first | (go_at_call 11; refine (num_any _ _).mono ?_; rintro e w' ⟨rfl, rfl⟩))
      refine (same_any A4 (some ⟨bb, 0, none⟩) n4 3 cap4 3 (ls3 s) (ls3 s) _ HR4.out.1 (HO3.out.keep hb4) (by have := HR4.out.2.1; omega)).mono ?_
      rintro e w5 ⟨rfl, hb5⟩
      rw [same_refl]
      have bel5 := below_step bel4 hb5 bel4.size
      go_wp2_with (first | (go_at_call 11; refine (num_any _ _).mono ?_; rintro e w' ⟨rfl, rfl⟩))
      go_ret
      exact ⟨rfl, bel5⟩
theorem wrapG (g : Nat) (h : g < 65536) : wrap64 (1 + (g : Int)) = 1 + (g : Int) := IntWalk.wrap64_in _ (by omega)
theorem naks_be2 (u : Nat) (h : u < 65536) : strOfNums [(u : Int) / 256 % 256, bits .and .i64 (u : Int) 255 % 256] = be2 (u : Int) := by
  obtain ⟨k, hk, -, e⟩ := mask_nat 8 (by decide) 255 (by decide) (u : Int)
  rw [hk, e]
  unfold be2
  rw [show (u : Int) / 256 % 256 = (u : Int) / 256 by omega, show (u : Int) % 2 ^ 8 % 256 = (u : Int) % 256 by omega]
theorem naks_be4 (G : Int) (h0 : 0 ≤ G) (h1 : G < 16777216) : strOfNums [0, G / 65536 % 256, bits .and .i64 (G / 256) 255 % 256, bits .and .i64 G 255 % 256] = be4 G := by
  obtain ⟨k, hk, -, e⟩ := mask_nat 8 (by decide) 255 (by decide) G
  obtain ⟨k2, hk2, -, e2⟩ := mask_nat 8 (by decide) 255 (by decide) (G / 256)
  rw [hk, e, hk2, e2]
  unfold be4
  rw [show G / 16777216 = 0 by omega, show (G / 256) % 2 ^ 8 % 256 = G / 256 % 256 by omega, show G % 2 ^ 8 % 256 = G % 256 by omega]
theorem naks_walk (magic unit mrru : Int) (k0 : (Lit.int .i64 magic).wf = true) (k1 : (Lit.int .i64 unit).wf = true) (k2 : (Lit.int .i64 mrru).wf = true) (w : World) : Calls Try.prog 7 #[.int .i64 magic, .int .i64 unit, .int .i64 mrru] w fun e w' => e = .returned (.bool true) ∧ Below w.heap.size w w' := by
  obtain ⟨g, hg, hg1, -⟩ := mask_nat 16 (by decide) 65535 (by decide) magic
  obtain ⟨u, hu, hu1, -⟩ := mask_nat 16 (by decide) 65535 (by decide) unit
  obtain ⟨v, hv, hv1, -⟩ := mask_nat 16 (by decide) 65535 (by decide) mrru
  have g1 : g < 65536 := hg1
  have u1 : u < 65536 := hu1
  have v1 : v < 65536 := hv1
  have hm : mayB (ownN (1 + (g : Int))) = true := by
    unfold mayB ownN
    simp only [Bool.and_eq_true, Bool.or_eq_true, decide_eq_true_eq]
    exact ⟨⟨⟨⟨⟨⟨.inl trivial, .inl trivial⟩, by omega⟩, by omega⟩, by decide⟩, by decide⟩, by decide⟩
  obtain ⟨n1, n2⟩ := naks_first (G := 1 + (g : Int)) (u := (u : Int)) (v := (v : Int)) (by omega) (by omega) (by omega)
  refine naks_walk0 magic unit mrru g u v hg hu hv (1 + (g : Int)) (be2 u) (be4 (1 + (g : Int))) (be2 v) (wrapG g g1) (naks_be2 u u1) (naks_be4 _ (by omega) (by omega)) (naks_be2 v v1) _ hm ?_ n1 n2 (naks_end (by omega) (by omega) (by omega) _ rfl) w
  intro k o ho
  have hm2 := List.mem_of_getElem? ho
  unfold ls3 at hm2
  simp only [List.mem_cons, List.not_mem_nil, or_false] at hm2
  rcases hm2 with rfl | rfl | rfl
  · exact ⟨by show (0 : Int) ≤ 1; decide, by show (1 : Int) ≤ 255; decide, by show (be2 (u : Int)).size ≤ 253; rw [size_be2]; decide⟩
  · exact ⟨by show (0 : Int) ≤ 5; decide, by show (5 : Int) ≤ 255; decide, by show (be4 (1 + (g : Int))).size ≤ 253; rw [size_be4]; decide⟩
  · exact ⟨by show (0 : Int) ≤ 17; decide, by show (17 : Int) ≤ 255; decide, by show (be2 (v : Int)).size ≤ 253; rw [size_be2]; decide⟩
end Go.Proofs.Ytjmcgekegenobaa
