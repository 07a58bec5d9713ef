/- Any packet as bytes, any bytes as one; the walk of the law Controls: it returns true. No condition but memory's own limits. -/
import Derived.Test.YtmonkjogonjflaaCtlCodes
import Derived.Test.YtmonkjogonjflaaCtlRefA
import Derived.Test.YtmonkjogonjflaaCtlRefB
import Derived.Test.YtmonkjogonjflaaCtlUn
import Derived.Test.YtmonkjogonjflaaOptKept
namespace Go.Proofs.Ytmonkjogonjflaa
open Go.RowKit
set_option linter.unusedVariables false
set_option linter.unusedSimpArgs false
attribute [local go_sem] conv1 conv1d conv1n conv1a conv1ad conv1an conv2 conv2d conv2n conv2a conv2ad conv2an conv4 conv4d conv4n conv4a conv4ad conv4an conv5 conv5d conv5n conv5a conv5ad conv5an size_nums byt_fold
theorem rctl_any (c i : Int) (A : Option Addr) (n cap : Nat) (os : List (Int × ByteArray)) (d : ByteArray) (w : World) (hv : OptsAt w A n os) (hn : n ≤ 9223372036854775807) (hd : d.size ≤ 140737488351232) (ho : ∀ o ∈ os, o.2.size ≤ 140737488351232) :
    Calls Try.prog 10 #[.agg #[.int .i64 c, .int .i64 i, .slice A n cap, .string d]] w (CtlPut c i os d w) := by
  by_cases hoct : (0 ≤ c ∧ c ≤ 255) ∧ (0 ≤ i ∧ i ≤ 255)
  case neg => exact rctl_a c i A n cap os d w (by omega)
  obtain ⟨⟨c0, c1⟩, i0, i1⟩ := hoct
  have hl := hv.1
  cases hcf : confB c
  · have hx : c < 1 ∨ 4 < c := by
      unfold confB at hcf; have := of_decide_eq_false hcf; omega
    by_cases hn0 : 0 < n
    · exact rctl_b c i A n cap os d w hv hn hd ho c0 c1 i0 i1 _ _ rfl rfl (by unfold cBad; rw [hcf]; exact decide_eq_true (by omega)) (.inl ⟨hx, hn0⟩)
    · have hbad : cBad c os d = false := by unfold cBad; rw [hcf]; exact decide_eq_false (by omega)
      have hB : cBody c os d = d := by unfold cBody; rw [hcf]; rfl
      by_cases h4 : 2044 < d.size
      · exact rctl_c c i A n cap os d w hv hn hd ho c0 c1 i0 i1 d hB hbad h4 (.inl ⟨hx, by omega, rfl⟩)
      · exact rctl_o1 c i A n cap os d w hv hn hd ho c0 c1 i0 i1 d hB hbad (by omega) hx (by omega) rfl
  · obtain ⟨x1, x2⟩ := conf_oct hcf
    by_cases he : oE os = 0
    · by_cases hd0 : d.size = 0
      · have hbad : cBad c os d = false := by unfold cBad; rw [hcf]; exact decide_eq_false (by rintro (h | h); exact h he; omega)
        have hj : oS os = oJoin os := by unfold oS; rw [if_pos he]
        have hB : cBody c os d = oS os := by unfold cBody; rw [hcf, hj]; rfl
        by_cases h4 : 2044 < (oS os).size
        · exact rctl_c c i A n cap os d w hv hn hd ho c0 c1 i0 i1 _ hB hbad h4 (.inr ⟨x1, x2, he, empty_of d hd0, rfl⟩)
        · exact rctl_o2 c i A n cap os d w hv hn hd ho c0 c1 i0 i1 _ hB hbad (by omega) x1 x2 he (empty_of d hd0) rfl
      · exact rctl_b c i A n cap os d w hv hn hd ho c0 c1 i0 i1 _ _ rfl rfl (by unfold cBad; rw [hcf]; exact decide_eq_true (.inr (by omega))) (.inr (.inr ⟨x1, x2, by simpa using he, nonempty_of d (by omega)⟩))
    · exact rctl_b c i A n cap os d w hv hn hd ho c0 c1 i0 i1 _ _ rfl rfl (bad_nz he) (.inr (.inl ⟨x1, x2, by simpa using he⟩))
theorem own_apart {w w2 w' : World} {b1 b2 n m : Nat} {e : TypeId} {v u : Value} {xs ys : List Value} (h1 : w.ownsRow b1 e 2 v n xs) (hlt : w.heap.size ≤ b2) (h2 : w2.ownsRow b2 e 2 u m ys) (hg : w2.grownBy w' v.ownBlock) : w'.ownsRow b2 e 2 u m ys := by
  refine h2.kept hg ?_
  cases hu : u.ownBlock with
  | none => exact .inl rfl
  | some k =>
    refine .inr (fun e => ?_)
    have a := (h2.lt k hu).1
    have b := (h1.lt k e.symm).2
    omega
theorem Box.grown {w w' : World} {b : Nat} {l : List Value} {row : Option Nat} (h : Box w b l) (hg : w.grownBy w' row) (hne : row ≠ some b) : Box w' b l := by
  have hb := hg.block b h.1 (fun e => hne e.symm)
  refine ⟨Nat.lt_of_lt_of_le h.1 hg.size, fun j v hj => ?_⟩
  rw [← h.2 j v hj]
  exact World.cell?_of_block hb
theorem kL_len (s : ByteArray) : (kL s).length ≤ 2048 := by unfold kL; split; exact uL_len _; simp
set_option maxRecDepth 100000 in
set_option maxHeartbeats 4000000 in
theorem controls_walk (c i : Int) (A : Option Addr) (n cap : Nat) (os : List (Int × ByteArray)) (d s : ByteArray) (k0 : (Lit.int .i64 c).wf = true) (k1 : (Lit.int .i64 i).wf = true) (hnil : A = none → n = 0 ∧ cap = 0) (hcap : n ≤ cap) (hz : n * 24 ≤ 140737488351232 ∧ ∀ o ∈ os, o.2.size ≤ 140737488351232) (hd : d.size ≤ 140737488351232) (hs : s.size ≤ 140737488351232) (w : World) (hv : OptsAt w A n os) :
    Calls Try.prog 3 #[.agg #[.int .i64 c, .int .i64 i, .slice A n cap, .string d], .string s] w fun e w' => e = .returned (.bool true) ∧ Below w.heap.size w w' := by
  have HV := Lib.hid hv; clear hv
  have HNIL := Lib.hid hnil; have HZ := Lib.hid hz; have HD := Lib.hid hd
  have hn24 := hz.1
  clear hnil hz k0 k1 hd
  have hul := kL_len s
  go_enter Try.func3, Try.ntmps3
  go_wp2_with (first | (go_at_call 13; refine (num_any _ _).mono ?_; rintro e w' ⟨rfl, rfl⟩))
  refine (lend_any A n cap os _ ((HV.out.keep ((Below.refl _ _).alloc (Nat.le_refl _) _)).keep ((Below.refl _ _).alloc (Nat.le_refl _) _)) hn24 HNIL.out).mono ?_
  rintro e w1 ⟨gx, capx, rfl, hgx, hcx, hcm, hvx, hb1⟩
  have hz1 := hb1.size
  simp at hz1 hgx
  obtain ⟨hc1, hf1⟩ := bcell hb1
  have z0 : w.heap.size < w1.heap.size := by omega
  have z1 : w.heap.size + 1 < w1.heap.size := by omega
  have hvx2 := hvx.set_ (p := ⟨w.heap.size + 1, 2, none⟩) (fun b off e => by injection e with e; injection e with e1 e2; subst e1; show gx ≠ w.heap.size + 1; omega) (.slice (some ⟨gx, 0, none⟩) n capx)
  have HVX := Lib.hid hvx2; clear hvx hvx2
  go_wp2_with (first | (go_at_call 13; refine (num_any _ _).mono ?_; rintro e w' ⟨rfl, rfl⟩))
  clear hc1 hf1
  have g0 : (w1.setCell ⟨w.heap.size + 1, 2, none⟩ (.slice (some ⟨gx, 0, none⟩) n capx)).cell? ⟨w.heap.size, 0, none⟩ = some (.int .i64 c) := (by repeat' (first | (with_reducible refine cell1 ?_) | (with_reducible exact hb1) | (with_reducible refine cellK hb1 ?_) | ((with_reducible refine cell0 ?hb ?hv); (case hb => first | rfl | (simp; done)); (case hv => rfl)) | (with_reducible refine cellA ?_) | (with_reducible refine cellD ?_) | (with_reducible refine cellN ?_) | ((with_reducible refine cellS ?hn ?_); (case hn => first | (left; omega) | (right; omega) | (left; simp; omega))) | ((with_reducible refine has0 ?hb ?hv); (case hb => first | rfl | (simp; done)); (case hv => rfl)) | (with_reducible refine hasA ?_) | (with_reducible refine hasD ?_) | (with_reducible refine hasN ?_) | (with_reducible refine hasK hb1 ?_) | (with_reducible refine hasS ?_)))
  have g1 : (w1.setCell ⟨w.heap.size + 1, 2, none⟩ (.slice (some ⟨gx, 0, none⟩) n capx)).cell? ⟨w.heap.size, 1, none⟩ = some (.int .i64 i) := (by repeat' (first | (with_reducible refine cell1 ?_) | (with_reducible exact hb1) | (with_reducible refine cellK hb1 ?_) | ((with_reducible refine cell0 ?hb ?hv); (case hb => first | rfl | (simp; done)); (case hv => rfl)) | (with_reducible refine cellA ?_) | (with_reducible refine cellD ?_) | (with_reducible refine cellN ?_) | ((with_reducible refine cellS ?hn ?_); (case hn => first | (left; omega) | (right; omega) | (left; simp; omega))) | ((with_reducible refine has0 ?hb ?hv); (case hb => first | rfl | (simp; done)); (case hv => rfl)) | (with_reducible refine hasA ?_) | (with_reducible refine hasD ?_) | (with_reducible refine hasN ?_) | (with_reducible refine hasK hb1 ?_) | (with_reducible refine hasS ?_)))
  have g2 : (w1.setCell ⟨w.heap.size + 1, 2, none⟩ (.slice (some ⟨gx, 0, none⟩) n capx)).cell? ⟨w.heap.size, 2, none⟩ = some (.slice A n cap) := (by repeat' (first | (with_reducible refine cell1 ?_) | (with_reducible exact hb1) | (with_reducible refine cellK hb1 ?_) | ((with_reducible refine cell0 ?hb ?hv); (case hb => first | rfl | (simp; done)); (case hv => rfl)) | (with_reducible refine cellA ?_) | (with_reducible refine cellD ?_) | (with_reducible refine cellN ?_) | ((with_reducible refine cellS ?hn ?_); (case hn => first | (left; omega) | (right; omega) | (left; simp; omega))) | ((with_reducible refine has0 ?hb ?hv); (case hb => first | rfl | (simp; done)); (case hv => rfl)) | (with_reducible refine hasA ?_) | (with_reducible refine hasD ?_) | (with_reducible refine hasN ?_) | (with_reducible refine hasK hb1 ?_) | (with_reducible refine hasS ?_)))
  have g3 : (w1.setCell ⟨w.heap.size + 1, 2, none⟩ (.slice (some ⟨gx, 0, none⟩) n capx)).cell? ⟨w.heap.size, 3, none⟩ = some (.string d) := (by repeat' (first | (with_reducible refine cell1 ?_) | (with_reducible exact hb1) | (with_reducible refine cellK hb1 ?_) | ((with_reducible refine cell0 ?hb ?hv); (case hb => first | rfl | (simp; done)); (case hv => rfl)) | (with_reducible refine cellA ?_) | (with_reducible refine cellD ?_) | (with_reducible refine cellN ?_) | ((with_reducible refine cellS ?hn ?_); (case hn => first | (left; omega) | (right; omega) | (left; simp; omega))) | ((with_reducible refine has0 ?hb ?hv); (case hb => first | rfl | (simp; done)); (case hv => rfl)) | (with_reducible refine hasA ?_) | (with_reducible refine hasD ?_) | (with_reducible refine hasN ?_) | (with_reducible refine hasK hb1 ?_) | (with_reducible refine hasS ?_)))
  have x0 : (w1.setCell ⟨w.heap.size + 1, 2, none⟩ (.slice (some ⟨gx, 0, none⟩) n capx)).cell? ⟨w.heap.size + 1, 0, none⟩ = some (.int .i64 c) := (by repeat' (first | (with_reducible refine cell1 ?_) | (with_reducible exact hb1) | (with_reducible refine cellK hb1 ?_) | ((with_reducible refine cell0 ?hb ?hv); (case hb => first | rfl | (simp; done)); (case hv => rfl)) | (with_reducible refine cellA ?_) | (with_reducible refine cellD ?_) | (with_reducible refine cellN ?_) | ((with_reducible refine cellS ?hn ?_); (case hn => first | (left; omega) | (right; omega) | (left; simp; omega))) | ((with_reducible refine has0 ?hb ?hv); (case hb => first | rfl | (simp; done)); (case hv => rfl)) | (with_reducible refine hasA ?_) | (with_reducible refine hasD ?_) | (with_reducible refine hasN ?_) | (with_reducible refine hasK hb1 ?_) | (with_reducible refine hasS ?_)))
  have x1 : (w1.setCell ⟨w.heap.size + 1, 2, none⟩ (.slice (some ⟨gx, 0, none⟩) n capx)).cell? ⟨w.heap.size + 1, 1, none⟩ = some (.int .i64 i) := (by repeat' (first | (with_reducible refine cell1 ?_) | (with_reducible exact hb1) | (with_reducible refine cellK hb1 ?_) | ((with_reducible refine cell0 ?hb ?hv); (case hb => first | rfl | (simp; done)); (case hv => rfl)) | (with_reducible refine cellA ?_) | (with_reducible refine cellD ?_) | (with_reducible refine cellN ?_) | ((with_reducible refine cellS ?hn ?_); (case hn => first | (left; omega) | (right; omega) | (left; simp; omega))) | ((with_reducible refine has0 ?hb ?hv); (case hb => first | rfl | (simp; done)); (case hv => rfl)) | (with_reducible refine hasA ?_) | (with_reducible refine hasD ?_) | (with_reducible refine hasN ?_) | (with_reducible refine hasK hb1 ?_) | (with_reducible refine hasS ?_)))
  have x2 : (w1.setCell ⟨w.heap.size + 1, 2, none⟩ (.slice (some ⟨gx, 0, none⟩) n capx)).cell? ⟨w.heap.size + 1, 2, none⟩ = some (.slice (some ⟨gx, 0, none⟩) n capx) := (by repeat' (first | (with_reducible refine cell1 ?_) | (with_reducible exact hb1) | (with_reducible refine cellK hb1 ?_) | ((with_reducible refine cell0 ?hb ?hv); (case hb => first | rfl | (simp; done)); (case hv => rfl)) | (with_reducible refine cellA ?_) | (with_reducible refine cellD ?_) | (with_reducible refine cellN ?_) | ((with_reducible refine cellS ?hn ?_); (case hn => first | (left; omega) | (right; omega) | (left; simp; omega))) | ((with_reducible refine has0 ?hb ?hv); (case hb => first | rfl | (simp; done)); (case hv => rfl)) | (with_reducible refine hasA ?_) | (with_reducible refine hasD ?_) | (with_reducible refine hasN ?_) | (with_reducible refine hasK hb1 ?_) | (with_reducible refine hasS ?_)))
  have x3 : (w1.setCell ⟨w.heap.size + 1, 2, none⟩ (.slice (some ⟨gx, 0, none⟩) n capx)).cell? ⟨w.heap.size + 1, 3, none⟩ = some (.string d) := (by repeat' (first | (with_reducible refine cell1 ?_) | (with_reducible exact hb1) | (with_reducible refine cellK hb1 ?_) | ((with_reducible refine cell0 ?hb ?hv); (case hb => first | rfl | (simp; done)); (case hv => rfl)) | (with_reducible refine cellA ?_) | (with_reducible refine cellD ?_) | (with_reducible refine cellN ?_) | ((with_reducible refine cellS ?hn ?_); (case hn => first | (left; omega) | (right; omega) | (left; simp; omega))) | ((with_reducible refine has0 ?hb ?hv); (case hb => first | rfl | (simp; done)); (case hv => rfl)) | (with_reducible refine hasA ?_) | (with_reducible refine hasD ?_) | (with_reducible refine hasN ?_) | (with_reducible refine hasK hb1 ?_) | (with_reducible refine hasS ?_)))
  have BP1 := Lib.hid (Box.of4 g0 g1 g2 g3)
  have BX1 := Lib.hid (Box.of4 x0 x1 x2 x3)
  clear g0 g1 g2 g3 x0 x1 x2 x3
  have bl1 : Below w.heap.size w (w1.setCell ⟨w.heap.size + 1, 2, none⟩ (.slice (some ⟨gx, 0, none⟩) n capx)) := (((((Below.refl _ _).alloc (Nat.le_refl _) _).alloc (by simp) _)).trans (hb1.mono (by simp; omega))).setCell (by simp) _
  have sz1 : (w1.setCell ⟨w.heap.size + 1, 2, none⟩ (.slice (some ⟨gx, 0, none⟩) n capx)).heap.size = w1.heap.size := by simp
  have SZ1 := Lib.hid sz1; clear sz1 hb1
  refine (ctlput_any c i _ n capx os d _ (OptsAt.head HVX.out HV.out.1) (by omega) HD.out).mono ?_
  rintro e w2 ⟨rfl, hb2⟩
  have hz2 := hb2.size
  rw [SZ1.out] at hz2
  have bl2 := below_step bl1 hb2 (by simp; omega)
  have HVX2 := Lib.hid (HVX.out.keep hb2)
  have BP2 := Lib.hid (BP1.out.keep hb2)
  have BX2 := Lib.hid (BX1.out.keep hb2)
  clear hb2 bl1
  have p0 := BP2.out.2 0 _ rfl
  have p1 := BP2.out.2 1 _ rfl
  have p2 := BP2.out.2 2 _ rfl
  have p3 := BP2.out.2 3 _ rfl
  go_wp2_with (first | (go_at_call 13; refine (num_any _ _).mono ?_; rintro e w' ⟨rfl, rfl⟩))
  refine (rctl_any c i A n cap os d _ (HV.out.keep bl2) (by omega) HD.out HZ.out.2).mono ?_
  rintro e w3 ⟨rfl, hb3⟩
  have hz3 := hb3.size
  have bl3 := below_step bl2 hb3 (by omega)
  have HVX3 := Lib.hid (HVX2.out.keep hb3)
  have BP3 := Lib.hid (BP2.out.keep hb3)
  have BX3 := Lib.hid (BX2.out.keep hb3)
  clear p0 p1 p2 p3
  go_wp2_with (first | (go_at_call 13; refine (num_any _ _).mono ?_; rintro e w' ⟨rfl, rfl⟩))
  refine (ctlget_any _ _).mono ?_
  rintro e w4 ⟨Ac, cc, rfl, hc4, hb4⟩
  have hz4 := hb4.size
  have bl4 := below_step bl3 hb4 (by omega)
  have HC4 := Lib.hid hc4; clear hc4
  have BC4 := Lib.hid (Box.new w4 w4.heap.size rfl #[.int .i64 (kCode s), .int .i64 (kId s), .slice Ac (kL s).length cc, .string (kD s)] 24)
  go_wp2_with (first | (go_at_call 13; refine (num_any _ _).mono ?_; rintro e w' ⟨rfl, rfl⟩))
  refine (ctlget_any _ _).mono ?_
  rintro e w5 ⟨Ad, cd, rfl, hd5, hb5⟩
  have hz5 := hb5.size
  simp at hz5
  have bl5 := below_step (bl4.alloc (by omega) _) hb5 (by simp; omega)
  have HD5 := Lib.hid hd5; clear hd5
  have b45 : Below w4.heap.size w4 w5 := ((Below.refl _ _).alloc (Nat.le_refl _) _).trans (hb5.mono (by simp))
  have BC5 := Lib.hid (BC4.out.keep hb5)
  have BD5 := Lib.hid (Box.new w5 w5.heap.size rfl #[.int .i64 (kCode s), .int .i64 (kId s), .slice Ad (kL s).length cd, .string (kD s)] 24)
  clear hb5
  go_wp2_with (first | (go_at_call 13; refine (num_any _ _).mono ?_; rintro e w' ⟨rfl, rfl⟩))
  refine (rctlget_any _ _).mono ?_
  rintro e w6 ⟨Ao, co, rfl, ho6, hb6⟩
  have hz6 := hb6.size
  simp at hz6
  have bl6 := below_step (bl5.alloc (by omega) _) hb6 (by simp; omega)
  have HO6 := Lib.hid ho6; clear ho6
  have b56 : Below w5.heap.size w5 w6 := ((Below.refl _ _).alloc (Nat.le_refl _) _).trans (hb6.mono (by simp))
  have BD6 := Lib.hid (BD5.out.keep hb6)
  have BO6 := Lib.hid (Box.new w6 w6.heap.size rfl #[.int .i64 (kCode s), .int .i64 (kId s), .slice Ao (kL s).length co, .string (kD s)] 24)
  clear hb6
  have a6 : Below w6.heap.size w6 (w6.alloc (.cells #[.int .i64 (kCode s), .int .i64 (kId s), .slice Ao (kL s).length co, .string (kD s)] 24)) := (Below.refl _ _).alloc (Nat.le_refl _) _
  have BC6 := (BC5.out.keep b56).keep a6
  have BO7 := BO6.out
  have c0 := BC6.2 0 _ rfl
  have c1 := BC6.2 1 _ rfl
  have c2 := BC6.2 2 _ rfl
  have c3 := BC6.2 3 _ rfl
  have BC6' := Lib.hid BC6
  have A6 := Lib.hid a6
  clear BC6 BO7 a6
  have l46 : w4.heap.size < w6.heap.size := by omega
  go_wp2_with (first | (go_at_call 13; refine (num_any _ _).mono ?_; rintro e w' ⟨rfl, rfl⟩))
  refine (samep_any _ _ _ _ _ _ _ _ _ (kL s) _ ((OptsAt.own (own_keep (own_keep HC4.out b45) b56)).keep A6.out) ((OptsAt.own HO6.out).keep A6.out) (by omega)).mono ?_
  rintro e w7 ⟨rfl, hb7⟩
  have hz7 := hb7.size
  simp at hz7
  have b67 : Below w6.heap.size w6 w7 := below_step A6.out hb7 (by simp)
  have bl7 := below_step bl6 b67 (by omega)
  have b37 : Below w3.heap.size w3 w7 := below_step (below_step (below_step hb4 b45 hz4) b56 (by omega)) b67 (by omega)
  have BP7 := BP3.out.keep b37
  have BX7 := BX3.out.keep b37
  have BC7 := Lib.hid (BC6'.out.keep hb7)
  have BD7 := Lib.hid (BD6.out.keep b67)
  have BO7 := Lib.hid (BO6.out.keep hb7)
  clear hb7 c0 c1 c2 c3
  have p2 := BP7.2 2 _ rfl
  have x2 := BX7.2 2 _ rfl
  clear BP7 BX7
  have l37 : w.heap.size < w7.heap.size := by omega
  have l38 : w.heap.size + 1 < w7.heap.size := by omega
  go_wp2_with (first | (go_at_call 13; refine (num_any _ _).mono ?_; rintro e w' ⟨rfl, rfl⟩))
  refine (kept_any gx n capx cap A os _ (HVX3.out.keep b37) (HV.out.keep bl7) hcx hcm).mono ?_
  rintro e w8 ⟨rfl, hb8⟩
  have hz8 := hb8.size
  have bl8 := below_step bl7 hb8 (by omega)
  have b68 := below_step b67 hb8 (by omega)
  have BC8 := BC7.out.keep hb8
  have BD8 := Lib.hid (BD7.out.keep hb8)
  have BO8 := Lib.hid (BO7.out.keep hb8)
  clear hb8 p2 x2
  have c2 := BC8.2 2 _ rfl
  clear BC8
  have l48 : w4.heap.size < w8.heap.size := by omega
  go_wp2_with (first | (go_at_call 13; refine (num_any _ _).mono ?_; rintro e w' ⟨rfl, rfl⟩))
  refine (spoil_any w3.heap.size Ac _ cc (kL s) _ (own_keep (own_keep (own_keep HC4.out b45) b56) b68) rfl (by omega)).mono ?_
  rintro e w9 ⟨rfl, hg9⟩
  have hz9 := hg9.size
  have bl9 : Below w.heap.size w w9 := bl8.grown hg9 (by omega) (fun k hk => by have := (HC4.out.lt k hk).1; omega)
  have ne : ∀ k, w4.heap.size ≤ k → (Value.slice Ac (kL s).length cc).ownBlock ≠ some k := fun k hk e => by have := (HC4.out.lt k e).2; omega
  have BD9 := BD8.out.grown hg9 (ne _ (by omega))
  have BO9 := BO8.out.grown hg9 (ne _ (by omega))
  have hd9 := own_apart HC4.out (by simp) (own_keep (own_keep HD5.out b56) b68) hg9
  have ho9 := own_apart HC4.out (by simp; omega) (own_keep HO6.out b68) hg9
  have HD9 := Lib.hid hd9; have HO9 := Lib.hid ho9
  clear hd9 ho9 hg9 ne c2
  have p0 := BD9.2 0 _ rfl
  have p1 := BD9.2 1 _ rfl
  have p2 := BD9.2 2 _ rfl
  have p3 := BD9.2 3 _ rfl
  have q0 := BO9.2 0 _ rfl
  have q1 := BO9.2 1 _ rfl
  have q2 := BO9.2 2 _ rfl
  have q3 := BO9.2 3 _ rfl
  clear BD9 BO9
  have l59 : w5.heap.size < w9.heap.size := by omega
  have l69 : w6.heap.size < w9.heap.size := by omega
  go_wp2_with (first | (go_at_call 13; refine (num_any _ _).mono ?_; rintro e w' ⟨rfl, rfl⟩))
  refine (samep_any _ _ _ _ _ _ _ _ _ (kL s) _ (OptsAt.own HD9.out) (OptsAt.own HO9.out) (by omega)).mono ?_
  rintro e w10 ⟨rfl, hb10⟩
  have hz10 := hb10.size
  have bl10 := below_step bl9 hb10 (by omega)
  go_wp2_with (first | (go_at_call 13; refine (num_any _ _).mono ?_; rintro e w' ⟨rfl, rfl⟩))
  refine (awake_any _).mono ?_
  rintro e w11 ⟨rfl, hb11⟩
  go_wp2_with (first | (go_at_call 13; refine (num_any _ _).mono ?_; rintro e w' ⟨rfl, rfl⟩))
  go_ret
  exact ⟨by simp, below_step bl10 hb11 (by omega)⟩
end Go.Proofs.Ytmonkjogonjflaa
