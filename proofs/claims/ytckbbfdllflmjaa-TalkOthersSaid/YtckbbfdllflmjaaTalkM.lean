/- The walk of the law TalkCross. No condition. -/
import Derived.Test.YtckbbfdllflmjaaTalkL
namespace Go.Proofs.Ytckbbfdllflmjaa
open Go.RowKit
set_option linter.unusedVariables false
set_option linter.unusedSimpArgs false
attribute [local go_sem] conv1 conv1d conv1n conv1a conv1ad conv1an conv2 conv2d conv2n conv2a conv2ad conv2an conv4 conv4d conv4n conv4a conv4ad conv4an conv5 conv5d conv5n conv5a conv5ad conv5an size_nums byt_fold
theorem cod_cell {w : World} {b q : Nat} (h : Blk w b 3 #[.int .i64 1, .int .i64 3, .int .i64 5]) (hq : q < 3) : w.cell? ⟨b, q, none⟩ = some (.int .i64 (1 + 2 * (q : Int))) := by
  refine (h.cell q).trans ?_
  have : q = 0 ∨ q = 1 ∨ q = 2 := by omega
  rcases this with rfl | rfl | rfl <;> rfl
theorem cod_req {q : Nat} (hq : q < 3) : reqB (1 + 2 * (q : Int)) = true := by
  have : q = 0 ∨ q = 1 ∨ q = 2 := by omega
  rcases this with rfl | rfl | rfl <;> rfl
theorem cr_opp {c d : Int} : crossB false d c = !crossB true c d := by
  unfold crossB
  cases (c == 5) <;> cases (d == 5) <;> rfl
/-- A side that takes the response to its request is done; one that is done stays so. -/
theorem cr_end {m l A : Int} {f : Bool} (hm : m = 1 ∨ m = 3 ∨ m = 5) (hl : l = 0 ∨ l = 5) (hA : 0 ≤ A ∧ A ≤ 1) : tkL (trS m l 5 f) (m + 1) 1 A [] false = [] ∧ (tkS (trS m l 5 f) (m + 1) 1 A []).left = 0 := by
  have hb : bE (m + 1) 1 A [] = 0 := bE_nil (by omega) (by omega) (by omega) (.inl (by rcases hm with rfl | rfl | rfl <;> rfl))
  have hr : reqB (m + 1) = false := by rcases hm with rfl | rfl | rfl <;> rfl
  have h7 : ¬ m + 1 = 7 := by omega
  refine ⟨by unfold tkL; rw [if_pos hb, hr, if_neg (by decide), if_neg h7], ?_⟩
  unfold tkS
  rw [if_pos hb, hr, if_neg (by decide), if_neg h7]
  rcases hl with rfl | rfl
  · have : endB (trS m 0 5 f) (m + 1) 1 = false := rfl
    rw [this]; rfl
  · have : endB (trS m 5 5 f) (m + 1) 1 = true := by unfold endB; simp [trS]
    rw [this]; rfl
theorem q3 (x : Int) : ∃ q : Nat, (IntKind.u64.wrap x).tmod 3 = (q : Int) ∧ q < 3 := by
  have hu : 0 ≤ IntKind.u64.wrap x := by rw [IntKind.wrap_u64]; omega
  exact ⟨((IntKind.u64.wrap x) % 3).toNat, by rw [Int.tmod_eq_emod_of_nonneg hu]; omega, by omega⟩
set_option maxRecDepth 100000 in
set_option maxHeartbeats 8000000 in
theorem cross_walk (x y : Int) (yes first : Bool) (h1 : (Lit.int .i64 x).wf = true) (h2 : (Lit.int .i64 y).wf = true) (w : World) : Calls Try.prog 4 #[.int .i64 x, .int .i64 y, .bool yes, .bool first] w fun e w' => e = .returned (.bool true) ∧ Below w.heap.size w w' := by
  obtain ⟨q, hq, hq3⟩ := q3 x
  obtain ⟨r, hr, hr3⟩ := q3 y
  have hq4 : (q : Int) < 3 := by omega
  have hr4 : (r : Int) < 3 := by omega
  obtain ⟨c, hc⟩ : ∃ c : Int, c = 1 + 2 * (q : Int) := ⟨_, rfl⟩
  obtain ⟨d, hd⟩ : ∃ d : Int, d = 1 + 2 * (r : Int) := ⟨_, rfl⟩
  have hc5 : c = 1 ∨ c = 3 ∨ c = 5 := by omega
  have hd5 : d = 1 ∨ d = 3 ∨ d = 5 := by omega
  have hrc : reqB c = true := by rw [hc]; exact cod_req hq3
  have hrd : reqB d = true := by rw [hd]; exact cod_req hr3
  have HC := Lib.hid hc; have HD := Lib.hid hd; have HC5 := Lib.hid hc5; have HD5 := Lib.hid hd5; have HRC := Lib.hid hrc; have HRD := Lib.hid hrd
  have hc8 : 1 ≤ c ∧ c ≤ 8 := by omega
  have hd8 : 1 ≤ d ∧ d ≤ 8 := by omega
  have KA := Lib.hid (tr_ask (c := c) (t := 5) (f := true) (by unfold askB; rw [hrc]; rfl) hc8)
  have KB := Lib.hid (tr_ask (c := d) (t := 5) (f := false) (by unfold askB; rw [hrd]; rfl) hd8)
  clear hc hd hc5 hd5 hrc hrd
  go_enter Try.func4, Try.ntmps4
  go_wp2_with (first | (go_at_call 12; refine (num_any _ _).mono ?_; rintro e w' ⟨rfl, rfl⟩))
  refine (awake_any _).mono ?_
  rintro e w0 ⟨rfl, hb0⟩
  have hz0 := hb0.size
  have hcod := Blk.new w0 3 #[.int .i64 1, .int .i64 3, .int .i64 5]
  have HCOD := Lib.hid hcod; clear hcod
  go_wp2_with (first | (go_at_call 12; refine (num_any _ _).mono ?_; rintro e w' ⟨rfl, rfl⟩))
  obtain ⟨ga, hga⟩ : ∃ ga, ga = w0.heap.size + 1 := ⟨_, rfl⟩
  have GA := Lib.hid hga
  have hga1 : w0.heap.size + 1 ≤ ga := by omega
  clear hga
  refine (tnew_at true 5 _ (by decide) (fun _ => True) ga (by rw [GA.out]; simp)).mono ?_
  rintro e w1 ⟨rfl, ht1, hb1⟩
  have hz1 : ga < w1.heap.size := ht1.lt
  obtain ⟨gb, hgb⟩ : ∃ gb, gb = w1.heap.size := ⟨_, rfl⟩
  have GB := Lib.hid hgb
  have hgb1 : w1.heap.size ≤ gb := by omega
  have hgb2 : gb < w1.heap.size + 1 := by omega
  clear hgb
  have bel1 : Below w.heap.size w w1 := below_step (hb0.alloc hz0 _) hb1 (by simp; omega)
  have HC1 := Lib.hid (HCOD.out.keep hb1)
  have HT1 := Lib.hid ht1; clear ht1
  obtain ⟨X, hXd⟩ : ∃ X : Nat → Prop, X = fun b => b = ga ∨ b = gb := ⟨_, rfl⟩
  have hXa : X ga := by rw [hXd]; exact .inl rfl
  have hXb : X gb := by rw [hXd]; exact .inr rfl
  have hXl : ∀ W : World, gb < W.heap.size → ∀ b, X b → b < W.heap.size := fun W hW b hb => by rw [hXd] at hb; omega
  have hXn : ∀ b, b < w0.heap.size + 1 → ¬ X b := fun b hb hx => by rw [hXd] at hx; omega
  clear hXd
  go_wp2_with (first | (go_at_call 12; refine (num_any _ _).mono ?_; rintro e w' ⟨rfl, rfl⟩))
  refine (tnew_at false 5 _ (by decide) X gb GB.out).mono ?_
  rintro e w2 ⟨rfl, ht2, hb2⟩
  have hz2 : gb < w2.heap.size := ht2.lt
  have bel2 : Below w.heap.size w w2 := below_step bel1 hb2 (by omega)
  have hta2 := (HT1.out.keep hb2).mono (fun b _ _ => trivial : ∀ b, b < w2.heap.size → X b → (fun _ => True) b)
  have hcod2 := HC1.out.keep hb2
  have kq : w2.cell? ⟨w0.heap.size, q, none⟩ = some (.int .i64 c) := by rw [HC.out]; exact cod_cell hcod2 hq3
  have HC2 := Lib.hid hcod2; have HTA2 := Lib.hid hta2; have HTB2 := Lib.hid ht2; clear hcod2 hta2 ht2
  have hzc : w0.heap.size < w2.heap.size := by omega
  go_wp2_with (first | (go_at_call 12; refine (num_any _ _).mono ?_; rintro e w' ⟨rfl, rfl⟩))
  refine (task_any X ga (ts0 true 5) c none 0 0 [] _ HTA2.out hXa (hXl _ (by omega)) (by show (0 : Int) ≤ 0 ∧ (0 : Int) ≤ 255; omega) (OptsAt.nil _ _) (by decide) (fun _ => ⟨rfl, rfl⟩)).mono ?_
  rintro e w3 ⟨R3, rn3, rc3, rfl, hm3, ht3, hg3⟩
  rw [KA.out.1, KA.out.2.1]
  rw [KA.out.1] at hm3
  rw [KA.out.2.2] at ht3
  have hz3 := hg3.size
  have bel3 : Below w.heap.size w w3 := below_gr bel2 hg3 (by omega) (by omega)
  have hcod3 := HC2.out.grown hg3 (by simp; omega)
  have hbx3 := Blk.new w3 34 #[.int .i64 c, .int .i64 1, .int .i64 0, .slice R3 rn3 rc3]
  have kr : (w3.alloc (.cells #[.int .i64 c, .int .i64 1, .int .i64 0, .slice R3 rn3 rc3] 34)).cell? ⟨w0.heap.size, r, none⟩ = some (.int .i64 d) := by rw [HD.out]; exact cod_cell (hcod3.alloc _) hr3
  have hli3 : Lies w3 X R3 rn3 rc3 [] := hm3.lies (hXl _ (by omega))
  have HTA3 := Lib.hid (TAt.mono ht3 (fun b _ hb => (.inl hb : OwnX X R3 b)))
  have HTB3 := Lib.hid (HTB2.out.grown hg3 hXa (by omega)); have HLI3 := Lib.hid hli3; have HBX3 := Lib.hid hbx3
  clear ht3 hm3 hcod3 hbx3 hli3
  have hzc3 : w0.heap.size < w3.heap.size + 1 := by omega
  go_wp2_with (first | (go_at_call 12; refine (num_any _ _).mono ?_; rintro e w' ⟨rfl, rfl⟩))
  refine (task_any X gb (ts0 false 5) d none 0 0 [] _ (HTB3.out.alloc _) hXb (hXl _ (by simp; omega)) (by show (0 : Int) ≤ 0 ∧ (0 : Int) ≤ 255; omega) (OptsAt.nil _ _) (by decide) (fun _ => ⟨rfl, rfl⟩)).mono ?_
  rintro e w4 ⟨R4, rn4, rc4, rfl, hm4, ht4, hg4⟩
  rw [KB.out.1, KB.out.2.1]
  rw [KB.out.1] at hm4
  rw [KB.out.2.2] at ht4
  have hz4 := hg4.size
  simp at hz4
  have bel4 : Below w.heap.size w w4 := below_gr (bel3.alloc bel3.size _) hg4 (by have := bel3.size; simp; omega) (by omega)
  have hbx4 := HBX3.out.grown hg4 (by simp; omega)
  have hli4 := (HLI3.out.alloc (.cells #[.int .i64 c, .int .i64 1, .int .i64 0, .slice R3 rn3 rc3] 34)).grown hg4 hXb
  have hqi4 : Lies w4 X R4 rn4 rc4 [] := hm4.lies (hXl _ (by simp; omega))
  have hta4 := (HTA3.out.alloc (.cells #[.int .i64 c, .int .i64 1, .int .i64 0, .slice R3 rn3 rc3] 34)).grown hg4 hXb (by omega)
  have htb4 := TAt.mono ht4 (fun b _ hb => (.inl hb : OwnX X R4 b))
  have k0 : w4.cell? ⟨w3.heap.size, 0, none⟩ = some (.int .i64 c) := hbx4.cell 0
  have k1 : w4.cell? ⟨w3.heap.size, 1, none⟩ = some (.int .i64 1) := hbx4.cell 1
  have k2 : w4.cell? ⟨w3.heap.size, 2, none⟩ = some (.int .i64 0) := hbx4.cell 2
  have k3 : w4.cell? ⟨w3.heap.size, 3, none⟩ = some (.slice R3 rn3 rc3) := hbx4.cell 3
  have hzb4 : w3.heap.size < w4.heap.size := by omega
  have HTA4 := Lib.hid hta4; have HTB4 := Lib.hid htb4; have HLI4 := Lib.hid hli4; have HQI4 := Lib.hid hqi4
  clear hta4 htb4 hli4 hqi4 ht4 hm4 hbx4
  go_wp2_with (first | (go_at_call 12; refine (num_any _ _).mono ?_; rintro e w' ⟨rfl, rfl⟩))
  refine (crossed_any X ga gb c d yes first R3 rn3 rc3 R4 rn4 rc4 _ (HTA4.out.alloc _) (HTB4.out.alloc _) hXa hXb (hXl _ (by simp; omega)) (by omega) (HLI4.out.alloc _) (HQI4.out.alloc _) HRC.out HRD.out hc8 hd8).mono ?_
  rintro e w5 ⟨b1, R1, n1, c1, b2, R2, n2, c2, rfl, hx1, hl1, hx2, hl2, hta5, htb5, hn1, hn2, hz5, hbel5⟩
  simp at hz5
  have bel5 : Below w.heap.size w w5 := (bel4.alloc bel4.size _).trans (hbel5 _ (by have := bel4.size; simp; omega) (by omega) (by omega))
  obtain ⟨t, ht⟩ : ∃ t, crossB true c d = t := ⟨_, rfl⟩
  have hop : crossB false d c = !t := by rw [cr_opp, ht]
  rw [show crA false d c yes = (if (!t) = true then 1 else ansI yes) from by unfold crA; rw [hop]] at hx1
  rw [show crA true c d yes = (if t = true then 1 else ansI yes) from by unfold crA; rw [ht]] at hx2
  rw [show crL true c d = (if t = true then 5 else 0) from by unfold crL; rw [ht]] at hta5
  rw [show crL false d c = (if (!t) = true then 5 else 0) from by unfold crL; rw [hop]] at htb5
  have hlt1 := hx1.lt
  have hlt2 := hx2.lt
  have HX1 := Lib.hid hx1; have HX2 := Lib.hid hx2; have HL1 := Lib.hid hl1; have HL2 := Lib.hid hl2; have HTA5 := Lib.hid hta5; have HTB5 := Lib.hid htb5; have HN1 := Lib.hid hn1; have HN2 := Lib.hid hn2; have HNE := Lib.hid (show ga ≠ gb by omega)
  clear hx1 hx2 hl1 hl2 hta5 htb5 hop ht hn1 hn2 kq kr k0 k1 k2 k3
  cases t <;> cases yes
  · have x1 : Blk w5 b1 34 #[.int .i64 (c + 1), .int .i64 1, .int .i64 1, .slice R1 n1 c1] := HX1.out
    have x2 : Blk w5 b2 34 #[.int .i64 (d + 1), .int .i64 1, .int .i64 1, .slice R2 n2 c2] := HX2.out
    have ta : TAt w5 X ga (trS c 0 5 true) := HTA5.out
    have tb : TAt w5 X gb (trS d 5 5 false) := HTB5.out
    clear HX1 HX2 HTA5 HTB5
    have EA := Lib.hid (cr_end (m := c) (l := 0) (A := 1) (f := true) HC5.out (by omega) (by omega))
    have EB := Lib.hid (cr_end (m := d) (l := 5) (A := 1) (f := false) HD5.out (by omega) (by omega))
    have TA := Lib.hid ta; have TB := Lib.hid tb; have X1 := Lib.hid x1; have X2 := Lib.hid x2; clear ta tb x1 x2
    have y0 : w5.cell? ⟨b1, 0, none⟩ = some (.int .i64 (c + 1)) := X1.out.cell 0
    have y1 : w5.cell? ⟨b1, 1, none⟩ = some (.int .i64 1) := X1.out.cell 1
    have y2 : w5.cell? ⟨b1, 2, none⟩ = some (.int .i64 1) := X1.out.cell 2
    have y3 : w5.cell? ⟨b1, 3, none⟩ = some (.slice R1 n1 c1) := X1.out.cell 3
    have z2 : w5.cell? ⟨b2, 2, none⟩ = some (.int .i64 1) := X2.out.cell 2
    have pa : decide (0 < (trS c 0 5 true).left) = false := rfl
    have pb : decide (0 < (trS d 5 5 false).left) = true := rfl
    go_wp2_with (first | (go_at_call 12; refine (num_any _ _).mono ?_; rintro e w' ⟨rfl, rfl⟩))
    refine (pending_any X _ _ _ TA.out).mono ?_
    rintro e w' ⟨rfl, rfl⟩
    go_wp2_with (first | (go_at_call 12; refine (num_any _ _).mono ?_; rintro e w' ⟨rfl, rfl⟩))
    refine (pending_any X _ _ _ TB.out).mono ?_
    rintro e w' ⟨rfl, rfl⟩
    go_wp2_with (first | (go_at_call 12; refine (num_any _ _).mono ?_; rintro e w' ⟨rfl, rfl⟩))
    refine (ttake_any X ga (trS c 0 5 true) (c + 1) 1 1 R1 n1 c1 [] false _ TA.out hXa (hXl _ (by omega)) (by show (0 : Int) ≤ c ∧ c ≤ 8; omega) HL1.out).mono ?_
    rintro e w6 ⟨v6, rfl, hl6, hg6⟩
    rw [EA.out.1] at hl6
    obtain ⟨rfl, ta6⟩ := hl6.none
    have hz6 := hg6.size
    have bel6 := below_gr bel5 hg6 (by omega) (by omega)
    have tb6 := TB.out.grown hg6 hXa HNE.out
    have x2 := X2.out.grown hg6 (fun h => HN2.out (by rw [Option.some.inj h]; exact hXa))
    have l2 := HL2.out.grown hg6 hXa
    have u0 : w6.cell? ⟨b2, 0, none⟩ = some (.int .i64 (d + 1)) := x2.cell 0
    have u1 : w6.cell? ⟨b2, 1, none⟩ = some (.int .i64 1) := x2.cell 1
    have u2 : w6.cell? ⟨b2, 2, none⟩ = some (.int .i64 1) := x2.cell 2
    have u3 : w6.cell? ⟨b2, 3, none⟩ = some (.slice R2 n2 c2) := x2.cell 3
    have hltx := x2.lt
    have TA6 := Lib.hid ta6; have TB6 := Lib.hid tb6; have L26 := Lib.hid l2; clear ta6 tb6 l2 x2 hl6 y0 y1 y2 y3 z2
    go_wp2_with (first | (go_at_call 12; refine (num_any _ _).mono ?_; rintro e w' ⟨rfl, rfl⟩))
    refine (ttake_any X gb (trS d 5 5 false) (d + 1) 1 1 R2 n2 c2 [] false _ TB6.out hXb (hXl _ (by omega)) (by show (0 : Int) ≤ d ∧ d ≤ 8; omega) L26.out).mono ?_
    rintro e w7 ⟨v7, rfl, hl7, hg7⟩
    rw [EB.out.1] at hl7
    obtain ⟨rfl, tb7⟩ := hl7.none
    have hz7 := hg7.size
    have bel7 := below_gr bel6 hg7 (by omega) (by omega)
    have ta7 := TA6.out.grown hg7 hXb (Ne.symm HNE.out)
    have TA7 := Lib.hid ta7; have TB7 := Lib.hid tb7; clear ta7 tb7 hl7 u0 u1 u2 u3
    have qa : decide (0 < (tkS (trS c 0 5 true) (c + 1) 1 1 []).left) = false := decide_eq_false (by rw [EA.out.2]; omega)
    have qb : decide (0 < (tkS (trS d 5 5 false) (d + 1) 1 1 []).left) = false := decide_eq_false (by rw [EB.out.2]; omega)
    go_wp2_with (first | (go_at_call 12; refine (num_any _ _).mono ?_; rintro e w' ⟨rfl, rfl⟩))
    refine (pending_any X _ _ _ TA7.out).mono ?_
    rintro e w' ⟨rfl, rfl⟩
    go_wp2_with (first | (go_at_call 12; refine (num_any _ _).mono ?_; rintro e w' ⟨rfl, rfl⟩))
    refine (pending_any X _ _ _ TB7.out).mono ?_
    rintro e w' ⟨rfl, rfl⟩
    go_wp2_with (first | (go_at_call 12; refine (num_any _ _).mono ?_; rintro e w' ⟨rfl, rfl⟩))
    go_ret
    exact ⟨rfl, bel7⟩
  · have x1 : Blk w5 b1 34 #[.int .i64 (c + 1), .int .i64 1, .int .i64 1, .slice R1 n1 c1] := HX1.out
    have x2 : Blk w5 b2 34 #[.int .i64 (d + 1), .int .i64 1, .int .i64 0, .slice R2 n2 c2] := HX2.out
    have ta : TAt w5 X ga (trS c 0 5 true) := HTA5.out
    have tb : TAt w5 X gb (trS d 5 5 false) := HTB5.out
    clear HX1 HX2 HTA5 HTB5
    have EA := Lib.hid (cr_end (m := c) (l := 0) (A := 1) (f := true) HC5.out (by omega) (by omega))
    have EB := Lib.hid (cr_end (m := d) (l := 5) (A := 0) (f := false) HD5.out (by omega) (by omega))
    have TA := Lib.hid ta; have TB := Lib.hid tb; have X1 := Lib.hid x1; have X2 := Lib.hid x2; clear ta tb x1 x2
    have y0 : w5.cell? ⟨b1, 0, none⟩ = some (.int .i64 (c + 1)) := X1.out.cell 0
    have y1 : w5.cell? ⟨b1, 1, none⟩ = some (.int .i64 1) := X1.out.cell 1
    have y2 : w5.cell? ⟨b1, 2, none⟩ = some (.int .i64 1) := X1.out.cell 2
    have y3 : w5.cell? ⟨b1, 3, none⟩ = some (.slice R1 n1 c1) := X1.out.cell 3
    have z2 : w5.cell? ⟨b2, 2, none⟩ = some (.int .i64 0) := X2.out.cell 2
    have pa : decide (0 < (trS c 0 5 true).left) = false := rfl
    have pb : decide (0 < (trS d 5 5 false).left) = true := rfl
    go_wp2_with (first | (go_at_call 12; refine (num_any _ _).mono ?_; rintro e w' ⟨rfl, rfl⟩))
    refine (pending_any X _ _ _ TA.out).mono ?_
    rintro e w' ⟨rfl, rfl⟩
    go_wp2_with (first | (go_at_call 12; refine (num_any _ _).mono ?_; rintro e w' ⟨rfl, rfl⟩))
    refine (pending_any X _ _ _ TB.out).mono ?_
    rintro e w' ⟨rfl, rfl⟩
    go_wp2_with (first | (go_at_call 12; refine (num_any _ _).mono ?_; rintro e w' ⟨rfl, rfl⟩))
    refine (ttake_any X ga (trS c 0 5 true) (c + 1) 1 1 R1 n1 c1 [] false _ TA.out hXa (hXl _ (by omega)) (by show (0 : Int) ≤ c ∧ c ≤ 8; omega) HL1.out).mono ?_
    rintro e w6 ⟨v6, rfl, hl6, hg6⟩
    rw [EA.out.1] at hl6
    obtain ⟨rfl, ta6⟩ := hl6.none
    have hz6 := hg6.size
    have bel6 := below_gr bel5 hg6 (by omega) (by omega)
    have tb6 := TB.out.grown hg6 hXa HNE.out
    have x2 := X2.out.grown hg6 (fun h => HN2.out (by rw [Option.some.inj h]; exact hXa))
    have l2 := HL2.out.grown hg6 hXa
    have u0 : w6.cell? ⟨b2, 0, none⟩ = some (.int .i64 (d + 1)) := x2.cell 0
    have u1 : w6.cell? ⟨b2, 1, none⟩ = some (.int .i64 1) := x2.cell 1
    have u2 : w6.cell? ⟨b2, 2, none⟩ = some (.int .i64 0) := x2.cell 2
    have u3 : w6.cell? ⟨b2, 3, none⟩ = some (.slice R2 n2 c2) := x2.cell 3
    have hltx := x2.lt
    have TA6 := Lib.hid ta6; have TB6 := Lib.hid tb6; have L26 := Lib.hid l2; clear ta6 tb6 l2 x2 hl6 y0 y1 y2 y3 z2
    go_wp2_with (first | (go_at_call 12; refine (num_any _ _).mono ?_; rintro e w' ⟨rfl, rfl⟩))
    refine (ttake_any X gb (trS d 5 5 false) (d + 1) 1 0 R2 n2 c2 [] false _ TB6.out hXb (hXl _ (by omega)) (by show (0 : Int) ≤ d ∧ d ≤ 8; omega) L26.out).mono ?_
    rintro e w7 ⟨v7, rfl, hl7, hg7⟩
    rw [EB.out.1] at hl7
    obtain ⟨rfl, tb7⟩ := hl7.none
    have hz7 := hg7.size
    have bel7 := below_gr bel6 hg7 (by omega) (by omega)
    have ta7 := TA6.out.grown hg7 hXb (Ne.symm HNE.out)
    have TA7 := Lib.hid ta7; have TB7 := Lib.hid tb7; clear ta7 tb7 hl7 u0 u1 u2 u3
    have qa : decide (0 < (tkS (trS c 0 5 true) (c + 1) 1 1 []).left) = false := decide_eq_false (by rw [EA.out.2]; omega)
    have qb : decide (0 < (tkS (trS d 5 5 false) (d + 1) 1 0 []).left) = false := decide_eq_false (by rw [EB.out.2]; omega)
    go_wp2_with (first | (go_at_call 12; refine (num_any _ _).mono ?_; rintro e w' ⟨rfl, rfl⟩))
    refine (pending_any X _ _ _ TA7.out).mono ?_
    rintro e w' ⟨rfl, rfl⟩
    go_wp2_with (first | (go_at_call 12; refine (num_any _ _).mono ?_; rintro e w' ⟨rfl, rfl⟩))
    refine (pending_any X _ _ _ TB7.out).mono ?_
    rintro e w' ⟨rfl, rfl⟩
    go_wp2_with (first | (go_at_call 12; refine (num_any _ _).mono ?_; rintro e w' ⟨rfl, rfl⟩))
    go_ret
    exact ⟨rfl, bel7⟩
  · have x1 : Blk w5 b1 34 #[.int .i64 (c + 1), .int .i64 1, .int .i64 1, .slice R1 n1 c1] := HX1.out
    have x2 : Blk w5 b2 34 #[.int .i64 (d + 1), .int .i64 1, .int .i64 1, .slice R2 n2 c2] := HX2.out
    have ta : TAt w5 X ga (trS c 5 5 true) := HTA5.out
    have tb : TAt w5 X gb (trS d 0 5 false) := HTB5.out
    clear HX1 HX2 HTA5 HTB5
    have EA := Lib.hid (cr_end (m := c) (l := 5) (A := 1) (f := true) HC5.out (by omega) (by omega))
    have EB := Lib.hid (cr_end (m := d) (l := 0) (A := 1) (f := false) HD5.out (by omega) (by omega))
    have TA := Lib.hid ta; have TB := Lib.hid tb; have X1 := Lib.hid x1; have X2 := Lib.hid x2; clear ta tb x1 x2
    have y0 : w5.cell? ⟨b1, 0, none⟩ = some (.int .i64 (c + 1)) := X1.out.cell 0
    have y1 : w5.cell? ⟨b1, 1, none⟩ = some (.int .i64 1) := X1.out.cell 1
    have y2 : w5.cell? ⟨b1, 2, none⟩ = some (.int .i64 1) := X1.out.cell 2
    have y3 : w5.cell? ⟨b1, 3, none⟩ = some (.slice R1 n1 c1) := X1.out.cell 3
    have z2 : w5.cell? ⟨b2, 2, none⟩ = some (.int .i64 1) := X2.out.cell 2
    have pa : decide (0 < (trS c 5 5 true).left) = true := rfl
    have pb : decide (0 < (trS d 0 5 false).left) = false := rfl
    go_wp2_with (first | (go_at_call 12; refine (num_any _ _).mono ?_; rintro e w' ⟨rfl, rfl⟩))
    refine (pending_any X _ _ _ TA.out).mono ?_
    rintro e w' ⟨rfl, rfl⟩
    go_wp2_with (first | (go_at_call 12; refine (num_any _ _).mono ?_; rintro e w' ⟨rfl, rfl⟩))
    refine (pending_any X _ _ _ TB.out).mono ?_
    rintro e w' ⟨rfl, rfl⟩
    go_wp2_with (first | (go_at_call 12; refine (num_any _ _).mono ?_; rintro e w' ⟨rfl, rfl⟩))
    refine (ttake_any X ga (trS c 5 5 true) (c + 1) 1 1 R1 n1 c1 [] false _ TA.out hXa (hXl _ (by omega)) (by show (0 : Int) ≤ c ∧ c ≤ 8; omega) HL1.out).mono ?_
    rintro e w6 ⟨v6, rfl, hl6, hg6⟩
    rw [EA.out.1] at hl6
    obtain ⟨rfl, ta6⟩ := hl6.none
    have hz6 := hg6.size
    have bel6 := below_gr bel5 hg6 (by omega) (by omega)
    have tb6 := TB.out.grown hg6 hXa HNE.out
    have x2 := X2.out.grown hg6 (fun h => HN2.out (by rw [Option.some.inj h]; exact hXa))
    have l2 := HL2.out.grown hg6 hXa
    have u0 : w6.cell? ⟨b2, 0, none⟩ = some (.int .i64 (d + 1)) := x2.cell 0
    have u1 : w6.cell? ⟨b2, 1, none⟩ = some (.int .i64 1) := x2.cell 1
    have u2 : w6.cell? ⟨b2, 2, none⟩ = some (.int .i64 1) := x2.cell 2
    have u3 : w6.cell? ⟨b2, 3, none⟩ = some (.slice R2 n2 c2) := x2.cell 3
    have hltx := x2.lt
    have TA6 := Lib.hid ta6; have TB6 := Lib.hid tb6; have L26 := Lib.hid l2; clear ta6 tb6 l2 x2 hl6 y0 y1 y2 y3 z2
    go_wp2_with (first | (go_at_call 12; refine (num_any _ _).mono ?_; rintro e w' ⟨rfl, rfl⟩))
    refine (ttake_any X gb (trS d 0 5 false) (d + 1) 1 1 R2 n2 c2 [] false _ TB6.out hXb (hXl _ (by omega)) (by show (0 : Int) ≤ d ∧ d ≤ 8; omega) L26.out).mono ?_
    rintro e w7 ⟨v7, rfl, hl7, hg7⟩
    rw [EB.out.1] at hl7
    obtain ⟨rfl, tb7⟩ := hl7.none
    have hz7 := hg7.size
    have bel7 := below_gr bel6 hg7 (by omega) (by omega)
    have ta7 := TA6.out.grown hg7 hXb (Ne.symm HNE.out)
    have TA7 := Lib.hid ta7; have TB7 := Lib.hid tb7; clear ta7 tb7 hl7 u0 u1 u2 u3
    have qa : decide (0 < (tkS (trS c 5 5 true) (c + 1) 1 1 []).left) = false := decide_eq_false (by rw [EA.out.2]; omega)
    have qb : decide (0 < (tkS (trS d 0 5 false) (d + 1) 1 1 []).left) = false := decide_eq_false (by rw [EB.out.2]; omega)
    go_wp2_with (first | (go_at_call 12; refine (num_any _ _).mono ?_; rintro e w' ⟨rfl, rfl⟩))
    refine (pending_any X _ _ _ TA7.out).mono ?_
    rintro e w' ⟨rfl, rfl⟩
    go_wp2_with (first | (go_at_call 12; refine (num_any _ _).mono ?_; rintro e w' ⟨rfl, rfl⟩))
    refine (pending_any X _ _ _ TB7.out).mono ?_
    rintro e w' ⟨rfl, rfl⟩
    go_wp2_with (first | (go_at_call 12; refine (num_any _ _).mono ?_; rintro e w' ⟨rfl, rfl⟩))
    go_ret
    exact ⟨rfl, bel7⟩
  · have x1 : Blk w5 b1 34 #[.int .i64 (c + 1), .int .i64 1, .int .i64 0, .slice R1 n1 c1] := HX1.out
    have x2 : Blk w5 b2 34 #[.int .i64 (d + 1), .int .i64 1, .int .i64 1, .slice R2 n2 c2] := HX2.out
    have ta : TAt w5 X ga (trS c 5 5 true) := HTA5.out
    have tb : TAt w5 X gb (trS d 0 5 false) := HTB5.out
    clear HX1 HX2 HTA5 HTB5
    have EA := Lib.hid (cr_end (m := c) (l := 5) (A := 0) (f := true) HC5.out (by omega) (by omega))
    have EB := Lib.hid (cr_end (m := d) (l := 0) (A := 1) (f := false) HD5.out (by omega) (by omega))
    have TA := Lib.hid ta; have TB := Lib.hid tb; have X1 := Lib.hid x1; have X2 := Lib.hid x2; clear ta tb x1 x2
    have y0 : w5.cell? ⟨b1, 0, none⟩ = some (.int .i64 (c + 1)) := X1.out.cell 0
    have y1 : w5.cell? ⟨b1, 1, none⟩ = some (.int .i64 1) := X1.out.cell 1
    have y2 : w5.cell? ⟨b1, 2, none⟩ = some (.int .i64 0) := X1.out.cell 2
    have y3 : w5.cell? ⟨b1, 3, none⟩ = some (.slice R1 n1 c1) := X1.out.cell 3
    have z2 : w5.cell? ⟨b2, 2, none⟩ = some (.int .i64 1) := X2.out.cell 2
    have pa : decide (0 < (trS c 5 5 true).left) = true := rfl
    have pb : decide (0 < (trS d 0 5 false).left) = false := rfl
    go_wp2_with (first | (go_at_call 12; refine (num_any _ _).mono ?_; rintro e w' ⟨rfl, rfl⟩))
    refine (pending_any X _ _ _ TA.out).mono ?_
    rintro e w' ⟨rfl, rfl⟩
    go_wp2_with (first | (go_at_call 12; refine (num_any _ _).mono ?_; rintro e w' ⟨rfl, rfl⟩))
    refine (pending_any X _ _ _ TB.out).mono ?_
    rintro e w' ⟨rfl, rfl⟩
    go_wp2_with (first | (go_at_call 12; refine (num_any _ _).mono ?_; rintro e w' ⟨rfl, rfl⟩))
    refine (ttake_any X ga (trS c 5 5 true) (c + 1) 1 0 R1 n1 c1 [] false _ TA.out hXa (hXl _ (by omega)) (by show (0 : Int) ≤ c ∧ c ≤ 8; omega) HL1.out).mono ?_
    rintro e w6 ⟨v6, rfl, hl6, hg6⟩
    rw [EA.out.1] at hl6
    obtain ⟨rfl, ta6⟩ := hl6.none
    have hz6 := hg6.size
    have bel6 := below_gr bel5 hg6 (by omega) (by omega)
    have tb6 := TB.out.grown hg6 hXa HNE.out
    have x2 := X2.out.grown hg6 (fun h => HN2.out (by rw [Option.some.inj h]; exact hXa))
    have l2 := HL2.out.grown hg6 hXa
    have u0 : w6.cell? ⟨b2, 0, none⟩ = some (.int .i64 (d + 1)) := x2.cell 0
    have u1 : w6.cell? ⟨b2, 1, none⟩ = some (.int .i64 1) := x2.cell 1
    have u2 : w6.cell? ⟨b2, 2, none⟩ = some (.int .i64 1) := x2.cell 2
    have u3 : w6.cell? ⟨b2, 3, none⟩ = some (.slice R2 n2 c2) := x2.cell 3
    have hltx := x2.lt
    have TA6 := Lib.hid ta6; have TB6 := Lib.hid tb6; have L26 := Lib.hid l2; clear ta6 tb6 l2 x2 hl6 y0 y1 y2 y3 z2
    go_wp2_with (first | (go_at_call 12; refine (num_any _ _).mono ?_; rintro e w' ⟨rfl, rfl⟩))
    refine (ttake_any X gb (trS d 0 5 false) (d + 1) 1 1 R2 n2 c2 [] false _ TB6.out hXb (hXl _ (by omega)) (by show (0 : Int) ≤ d ∧ d ≤ 8; omega) L26.out).mono ?_
    rintro e w7 ⟨v7, rfl, hl7, hg7⟩
    rw [EB.out.1] at hl7
    obtain ⟨rfl, tb7⟩ := hl7.none
    have hz7 := hg7.size
    have bel7 := below_gr bel6 hg7 (by omega) (by omega)
    have ta7 := TA6.out.grown hg7 hXb (Ne.symm HNE.out)
    have TA7 := Lib.hid ta7; have TB7 := Lib.hid tb7; clear ta7 tb7 hl7 u0 u1 u2 u3
    have qa : decide (0 < (tkS (trS c 5 5 true) (c + 1) 1 0 []).left) = false := decide_eq_false (by rw [EA.out.2]; omega)
    have qb : decide (0 < (tkS (trS d 0 5 false) (d + 1) 1 1 []).left) = false := decide_eq_false (by rw [EB.out.2]; omega)
    go_wp2_with (first | (go_at_call 12; refine (num_any _ _).mono ?_; rintro e w' ⟨rfl, rfl⟩))
    refine (pending_any X _ _ _ TA7.out).mono ?_
    rintro e w' ⟨rfl, rfl⟩
    go_wp2_with (first | (go_at_call 12; refine (num_any _ _).mono ?_; rintro e w' ⟨rfl, rfl⟩))
    refine (pending_any X _ _ _ TB7.out).mono ?_
    rintro e w' ⟨rfl, rfl⟩
    go_wp2_with (first | (go_at_call 12; refine (num_any _ _).mono ?_; rintro e w' ⟨rfl, rfl⟩))
    go_ret
    exact ⟨rfl, bel7⟩
end Go.Proofs.Ytckbbfdllflmjaa
