/- Statement 14's awake answers true. No condition. -/
import Derived.Test.YtjmcgekegenobaaPolP
import Derived.Test.YtjmcgekegenobaaPolH
import Derived.Test.YtjmcgekegenobaaNum
namespace Go.Proofs.Ytjmcgekegenobaa
open Go.RowKit
set_option linter.unusedVariables false
set_option linter.unusedSimpArgs false
theorem OptsAt.made_at (w : World) (b : Nat) (hb : b = w.heap.size) (os : List (Int × ByteArray)) (cs : Array Value) (t : TypeId) (n : Nat) (hn : os.length = n) (h : cs.toList = optCells os) : OptsAt (w.alloc (.cells cs t)) (some ⟨b, 0, none⟩) n os := by
  subst hb
  refine ⟨hn, fun _ => ⟨w.heap.size, 0, rfl, by simp, fun j hj => ?_⟩⟩
  have hc : ∀ i, (w.alloc (.cells cs t)).cell? ⟨w.heap.size, i, none⟩ = cs[i]? := fun i => cell_of_row _ _ i cs t (0, 0) (heap_alloc_new w _)
  obtain ⟨h0, h1⟩ := optCells_at os j hj
  rw [← h] at h0 h1
  exact ⟨by rw [show 0 + j * 2 = j * 2 by omega, hc, ← h0]; simp, by rw [show 0 + j * 2 + 1 = j * 2 + 1 by omega, hc, ← h1]; simp⟩
theorem ask_ok {l : Lk} {w w' : World} {e : Ending} (hm : mayB l = true) (h : AskB l w e w') : ∃ A n cap, e = .returned (.tuple #[.slice A n cap, .int .i64 0]) ∧ Res w' A n cap (askL l) ∧ Below w.heap.size w w' := by
  rcases h with ⟨-, h⟩ | ⟨h, -⟩
  · exact h
  · rw [hm] at h; cases h
theorem ask_no {l : Lk} {w w' : World} {e : Ending} (hm : mayB l = false) (h : AskB l w e w') : e = .returned (.tuple #[.slice none 0 0, .int .i64 1400]) ∧ Below w.heap.size w w' := by
  rcases h with ⟨h, -⟩ | ⟨-, h⟩
  · rw [hm] at h; cases h
  · exact h
theorem judge_ok {l : Lk} {os : List (Int × ByteArray)} {w w' : World} {e : Ending} (hm : mayB l = true) (h : JudB l os w e w') : ∃ A n cap, e = .returned (.tuple #[.int .i64 (judV l os), .slice A n cap, .int .i64 0]) ∧ Res w' A n cap (judL l os) ∧ Below w.heap.size w w' := by
  rcases h with ⟨-, h⟩ | ⟨h, -⟩
  · exact h
  · rw [hm] at h; cases h
theorem judge_no {l : Lk} {os : List (Int × ByteArray)} {w w' : World} {e : Ending} (hm : mayB l = false) (h : JudB l os w e w') : e = .returned (.tuple #[.int .i64 0, .slice none 0 0, .int .i64 1400]) ∧ Below w.heap.size w w' := by
  rcases h with ⟨h, -⟩ | ⟨-, h⟩
  · rw [hm] at h; cases h
  · exact h
theorem Res.keep {w w' : World} {A : Option Addr} {n cap : Nat} {os : List (Int × ByteArray)} (h : Res w A n cap os) (hb : Below w.heap.size w w') : Res w' A n cap os := ⟨h.1.keep hb, h.2⟩
theorem fits_one {o : Int × ByteArray} (h0 : 0 ≤ o.1) (h1 : o.1 ≤ 255) (h2 : o.2.size ≤ 253) : FitsAll [o] := by
  intro k o2 h
  cases k with
  | zero => cases h; exact ⟨h0, h1, h2⟩
  | succ k => cases h
theorem judV_one (l : Lk) (o : Int × ByteArray) : judV l [o] = if bad0 l o then 2 else if (bettO l o.1 o.2).isSome then 1 else 0 := by
  have ha : Alone [o] := List.pairwise_singleton _ _
  unfold judV
  rw [rej_alone ha, nak_alone ha]
  show (if (List.filter (bad0 l) [o]).length ≠ 0 then 2 else if (List.flatMap (nak0 l) [o]).length ≠ 0 then 1 else 0) = _
  cases hb : bad0 l o
  · simp only [List.flatMap_cons, List.flatMap_nil, List.append_nil, nak0, hb]
    cases bettO l o.1 o.2 <;> simp [hb]
  · simp [hb]
theorem judL_one (l : Lk) (o : Int × ByteArray) : judL l [o] = if bad0 l o then [o] else match bettO l o.1 o.2 with | some x => [x] | none => [o] := by
  have ha : Alone [o] := List.pairwise_singleton _ _
  unfold judL
  rw [rej_alone ha, nak_alone ha]
  show (if (List.filter (bad0 l) [o]).length ≠ 0 then List.filter (bad0 l) [o] else if (List.flatMap (nak0 l) [o]).length ≠ 0 then List.flatMap (nak0 l) [o] else [o]) = _
  cases hb : bad0 l o
  · simp only [List.flatMap_cons, List.flatMap_nil, List.append_nil, nak0, hb]
    cases bettO l o.1 o.2 <;> simp [hb]
  · simp [hb]
def own1 : Lk := ⟨1500, 7, 0, false, ⟨#[]⟩, 0⟩
theorem own1_may : mayB own1 = true := rfl
theorem own1_ask : askL own1 = [(1, be2 1500), (5, be4 7)] := by
  rw [askL_eq]
  unfold askP
  rw [show asksB own1 (kindAt 4) = false from by rw [show kindAt 4 = 19 from rfl, asks19]; rfl]
  rfl
theorem own1_b : bettO own1 5 ⟨#[0, 0, 0, 7]⟩ = some (5, ⟨#[255, 255, 255, 248]⟩) := by
  have hv : val ⟨#[0, 0, 0, 7]⟩ = 7 := by rw [val_be (by decide)]; kernel_rfl
  have hf : flipM own1.magic = 4294967288 := by decide
  unfold bettO
  rw [if_neg (by decide), if_pos rfl, hv, hf]
  have hb : be4 4294967288 = ⟨#[255, 255, 255, 248]⟩ := by kernel_rfl
  rw [hb]
  rfl
theorem own1_j1 : judV own1 [(5, ⟨#[0, 0, 0, 7]⟩)] = 1 ∧ judL own1 [(5, ⟨#[0, 0, 0, 7]⟩)] = [(5, ⟨#[255, 255, 255, 248]⟩)] := by
  rw [judV_one, judL_one]
  have e : bad0 own1 (5, ⟨#[0, 0, 0, 7]⟩) = false := rfl
  rw [e]
  dsimp only
  rw [own1_b]
  exact ⟨rfl, rfl⟩
theorem own1_j2 : judV own1 [(18, ⟨#[]⟩)] = 2 := by
  rw [judV_one]
  rfl
theorem own1_l : lkV (learnAll 4 own1 [(1, ⟨#[120, 120]⟩)]) = .agg #[.int .i64 0, .int .i64 7, .int .i64 0, .bool false, .string ⟨#[]⟩, .int .i64 0] := by rfl
theorem own1_t : (if !anyBad (askL own1) (askL own1).length && mayB (setAll (askL own1)) then #[lkV (setAll (askL own1)), Value.int .i64 0] else #[lkV zeroL, .int .i64 1400]) = #[.agg #[.int .i64 1500, .int .i64 7, .int .i64 0, .bool false, .string ⟨#[]⟩, .int .i64 0], .int .i64 0] := by
  rw [set_back own1_may, bad_none (ask_alone own1) (ask_right own1_may), own1_may]
  rfl
set_option maxRecDepth 100000 in
set_option maxHeartbeats 4000000 in
theorem awake_any (w : World) : Calls Try.prog 9 #[] w fun e w' => e = .returned (.bool true) ∧ Below w.heap.size w w' := by
  have hx0 : Blk (w.alloc (.cells (lkC own1) 23)) w.heap.size 23 (lkC own1) := Blk.new w _ _
  have HX0 := Lib.hid hx0; clear hx0
  go_enter Try.func9, Try.ntmps9
  go_wp2_with fail
  refine (ask_any own1 _).mono ?_
  rintro e w1 h1
  obtain ⟨A1, n1, cap1, rfl, hr1, hb1⟩ := ask_ok own1_may h1
  clear h1
  have bel1 : Below w.heap.size w w1 := below_step ((Below.refl _ w).alloc (Nat.le_refl _) _) hb1 (by simp)
  have hx1 : Blk w1 w.heap.size 23 (lkC own1) := HX0.out.keep hb1
  have o10 : w1.cell? ⟨w.heap.size, 0, none⟩ = some (.int .i64 1500) := hx1.cell 0
  have o11 : w1.cell? ⟨w.heap.size, 1, none⟩ = some (.int .i64 7) := hx1.cell 1
  have o12 : w1.cell? ⟨w.heap.size, 2, none⟩ = some (.int .i64 0) := hx1.cell 2
  have o13 : w1.cell? ⟨w.heap.size, 3, none⟩ = some (.bool false) := hx1.cell 3
  have o14 : w1.cell? ⟨w.heap.size, 4, none⟩ = some (.string ⟨#[]⟩) := hx1.cell 4
  have o15 : w1.cell? ⟨w.heap.size, 5, none⟩ = some (.int .i64 0) := hx1.cell 5
  have HX1 := Lib.hid hx1; clear hx1
  have hn1 : n1 = 2 := by have := hr1.1.1; rw [own1_ask] at this; exact this.symm
  subst hn1
  rw [own1_ask] at hr1
  have HR1 := Lib.hid hr1; clear hr1
  go_wp2_with fail
  refine (judge_any own1 (some ⟨w1.heap.size, 0, none⟩) 1 1 [(5, ⟨#[0, 0, 0, 7]⟩)] _ (OptsAt.made_at w1 _ rfl _ _ _ 1 rfl rfl) (by omega) (by intro h; cases h) (Nat.le_refl _) (fits_one (by decide) (by decide) (by decide))).mono ?_
  rintro e w2 h2
  obtain ⟨A2, n2, cap2, rfl, hr2, hb2⟩ := judge_ok own1_may h2
  clear h2
  have bel2 : Below w.heap.size w w2 := below_step (bel1.alloc bel1.size _) hb2 (by have := bel1.size; simp; omega)
  have hx2 : Blk w2 w.heap.size 23 (lkC own1) := (HX1.out.alloc _).keep hb2
  have o20 : w2.cell? ⟨w.heap.size, 0, none⟩ = some (.int .i64 1500) := hx2.cell 0
  have o21 : w2.cell? ⟨w.heap.size, 1, none⟩ = some (.int .i64 7) := hx2.cell 1
  have o22 : w2.cell? ⟨w.heap.size, 2, none⟩ = some (.int .i64 0) := hx2.cell 2
  have o23 : w2.cell? ⟨w.heap.size, 3, none⟩ = some (.bool false) := hx2.cell 3
  have o24 : w2.cell? ⟨w.heap.size, 4, none⟩ = some (.string ⟨#[]⟩) := hx2.cell 4
  have o25 : w2.cell? ⟨w.heap.size, 5, none⟩ = some (.int .i64 0) := hx2.cell 5
  have HX2 := Lib.hid hx2; clear hx2
  have r12 := HR1.out.keep (((Below.refl _ w1).alloc (Nat.le_refl _) _ |> fun h => below_step h hb2 (by simp)))
  have HR12 := Lib.hid r12; clear r12
  rw [own1_j1.2] at hr2
  have hn2 : n2 = 1 := hr2.1.1.symm
  subst hn2
  have HR2 := Lib.hid hr2; clear hr2
  rw [own1_j1.1]
  go_wp2_with fail
  refine (judge_any own1 (some ⟨w2.heap.size, 0, none⟩) 1 1 [(18, ⟨#[]⟩)] _ (OptsAt.made_at w2 _ rfl _ _ _ 1 rfl rfl) (by omega) (by intro h; cases h) (Nat.le_refl _) (fits_one (by decide) (by decide) (by decide))).mono ?_
  rintro e w3 h3
  obtain ⟨A3, n3, cap3, rfl, hr3, hb3⟩ := judge_ok own1_may h3
  clear h3 hr3
  have st3 : Below w2.heap.size w2 w3 := below_step ((Below.refl _ w2).alloc (Nat.le_refl _) _) hb3 (by simp)
  have bel3 : Below w.heap.size w w3 := below_step bel2 st3 bel2.size
  have hx3 : Blk w3 w.heap.size 23 (lkC own1) := HX2.out.keep st3
  have o30 : w3.cell? ⟨w.heap.size, 0, none⟩ = some (.int .i64 1500) := hx3.cell 0
  have o31 : w3.cell? ⟨w.heap.size, 1, none⟩ = some (.int .i64 7) := hx3.cell 1
  have o32 : w3.cell? ⟨w.heap.size, 2, none⟩ = some (.int .i64 0) := hx3.cell 2
  have o33 : w3.cell? ⟨w.heap.size, 3, none⟩ = some (.bool false) := hx3.cell 3
  have o34 : w3.cell? ⟨w.heap.size, 4, none⟩ = some (.string ⟨#[]⟩) := hx3.cell 4
  have o35 : w3.cell? ⟨w.heap.size, 5, none⟩ = some (.int .i64 0) := hx3.cell 5
  have HX3 := Lib.hid hx3; clear hx3
  have HR13 := Lib.hid (HR12.out.keep st3)
  have HR23 := Lib.hid (HR2.out.keep st3)
  rw [own1_j2]
  go_wp2_with fail
  refine (learns_any own1 4 (some ⟨w3.heap.size, 0, none⟩) 1 1 [(1, ⟨#[120, 120]⟩)] _ (OptsAt.made_at w3 _ rfl _ _ _ 1 rfl rfl) (by omega)).mono ?_
  rintro e w4 ⟨hb4, rfl⟩
  rw [show (if mayB own1 && codeB 4 then #[lkV (learnAll 4 own1 [(1, ⟨#[120, 120]⟩)]), .int .i64 0] else #[lkV zeroL, .int .i64 1400]) = #[lkV (learnAll 4 own1 [(1, ⟨#[120, 120]⟩)]), .int .i64 0] from rfl, own1_l]
  have st4 : Below w3.heap.size w3 w4 := below_step ((Below.refl _ w3).alloc (Nat.le_refl _) _) hb4 (by simp)
  have bel4 : Below w.heap.size w w4 := below_step bel3 st4 bel3.size
  have hx4 : Blk w4 w.heap.size 23 (lkC own1) := HX3.out.keep st4
  have o40 : w4.cell? ⟨w.heap.size, 0, none⟩ = some (.int .i64 1500) := hx4.cell 0
  have o41 : w4.cell? ⟨w.heap.size, 1, none⟩ = some (.int .i64 7) := hx4.cell 1
  have o42 : w4.cell? ⟨w.heap.size, 2, none⟩ = some (.int .i64 0) := hx4.cell 2
  have o43 : w4.cell? ⟨w.heap.size, 3, none⟩ = some (.bool false) := hx4.cell 3
  have o44 : w4.cell? ⟨w.heap.size, 4, none⟩ = some (.string ⟨#[]⟩) := hx4.cell 4
  have o45 : w4.cell? ⟨w.heap.size, 5, none⟩ = some (.int .i64 0) := hx4.cell 5
  have HX4 := Lib.hid hx4; clear hx4
  have HR14 := Lib.hid (HR13.out.keep st4)
  have HR24 := Lib.hid (HR23.out.keep st4)
  go_wp2_with fail
  have hkb : Blk (w4.alloc (.cells #[.int .i64 0, .int .i64 7, .int .i64 0, .bool false, .string ⟨#[]⟩, .int .i64 0] 23)) w4.heap.size 23 #[.int .i64 0, .int .i64 7, .int .i64 0, .bool false, .string ⟨#[]⟩, .int .i64 0] := Blk.new _ _ _
  have HKB := Lib.hid hkb; clear hkb
  have r15 := HR14.out.keep ((Below.refl _ w4).alloc (Nat.le_refl _) (.cells #[.int .i64 0, .int .i64 7, .int .i64 0, .bool false, .string ⟨#[]⟩, .int .i64 0] 23))
  rw [← own1_ask] at r15
  refine (taken_any A1 2 cap1 (askL own1) _ r15.1 (by omega) r15.2.2.2).mono ?_
  rintro e w5 ⟨hb5, rfl⟩
  rw [own1_t]
  have st5 : Below w4.heap.size w4 w5 := below_step ((Below.refl _ w4).alloc (Nat.le_refl _) _) hb5 (by simp)
  have bel5 : Below w.heap.size w w5 := below_step bel4 st5 bel4.size
  have hx5 : Blk w5 w.heap.size 23 (lkC own1) := HX4.out.keep st5
  have o50 : w5.cell? ⟨w.heap.size, 0, none⟩ = some (.int .i64 1500) := hx5.cell 0
  have o51 : w5.cell? ⟨w.heap.size, 1, none⟩ = some (.int .i64 7) := hx5.cell 1
  have o52 : w5.cell? ⟨w.heap.size, 2, none⟩ = some (.int .i64 0) := hx5.cell 2
  have o53 : w5.cell? ⟨w.heap.size, 3, none⟩ = some (.bool false) := hx5.cell 3
  have o54 : w5.cell? ⟨w.heap.size, 4, none⟩ = some (.string ⟨#[]⟩) := hx5.cell 4
  have o55 : w5.cell? ⟨w.heap.size, 5, none⟩ = some (.int .i64 0) := hx5.cell 5
  have HX5 := Lib.hid hx5; clear hx5
  have HK5 := Lib.hid (HKB.out.keep hb5)
  have HR25 := Lib.hid (HR24.out.keep st5)
  clear r15
  go_wp2_with fail
  refine (ask_any ⟨1, 0, 0, false, ⟨#[]⟩, 0⟩ _).mono ?_
  rintro e w6 h6
  obtain ⟨rfl, hb6⟩ := ask_no rfl h6
  clear h6
  have htb : Blk (w5.alloc (.cells #[.int .i64 1500, .int .i64 7, .int .i64 0, .bool false, .string ⟨#[]⟩, .int .i64 0] 23)) w5.heap.size 23 #[.int .i64 1500, .int .i64 7, .int .i64 0, .bool false, .string ⟨#[]⟩, .int .i64 0] := Blk.new _ _ _
  have st6 : Below w5.heap.size w5 w6 := below_step ((Below.refl _ w5).alloc (Nat.le_refl _) _) hb6 (by simp)
  have bel6 : Below w.heap.size w w6 := below_step bel5 st6 bel5.size
  have hx6 : Blk w6 w.heap.size 23 (lkC own1) := HX5.out.keep st6
  have hk6 := HK5.out.keep st6
  have ht6 := htb.keep hb6
  clear htb
  have p0 : w6.cell? ⟨w.heap.size, 0, none⟩ = some (.int .i64 1500) := hx6.cell 0
  have p1 : w6.cell? ⟨w.heap.size, 1, none⟩ = some (.int .i64 7) := hx6.cell 1
  have p2 : w6.cell? ⟨w.heap.size, 2, none⟩ = some (.int .i64 0) := hx6.cell 2
  have p3 : w6.cell? ⟨w.heap.size, 3, none⟩ = some (.bool false) := hx6.cell 3
  have p4 : w6.cell? ⟨w.heap.size, 4, none⟩ = some (.string ⟨#[]⟩) := hx6.cell 4
  have p5 : w6.cell? ⟨w.heap.size, 5, none⟩ = some (.int .i64 0) := hx6.cell 5
  have q0 : w6.cell? ⟨w4.heap.size, 0, none⟩ = some (.int .i64 0) := hk6.cell 0
  have q1 : w6.cell? ⟨w4.heap.size, 1, none⟩ = some (.int .i64 7) := hk6.cell 1
  have q2 : w6.cell? ⟨w4.heap.size, 2, none⟩ = some (.int .i64 0) := hk6.cell 2
  have q3 : w6.cell? ⟨w4.heap.size, 3, none⟩ = some (.bool false) := hk6.cell 3
  have q4 : w6.cell? ⟨w4.heap.size, 4, none⟩ = some (.string ⟨#[]⟩) := hk6.cell 4
  have q5 : w6.cell? ⟨w4.heap.size, 5, none⟩ = some (.int .i64 0) := hk6.cell 5
  have r0 : w6.cell? ⟨w5.heap.size, 0, none⟩ = some (.int .i64 1500) := ht6.cell 0
  have r1 : w6.cell? ⟨w5.heap.size, 1, none⟩ = some (.int .i64 7) := ht6.cell 1
  have r2 : w6.cell? ⟨w5.heap.size, 2, none⟩ = some (.int .i64 0) := ht6.cell 2
  have r3 : w6.cell? ⟨w5.heap.size, 3, none⟩ = some (.bool false) := ht6.cell 3
  have r4 : w6.cell? ⟨w5.heap.size, 4, none⟩ = some (.string ⟨#[]⟩) := ht6.cell 4
  have r5 : w6.cell? ⟨w5.heap.size, 5, none⟩ = some (.int .i64 0) := ht6.cell 5
  clear hx6 hk6 ht6
  obtain ⟨bb, oo, rfl, hlt, hcc⟩ := (HR25.out.keep st6).1.2 (by decide)
  have s1 : w6.cell? ⟨bb, oo + 1, none⟩ = some (.string ⟨#[255, 255, 255, 248]⟩) := (hcc 0 (by decide)).2
  clear hcc
  go_wp2_with (first | (go_at_call 11; refine (num_any _ _).mono ?_; rintro e w' ⟨rfl, rfl⟩))
  go_ret
  exact ⟨rfl, (by repeat' (first | (with_reducible exact bel6) | (with_reducible refine Below.setCell ?_ (Nat.le_refl _) _) | (with_reducible apply Below.setCell) | (with_reducible apply Below.alloc) | (with_reducible apply Below.drew) | (with_reducible apply below_drewN) | (exact Nat.le_refl _) | omega | (simp; done) | (simp; omega)))⟩
end Go.Proofs.Ytjmcgekegenobaa
