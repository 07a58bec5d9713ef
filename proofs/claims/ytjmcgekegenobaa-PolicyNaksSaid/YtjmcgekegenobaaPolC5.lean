/- The contract of package policy's better at a magic number. No condition but memory's own limits. -/
import Derived.Test.YtjmcgekegenobaaPolD
import Derived.Test.YtjmcgekegenobaaQReg
import Derived.Deep.RegionHeld3
namespace Go.Proofs.Ytjmcgekegenobaa
open Go.RowKit
set_option linter.unusedVariables false
set_option linter.unusedSimpArgs false
attribute [local go_sem] conv1 conv1d conv1n conv1a conv1ad conv1an conv2 conv2d conv2n conv2a conv2ad conv2an conv4 conv4d conv4n conv4a conv4ad conv4an conv5 conv5d conv5n conv5a conv5ad conv5an size_nums byt_fold
def flipM (m : Int) : Int := if 1 < 4294967295 - m then 4294967295 - m else 1
theorem xor_max (m : Int) (h0 : 0 ≤ m) (h1 : m ≤ 4294967295) : bits .xor .i64 m 4294967295 = 4294967295 - m := by
  obtain ⟨n, rfl⟩ := Int.eq_ofNat_of_zero_le h0
  have hn : n < 2 ^ 32 := by omega
  show IntKind.i64.wrap ((BitVec.ofInt 64 (n : Int) ^^^ BitVec.ofInt 64 4294967295).toNat : Nat) = _
  have e : (BitVec.ofInt 64 4294967295).toNat = 2 ^ 32 - 1 := by decide
  have e2 : (BitVec.ofInt 64 (n : Int)).toNat = n := by rw [BitVec.ofInt_natCast, BitVec.toNat_ofNat]; omega
  have e3 : n ^^^ (2 ^ 32 - 1) = 2 ^ 32 - (n + 1) := by
    apply Nat.eq_of_testBit_eq
    intro i
    rw [Nat.testBit_xor, Nat.testBit_two_pow_sub_one, Nat.testBit_two_pow_sub_succ hn]
    by_cases h : i < 32
    · simp [h]
    · have : n.testBit i = false := Nat.testBit_lt_two_pow (Nat.lt_of_lt_of_le hn (Nat.pow_le_pow_right (by omega) (by omega)))
      simp [h, this]
  rw [BitVec.toNat_xor, e, e2, e3, IntWalk.i64_in _ (by omega)]
  omega
def bettO (l : Lk) (k : Int) (d : ByteArray) : Option (Int × ByteArray) :=
  if k = 1 ∨ k = 17 then (if unitB (val d) then none else some (k, be2 1500)) else if k = 5 then (if (val d == 0) || (val d == l.magic) then some (5, be4 (flipM l.magic)) else none) else none
def BetB (l : Lk) (k : Int) (d : ByteArray) (w : World) (e : Ending) (w' : World) : Prop := ∃ k' d', e = .returned (.tuple #[.agg #[.int .i64 k', .string d'], .bool (bettO l k d).isSome]) ∧ (∀ o, bettO l k d = some o → o = (k', d')) ∧ Below w.heap.size w w'
def HeldB (l : Lk) (g : Nat) (w W : World) : Prop := Below w.heap.size w W ∧ W.cell? ⟨w.heap.size, 0, none⟩ = some (.int .i64 5) ∧ W.cell? ⟨g, 1, none⟩ = some (.int .i64 l.magic)
theorem keepG {l : Lk} {g : Nat} {w W B u : World} (h : HeldB l g w W) (e : B = W) (hb : Below B.heap.size B u) : HeldB l g w u := by
  subst e
  obtain ⟨h0, h1, h2⟩ := h
  exact ⟨below_step h0 hb h0.size, cellK hb h1, cellK hb h2⟩
theorem keepT {l : Lk} {g : Nat} {w W : World} (h : HeldB l g w W) (hg : g < w.heap.size) (a b : Value) : HeldB l g w ((W.setCell ⟨w.heap.size + 1, 0, none⟩ a).setCell ⟨w.heap.size + 1, 1, none⟩ b) := by
  obtain ⟨h0, h1, h2⟩ := h
  refine ⟨?_, cellS (.inl (by omega)) (cellS (.inl (by omega)) h1), cellS (.inl (by omega)) (cellS (.inl (by omega)) h2)⟩
  exact Below.setCell (Below.setCell h0 (by simp) _) (by simp) _
set_option maxRecDepth 100000 in
set_option maxHeartbeats 4000000 in
theorem better5F (g : Nat) (d : ByteArray) (l : Lk) (w : World) (h : Blk w g 48 (lkC l)) (hq0 : (val d == 0) = false) (hz : d.size ≤ 140737488351232) (hm : 0 ≤ l.magic ∧ l.magic ≤ 4294967295) : Calls Try.prog 26 #[.pointer (some ⟨g, 0, none⟩), .agg #[.int .i64 5, .string d]] w (BetB l 5 d w) := by
  have hlt := h.lt
  have hne : g ≠ w.heap.size := by omega
  have hne1 : g ≠ w.heap.size + 1 := by omega
  have c1 : w.cell? ⟨g, 1, none⟩ = some (.int .i64 l.magic) := h.cell 1
  have H := Lib.hid h; clear h
  obtain ⟨x, hx⟩ : ∃ x, val d = x := ⟨_, rfl⟩
  have hq : (x == 0) = false := by rw [← hx]; exact hq0
  obtain ⟨r, hr⟩ : ∃ r, (x == l.magic) = r := ⟨_, rfl⟩
  have hqd : decide (x = 0) = false := by rw [← hq]; rfl
  have hrd : decide (x = l.magic) = r := by rw [← hr]; rfl
  have hxm : bits .xor .i64 l.magic 4294967295 = 4294967295 - l.magic := xor_max _ hm.1 hm.2
  obtain ⟨fm, hmx⟩ : ∃ fm, (if 1 < 4294967295 - l.magic then 4294967295 - l.magic else 1) = fm := ⟨_, rfl⟩
  have hf0 : 0 ≤ fm := by omega
  have hf1 : fm < 4294967296 := by omega
  have hfl : flipM l.magic = fm := hmx
  have hbo : bettO l 5 d = if false || r then some (5, be4 fm) else none := by unfold bettO; rw [hx, hq, hr, hfl]; rfl
  go_enter Try.func26, Try.ntmps26
  go_wp2_with fail
  refine (value_any d _ hz).mono ?_
  rintro e w' ⟨rfl, rfl⟩
  rw [hx]
  go_wp2_with fail
  have HR : Blk ((w.alloc (Obj.cells #[Value.int IntKind.i64 5, Value.string d] 36)).alloc (Obj.cells #[Value.int IntKind.i64 0, Value.string ⟨#[]⟩] 36)) (w.heap.size + 1) 36 #[Value.int IntKind.i64 0, Value.string ⟨#[]⟩] := Blk.new_at _ _ (by simp) _ _
  have belA : Below w.heap.size w ((w.alloc (Obj.cells #[Value.int IntKind.i64 5, Value.string d] 36)).alloc (Obj.cells #[Value.int IntKind.i64 0, Value.string ⟨#[]⟩] 36)) := (by repeat' (first | (with_reducible exact Below.refl _ _) | (with_reducible apply Below.drew) | (with_reducible apply below_drewN) | (with_reducible apply Below.setCell) | (with_reducible apply Below.alloc) | (with_reducible refine below_step ?_ (by assumption) ?_) | omega | (simp; done) | (simp; omega)))
  have a0 : ((w.alloc (Obj.cells #[Value.int IntKind.i64 5, Value.string d] 36)).alloc (Obj.cells #[Value.int IntKind.i64 0, Value.string ⟨#[]⟩] 36)).cell? ⟨w.heap.size, 0, none⟩ = some (.int .i64 5) := cellA (cell0 rfl rfl)
  have a1 : ((w.alloc (Obj.cells #[Value.int IntKind.i64 5, Value.string d] 36)).alloc (Obj.cells #[Value.int IntKind.i64 0, Value.string ⟨#[]⟩] 36)).cell? ⟨g, 1, none⟩ = some (.int .i64 l.magic) := cellA (cellA c1)
  generalize ((w.alloc (Obj.cells #[Value.int IntKind.i64 5, Value.string d] 36)).alloc (Obj.cells #[Value.int IntKind.i64 0, Value.string ⟨#[]⟩] 36)) = WA at *
  have hR := Lib.hid HR; clear HR
  refine wp_region_held_drew (S := HeldB l g w) (by kernel_rfl) ⟨belA.drew, a0, a1⟩ (fun hHeld => ?_)
  (refine wpAnyH_take (i := 0) (oi := _) (v := ?v0) rfl (by kernel_rfl) (by kernel_rfl) (by kernel_rfl) (fun _ _ _ h => h) (Or.inl ⟨by kernel_rfl, ?y0⟩) (by assumption) ?_; rotate_left; (· (intro w hSw; obtain ⟨-, hw1, hw2⟩ := hSw; go_simp; try with_reducible rfl)); simp only [Act.put, List.setIfInBounds_toArray, List.set_cons_zero, List.set_cons_succ, List.getElem_toArray, List.getElem_cons_succ, List.getElem_cons_zero])
  (refine wpAnyH_take (i := 1) (oi := _) (v := ?v1) rfl (by kernel_rfl) (by kernel_rfl) (by kernel_rfl) (fun _ _ _ h => h) (Or.inl ⟨by kernel_rfl, ?y1⟩) (by assumption) ?_; rotate_left; (· (intro w hSw; obtain ⟨-, hw1, hw2⟩ := hSw; go_simp; try with_reducible rfl)); simp only [Act.put, List.setIfInBounds_toArray, List.set_cons_zero, List.set_cons_succ, List.getElem_toArray, List.getElem_cons_succ, List.getElem_cons_zero])
  (refine wpAnyH_take (i := 2) (oi := _) (v := ?v2) rfl (by kernel_rfl) (by kernel_rfl) (by kernel_rfl) (fun _ _ _ h => h) (Or.inl ⟨by kernel_rfl, ?y2⟩) (by assumption) ?_; rotate_left; (· (intro w hSw; obtain ⟨-, hw1, hw2⟩ := hSw; go_simp; try with_reducible rfl)); simp only [Act.put, List.setIfInBounds_toArray, List.set_cons_zero, List.set_cons_succ, List.getElem_toArray, List.getElem_cons_succ, List.getElem_cons_zero])
  (refine wpAnyH_take (i := 3) (oi := _) (v := ?v3) rfl (by kernel_rfl) (by kernel_rfl) (by kernel_rfl) (fun _ _ _ h => h) (Or.inl ⟨by kernel_rfl, ?y3⟩) (by assumption) ?_; rotate_left; (· (intro w hSw; obtain ⟨-, hw1, hw2⟩ := hSw; go_simp; try with_reducible rfl)); simp only [Act.put, List.setIfInBounds_toArray, List.set_cons_zero, List.set_cons_succ, List.getElem_toArray, List.getElem_cons_succ, List.getElem_cons_zero])
  (refine wpAnyH_take (i := 4) (oi := _) (v := ?v4) rfl (by kernel_rfl) (by kernel_rfl) (by kernel_rfl) (fun _ _ _ h => h) (Or.inl ⟨by kernel_rfl, ?y4⟩) (by assumption) ?_; rotate_left; (· (intro w hSw; obtain ⟨-, hw1, hw2⟩ := hSw; go_simp; try with_reducible rfl)); simp only [Act.put, List.setIfInBounds_toArray, List.set_cons_zero, List.set_cons_succ, List.getElem_toArray, List.getElem_cons_succ, List.getElem_cons_zero])
  (refine wpAnyH_take (i := 5) (oi := _) (v := ?v5) rfl (by kernel_rfl) (by kernel_rfl) (by kernel_rfl) (fun _ _ _ h => h) (Or.inl ⟨by kernel_rfl, ?y5⟩) (by assumption) ?_; rotate_left; (· (intro w hSw; obtain ⟨-, hw1, hw2⟩ := hSw; go_simp; try with_reducible rfl)); simp only [Act.put, List.setIfInBounds_toArray, List.set_cons_zero, List.set_cons_succ, List.getElem_toArray, List.getElem_cons_succ, List.getElem_cons_zero])
  (refine wpAnyH_take (i := 6) (oi := _) (v := ?v6) rfl (by kernel_rfl) (by kernel_rfl) (by kernel_rfl) (fun _ _ _ h => h) (Or.inl ⟨by kernel_rfl, ?y6⟩) (by assumption) ?_; rotate_left; (· (intro w hSw; obtain ⟨-, hw1, hw2⟩ := hSw; go_simp; try with_reducible rfl)); simp only [Act.put, List.setIfInBounds_toArray, List.set_cons_zero, List.set_cons_succ, List.getElem_toArray, List.getElem_cons_succ, List.getElem_cons_zero])
  (refine wpAnyH_take (i := 7) (oi := _) (v := ?v7) rfl (by kernel_rfl) (by kernel_rfl) (by kernel_rfl) (fun _ _ _ h => h) (Or.inl ⟨by kernel_rfl, ?y7⟩) (by assumption) ?_; rotate_left; (· (intro w hSw; obtain ⟨-, hw1, hw2⟩ := hSw; go_simp; try with_reducible rfl)); simp only [Act.put, List.setIfInBounds_toArray, List.set_cons_zero, List.set_cons_succ, List.getElem_toArray, List.getElem_cons_succ, List.getElem_cons_zero])
  (refine wpAnyH_take (i := 8) (oi := _) (v := ?v8) rfl (by kernel_rfl) (by kernel_rfl) (by kernel_rfl) (fun _ _ _ h => h) (Or.inl ⟨by kernel_rfl, ?y8⟩) (by assumption) ?_; rotate_left; (· (intro w hSw; obtain ⟨-, hw1, hw2⟩ := hSw; go_simp; try with_reducible rfl)); simp only [Act.put, List.setIfInBounds_toArray, List.set_cons_zero, List.set_cons_succ, List.getElem_toArray, List.getElem_cons_succ, List.getElem_cons_zero])
  (refine wpAnyH_take (i := 11) (oi := _) (v := ?v11) rfl (by kernel_rfl) (by kernel_rfl) (by kernel_rfl) (fun _ _ _ h => h) (Or.inl ⟨by kernel_rfl, ?y11⟩) (by assumption) ?_; rotate_left; (· (intro w hSw; obtain ⟨-, hw1, hw2⟩ := hSw; go_simp; try with_reducible rfl)); simp only [Act.put, List.setIfInBounds_toArray, List.set_cons_zero, List.set_cons_succ, List.getElem_toArray, List.getElem_cons_succ, List.getElem_cons_zero])
  (refine wpAnyH_take (i := 12) (oi := _) (v := ?v12) rfl (by kernel_rfl) (by kernel_rfl) (by kernel_rfl) (fun _ _ _ h => h) (Or.inl ⟨by kernel_rfl, ?y12⟩) (by assumption) ?_; rotate_left; (· (intro w hSw; obtain ⟨-, hw1, hw2⟩ := hSw; go_simp; try with_reducible rfl)); simp only [Act.put, List.setIfInBounds_toArray, List.set_cons_zero, List.set_cons_succ, List.getElem_toArray, List.getElem_cons_succ, List.getElem_cons_zero])
  (refine wpAnyH_ready (rs := [9]) (by kernel_rfl) (by simp) ?_; refine AllReadyH.cons (o := _) rfl (fun K hK => ?_) AllReadyH.nil; rw [if_pos (by kernel_rfl)])
  go_simp
  refine (number4_any fm _ hf0 hf1).mono ?_
  rintro e u ⟨rfl, hbu⟩
  have hbu0 := hbu
  obtain ⟨hcu, hfu⟩ := bcell hbu
  have hzu := hbu.size
  simp at hzu
  have HU : Blk u (w.heap.size + 1) 36 #[Value.int IntKind.i64 0, Value.string ⟨#[]⟩] := Blk.keep (Blk.drew hR) hbu
  have r0 := HU.cell 0
  have r1 := HU.cell 1
  have r2 := HU.frozen 0
  have r3 := HU.frozen 1
  simp at r0 r1
  go_simp
  (refine hK.out _ _ ?_ (fun hHeld => ?_))
  · exact keepG (by assumption) rfl hbu
  (refine wpAnyH_take (i := 10) (oi := _) (v := ?v10) rfl (by kernel_rfl) (by kernel_rfl) (by kernel_rfl) (fun _ _ _ h => h) (Or.inl ⟨by kernel_rfl, ?y10⟩) (by assumption) ?_; rotate_left; (· (intro w hSw; skip; go_simp; try with_reducible rfl)); simp only [Act.put, List.setIfInBounds_toArray, List.set_cons_zero, List.set_cons_succ, List.getElem_toArray, List.getElem_cons_succ, List.getElem_cons_zero])
  (refine wpAnyH_take (i := 13) (oi := _) (v := ?v13) rfl (by kernel_rfl) (by kernel_rfl) (by kernel_rfl) (fun _ _ _ h => h) (Or.inl ⟨by kernel_rfl, ?y13⟩) (by assumption) ?_; rotate_left; (· (intro w hSw; skip; go_simp; try with_reducible rfl)); simp only [Act.put, List.setIfInBounds_toArray, List.set_cons_zero, List.set_cons_succ, List.getElem_toArray, List.getElem_cons_succ, List.getElem_cons_zero])
  (refine wpAnyH_take (i := 14) (oi := _) (v := ?v14) rfl (by kernel_rfl) (by kernel_rfl) (by kernel_rfl) (fun _ _ _ h => h) (Or.inl ⟨by kernel_rfl, ?y14⟩) (by assumption) ?_; rotate_left; (· (intro w hSw; obtain ⟨-, hw1, hw2⟩ := hSw; go_simp; try with_reducible rfl)); simp only [Act.put, List.setIfInBounds_toArray, List.set_cons_zero, List.set_cons_succ, List.getElem_toArray, List.getElem_cons_succ, List.getElem_cons_zero])
  (refine wpAnyH_take (i := 15) (oi := _) (v := ?v15) rfl (by kernel_rfl) (by kernel_rfl) (by kernel_rfl) (fun _ _ _ h => h) (Or.inl ⟨by kernel_rfl, ?y15⟩) (by assumption) ?_; rotate_left; (· (intro w hSw; obtain ⟨-, hw1, hw2⟩ := hSw; go_simp; try with_reducible rfl)); simp only [Act.put, List.setIfInBounds_toArray, List.set_cons_zero, List.set_cons_succ, List.getElem_toArray, List.getElem_cons_succ, List.getElem_cons_zero])
  (refine wpAnyH_take (i := 16) (oi := _) (v := ?v16) rfl (by kernel_rfl) (by kernel_rfl) (by kernel_rfl) (fun _ _ _ h => h) (Or.inl ⟨by kernel_rfl, ?y16⟩) (by assumption) ?_; rotate_left; (· (intro w hSw; obtain ⟨-, hw1, hw2⟩ := hSw; go_simp; try with_reducible rfl)); simp only [Act.put, List.setIfInBounds_toArray, List.set_cons_zero, List.set_cons_succ, List.getElem_toArray, List.getElem_cons_succ, List.getElem_cons_zero])
  (refine wpAnyH_take (i := 17) (oi := _) (v := ?v17) rfl (by kernel_rfl) (by kernel_rfl) (by kernel_rfl) (fun _ _ _ h => h) (Or.inl ⟨by kernel_rfl, ?y17⟩) (by assumption) ?_; rotate_left; (· (intro w hSw; obtain ⟨-, hw1, hw2⟩ := hSw; go_simp; try with_reducible rfl)); simp only [Act.put, List.setIfInBounds_toArray, List.set_cons_zero, List.set_cons_succ, List.getElem_toArray, List.getElem_cons_succ, List.getElem_cons_zero])
  (refine wpAnyH_take (i := 18) (oi := _) (v := ?v18) rfl (by kernel_rfl) (by kernel_rfl) (by kernel_rfl) (fun _ _ _ h => h) (Or.inl ⟨by kernel_rfl, ?y18⟩) (by assumption) ?_; rotate_left; (· (intro w hSw; obtain ⟨-, hw1, hw2⟩ := hSw; go_simp; try with_reducible rfl)); simp only [Act.put, List.setIfInBounds_toArray, List.set_cons_zero, List.set_cons_succ, List.getElem_toArray, List.getElem_cons_succ, List.getElem_cons_zero])
  (refine wpAnyH_take (i := 19) (oi := _) (v := ?v19) rfl (by kernel_rfl) (by kernel_rfl) (by kernel_rfl) (fun _ _ _ h => h) (Or.inl ⟨by kernel_rfl, ?y19⟩) (by assumption) ?_; rotate_left; (· (intro w hSw; obtain ⟨-, hw1, hw2⟩ := hSw; go_simp; try with_reducible rfl)); simp only [Act.put, List.setIfInBounds_toArray, List.set_cons_zero, List.set_cons_succ, List.getElem_toArray, List.getElem_cons_succ, List.getElem_cons_zero])
  (refine wpAnyH_take (i := 20) (oi := _) (v := ?v20) rfl (by kernel_rfl) (by kernel_rfl) (by kernel_rfl) (fun _ _ _ h => h) (Or.inl ⟨by kernel_rfl, ?y20⟩) (by assumption) ?_; rotate_left; (· (intro w hSw; obtain ⟨-, hw1, hw2⟩ := hSw; go_simp; try with_reducible rfl)); simp only [Act.put, List.setIfInBounds_toArray, List.set_cons_zero, List.set_cons_succ, List.getElem_toArray, List.getElem_cons_succ, List.getElem_cons_zero])
  (refine wpAnyH_take (i := 21) (oi := _) (v := ?v21) rfl (by kernel_rfl) (by kernel_rfl) (by kernel_rfl) (fun _ _ _ h => h) (Or.inl ⟨by kernel_rfl, ?y21⟩) (by assumption) ?_; rotate_left; (· (intro w hSw; skip; go_simp; try with_reducible rfl)); simp only [Act.put, List.setIfInBounds_toArray, List.set_cons_zero, List.set_cons_succ, List.getElem_toArray, List.getElem_cons_succ, List.getElem_cons_zero])
  (refine wpAnyH_ready (rs := [22]) (by kernel_rfl) (by simp) ?_; refine AllReadyH.cons (o := _) rfl (fun K hK => ?_) AllReadyH.nil; rw [if_pos (by kernel_rfl)])
  go_simp
  (refine hK.out _ _ ?_ (fun hHeld => ?_))
  · exact keepT (by assumption) hlt _ _
  (refine wpAnyH_ready (rs := [23]) (by kernel_rfl) (by simp) ?_; refine AllReadyH.cons (o := _) rfl (fun K hK => ?_) AllReadyH.nil; rw [if_pos (by kernel_rfl)])
  go_simp
  (refine hK.out _ _ ?_ (fun hHeld => ?_))
  · assumption
  (refine wpAnyH_done (by kernel_rfl) ?_ _)
  go_wp2_with fail
  have belu : Below w.heap.size w u := below_step belA.drew hbu0 (by simpa using belA.size)
  refine bodyPost_ret (v := .tuple #[.agg #[.int .i64 5, .string (be4 fm)], .bool r]) (by simp [results, Try.results26, go_sem, r0, r1]) rfl ?_
  refine ⟨5, be4 fm, by rw [hbo]; cases r <;> rfl, fun o ho => ?_, (by repeat' (first | (with_reducible exact belu) | (with_reducible refine Below.setCell ?_ (Nat.le_refl _) _) | (with_reducible apply Below.setCell) | (with_reducible apply Below.alloc) | (with_reducible apply Below.drew) | (with_reducible apply below_drewN) | (exact Nat.le_refl _) | omega | (simp; done) | (simp; omega)))⟩
  rw [hbo] at ho
  cases r
  all_goals first | exact (Option.some.inj ho).symm | cases ho
set_option maxRecDepth 100000 in
set_option maxHeartbeats 4000000 in
theorem better5T (g : Nat) (d : ByteArray) (l : Lk) (w : World) (h : Blk w g 48 (lkC l)) (hq0 : (val d == 0) = true) (hz : d.size ≤ 140737488351232) (hm : 0 ≤ l.magic ∧ l.magic ≤ 4294967295) : Calls Try.prog 26 #[.pointer (some ⟨g, 0, none⟩), .agg #[.int .i64 5, .string d]] w (BetB l 5 d w) := by
  have hlt := h.lt
  have hne : g ≠ w.heap.size := by omega
  have hne1 : g ≠ w.heap.size + 1 := by omega
  have c1 : w.cell? ⟨g, 1, none⟩ = some (.int .i64 l.magic) := h.cell 1
  have H := Lib.hid h; clear h
  obtain ⟨x, hx⟩ : ∃ x, val d = x := ⟨_, rfl⟩
  have hq : (x == 0) = true := by rw [← hx]; exact hq0
  obtain ⟨r, hr⟩ : ∃ r, (x == l.magic) = r := ⟨_, rfl⟩
  have hqd : decide (x = 0) = true := by rw [← hq]; rfl
  have hrd : decide (x = l.magic) = r := by rw [← hr]; rfl
  have hxm : bits .xor .i64 l.magic 4294967295 = 4294967295 - l.magic := xor_max _ hm.1 hm.2
  obtain ⟨fm, hmx⟩ : ∃ fm, (if 1 < 4294967295 - l.magic then 4294967295 - l.magic else 1) = fm := ⟨_, rfl⟩
  have hf0 : 0 ≤ fm := by omega
  have hf1 : fm < 4294967296 := by omega
  have hfl : flipM l.magic = fm := hmx
  have hbo : bettO l 5 d = if true || r then some (5, be4 fm) else none := by unfold bettO; rw [hx, hq, hr, hfl]; rfl
  go_enter Try.func26, Try.ntmps26
  go_wp2_with fail
  refine (value_any d _ hz).mono ?_
  rintro e w' ⟨rfl, rfl⟩
  rw [hx]
  go_wp2_with fail
  have HR : Blk ((w.alloc (Obj.cells #[Value.int IntKind.i64 5, Value.string d] 36)).alloc (Obj.cells #[Value.int IntKind.i64 0, Value.string ⟨#[]⟩] 36)) (w.heap.size + 1) 36 #[Value.int IntKind.i64 0, Value.string ⟨#[]⟩] := Blk.new_at _ _ (by simp) _ _
  have belA : Below w.heap.size w ((w.alloc (Obj.cells #[Value.int IntKind.i64 5, Value.string d] 36)).alloc (Obj.cells #[Value.int IntKind.i64 0, Value.string ⟨#[]⟩] 36)) := (by repeat' (first | (with_reducible exact Below.refl _ _) | (with_reducible apply Below.drew) | (with_reducible apply below_drewN) | (with_reducible apply Below.setCell) | (with_reducible apply Below.alloc) | (with_reducible refine below_step ?_ (by assumption) ?_) | omega | (simp; done) | (simp; omega)))
  have a0 : ((w.alloc (Obj.cells #[Value.int IntKind.i64 5, Value.string d] 36)).alloc (Obj.cells #[Value.int IntKind.i64 0, Value.string ⟨#[]⟩] 36)).cell? ⟨w.heap.size, 0, none⟩ = some (.int .i64 5) := cellA (cell0 rfl rfl)
  have a1 : ((w.alloc (Obj.cells #[Value.int IntKind.i64 5, Value.string d] 36)).alloc (Obj.cells #[Value.int IntKind.i64 0, Value.string ⟨#[]⟩] 36)).cell? ⟨g, 1, none⟩ = some (.int .i64 l.magic) := cellA (cellA c1)
  generalize ((w.alloc (Obj.cells #[Value.int IntKind.i64 5, Value.string d] 36)).alloc (Obj.cells #[Value.int IntKind.i64 0, Value.string ⟨#[]⟩] 36)) = WA at *
  have hR := Lib.hid HR; clear HR
  refine wp_region_held_drew (S := HeldB l g w) (by kernel_rfl) ⟨belA.drew, a0, a1⟩ (fun hHeld => ?_)
  (refine wpAnyH_take (i := 0) (oi := _) (v := ?v0) rfl (by kernel_rfl) (by kernel_rfl) (by kernel_rfl) (fun _ _ _ h => h) (Or.inl ⟨by kernel_rfl, ?y0⟩) (by assumption) ?_; rotate_left; (· (intro w hSw; obtain ⟨-, hw1, hw2⟩ := hSw; go_simp; try with_reducible rfl)); simp only [Act.put, List.setIfInBounds_toArray, List.set_cons_zero, List.set_cons_succ, List.getElem_toArray, List.getElem_cons_succ, List.getElem_cons_zero])
  (refine wpAnyH_take (i := 1) (oi := _) (v := ?v1) rfl (by kernel_rfl) (by kernel_rfl) (by kernel_rfl) (fun _ _ _ h => h) (Or.inl ⟨by kernel_rfl, ?y1⟩) (by assumption) ?_; rotate_left; (· (intro w hSw; obtain ⟨-, hw1, hw2⟩ := hSw; go_simp; try with_reducible rfl)); simp only [Act.put, List.setIfInBounds_toArray, List.set_cons_zero, List.set_cons_succ, List.getElem_toArray, List.getElem_cons_succ, List.getElem_cons_zero])
  (refine wpAnyH_take (i := 2) (oi := _) (v := ?v2) rfl (by kernel_rfl) (by kernel_rfl) (by kernel_rfl) (fun _ _ _ h => h) (Or.inl ⟨by kernel_rfl, ?y2⟩) (by assumption) ?_; rotate_left; (· (intro w hSw; obtain ⟨-, hw1, hw2⟩ := hSw; go_simp; try with_reducible rfl)); simp only [Act.put, List.setIfInBounds_toArray, List.set_cons_zero, List.set_cons_succ, List.getElem_toArray, List.getElem_cons_succ, List.getElem_cons_zero])
  (refine wpAnyH_take (i := 3) (oi := _) (v := ?v3) rfl (by kernel_rfl) (by kernel_rfl) (by kernel_rfl) (fun _ _ _ h => h) (Or.inl ⟨by kernel_rfl, ?y3⟩) (by assumption) ?_; rotate_left; (· (intro w hSw; obtain ⟨-, hw1, hw2⟩ := hSw; go_simp; try with_reducible rfl)); simp only [Act.put, List.setIfInBounds_toArray, List.set_cons_zero, List.set_cons_succ, List.getElem_toArray, List.getElem_cons_succ, List.getElem_cons_zero])
  (refine wpAnyH_take (i := 4) (oi := _) (v := ?v4) rfl (by kernel_rfl) (by kernel_rfl) (by kernel_rfl) (fun _ _ _ h => h) (Or.inl ⟨by kernel_rfl, ?y4⟩) (by assumption) ?_; rotate_left; (· (intro w hSw; obtain ⟨-, hw1, hw2⟩ := hSw; go_simp; try with_reducible rfl)); simp only [Act.put, List.setIfInBounds_toArray, List.set_cons_zero, List.set_cons_succ, List.getElem_toArray, List.getElem_cons_succ, List.getElem_cons_zero])
  (refine wpAnyH_take (i := 5) (oi := _) (v := ?v5) rfl (by kernel_rfl) (by kernel_rfl) (by kernel_rfl) (fun _ _ _ h => h) (Or.inl ⟨by kernel_rfl, ?y5⟩) (by assumption) ?_; rotate_left; (· (intro w hSw; obtain ⟨-, hw1, hw2⟩ := hSw; go_simp; try with_reducible rfl)); simp only [Act.put, List.setIfInBounds_toArray, List.set_cons_zero, List.set_cons_succ, List.getElem_toArray, List.getElem_cons_succ, List.getElem_cons_zero])
  (refine wpAnyH_take (i := 6) (oi := _) (v := ?v6) rfl (by kernel_rfl) (by kernel_rfl) (by kernel_rfl) (fun _ _ _ h => h) (Or.inl ⟨by kernel_rfl, ?y6⟩) (by assumption) ?_; rotate_left; (· (intro w hSw; obtain ⟨-, hw1, hw2⟩ := hSw; go_simp; try with_reducible rfl)); simp only [Act.put, List.setIfInBounds_toArray, List.set_cons_zero, List.set_cons_succ, List.getElem_toArray, List.getElem_cons_succ, List.getElem_cons_zero])
  (refine wpAnyH_take (i := 7) (oi := _) (v := ?v7) rfl (by kernel_rfl) (by kernel_rfl) (by kernel_rfl) (fun _ _ _ h => h) (Or.inl ⟨by kernel_rfl, ?y7⟩) (by assumption) ?_; rotate_left; (· (intro w hSw; obtain ⟨-, hw1, hw2⟩ := hSw; go_simp; try with_reducible rfl)); simp only [Act.put, List.setIfInBounds_toArray, List.set_cons_zero, List.set_cons_succ, List.getElem_toArray, List.getElem_cons_succ, List.getElem_cons_zero])
  (refine wpAnyH_take (i := 8) (oi := _) (v := ?v8) rfl (by kernel_rfl) (by kernel_rfl) (by kernel_rfl) (fun _ _ _ h => h) (Or.inl ⟨by kernel_rfl, ?y8⟩) (by assumption) ?_; rotate_left; (· (intro w hSw; obtain ⟨-, hw1, hw2⟩ := hSw; go_simp; try with_reducible rfl)); simp only [Act.put, List.setIfInBounds_toArray, List.set_cons_zero, List.set_cons_succ, List.getElem_toArray, List.getElem_cons_succ, List.getElem_cons_zero])
  (refine wpAnyH_take (i := 11) (oi := _) (v := ?v11) rfl (by kernel_rfl) (by kernel_rfl) (by kernel_rfl) (fun _ _ _ h => h) (Or.inl ⟨by kernel_rfl, ?y11⟩) (by assumption) ?_; rotate_left; (· (intro w hSw; obtain ⟨-, hw1, hw2⟩ := hSw; go_simp; try with_reducible rfl)); simp only [Act.put, List.setIfInBounds_toArray, List.set_cons_zero, List.set_cons_succ, List.getElem_toArray, List.getElem_cons_succ, List.getElem_cons_zero])
  (refine wpAnyH_take (i := 12) (oi := _) (v := ?v12) rfl (by kernel_rfl) (by kernel_rfl) (by kernel_rfl) (fun _ _ _ h => h) (Or.inl ⟨by kernel_rfl, ?y12⟩) (by assumption) ?_; rotate_left; (· (intro w hSw; obtain ⟨-, hw1, hw2⟩ := hSw; go_simp; try with_reducible rfl)); simp only [Act.put, List.setIfInBounds_toArray, List.set_cons_zero, List.set_cons_succ, List.getElem_toArray, List.getElem_cons_succ, List.getElem_cons_zero])
  (refine wpAnyH_ready (rs := [9]) (by kernel_rfl) (by simp) ?_; refine AllReadyH.cons (o := _) rfl (fun K hK => ?_) AllReadyH.nil; rw [if_pos (by kernel_rfl)])
  go_simp
  refine (number4_any fm _ hf0 hf1).mono ?_
  rintro e u ⟨rfl, hbu⟩
  have hbu0 := hbu
  obtain ⟨hcu, hfu⟩ := bcell hbu
  have hzu := hbu.size
  simp at hzu
  have HU : Blk u (w.heap.size + 1) 36 #[Value.int IntKind.i64 0, Value.string ⟨#[]⟩] := Blk.keep (Blk.drew hR) hbu
  have r0 := HU.cell 0
  have r1 := HU.cell 1
  have r2 := HU.frozen 0
  have r3 := HU.frozen 1
  simp at r0 r1
  go_simp
  (refine hK.out _ _ ?_ (fun hHeld => ?_))
  · exact keepG (by assumption) rfl hbu
  (refine wpAnyH_take (i := 10) (oi := _) (v := ?v10) rfl (by kernel_rfl) (by kernel_rfl) (by kernel_rfl) (fun _ _ _ h => h) (Or.inl ⟨by kernel_rfl, ?y10⟩) (by assumption) ?_; rotate_left; (· (intro w hSw; skip; go_simp; try with_reducible rfl)); simp only [Act.put, List.setIfInBounds_toArray, List.set_cons_zero, List.set_cons_succ, List.getElem_toArray, List.getElem_cons_succ, List.getElem_cons_zero])
  (refine wpAnyH_take (i := 13) (oi := _) (v := ?v13) rfl (by kernel_rfl) (by kernel_rfl) (by kernel_rfl) (fun _ _ _ h => h) (Or.inl ⟨by kernel_rfl, ?y13⟩) (by assumption) ?_; rotate_left; (· (intro w hSw; skip; go_simp; try with_reducible rfl)); simp only [Act.put, List.setIfInBounds_toArray, List.set_cons_zero, List.set_cons_succ, List.getElem_toArray, List.getElem_cons_succ, List.getElem_cons_zero])
  (refine wpAnyH_take (i := 14) (oi := _) (v := _) rfl (by kernel_rfl) (by kernel_rfl) (by kernel_rfl) (fun _ _ _ h => h) (Or.inr ⟨by kernel_rfl, rfl⟩) (by assumption) ?_; simp only [Act.put, List.setIfInBounds_toArray, List.set_cons_zero, List.set_cons_succ, List.getElem_toArray, List.getElem_cons_succ, List.getElem_cons_zero])
  (refine wpAnyH_take (i := 15) (oi := _) (v := _) rfl (by kernel_rfl) (by kernel_rfl) (by kernel_rfl) (fun _ _ _ h => h) (Or.inr ⟨by kernel_rfl, rfl⟩) (by assumption) ?_; simp only [Act.put, List.setIfInBounds_toArray, List.set_cons_zero, List.set_cons_succ, List.getElem_toArray, List.getElem_cons_succ, List.getElem_cons_zero])
  (refine wpAnyH_take (i := 16) (oi := _) (v := _) rfl (by kernel_rfl) (by kernel_rfl) (by kernel_rfl) (fun _ _ _ h => h) (Or.inr ⟨by kernel_rfl, rfl⟩) (by assumption) ?_; simp only [Act.put, List.setIfInBounds_toArray, List.set_cons_zero, List.set_cons_succ, List.getElem_toArray, List.getElem_cons_succ, List.getElem_cons_zero])
  (refine wpAnyH_take (i := 17) (oi := _) (v := _) rfl (by kernel_rfl) (by kernel_rfl) (by kernel_rfl) (fun _ _ _ h => h) (Or.inr ⟨by kernel_rfl, rfl⟩) (by assumption) ?_; simp only [Act.put, List.setIfInBounds_toArray, List.set_cons_zero, List.set_cons_succ, List.getElem_toArray, List.getElem_cons_succ, List.getElem_cons_zero])
  (refine wpAnyH_take (i := 18) (oi := _) (v := _) rfl (by kernel_rfl) (by kernel_rfl) (by kernel_rfl) (fun _ _ _ h => h) (Or.inr ⟨by kernel_rfl, rfl⟩) (by assumption) ?_; simp only [Act.put, List.setIfInBounds_toArray, List.set_cons_zero, List.set_cons_succ, List.getElem_toArray, List.getElem_cons_succ, List.getElem_cons_zero])
  (refine wpAnyH_take (i := 19) (oi := _) (v := _) rfl (by kernel_rfl) (by kernel_rfl) (by kernel_rfl) (fun _ _ _ h => h) (Or.inr ⟨by kernel_rfl, rfl⟩) (by assumption) ?_; simp only [Act.put, List.setIfInBounds_toArray, List.set_cons_zero, List.set_cons_succ, List.getElem_toArray, List.getElem_cons_succ, List.getElem_cons_zero])
  (refine wpAnyH_take (i := 20) (oi := _) (v := _) rfl (by kernel_rfl) (by kernel_rfl) (by kernel_rfl) (fun _ _ _ h => h) (Or.inr ⟨by kernel_rfl, rfl⟩) (by assumption) ?_; simp only [Act.put, List.setIfInBounds_toArray, List.set_cons_zero, List.set_cons_succ, List.getElem_toArray, List.getElem_cons_succ, List.getElem_cons_zero])
  (refine wpAnyH_take (i := 21) (oi := _) (v := ?v21) rfl (by kernel_rfl) (by kernel_rfl) (by kernel_rfl) (fun _ _ _ h => h) (Or.inl ⟨by kernel_rfl, ?y21⟩) (by assumption) ?_; rotate_left; (· (intro w hSw; skip; go_simp; try with_reducible rfl)); simp only [Act.put, List.setIfInBounds_toArray, List.set_cons_zero, List.set_cons_succ, List.getElem_toArray, List.getElem_cons_succ, List.getElem_cons_zero])
  (refine wpAnyH_ready (rs := [22]) (by kernel_rfl) (by simp) ?_; refine AllReadyH.cons (o := _) rfl (fun K hK => ?_) AllReadyH.nil; rw [if_pos (by kernel_rfl)])
  go_simp
  (refine hK.out _ _ ?_ (fun hHeld => ?_))
  · exact keepT (by assumption) hlt _ _
  (refine wpAnyH_ready (rs := [23]) (by kernel_rfl) (by simp) ?_; refine AllReadyH.cons (o := _) rfl (fun K hK => ?_) AllReadyH.nil; rw [if_pos (by kernel_rfl)])
  go_simp
  (refine hK.out _ _ ?_ (fun hHeld => ?_))
  · assumption
  (refine wpAnyH_done (by kernel_rfl) ?_ _)
  go_wp2_with fail
  have belu : Below w.heap.size w u := below_step belA.drew hbu0 (by simpa using belA.size)
  refine bodyPost_ret (v := .tuple #[.agg #[.int .i64 5, .string (be4 fm)], .bool true]) (by simp [results, Try.results26, go_sem, r0, r1]) rfl ?_
  refine ⟨5, be4 fm, by rw [hbo]; cases r <;> rfl, fun o ho => ?_, (by repeat' (first | (with_reducible exact belu) | (with_reducible refine Below.setCell ?_ (Nat.le_refl _) _) | (with_reducible apply Below.setCell) | (with_reducible apply Below.alloc) | (with_reducible apply Below.drew) | (with_reducible apply below_drewN) | (exact Nat.le_refl _) | omega | (simp; done) | (simp; omega)))⟩
  rw [hbo] at ho
  cases r
  all_goals first | exact (Option.some.inj ho).symm | cases ho
end Go.Proofs.Ytjmcgekegenobaa
