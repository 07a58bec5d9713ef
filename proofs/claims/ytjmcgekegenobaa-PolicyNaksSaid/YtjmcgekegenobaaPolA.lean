/- The contracts of package policy's number, field, asks, clear. No condition. -/
import Derived.Test.YtjmcgekegenobaaPol
namespace Go.Proofs.Ytjmcgekegenobaa
open Go.RowKit
set_option linter.unusedVariables false
set_option linter.unusedSimpArgs false
attribute [local go_sem] conv1 conv1d conv1n conv1a conv1ad conv1an conv2 conv2d conv2n conv2a conv2ad conv2an conv4 conv4d conv4n conv4a conv4ad conv4an conv5 conv5d conv5n conv5a conv5ad conv5an size_nums byt_fold
theorem info_u8 : (Try.prog.info? 5).map (fun i => (i.zero, i.size, i.bytes)) = some (some (.int .u8 0), 1, 1) := by kernel_rfl
theorem cell_one_new (w : World) (x : Value) (t : TypeId) : ∀ j u, [x][j]? = some u → (w.alloc (.cells #[x] t)).cell? ((⟨w.heap.size, 0, none⟩ : Addr).add j) = some u :=
  World.news_of_block (cs := #[x]) (fr := (0, 0)) (heap_alloc_new w _)
def u8Cells (xs : List Int) : List Value := xs.map (Value.int .u8)
theorem conv_own {base : Nat} {v : Value} (w : World) (xs : List Int) (n : Nat) (h : w.ownsRow base 5 1 v n (u8Cells xs)) (hn : 0 < n) :
    (convert 43 9 v).run Try.prog w = .ok (.string (strOfNums xs)) w := by
  have hl : xs.length = n := by have := h.1; simp [u8Cells] at this; exact this
  rcases h.2 with ⟨_, h0⟩ | ⟨g, cap, cur, rfl, hg, hh, hnc, hcm, hcs, htk⟩
  · omega
  · subst hl
    refine run_convert_bytes_arg _ 43 5 Try.underlying43 Try.underlying5 _ 0 _ cap xs rfl (fun i hi => ?_) 9 Try.underlying9
    rw [cell_of_row w g _ cur _ _ hh]
    have a1 : (u8Cells xs)[i]? = some (.int .u8 xs[i]) := by unfold u8Cells; rw [List.getElem?_map, List.getElem?_eq_getElem hi]; rfl
    rw [← htk, List.getElem?_take] at a1
    split at a1
    · simp only [Nat.zero_add]
      simp [List.getD, hi]
      simpa using a1
    · cases a1
def bL2 (x : Int) : List Int := [x / 256, x % 256]
def bL4 (x : Int) : List Int := [x / 16777216, x / 65536 % 256, x / 256 % 256, x % 256]
def NumI (L : List Int) (w : World) (v : Value) (j : Nat) (wr : World) : Prop := wr.ownsRow w.heap.size 5 1 v j (u8Cells (L.take j)) ∧ Below w.heap.size w wr
set_option maxRecDepth 100000 in
set_option maxHeartbeats 2000000 in
theorem number2_any (x : Int) (w : World) (h0 : 0 ≤ x) (h1 : x < 65536) : Calls Try.prog 21 #[.int .i64 x, .int .i64 2] w fun e w' => e = .returned (.string (be2 x)) ∧ Below w.heap.size w w' := by
  obtain ⟨i0, hi, hz0, hz1, hz2⟩ := info_parts info_u8
  have HZ1 := Lib.hid hz1; have HZ2 := Lib.hid hz2; have HZ0 := Lib.hid hz0; have HI := Lib.hid hi
  clear hz0 hz1 hz2 hi
  go_enter Try.func21, Try.ntmps21
  go_wp2_with fail
  go_loopw [5, 6] (fun v i wr => ∃ j : Nat, j ≤ 2 ∧ i = .int .i64 (1 - (j : Int)) ∧ NumI (bL2 x) w v j wr) (fun _ i _ => (intOf i + 1).toNat)
  case atStart => exact ⟨0, by omega, rfl, World.ownsRow_nil _ _ _ _, Below.refl _ _⟩
  case round =>
    obtain ⟨j, hj, rfl, hown, hbel⟩ := hrel
    have HO := Lib.hid hown; clear hown
    rcases (by omega : (j = 0 ∧ 1 - (j : Int) = 1) ∨ (j = 1 ∧ 1 - (j : Int) = 0) ∨ (j = 2 ∧ 1 - (j : Int) = -1)) with ⟨rfl, e⟩ | ⟨rfl, e⟩ | ⟨rfl, e⟩
    · rw [e]; clear e
      go_wp2_with (at_builtin; refine wpList_append_own _ rfl _ _ 43 rfl w.heap.size 5 i0 _ 1 1 Try.underlying43 HI.out HZ0.out HZ1.out HZ2.out rfl (by omega) _ _ _ rfl (HO.out.alloc _) ⟨wr.heap.size, 0, none⟩ 1 1 [.int .u8 (x / 256)] rfl rfl (cell_one_new _ _ _) (by simp [Value.oneCell']) ?c10 ?c20 ?c30 ?_)
      case c10 => unfold maxLen; omega
      case c20 => omega
      case c30 => have := hbel.size; simp; omega
      intro v3 w3 hown3 hgrow hnil3
      clear hnil3
      have hb3 : Below w.heap.size w w3 := (hbel.alloc hbel.size _).grown hgrow (by have := hbel.size; simp; omega) (fun k hk => (HO.out.lt k hk).1)
      have hown4 : w3.ownsRow w.heap.size 5 1 v3 1 (u8Cells ((bL2 x).take 1)) := by simpa [u8Cells, bL2, Nat.add_assoc] using hown3
      have HO3 := Lib.hid hown4; clear hown3 hown4 hgrow
      go_wp2_with fail
      go_roundw
      case rel => exact ⟨1, by omega, rfl, HO3.out, hb3⟩
      case measure => simp [intOf]
    · rw [e]; clear e
      go_wp2_with (at_builtin; refine wpList_append_own _ rfl _ _ 43 rfl w.heap.size 5 i0 _ 1 1 Try.underlying43 HI.out HZ0.out HZ1.out HZ2.out rfl (by omega) _ _ _ rfl (HO.out.alloc _) ⟨wr.heap.size, 0, none⟩ 1 1 [.int .u8 (x % 256)] rfl rfl (cell_one_new _ _ _) (by simp [Value.oneCell']) ?c11 ?c21 ?c31 ?_)
      case c11 => unfold maxLen; omega
      case c21 => omega
      case c31 => have := hbel.size; simp; omega
      intro v3 w3 hown3 hgrow hnil3
      clear hnil3
      have hb3 : Below w.heap.size w w3 := (hbel.alloc hbel.size _).grown hgrow (by have := hbel.size; simp; omega) (fun k hk => (HO.out.lt k hk).1)
      have hown4 : w3.ownsRow w.heap.size 5 1 v3 2 (u8Cells ((bL2 x).take 2)) := by simpa [u8Cells, bL2, Nat.add_assoc] using hown3
      have HO3 := Lib.hid hown4; clear hown3 hown4 hgrow
      go_wp2_with fail
      go_roundw
      case rel => exact ⟨2, by omega, rfl, HO3.out, hb3⟩
      case measure => simp [intOf]
    · rw [e]; clear e
      have hconv := conv_own _ (bL2 x) 2 HO.out (by decide)
      go_wp2_with fail
      go_ret
      exact ⟨rfl, hbel⟩
set_option maxRecDepth 100000 in
set_option maxHeartbeats 2000000 in
theorem number4_any (x : Int) (w : World) (h0 : 0 ≤ x) (h1 : x < 4294967296) : Calls Try.prog 21 #[.int .i64 x, .int .i64 4] w fun e w' => e = .returned (.string (be4 x)) ∧ Below w.heap.size w w' := by
  obtain ⟨i0, hi, hz0, hz1, hz2⟩ := info_parts info_u8
  have HZ1 := Lib.hid hz1; have HZ2 := Lib.hid hz2; have HZ0 := Lib.hid hz0; have HI := Lib.hid hi
  clear hz0 hz1 hz2 hi
  go_enter Try.func21, Try.ntmps21
  go_wp2_with fail
  go_loopw [5, 6] (fun v i wr => ∃ j : Nat, j ≤ 4 ∧ i = .int .i64 (3 - (j : Int)) ∧ NumI (bL4 x) w v j wr) (fun _ i _ => (intOf i + 1).toNat)
  case atStart => exact ⟨0, by omega, rfl, World.ownsRow_nil _ _ _ _, Below.refl _ _⟩
  case round =>
    obtain ⟨j, hj, rfl, hown, hbel⟩ := hrel
    have HO := Lib.hid hown; clear hown
    rcases (by omega : (j = 0 ∧ 3 - (j : Int) = 3) ∨ (j = 1 ∧ 3 - (j : Int) = 2) ∨ (j = 2 ∧ 3 - (j : Int) = 1) ∨ (j = 3 ∧ 3 - (j : Int) = 0) ∨ (j = 4 ∧ 3 - (j : Int) = -1)) with ⟨rfl, e⟩ | ⟨rfl, e⟩ | ⟨rfl, e⟩ | ⟨rfl, e⟩ | ⟨rfl, e⟩
    · rw [e]; clear e
      go_wp2_with (at_builtin; refine wpList_append_own _ rfl _ _ 43 rfl w.heap.size 5 i0 _ 1 1 Try.underlying43 HI.out HZ0.out HZ1.out HZ2.out rfl (by omega) _ _ _ rfl (HO.out.alloc _) ⟨wr.heap.size, 0, none⟩ 1 1 [.int .u8 (x / 16777216)] rfl rfl (cell_one_new _ _ _) (by simp [Value.oneCell']) ?c10 ?c20 ?c30 ?_)
      case c10 => unfold maxLen; omega
      case c20 => omega
      case c30 => have := hbel.size; simp; omega
      intro v3 w3 hown3 hgrow hnil3
      clear hnil3
      have hb3 : Below w.heap.size w w3 := (hbel.alloc hbel.size _).grown hgrow (by have := hbel.size; simp; omega) (fun k hk => (HO.out.lt k hk).1)
      have hown4 : w3.ownsRow w.heap.size 5 1 v3 1 (u8Cells ((bL4 x).take 1)) := by simpa [u8Cells, bL4, Nat.add_assoc] using hown3
      have HO3 := Lib.hid hown4; clear hown3 hown4 hgrow
      go_wp2_with fail
      go_roundw
      case rel => exact ⟨1, by omega, rfl, HO3.out, hb3⟩
      case measure => simp [intOf]
    · rw [e]; clear e
      go_wp2_with (at_builtin; refine wpList_append_own _ rfl _ _ 43 rfl w.heap.size 5 i0 _ 1 1 Try.underlying43 HI.out HZ0.out HZ1.out HZ2.out rfl (by omega) _ _ _ rfl (HO.out.alloc _) ⟨wr.heap.size, 0, none⟩ 1 1 [.int .u8 (x / 65536 % 256)] rfl rfl (cell_one_new _ _ _) (by simp [Value.oneCell']) ?c11 ?c21 ?c31 ?_)
      case c11 => unfold maxLen; omega
      case c21 => omega
      case c31 => have := hbel.size; simp; omega
      intro v3 w3 hown3 hgrow hnil3
      clear hnil3
      have hb3 : Below w.heap.size w w3 := (hbel.alloc hbel.size _).grown hgrow (by have := hbel.size; simp; omega) (fun k hk => (HO.out.lt k hk).1)
      have hown4 : w3.ownsRow w.heap.size 5 1 v3 2 (u8Cells ((bL4 x).take 2)) := by simpa [u8Cells, bL4, Nat.add_assoc] using hown3
      have HO3 := Lib.hid hown4; clear hown3 hown4 hgrow
      go_wp2_with fail
      go_roundw
      case rel => exact ⟨2, by omega, rfl, HO3.out, hb3⟩
      case measure => simp [intOf]
    · rw [e]; clear e
      go_wp2_with (at_builtin; refine wpList_append_own _ rfl _ _ 43 rfl w.heap.size 5 i0 _ 1 1 Try.underlying43 HI.out HZ0.out HZ1.out HZ2.out rfl (by omega) _ _ _ rfl (HO.out.alloc _) ⟨wr.heap.size, 0, none⟩ 1 1 [.int .u8 (x / 256 % 256)] rfl rfl (cell_one_new _ _ _) (by simp [Value.oneCell']) ?c12 ?c22 ?c32 ?_)
      case c12 => unfold maxLen; omega
      case c22 => omega
      case c32 => have := hbel.size; simp; omega
      intro v3 w3 hown3 hgrow hnil3
      clear hnil3
      have hb3 : Below w.heap.size w w3 := (hbel.alloc hbel.size _).grown hgrow (by have := hbel.size; simp; omega) (fun k hk => (HO.out.lt k hk).1)
      have hown4 : w3.ownsRow w.heap.size 5 1 v3 3 (u8Cells ((bL4 x).take 3)) := by simpa [u8Cells, bL4, Nat.add_assoc] using hown3
      have HO3 := Lib.hid hown4; clear hown3 hown4 hgrow
      go_wp2_with fail
      go_roundw
      case rel => exact ⟨3, by omega, rfl, HO3.out, hb3⟩
      case measure => simp [intOf]
    · rw [e]; clear e
      go_wp2_with (at_builtin; refine wpList_append_own _ rfl _ _ 43 rfl w.heap.size 5 i0 _ 1 1 Try.underlying43 HI.out HZ0.out HZ1.out HZ2.out rfl (by omega) _ _ _ rfl (HO.out.alloc _) ⟨wr.heap.size, 0, none⟩ 1 1 [.int .u8 (x % 256)] rfl rfl (cell_one_new _ _ _) (by simp [Value.oneCell']) ?c13 ?c23 ?c33 ?_)
      case c13 => unfold maxLen; omega
      case c23 => omega
      case c33 => have := hbel.size; simp; omega
      intro v3 w3 hown3 hgrow hnil3
      clear hnil3
      have hb3 : Below w.heap.size w w3 := (hbel.alloc hbel.size _).grown hgrow (by have := hbel.size; simp; omega) (fun k hk => (HO.out.lt k hk).1)
      have hown4 : w3.ownsRow w.heap.size 5 1 v3 4 (u8Cells ((bL4 x).take 4)) := by simpa [u8Cells, bL4, Nat.add_assoc] using hown3
      have HO3 := Lib.hid hown4; clear hown3 hown4 hgrow
      go_wp2_with fail
      go_roundw
      case rel => exact ⟨4, by omega, rfl, HO3.out, hb3⟩
      case measure => simp [intOf]
    · rw [e]; clear e
      have hconv := conv_own _ (bL4 x) 4 HO.out (by decide)
      go_wp2_with fail
      go_ret
      exact ⟨rfl, hbel⟩
def fldO (k : Int) : Option Nat := if k = 1 then some 0 else if k = 5 then some 1 else if k = 17 then some 2 else if k = 23 then some 5 else none
def fldP (g : Nat) (k : Int) : Value := .pointer ((fldO k).map fun i => ⟨g, i, none⟩)
theorem kind_cases (k : Int) : k = 1 ∨ k = 5 ∨ k = 17 ∨ k = 23 ∨ k = 18 ∨ k = 19 ∨ ((k == 1) = false ∧ (k == 5) = false ∧ (k == 17) = false ∧ (k == 23) = false ∧ (k == 18) = false ∧ (k == 19) = false ∧ fldO k = none ∧ sizeK k = -2) := by
  by_cases h1 : k = 1
  · exact .inl h1
  by_cases h2 : k = 5
  · exact .inr (.inl h2)
  by_cases h3 : k = 17
  · exact .inr (.inr (.inl h3))
  by_cases h4 : k = 23
  · exact .inr (.inr (.inr (.inl h4)))
  by_cases h5 : k = 18
  · exact .inr (.inr (.inr (.inr (.inl h5))))
  by_cases h6 : k = 19
  · exact .inr (.inr (.inr (.inr (.inr (.inl h6)))))
  refine .inr (.inr (.inr (.inr (.inr (.inr ⟨?_, ?_, ?_, ?_, ?_, ?_, ?_, ?_⟩)))))
  all_goals first | exact decide_eq_false h1 | exact decide_eq_false h2 | exact decide_eq_false h3 | exact decide_eq_false h4 | exact decide_eq_false h5 | exact decide_eq_false h6 | (unfold fldO; rw [if_neg h1, if_neg h2, if_neg h3, if_neg h4]) | (unfold sizeK; rw [if_neg (by omega), if_neg h2, if_neg h5, if_neg h6])
set_option maxHeartbeats 1000000 in
theorem field_any (g : Nat) (k : Int) (l : Lk) (w : World) (h : Blk w g 48 (lkC l)) : Calls Try.prog 20 #[.pointer (some ⟨g, 0, none⟩), .int .i64 k] w fun e w' => e = .returned (fldP g k) ∧ w = w' := by
  have hlt := h.lt
  have c0 : w.cell? ⟨g, 0, none⟩ = some (.int .i64 l.mru) := h.cell 0
  clear h
  rcases kind_cases k with rfl | rfl | rfl | rfl | rfl | rfl | ⟨e1, e2, e3, e4, e5, e6, hf, -⟩
  all_goals
    go_enter Try.func20, Try.ntmps20
    go_wp2
    go_ret
    first | exact ⟨rfl, rfl⟩ | exact ⟨by unfold fldP; rw [hf]; rfl, rfl⟩
def asksB (l : Lk) (k : Int) : Bool := if k = 18 then l.short else if k = 19 then !l.disc.toList.isEmpty else if k = 1 then l.mru != 0 else if k = 5 then l.magic != 0 else if k = 17 then l.mrru != 0 else if k = 23 then l.num != 0 else false
theorem asks_none {l : Lk} {k : Int} (e1 : (k == 1) = false) (e2 : (k == 5) = false) (e3 : (k == 17) = false) (e4 : (k == 23) = false) (e5 : (k == 18) = false) (e6 : (k == 19) = false) : asksB l k = false := by
  unfold asksB
  rw [if_neg (of_decide_eq_false e5), if_neg (of_decide_eq_false e6), if_neg (of_decide_eq_false e1), if_neg (of_decide_eq_false e2), if_neg (of_decide_eq_false e3), if_neg (of_decide_eq_false e4)]
set_option maxHeartbeats 1000000 in
theorem asks_any (g : Nat) (k : Int) (l : Lk) (w : World) (h : Blk w g 48 (lkC l)) : Calls Try.prog 19 #[.pointer (some ⟨g, 0, none⟩), .int .i64 k] w fun e w' => e = .returned (.bool (asksB l k)) ∧ w = w' := by
  have hlt := h.lt
  have c0 : w.cell? ⟨g, 0, none⟩ = some (.int .i64 l.mru) := h.cell 0
  have c1 : w.cell? ⟨g, 1, none⟩ = some (.int .i64 l.magic) := h.cell 1
  have c2 : w.cell? ⟨g, 2, none⟩ = some (.int .i64 l.mrru) := h.cell 2
  have c3 : w.cell? ⟨g, 3, none⟩ = some (.bool l.short) := h.cell 3
  have c4 : w.cell? ⟨g, 4, none⟩ = some (.string l.disc) := h.cell 4
  have c5 : w.cell? ⟨g, 5, none⟩ = some (.int .i64 l.num) := h.cell 5
  have H := Lib.hid h; clear h
  rcases kind_cases k with rfl | rfl | rfl | rfl | rfl | rfl | ⟨e1, e2, e3, e4, e5, e6, hf, hs⟩
  all_goals
    go_enter Try.func19, Try.ntmps19
    go_wp2_with (first | (go_at_call 20; refine (field_any _ _ _ _ H.out).mono ?_; rintro e w' ⟨rfl, rfl⟩; first | (rw [show fldP g k = .pointer none from by unfold fldP; rw [hf]; rfl]) | simp only [fldP, fldO]))
    go_ret
    first | exact ⟨rfl, rfl⟩ | exact ⟨by rw [asks_none e1 e2 e3 e4 e5 e6]; rfl, rfl⟩
def clearL (l : Lk) (k : Int) : Lk := if k = 18 then { l with short := false } else if k = 19 then { l with disc := ⟨#[]⟩ } else if k = 1 then { l with mru := 0 } else if k = 5 then { l with magic := 0 } else if k = 17 then { l with mrru := 0 } else { l with num := 0 }
def six (k : Int) : Prop := k = 1 ∨ k = 5 ∨ k = 17 ∨ k = 23 ∨ k = 18 ∨ k = 19
def StB (g : Nat) (l : Lk) (w : World) (e : Ending) (w' : World) : Prop := e = .returned (.tuple #[]) ∧ Blk w' g 48 (lkC l) ∧ w.grownBy w' (some g)
set_option maxHeartbeats 2000000 in
theorem clear_any (g : Nat) (k : Int) (l : Lk) (w : World) (h : Blk w g 48 (lkC l)) (hk : six k) : Calls Try.prog 28 #[.pointer (some ⟨g, 0, none⟩), .int .i64 k] w (StB g (clearL l k) w) := by
  have hlt := h.lt
  have hfr := h.frozen
  have c0 : w.cell? ⟨g, 0, none⟩ = some (.int .i64 l.mru) := h.cell 0
  have c1 : w.cell? ⟨g, 1, none⟩ = some (.int .i64 l.magic) := h.cell 1
  have c2 : w.cell? ⟨g, 2, none⟩ = some (.int .i64 l.mrru) := h.cell 2
  have c3 : w.cell? ⟨g, 3, none⟩ = some (.bool l.short) := h.cell 3
  have c4 : w.cell? ⟨g, 4, none⟩ = some (.string l.disc) := h.cell 4
  have c5 : w.cell? ⟨g, 5, none⟩ = some (.int .i64 l.num) := h.cell 5
  have H := Lib.hid h; clear h
  rcases hk with rfl | rfl | rfl | rfl | rfl | rfl
  · go_enter Try.func28, Try.ntmps28
    go_wp2_with (first | (go_at_call 20; refine (field_any _ _ _ _ H.out).mono ?_; rintro e w' ⟨rfl, rfl⟩; simp only [fldP, fldO]))
    refine bodyPost_ret (v := .tuple #[]) (by simp [results, Try.results28, go_sem]) rfl ?_
    exact ⟨rfl, H.out.set_ 0 _, gr_set (gr_refl _ _) (.inl rfl) _⟩
  · go_enter Try.func28, Try.ntmps28
    go_wp2_with (first | (go_at_call 20; refine (field_any _ _ _ _ H.out).mono ?_; rintro e w' ⟨rfl, rfl⟩; simp only [fldP, fldO]))
    refine bodyPost_ret (v := .tuple #[]) (by simp [results, Try.results28, go_sem]) rfl ?_
    exact ⟨rfl, H.out.set_ 1 _, gr_set (gr_refl _ _) (.inl rfl) _⟩
  · go_enter Try.func28, Try.ntmps28
    go_wp2_with (first | (go_at_call 20; refine (field_any _ _ _ _ H.out).mono ?_; rintro e w' ⟨rfl, rfl⟩; simp only [fldP, fldO]))
    refine bodyPost_ret (v := .tuple #[]) (by simp [results, Try.results28, go_sem]) rfl ?_
    exact ⟨rfl, H.out.set_ 2 _, gr_set (gr_refl _ _) (.inl rfl) _⟩
  · go_enter Try.func28, Try.ntmps28
    go_wp2_with (first | (go_at_call 20; refine (field_any _ _ _ _ H.out).mono ?_; rintro e w' ⟨rfl, rfl⟩; simp only [fldP, fldO]))
    refine bodyPost_ret (v := .tuple #[]) (by simp [results, Try.results28, go_sem]) rfl ?_
    exact ⟨rfl, H.out.set_ 5 _, gr_set (gr_refl _ _) (.inl rfl) _⟩
  · go_enter Try.func28, Try.ntmps28
    go_wp2_with fail
    refine bodyPost_ret (v := .tuple #[]) (by simp [results, Try.results28, go_sem]) rfl ?_
    exact ⟨rfl, H.out.set_ 3 _, gr_set (gr_refl _ _) (.inl rfl) _⟩
  · go_enter Try.func28, Try.ntmps28
    go_wp2_with fail
    refine bodyPost_ret (v := .tuple #[]) (by simp [results, Try.results28, go_sem]) rfl ?_
    exact ⟨rfl, H.out.set_ 4 _, gr_set (gr_refl _ _) (.inl rfl) _⟩
end Go.Proofs.Ytjmcgekegenobaa
