/- The contract of report.Get: which numbers or error. No condition. -/
import Derived.Test.YtppegmggcmjboaaRepPlain
import Derived.Test.YtppegmggcmjboaaStill
import Derived.Test.YtppegmggcmjboaaCells
namespace Go.Proofs.Ytppegmggcmjboaa
open Go.RowKit
set_option linter.unusedVariables false
set_option linter.unusedSimpArgs false
attribute [local go_sem] conv1 conv1d conv1n conv1a conv1ad conv1an conv2 conv2d conv2n conv2a conv2ad conv2an conv4 conv4d conv4n conv4a conv4ad conv4an conv5 conv5d conv5n conv5a conv5ad conv5an size_nums byt_fold
def Blk (w : World) (g : Nat) (t : TypeId) (cs : Array Value) : Prop := w.heap[g]? = some (.cells cs t (0, 0))
theorem Blk.cell {w : World} {g : Nat} {t : TypeId} {cs : Array Value} (h : Blk w g t cs) (i : Nat) : w.cell? ⟨g, i, none⟩ = cs[i]? := cell_of_row w g i cs t (0, 0) h
theorem Blk.frozen {w : World} {g : Nat} {t : TypeId} {cs : Array Value} (h : Blk w g t cs) (i : Nat) : w.frozen? ⟨g, i, none⟩ = false := by
  unfold Blk at h
  simp [World.frozen?, h]
theorem Blk.set_ {w : World} {g : Nat} {t : TypeId} {cs : Array Value} (h : Blk w g t cs) (i : Nat) (u : Value) : Blk (w.setCell ⟨g, i, none⟩ u) g t (cs.setIfInBounds i u) := by
  unfold Blk at h ⊢
  simp [World.setCell, Array.getElem?_modify, h]
/-- A number's first m bytes. -/
def part (s : ByteArray) (j m : Nat) : Int :=
  if m = 0 then 0 else if m = 1 then byt s (4 * j) else if m = 2 then byt s (4 * j) * 256 + byt s (4 * j + 1) else if m = 3 then byt s (4 * j) * 65536 + byt s (4 * j + 1) * 256 + byt s (4 * j + 2) else gV s j
theorem part_range (s : ByteArray) (j m : Nat) (h : m < 4) : 0 ≤ part s j m ∧ part s j m < 16777216 := by
  have a := byt_range s (4 * j); have b := byt_range s (4 * j + 1); have c := byt_range s (4 * j + 2)
  unfold part
  repeat' split
  all_goals omega
theorem part_step (s : ByteArray) (j m : Nat) (h : m < 4) : part s j (m + 1) = part s j m * 256 + byt s (4 * j + m) := by
  have : m = 0 ∨ m = 1 ∨ m = 2 ∨ m = 3 := by omega
  rcases this with rfl | rfl | rfl | rfl <;> (simp [part]; try unfold gV) <;> omega
theorem part_full (s : ByteArray) (j m : Nat) (h : 4 ≤ m) : part s j m = gV s j := by
  unfold part; rw [if_neg (by omega), if_neg (by omega), if_neg (by omega), if_neg (by omega)]
def accs (s : ByteArray) (k : Nat) : List Int := (List.range 12).map fun j => part s j (k - 4 * j)
def accCells (s : ByteArray) (k : Nat) : Array Value := (intCells (accs s k)).toArray
theorem accs_get (s : ByteArray) (k q : Nat) (hq : q < 12) : (accCells s k)[q]? = some (.int .i64 (part s q (k - 4 * q))) := by
  unfold accCells accs intCells
  simp [hq]
theorem accs_step (s : ByteArray) (k q r : Nat) (hk : k = 4 * q + r) (hr : r < 4) (hq : q < 12) : (accCells s k).setIfInBounds q (.int .i64 (part s q r * 256 + byt s k)) = accCells s (k + 1) := by
  apply Array.ext_getElem?
  intro j
  rw [Array.getElem?_setIfInBounds]
  have hs : (accCells s k).size = 12 := by simp [accCells, accs, intCells]
  by_cases hj : j < 12
  · rw [accs_get s (k + 1) j hj]
    by_cases e : q = j
    · subst e
      rw [if_pos rfl, if_pos (by omega)]
      have : k + 1 - 4 * q = r + 1 := by omega
      rw [this, part_step _ _ _ hr, hk]
    · rw [if_neg e, accs_get s k j hj]
      by_cases h : j < q
      · rw [part_full _ _ _ (by omega), part_full _ _ _ (by omega)]
      · have h1 : k - 4 * j = 0 := by omega
        have h2 : k + 1 - 4 * j = 0 := by omega
        rw [h1, h2]
  · have hs2 : (accCells s (k + 1)).size = 12 := by simp [accCells, accs, intCells]
    rw [if_neg (by omega), Array.getElem?_eq_none (by omega), Array.getElem?_eq_none (by omega)]
theorem accs_end {s : ByteArray} (h : s.size = 48) : accs s 48 = gL s := by
  unfold accs gL; rw [if_pos h]
  apply List.map_congr_left
  intro j hj
  have := List.mem_range.1 hj
  exact part_full _ _ _ (by omega)
theorem accs_start (s : ByteArray) : accCells s 0 = #[.int .i64 0, .int .i64 0, .int .i64 0, .int .i64 0, .int .i64 0, .int .i64 0, .int .i64 0, .int .i64 0, .int .i64 0, .int .i64 0, .int .i64 0, .int .i64 0] := by
  have : accs s 0 = List.replicate 12 0 := by
    unfold accs
    apply List.ext_getElem (by simp)
    intro j a b
    rw [List.getElem_replicate, List.getElem_map, List.getElem_range]; unfold part; rw [if_pos (by omega)]
  unfold accCells; rw [this]; rfl
def RepGet (s : ByteArray) (w : World) (e : Ending) (w' : World) : Prop :=
  ∃ A cap, e = .returned (.tuple #[.slice A (gL s).length cap, .int .i64 (gE s)]) ∧ w'.ownsRow w.heap.size 3 1 (.slice A (gL s).length cap) (gL s).length (intCells (gL s)) ∧ Below w.heap.size w w'
theorem repget_bad {s : ByteArray} {w w' : World} (hb : Below w.heap.size w w') (h : ¬ s.size = 48) : RepGet s w (.returned (.tuple #[.slice none 0 0, .int .i64 700])) w' := by
  have e : gE s = 700 := by unfold gE; rw [if_neg h]
  have l : gL s = [] := by unfold gL; rw [if_neg h]
  unfold RepGet; rw [e, l]
  exact ⟨none, 0, rfl, World.ownsRow_nil _ _ _ _, hb⟩
theorem repget_ok {s : ByteArray} {w w' : World} {v : Value} (hb : Below w.heap.size w w') (h : s.size = 48) (ho : w'.ownsRow w.heap.size 3 1 v 12 (intCells (gL s))) : RepGet s w (.returned (.tuple #[v, .int .i64 0])) w' := by
  have e : gE s = 0 := by unfold gE; rw [if_pos h]
  have l : (gL s).length = 12 := gL_len h
  obtain ⟨A, cap, rfl⟩ := own_slice ho
  unfold RepGet; rw [e, l]
  exact ⟨A, cap, rfl, ho, hb⟩
theorem own_blk {w : World} {g base : Nat} {s : ByteArray} (h : Blk w g 3 (accCells s 48)) (hg : base ≤ g) (h48 : s.size = 48) : w.ownsRow base 3 1 (.slice (some ⟨g, 0, none⟩) 12 12) 12 (intCells (gL s)) := by
  have hl : (intCells (gL s)).length = 12 := by rw [intCells_len, gL_len h48]
  refine ⟨by omega, .inr ⟨g, 12, accCells s 48, rfl, hg, h, Nat.le_refl _, by unfold maxLen; omega, ?_, ?_⟩⟩
  · unfold accCells; rw [accs_end h48]; simpa using hl
  · unfold accCells; rw [accs_end h48]
    show ((intCells (gL s)).take _) = _
    exact List.take_of_length_le (by omega)
set_option maxRecDepth 100000 in
set_option maxHeartbeats 1000000 in
theorem repget_any (s : ByteArray) (w : World) : Calls Try.prog 9 #[.string s] w (RepGet s w) := by
  by_cases h48 : s.size = 48
  case neg =>
    have hb : ((s.size : Int) != 48) = true := by simp; omega
    go_enter Try.func9, Try.ntmps9
    go_wp2_with fail
    go_ret2
    exact repget_bad (Below.refl _ _) h48
  have H48 := Lib.hid h48
  have hb : ((s.size : Int) != 48) = false := by simp; omega
  have l1 : s.size ≤ 48 := by omega
  have l2 : 48 ≤ s.size := by omega
  clear h48
  have hmk : ∀ w : World, (Instr.makeSlice 22 (.int .i64 12) (.int .i64 12)).run Try.prog w = .ok (.slice (some ⟨w.heap.size, 0, none⟩) 12 12) (w.alloc (.cells #[.int .i64 0, .int .i64 0, .int .i64 0, .int .i64 0, .int .i64 0, .int .i64 0, .int .i64 0, .int .i64 0, .int .i64 0, .int .i64 0, .int .i64 0, .int .i64 0] 3)) := fun _ => by kernel_rfl
  go_enter Try.func9, Try.ntmps9
  go_wp2_with fail
  clear hmk
  go_loopw [12] (fun i wr => ∃ k : Nat, i = .int .i64 k ∧ k ≤ s.size ∧ Blk wr w.heap.size 3 (accCells s k) ∧ Below w.heap.size w wr) (fun i _ => s.size - (intOf i).toNat)
  case atStart => exact ⟨0, rfl, by omega, by rw [accs_start]; exact heap_alloc_new w _, (Below.refl _ _).alloc (Nat.le_refl _) _⟩
  case round =>
    obtain ⟨k, rfl, hkn, hblk, hbel⟩ := hrel
    by_cases hlt : k < s.size
    · have y1 : (k : Int) < (s.size : Int) := by omega
      obtain ⟨q, hq⟩ : ∃ q, k / 4 = q := ⟨_, rfl⟩
      obtain ⟨r, hr⟩ : ∃ r, k % 4 = r := ⟨_, rfl⟩
      have hk : k = 4 * q + r := by omega
      have hq12 : q < 12 := by omega
      have hr4 : r < 4 := by omega
      have hst := accs_step s k q r hk hr4 hq12
      have hcell : wr.cell? ⟨w.heap.size, q, none⟩ = some (.int .i64 (part s q r)) := by
        rw [hblk.cell, accs_get s k q hq12]; congr 3; omega
      have hfr := hblk.frozen
      obtain ⟨p0, p1⟩ := part_range s q r hr4
      obtain ⟨b0, b1⟩ := byt_range s k
      have hor := or_join (part s q r * 256) (byt s k) (by omega) (by omega) (by omega) b0 (by omega)
      have hqi : (k : Int) / 4 = (q : Int) := by omega
      have HST := Lib.hid hst; have HBLK := Lib.hid hblk; have HK := Lib.hid hk
      clear hst hblk hk hq hr
      go_wp2_with fail
      have hwq : IntKind.i64.wrap (q : Int) = q := IntWalk.i64_in _ (by omega)
      have hw2 : IntKind.i64.wrap (part s q r * 256) = part s q r * 256 := IntWalk.i64_in _ (by omega)
      have hqI : (q : Int) < 12 := by omega
      have hqJ : 0 ≤ (q : Int) := by omega
      have hw3 : IntKind.i64.wrap (byt s k) = byt s k := IntWalk.i64_in _ (by omega)
      (refine region_tail 15 (by kernel_rfl) (by kernel_rfl) ?_; simp only [List.take_succ_cons, List.take_zero, List.drop_succ_cons, List.drop_zero]; (repeat (first | (refine wpStill_step (fun K hK => ?_); go_simp; refine hK _ ?_; clear hK K) | (refine wpStill_step (fun K hK => ?_); go_simp; refine ⟨_, rfl, hK _ ?_⟩; clear hK K))); refine wpStill_nil ?_)
      clear hwq hw2 hw3 hqi
      go_wp2_with fail
      go_roundw
      case rel =>
        refine ⟨k + 1, by go_num, by omega, ?_, ?_⟩
        · have h := (show Blk wr.drew w.heap.size 3 (accCells s k) from HBLK.out).set_ q (.int .i64 (part s q r * 256 + byt s k))
          rw [HST.out] at h
          exact h
        · exact (hbel.drew).setCell (Nat.le_refl _) _
      case measure => simp [intOf]; omega
    · obtain rfl : k = 48 := by omega
      have HO := Lib.hid (own_blk hblk (Nat.le_refl _) H48.out)
      clear hblk
      go_wp2_with fail
      go_ret2
      exact repget_ok hbel H48.out HO.out
end Go.Proofs.Ytppegmggcmjboaa
