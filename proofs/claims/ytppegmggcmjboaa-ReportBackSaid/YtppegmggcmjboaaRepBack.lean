/- Twelve numbers there and back, 48 bytes there and back; the walk of the law ReportBack: it returns true. No condition but memory's own limits. -/
import Derived.Test.YtppegmggcmjboaaRepForms
import Derived.Laws.CopyRow
namespace Go.Proofs.Ytppegmggcmjboaa
open Go.RowKit
set_option linter.unusedVariables false
set_option linter.unusedSimpArgs false
attribute [local go_sem] conv1 conv1d conv1n conv1a conv1ad conv1an conv2 conv2d conv2n conv2a conv2ad conv2an conv4 conv4d conv4n conv4a conv4ad conv4an conv5 conv5d conv5n conv5a conv5ad conv5an size_nums byt_fold
def bOf (s : ByteArray) (k : Nat) : List Int := (List.range k).map (byt s)
def bCells (s : ByteArray) (k : Nat) : Array Value := ((bOf s k).map (Value.int .u8)).toArray
theorem alloc_setRow (W : World) (cs cs' : Array Value) (t : TypeId) : (W.alloc (.cells cs t)).setRow W.heap.size cs' = W.alloc (.cells cs' t) := by
  have h : ∀ (A : Array Obj) (o : Obj) (f : Obj → Obj), (A.push o).modify A.size f = A.push (f o) := by
    intro A o f
    apply Array.ext_getElem?
    intro i
    rw [Array.getElem?_modify, Array.getElem?_push, Array.getElem?_push]
    by_cases e : A.size = i
    · subst e; simp
    · rw [if_neg e]
      have e2 : ¬ i = A.size := fun x => e x.symm
      rw [if_neg e2, if_neg e2]
  show ({ W with heap := (W.heap.push (.cells cs t)).modify W.heap.size _ } : World) = { W with heap := W.heap.push (.cells cs' t) }
  rw [h]
theorem run_copy_str (W : World) (s : ByteArray) (k : Nat) (ty : TypeId) :
    (Builtin.copy_ #[39, 9] ty #[.slice (some ⟨W.heap.size, 0, none⟩) k k, .string s]).run Try.prog (W.alloc (.cells (zcells k) 5)) = .ok (goInt ((min s.size k : Nat))) (W.alloc (.cells (bCells s k) 5)) := by
  obtain ⟨i0, hi, hz0, hz1, hz2⟩ := info_parts info_u8
  have hl : (List.map (fun b : UInt8 => Value.int .u8 (b.toNat : Int)) s.data.toList).length = s.size := by simp
  have hzl : (zcells k).size = k := by rw [zcells_eq]; simp
  have hst := run_storeCells_at (P := Try.prog) W.heap.size 0 5 (List.take (min s.size k) (List.map (fun b : UInt8 => Value.int .u8 (b.toNat : Int)) s.data.toList)) 0 (zcells k) (W.alloc (.cells (zcells k) 5)) (heap_alloc_new W _)
    (by rw [List.length_take, hl, hzl]; omega) (fun v hv => by
      obtain ⟨x, _, rfl⟩ := List.mem_map.1 (List.mem_of_mem_take hv)
      rfl)
  rw [alloc_setRow] at hst
  have hmin : Nat.min s.size k = min s.size k := rfl
  have hcs : ((zcells k).toList.take (0 + 0) ++ List.take (min s.size k) (List.map (fun b : UInt8 => Value.int .u8 (b.toNat : Int)) s.data.toList) ++ (zcells k).toList.drop (0 + 0 + (List.take (min s.size k) (List.map (fun b : UInt8 => Value.int .u8 (b.toNat : Int)) s.data.toList)).length)).toArray = bCells s k := by
    rw [List.length_take, hl]
    have e0 : min (min s.size k) s.size = min s.size k := by omega
    rw [e0]
    unfold bCells bOf
    congr 1
    rw [zcells_eq]
    apply List.ext_getElem
    · simp; omega
    · intro i a b
      simp at b
      simp only [Nat.add_zero, List.take_zero, List.nil_append, Nat.zero_add]
      by_cases h : i < min s.size k
      · rw [List.getElem_append_left (by rw [List.length_take, hl]; omega)]
        simp only [List.getElem_take, List.getElem_map, List.getElem_range]
        unfold byt
        rw [getD_lt _ _ _ (by simp; omega)]
      · rw [List.getElem_append_right (by rw [List.length_take, hl]; omega)]
        simp only [List.getElem_drop, List.getElem_map, List.getElem_range, List.getElem_replicate]
        unfold byt
        rw [List.getD_eq_getElem?_getD, List.getElem?_eq_none (by simp; omega)]
        rfl
  rw [hcs] at hst
  simp [Builtin.copy_, run_underlying Try.underlying39, Builtin.lenOf, Builtin.firstCells, sizeOf, typeInfo, hi, hmin]
  rw [hst]
  rfl
theorem Blk.below {w w' : World} {B g : Nat} {t : TypeId} {cs : Array Value} (h : Blk w g t cs) (hb : Below B w w') (hg : g < B) : Blk w' g t cs := (hb.block g hg).trans h
def md (z : Int) : Int := z % 4294967296
def xsL (ns : List Int) (k : Nat) : List Int := (List.range 12).map fun j => if j < k then md (ns.getD j 0) else 0
def xsC (ns : List Int) (k : Nat) : Array Value := (intCells (xsL ns k)).toArray
theorem xs_start (ns : List Int) : xsC ns 0 = #[.int .i64 0, .int .i64 0, .int .i64 0, .int .i64 0, .int .i64 0, .int .i64 0, .int .i64 0, .int .i64 0, .int .i64 0, .int .i64 0, .int .i64 0, .int .i64 0] := by
  have : xsL ns 0 = List.replicate 12 0 := by
    unfold xsL
    apply List.ext_getElem (by simp)
    intro j a b
    rw [List.getElem_replicate, List.getElem_map, if_neg (by omega)]
  unfold xsC; rw [this]; rfl
theorem xs_len (ns : List Int) (k : Nat) : (xsL ns k).length = 12 := by simp [xsL]
theorem xs_get (ns : List Int) (k : Nat) (hk : k < 12) : (xsC ns k)[k]? = some (.int .i64 0) := by
  unfold xsC xsL intCells; simp [hk]
theorem xs_step (ns : List Int) (k : Nat) (z : Int) (hz : ns[k]? = some z) (hk : k < 12) : (xsC ns k).setIfInBounds k (.int .i64 (md z)) = xsC ns (k + 1) := by
  apply Array.ext_getElem?
  intro j
  rw [Array.getElem?_setIfInBounds]
  have hs : (xsC ns k).size = 12 := by simp [xsC, intCells, xs_len]
  have hs2 : (xsC ns (k + 1)).size = 12 := by simp [xsC, intCells, xs_len]
  by_cases hj : j < 12
  · have g : ∀ q, (xsC ns q)[j]? = some (.int .i64 (if j < q then md (ns.getD j 0) else 0)) := by intro q; unfold xsC xsL intCells; simp [hj]
    rw [g, g]
    by_cases e : k = j
    · subst e
      rw [if_pos rfl, if_pos (by omega), if_pos (by omega)]
      simp [hz]
    · rw [if_neg e]
      by_cases h : j < k
      · rw [if_pos h, if_pos (by omega)]
      · rw [if_neg h, if_neg (by omega)]
  · rw [if_neg (by omega), Array.getElem?_eq_none (by omega), Array.getElem?_eq_none (by omega)]
theorem xs_E (ns : List Int) (k : Nat) : rE (xsL ns k) = 0 := by
  refine rE_ok (xs_len ns k) (fun j n hj hn => ?_)
  have : 0 ≤ n ∧ n < 4294967296 := by
    unfold xsL at hn
    rw [List.getElem?_map] at hn
    cases hr : (List.range 12)[j]? with
    | none => rw [hr] at hn; cases hn
    | some q =>
      rw [hr] at hn
      obtain rfl := Option.some.inj hn
      show 0 ≤ (if q < k then md (ns.getD q 0) else 0) ∧ (if q < k then md (ns.getD q 0) else 0) < 4294967296
      split
      · unfold md; omega
      · omega
  unfold rBadN; exact decide_eq_false (by omega)
theorem xs_at {w : World} {g : Nat} {ns : List Int} {k : Nat} (h : Blk w g 3 (xsC ns k)) : IntsAt w (some ⟨g, 0, none⟩) 12 (xsL ns k) := by
  have hlt : g < w.heap.size := (Array.getElem?_eq_some_iff.1 h).1
  refine ⟨xs_len ns k, fun _ => ⟨g, 0, rfl, hlt, fun j hj => ?_⟩⟩
  rw [h.cell]
  unfold xsC intCells
  simp only [Nat.zero_add]
  rw [List.getElem?_toArray, List.getElem?_map, List.getElem?_eq_getElem hj]; rfl
set_option maxRecDepth 100000 in
set_option maxHeartbeats 2000000 in
theorem reportBack_walk (A : Option Addr) (n cap : Nat) (ns : List Int) (s : ByteArray) (hnil : A = none → n = 0 ∧ cap = 0) (hcap : n ≤ cap) (hz : n * 8 ≤ 140737488351232) (hs : s.size ≤ 140737488351232) (w : World) (hv : IntsAt w A n ns) :
    Calls Try.prog 4 #[.slice A n cap, .string s] w fun e w' => e = .returned (.bool true) ∧ Below w.heap.size w w' := by
  have HV := Lib.hid hv; clear hv
  clear hnil hcap
  have hmk : ∀ w : World, (Instr.makeSlice 22 (.int .i64 12) (.int .i64 12)).run Try.prog w = .ok (.slice (some ⟨w.heap.size, 0, none⟩) 12 12) (w.alloc (.cells #[.int .i64 0, .int .i64 0, .int .i64 0, .int .i64 0, .int .i64 0, .int .i64 0, .int .i64 0, .int .i64 0, .int .i64 0, .int .i64 0, .int .i64 0, .int .i64 0] 3)) := fun _ => by kernel_rfl
  go_enter Try.func4, Try.ntmps4
  go_wp2_with (first | (go_at_call 11; refine (num_any _ _).mono ?_; rintro e w' ⟨rfl, rfl⟩))
  refine (awake_any _).mono ?_
  rintro e w1 ⟨rfl, hb1⟩
  have hz1 := hb1.size
  go_wp2_with (first | (go_at_call 11; refine (num_any _ _).mono ?_; rintro e w' ⟨rfl, rfl⟩))
  clear hmk
  go_loopw [6] (fun i wr => ∃ k : Nat, i = .int .i64 k ∧ k ≤ 12 ∧ k ≤ n ∧ Blk wr w1.heap.size 3 (xsC ns k) ∧ Below w.heap.size w wr) (fun i _ => 12 - (intOf i).toNat)
  case atStart => exact ⟨0, rfl, by omega, by omega, by rw [xs_start]; exact heap_alloc_new w1 _, hb1.alloc hz1 _⟩
  case round =>
    obtain ⟨k, rfl, hk12, hkn, hblk, hbel⟩ := hrel
    have hzr := hbel.size
    by_cases hlt : k < n ∧ k < 12
    · obtain ⟨hlt1, hlt2⟩ := hlt
      obtain ⟨b, off, z, rfl, hb, ho, c1⟩ := (HV.out.keep hbel).at_ k hlt1
      have y1 : (k : Int) < (n : Int) := by omega
      have y2 : (k : Int) < 12 := by omega
      have hst := xs_step ns k z ho hlt2
      have hcell : wr.cell? ⟨w1.heap.size, k, none⟩ = some (.int .i64 0) := by rw [hblk.cell, xs_get ns k hlt2]
      have hfr := hblk.frozen
      have hmd : (IntKind.u64.wrap z).tmod 4294967296 = md z := by
        have hu : 0 ≤ IntKind.u64.wrap z := by rw [IntKind.wrap_u64]; omega
        rw [Int.tmod_eq_emod_of_nonneg hu, IntKind.wrap_u64]; unfold md; omega
      have hm0 : 0 ≤ md z := by unfold md; omega
      have hm1 : md z < 4294967296 := by unfold md; omega
      have HST := Lib.hid hst; have HBLK := Lib.hid hblk; have HO := Lib.hid ho
      clear hst hblk ho
      go_wp2_with fail
      go_roundw
      case rel =>
        refine ⟨k + 1, by go_num, by omega, by omega, ?_, ?_⟩
        · have h := (HBLK.out).set_ k (.int .i64 (md z))
          rw [HST.out] at h
          exact h
        · exact hbel.setCell hz1 _
      case measure => simp [intOf]; omega
    · have HBLK := Lib.hid hblk
      have hE := xs_E ns k
      obtain ⟨X, hX⟩ : ∃ X, xsL ns k = X := ⟨_, rfl⟩
      have hXl : X.length = 12 := by rw [← hX]; exact xs_len ns k
      rw [hX] at hE
      obtain ⟨b1, b2⟩ := rback1 hE
      obtain ⟨T, hT⟩ : ∃ T, rS X = T := ⟨_, rfl⟩
      rw [hT] at b1 b2
      have a3 : gE T = 0 := by unfold gE; rw [if_pos b1]
      have HVX : Hid (IntsAt wr (some ⟨w1.heap.size, 0, none⟩) 12 X) := Lib.hid (by rw [← hX]; exact xs_at hblk)
      have HE := Lib.hid hE; have HT := Lib.hid hT; have B2 := Lib.hid b2; have A3 := Lib.hid a3; have HXL := Lib.hid hXl
      clear hE hT b1 b2 a3 hX hXl hblk
      obtain ⟨U, hU⟩ : ∃ U, strOfNums (bOf s 48) = U := ⟨_, rfl⟩
      have hUs : U.size = 48 := by rw [← hU, size_nums]; simp [bOf]
      have u3 : gE U = 0 := by unfold gE; rw [if_pos hUs]
      have u4 := gL_len hUs
      obtain ⟨u1, u2⟩ := rback2 hUs
      have HU := Lib.hid hU; have U3 := Lib.hid u3; have U4 := Lib.hid u4; have U1 := Lib.hid u1; have U2 := Lib.hid u2
      clear hU hUs u1 u2 u3 u4
      have hlt2 : (n : Int) ≤ (k : Int) ∨ ((k : Int) < (n : Int) ∧ 12 ≤ (k : Int)) := by omega
      have hmk2 : ∀ W : World, (Instr.makeSlice 39 (.int .i64 48) (.int .i64 48)).run Try.prog W = .ok (.slice (some ⟨W.heap.size, 0, none⟩) 48 48) (W.alloc (.cells (zcells 48) 5)) := fun W => run_mk 48 (by omega) W
      have hcp := fun W ty => run_copy_str W s 48 ty
      rcases hlt2 with h1 | ⟨h1, h2⟩
      all_goals
        go_wp2_with (first | (go_at_call 11; refine (num_any _ _).mono ?_; rintro e w' ⟨rfl, rfl⟩))
        refine (repput_any _ 12 12 X _ HVX.out (by omega)).mono ?_
        rintro e w2 ⟨rfl, hb2⟩
        rw [HT.out, HE.out]
        have hz2 := hb2.size
        have bel2 := below_step hbel hb2 hzr
        go_wp2_with (first | (go_at_call 11; refine (num_any _ _).mono ?_; rintro e w' ⟨rfl, rfl⟩))
        refine (repget_any _ _).mono ?_
        rintro e w3 ⟨A4, cap4, rfl, hown3, hb3⟩
        rw [A3.out, B2.out, HXL.out]
        rw [B2.out, HXL.out] at hown3
        have hz3 := hb3.size
        have bel3 := below_step bel2 hb3 (by omega)
        have HV3 : Hid (IntsAt w3 A4 12 X) := by
          have h : IntsAt w3 A4 X.length X := IntsAt.own (by rw [HXL.out]; exact hown3)
          rw [HXL.out] at h
          exact h
        have HVX3 := Lib.hid ((HVX.out.keep hb2).keep hb3)
        clear hown3
        have hconv := conv_in (bOf s 48) (w3.alloc (.cells (bCells s 48) 5)) w3.heap.size 48 (heap_alloc_new w3 _)
        have hbl : (bOf s 48).length = 48 := by simp [bOf]
        rw [hbl, HU.out] at hconv
        have HB3 := Lib.hid (show Blk (w3.alloc (.cells (bCells s 48) 5)) w3.heap.size 5 (bCells s 48) from heap_alloc_new w3 _)
        go_wp2_with (first | (go_at_call 11; refine (num_any _ _).mono ?_; rintro e w' ⟨rfl, rfl⟩))
        refine (repget_any _ _).mono ?_
        rintro e w4 ⟨A5, cap5, rfl, hown4, hb4⟩
        rw [U3.out, U4.out]
        rw [U4.out] at hown4
        clear hconv
        have hz4 := hb4.size
        simp at hz4
        have b34 : Below w3.heap.size w3 w4 := ((Below.refl _ _).alloc (Nat.le_refl _) _).trans (hb4.mono (by simp))
        have bel4 := below_step bel3 b34 (by omega)
        have HV4 : Hid (IntsAt w4 A5 12 (gL U)) := by
          have h : IntsAt w4 A5 (gL U).length (gL U) := IntsAt.own (by rw [U4.out]; exact hown4)
          rw [U4.out] at h
          exact h
        have HB4 := Lib.hid (Blk.below HB3.out hb4 (by simp))
        clear hown4 hb4
        go_wp2_with (first | (go_at_call 11; refine (num_any _ _).mono ?_; rintro e w' ⟨rfl, rfl⟩))
        refine (repput_any _ 12 _ (gL U) _ HV4.out (by omega)).mono ?_
        rintro e w5 ⟨rfl, hb5⟩
        rw [U1.out, U2.out]
        have hz5 := hb5.size
        have bel5 := below_step bel4 hb5 (by omega)
        have HB5 := Lib.hid (Blk.below HB4.out hb5 (by omega))
        go_wp2_with (first | (go_at_call 11; refine (num_any _ _).mono ?_; rintro e w' ⟨rfl, rfl⟩))
        refine (same_any _ _ 12 12 _ _ X X _ ((HV3.out.keep b34).keep hb5) ((HVX3.out.keep b34).keep hb5) (by omega)).mono ?_
        rintro e w6 ⟨rfl, hb6⟩
        rw [same_refl]
        have hconv := conv_in (bOf s 48) w6 w3.heap.size 48 (Blk.below HB5.out hb6 (by omega))
        rw [hbl, HU.out] at hconv
        go_wp2_with (first | (go_at_call 11; refine (num_any _ _).mono ?_; rintro e w' ⟨rfl, rfl⟩))
        go_ret
        exact ⟨by simp, below_step bel5 hb6 (by omega)⟩
end Go.Proofs.Ytppegmggcmjboaa
