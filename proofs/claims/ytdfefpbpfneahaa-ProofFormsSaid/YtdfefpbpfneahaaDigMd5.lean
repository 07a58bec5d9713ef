/- The contract of the reference's Md5: as digest.Of. No condition but memory's own limits. -/
import Derived.Test.YtdfefpbpfneahaaDigApp
import Derived.Test.YtdfefpbpfneahaaDigRefB
import Derived.Test.YtdfefpbpfneahaaCells
namespace Go.Proofs.Ytdfefpbpfneahaa
open Go.RowKit
set_option linter.unusedVariables false
set_option linter.unusedSimpArgs false
attribute [local go_sem] conv1 conv1d conv1n conv1a conv1ad conv1an conv2 conv2d conv2n conv2a conv2ad conv2an conv4 conv4d conv4n conv4a conv4ad conv4an conv5 conv5d conv5n conv5a conv5ad conv5an size_nums byt_fold
def sb (s : ByteArray) : List Int := (List.range s.size).map (byt s)
def u8L (L : List Int) : List Value := L.map (Value.int .u8)
/-- What stays through the writing of the padded text: the state's row, the constants' row. -/
def Keeps (w wr : World) (st : St) : Prop := Blk wr w.heap.size 76 (hC st) ∧ Blk wr (w.heap.size + 1) 76 kArr ∧ Below w.heap.size w wr ∧ w.heap.size + 2 ≤ wr.heap.size
theorem Keeps.alloc {w wr : World} {st : St} (h : Keeps w wr st) (o : Obj) : Keeps w (wr.alloc o) st := ⟨h.1.alloc _, h.2.1.alloc _, h.2.2.1.alloc h.2.2.1.size _, by have := h.2.2.2; simp; omega⟩
theorem Keeps.grown {w wr w2 : World} {st : St} {row : Option Nat} (h : Keeps w wr st) (hg : wr.grownBy w2 row) (hr : ∀ k, row = some k → w.heap.size + 2 ≤ k) : Keeps w w2 st := by
  refine ⟨h.1.grown hg (fun e => ?_), h.2.1.grown hg (fun e => ?_), h.2.2.1.grown hg h.2.2.1.size (fun k hk => by have := hr k hk; omega), Nat.le_trans h.2.2.2 hg.size⟩
  · have := hr _ e.symm; omega
  · have := hr _ e.symm; omega
theorem Own8.alloc {w : World} {base n : Nat} {v : Value} {xs : List Value} (h : Own8 w base v n xs) (o : Obj) : Own8 (w.alloc o) base v n xs := h.keep ((Below.refl _ _).alloc (Nat.le_refl _) _)
theorem Own8.drew {w : World} {base n : Nat} {v : Value} {xs : List Value} (h : Own8 w base v n xs) : Own8 w.drew base v n xs := h
theorem Keeps.drew {w wr : World} {st : St} (h : Keeps w wr st) : Keeps w wr.drew st := ⟨h.1, h.2.1, h.2.2.1.drew, h.2.2.2⟩
def le8 (X : Int) : List Int := [X % 256, X / 256 % 256, X / 65536 % 256, X / 16777216 % 256, X / 4294967296 % 256, X / 1099511627776 % 256, X / 281474976710656 % 256, X / 72057594037927936 % 256]
theorem le8_eq (X : Int) (h0 : 0 ≤ X) : le4 (X % 4294967296) ++ le4 (X / 4294967296) = le8 X := by
  unfold le4 le8
  simp only [List.cons_append, List.nil_append]
  congr 1; omega
  congr 1; omega
  congr 1; omega
  congr 1; omega
  congr 1
  congr 1; omega
  congr 1; omega
  congr 1; omega
theorem Keeps.start (w : World) : Keeps w ((w.alloc (.cells (hC st0) 76)).alloc (.cells kArr 76)) st0 := by
  refine ⟨(Blk.new _ _ _).alloc _, ?_, ((Below.refl _ _).alloc (Nat.le_refl _) _).alloc (by simp) _, by simp⟩
  have h := Blk.new (w.alloc (.cells (hC st0) 76)) 76 kArr
  have e : (w.alloc (.cells (hC st0) 76)).heap.size = w.heap.size + 1 := by simp
  rw [e] at h
  exact h
theorem and255w (X : Int) (h0 : 0 ≤ X) (h1 : X < 4294967296) : bits .and .u32 X 255 = X % 256 := by
  obtain ⟨n, rfl⟩ := Int.eq_ofNat_of_zero_le h0
  show IntKind.u32.wrap ((BitVec.ofInt 32 (n : Int) &&& BitVec.ofInt 32 255).toNat : Nat) = _
  have e : (BitVec.ofInt 32 255).toNat = 2 ^ 8 - 1 := by decide
  rw [BitVec.toNat_and, e, Nat.and_two_pow_sub_one_eq_mod, BitVec.ofInt_natCast, BitVec.toNat_ofNat, IntKind.wrap_u32]
  omega
theorem le8_rng (X : Int) : ∀ x ∈ le8 X, 0 ≤ x ∧ x ≤ 255 := by
  intro x hx
  simp [le8] at hx
  omega
theorem pad_list (s : ByteArray) (z : Nat) (X : Int) (hX : (s.size : Int) * 8 = X) (hz : zeros s.size = z) : (List.range (padded s).size).map (byt (padded s)) = sb s ++ 128 :: List.replicate z 0 ++ le8 X := by
  have ht : tailOf s.size = 128 :: List.replicate z 0 ++ le8 X := by unfold tailOf; rw [hX, hz, le8_eq X (by omega)]
  have hr : ∀ x ∈ tailOf s.size, 0 ≤ x ∧ x ≤ 255 := by
    rw [ht]
    intro x hx
    rw [List.mem_append] at hx
    rcases hx with hx | hx
    · rw [List.mem_cons] at hx
      rcases hx with rfl | hx
      · omega
      · have := (List.mem_replicate.1 hx).2; omega
    · exact le8_rng X x hx
  have hl : (tailOf s.size).length + s.size = (padded s).size := by unfold padded; rw [size_app, size_nums]; omega
  rw [List.append_assoc, ← ht]
  apply List.ext_getElem
  · simp [sb]; omega
  · intro i a b
    simp only [List.getElem_map, List.getElem_range]
    simp at a
    unfold padded
    rw [byt_app]
    by_cases h : i < s.size
    · rw [if_pos h, List.getElem_append_left (by simpa [sb] using h)]; simp [sb]
    · rw [if_neg h, List.getElem_append_right (by simp [sb]; omega)]
      have e : i - (sb s).length = i - s.size := by simp [sb]
      have hlt : i - s.size < (tailOf s.size).length := by omega
      have hm := hr _ (List.getElem_mem hlt)
      rw [byt_nums _ _ hlt hm.1 hm.2]
      congr 1
      exact e.symm
set_option maxRecDepth 100000 in
set_option maxHeartbeats 4000000 in
theorem rmd5_any (s : ByteArray) (w : World) (hs : s.size ≤ 100000000000000) : Calls Try.prog 28 #[.string s] w fun e w' => e = .returned (.string (md5 s)) ∧ Below w.heap.size w w' := by
  have hcv := fun W : World => run_bytes_of_string (P := Try.prog) W 9 41 5 s Try.underlying9 Try.underlying41 Try.underlying5
  go_enter Try.func28, Try.ntmps28
  go_wp2_with (first
    | (go_at_call 36; refine (sines_any _).mono ?_; rintro e w' ⟨rfl, rfl⟩)
    | (at_builtin; go_loud (refine wpList_append8 rfl _ _ rfl (w.heap.size + 2) s.size _ (u8L (sb s)) 128 rfl ?ho _ _ rfl ?hn (by omega) (by first | (simp; done) | (simp; omega)) ?_)))
  case ho =>
    refine Own8.drew (Own8.alloc (own8_conv ((w.alloc (.cells (hC st0) 76)).alloc (.cells kArr 76)) s _ (grownCap_ge _ _ _ _) (grownCap_le_maxLen _ _ _ _ (by unfold maxLen; omega)) (w.heap.size + 2) _ ?_ ?_) _)
    · simp
    · simp
  case hn => exact cell0 (by simp) rfl
  intro v1 w1 hown1 hgr1
  have hk1 : Keeps w w1 st0 := Keeps.grown (((Keeps.start w).alloc _).alloc _).drew hgr1 (fun k hk => by
    have : w.heap.size + 1 + 1 = k := by simpa [Value.ownBlock] using hk
    omega)
  have hown1' : Own8 w1 (w.heap.size + 2) v1 (s.size + 1) (u8L (sb s ++ [128])) := by unfold u8L at hown1 ⊢; rw [List.map_append]; exact hown1
  have HK1 := Lib.hid hk1; have HO1 := Lib.hid hown1'
  clear hk1 hown1' hown1 hgr1 hcv
  obtain ⟨gb, cap, rfl, _⟩ := HO1.out.cell
  obtain ⟨z, hz⟩ : ∃ z, zeros s.size = z := ⟨_, rfl⟩
  have hz2 : z < 64 := by rw [← hz]; unfold zeros; omega
  have HZ := Lib.hid hz; clear hz
  go_wp2_with fail
  go_loopw [5] (fun v wr => ∃ m n : Nat, ∃ gb cap : Nat, v = .slice (some ⟨gb, 0, none⟩) n cap ∧ n = s.size + 1 + m ∧ m ≤ z ∧ Own8 wr (w.heap.size + 2) v n (u8L (sb s ++ 128 :: List.replicate m 0)) ∧ Keeps w wr st0) (fun v _ => match v with | .slice _ n _ => s.size + 1 + z - n | _ => 0)
  case atStart => exact ⟨0, _, gb, cap, rfl, rfl, by omega, HO1.out, HK1.out⟩
  case round =>
    clear HO1 HK1
    obtain ⟨m, n, gb, cap, rfl, hn, hm, hown, hke⟩ := hrel
    have hn2 : n ≤ 100000000000100 := by omega
    have HO := Lib.hid hown; have HK := Lib.hid hke; have HN := Lib.hid hn
    have hzr := hke.2.2.2
    by_cases hlt : m < z
    · have ht : ((n : Int) % 64 != 56) = true := by
        have hz := HZ.out; unfold zeros at hz
        have : ¬ (n : Int) % 64 = 56 := by omega
        simpa using this
      clear hown hke hn
      go_wp2_with (at_builtin; refine wpList_append8 rfl _ _ rfl (w.heap.size + 2) n _ (u8L (sb s ++ 128 :: List.replicate m 0)) 0 rfl (HO.out.alloc _) _ _ rfl (cell0 rfl rfl) (by omega) (by simp; omega) ?_)
      intro v2 w2 hown2 hgr2
      have hke2 := (HK.out.alloc _).grown hgr2 (fun k hk => (HO.out.lt k hk).1)
      have hown3 : Own8 w2 (w.heap.size + 2) v2 (n + 1) (u8L (sb s ++ 128 :: List.replicate (m + 1) 0)) := by
        unfold u8L at hown2 ⊢
        rw [List.replicate_succ', ← List.cons_append, ← List.append_assoc, List.map_append]
        exact hown2
      obtain ⟨gb2, cap2, rfl, _⟩ := hown3.cell
      have HO3 := Lib.hid hown3; have HK3 := Lib.hid hke2
      clear hown2 hgr2 hown3 hke2
      go_wp2_with fail
      go_roundw
      case rel => exact ⟨m + 1, n + 1, gb2, cap2, rfl, by have := HN.out; omega, by omega, HO3.out, HK3.out⟩
      case measure => have := HN.out; simp; omega
    · obtain rfl : m = z := by omega
      have ht : ((n : Int) % 64 != 56) = false := by
        have hz := HZ.out; unfold zeros at hz
        have : (n : Int) % 64 = 56 := by omega
        simpa using this
      clear hown hke hn
      obtain ⟨X, hX⟩ : ∃ X, (s.size : Int) * 8 = X := ⟨_, rfl⟩
      have X0 : 0 ≤ X := by omega
      have X1 : X ≤ 800000000000000 := by omega
      have HX := Lib.hid hX
      go_wp2_with fail
      clear hX ht
      go_loopw [5, 7] (fun v i wr => ∃ j n gb cap : Nat, i = .int .i64 j ∧ v = .slice (some ⟨gb, 0, none⟩) n cap ∧ n = s.size + 1 + m + j ∧ j ≤ 8 ∧ Own8 wr (w.heap.size + 2) v n (u8L (sb s ++ 128 :: List.replicate m 0 ++ (le8 X).take j)) ∧ Keeps w wr st0) (fun _ i _ => 8 - (intOf i).toNat)
      case atStart => exact ⟨0, n, gb, cap, rfl, rfl, by have := HN.out; omega, by omega, by simpa using HO.out, HK.out⟩
      case round =>
        clear HO HK HN hzr hn2
        obtain ⟨j, n, gb, cap, rfl, rfl, hn, hj, hown, hke⟩ := hrel
        have hn2 : n ≤ 100000000000200 := by omega
        have HO := Lib.hid hown; have HK := Lib.hid hke; have HN := Lib.hid hn
        have hzr := hke.2.2.2
        clear hown hke hn
        rcases (by omega : j = 0 ∨ j = 1 ∨ j = 2 ∨ j = 3 ∨ j = 4 ∨ j = 5 ∨ j = 6 ∨ j = 7 ∨ j = 8) with rfl | rfl | rfl | rfl | rfl | rfl | rfl | rfl | rfl
        · have a1 : bits .and .u64 X 255 = X % 256 := and255u _ (by omega) (by omega)
          go_wp2_with (at_builtin; refine wpList_append8 rfl _ _ rfl (w.heap.size + 2) n _ (u8L (sb s ++ 128 :: List.replicate m 0 ++ (le8 X).take 0)) (X % 256) rfl (HO.out.alloc _) _ _ rfl (cell0 rfl rfl) (by omega) (by simp; omega) ?_)
          intro v2 w2 hown2 hgr2
          have hke2 := (HK.out.alloc _).grown hgr2 (fun k hk => (HO.out.lt k hk).1)
          have hown3 : Own8 w2 (w.heap.size + 2) v2 (n + 1) (u8L (sb s ++ 128 :: List.replicate m 0 ++ (le8 X).take 1)) := by
            have e : u8L (sb s ++ 128 :: List.replicate m 0 ++ (le8 X).take 1) = u8L (sb s ++ 128 :: List.replicate m 0 ++ (le8 X).take 0) ++ [.int .u8 (X % 256)] := by simp [u8L, le8]
            rw [e]; simpa using hown2
          obtain ⟨gb2, cap2, rfl, _⟩ := hown3.cell
          have HO3 := Lib.hid hown3; have HK3 := Lib.hid hke2
          clear hown2 hgr2 hown3 hke2 a1
          go_wp2_with fail
          go_roundw
          case rel => exact ⟨1, n + 1, gb2, cap2, rfl, rfl, by have := HN.out; omega, by omega, HO3.out, HK3.out⟩
          case measure => simp [intOf]
        · have a1 : bits .and .u64 (X / 256) 255 = X / 256 % 256 := and255u _ (by omega) (by omega)
          go_wp2_with (at_builtin; refine wpList_append8 rfl _ _ rfl (w.heap.size + 2) n _ (u8L (sb s ++ 128 :: List.replicate m 0 ++ (le8 X).take 1)) (X / 256 % 256) rfl (HO.out.alloc _) _ _ rfl (cell0 rfl rfl) (by omega) (by simp; omega) ?_)
          intro v2 w2 hown2 hgr2
          have hke2 := (HK.out.alloc _).grown hgr2 (fun k hk => (HO.out.lt k hk).1)
          have hown3 : Own8 w2 (w.heap.size + 2) v2 (n + 1) (u8L (sb s ++ 128 :: List.replicate m 0 ++ (le8 X).take 2)) := by
            have e : u8L (sb s ++ 128 :: List.replicate m 0 ++ (le8 X).take 2) = u8L (sb s ++ 128 :: List.replicate m 0 ++ (le8 X).take 1) ++ [.int .u8 (X / 256 % 256)] := by simp [u8L, le8]
            rw [e]; simpa using hown2
          obtain ⟨gb2, cap2, rfl, _⟩ := hown3.cell
          have HO3 := Lib.hid hown3; have HK3 := Lib.hid hke2
          clear hown2 hgr2 hown3 hke2 a1
          go_wp2_with fail
          go_roundw
          case rel => exact ⟨2, n + 1, gb2, cap2, rfl, rfl, by have := HN.out; omega, by omega, HO3.out, HK3.out⟩
          case measure => simp [intOf]
        · have a1 : bits .and .u64 (X / 65536) 255 = X / 65536 % 256 := and255u _ (by omega) (by omega)
          go_wp2_with (at_builtin; refine wpList_append8 rfl _ _ rfl (w.heap.size + 2) n _ (u8L (sb s ++ 128 :: List.replicate m 0 ++ (le8 X).take 2)) (X / 65536 % 256) rfl (HO.out.alloc _) _ _ rfl (cell0 rfl rfl) (by omega) (by simp; omega) ?_)
          intro v2 w2 hown2 hgr2
          have hke2 := (HK.out.alloc _).grown hgr2 (fun k hk => (HO.out.lt k hk).1)
          have hown3 : Own8 w2 (w.heap.size + 2) v2 (n + 1) (u8L (sb s ++ 128 :: List.replicate m 0 ++ (le8 X).take 3)) := by
            have e : u8L (sb s ++ 128 :: List.replicate m 0 ++ (le8 X).take 3) = u8L (sb s ++ 128 :: List.replicate m 0 ++ (le8 X).take 2) ++ [.int .u8 (X / 65536 % 256)] := by simp [u8L, le8]
            rw [e]; simpa using hown2
          obtain ⟨gb2, cap2, rfl, _⟩ := hown3.cell
          have HO3 := Lib.hid hown3; have HK3 := Lib.hid hke2
          clear hown2 hgr2 hown3 hke2 a1
          go_wp2_with fail
          go_roundw
          case rel => exact ⟨3, n + 1, gb2, cap2, rfl, rfl, by have := HN.out; omega, by omega, HO3.out, HK3.out⟩
          case measure => simp [intOf]
        · have a1 : bits .and .u64 (X / 16777216) 255 = X / 16777216 % 256 := and255u _ (by omega) (by omega)
          go_wp2_with (at_builtin; refine wpList_append8 rfl _ _ rfl (w.heap.size + 2) n _ (u8L (sb s ++ 128 :: List.replicate m 0 ++ (le8 X).take 3)) (X / 16777216 % 256) rfl (HO.out.alloc _) _ _ rfl (cell0 rfl rfl) (by omega) (by simp; omega) ?_)
          intro v2 w2 hown2 hgr2
          have hke2 := (HK.out.alloc _).grown hgr2 (fun k hk => (HO.out.lt k hk).1)
          have hown3 : Own8 w2 (w.heap.size + 2) v2 (n + 1) (u8L (sb s ++ 128 :: List.replicate m 0 ++ (le8 X).take 4)) := by
            have e : u8L (sb s ++ 128 :: List.replicate m 0 ++ (le8 X).take 4) = u8L (sb s ++ 128 :: List.replicate m 0 ++ (le8 X).take 3) ++ [.int .u8 (X / 16777216 % 256)] := by simp [u8L, le8]
            rw [e]; simpa using hown2
          obtain ⟨gb2, cap2, rfl, _⟩ := hown3.cell
          have HO3 := Lib.hid hown3; have HK3 := Lib.hid hke2
          clear hown2 hgr2 hown3 hke2 a1
          go_wp2_with fail
          go_roundw
          case rel => exact ⟨4, n + 1, gb2, cap2, rfl, rfl, by have := HN.out; omega, by omega, HO3.out, HK3.out⟩
          case measure => simp [intOf]
        · have a1 : bits .and .u64 (X / 4294967296) 255 = X / 4294967296 % 256 := and255u _ (by omega) (by omega)
          go_wp2_with (at_builtin; refine wpList_append8 rfl _ _ rfl (w.heap.size + 2) n _ (u8L (sb s ++ 128 :: List.replicate m 0 ++ (le8 X).take 4)) (X / 4294967296 % 256) rfl (HO.out.alloc _) _ _ rfl (cell0 rfl rfl) (by omega) (by simp; omega) ?_)
          intro v2 w2 hown2 hgr2
          have hke2 := (HK.out.alloc _).grown hgr2 (fun k hk => (HO.out.lt k hk).1)
          have hown3 : Own8 w2 (w.heap.size + 2) v2 (n + 1) (u8L (sb s ++ 128 :: List.replicate m 0 ++ (le8 X).take 5)) := by
            have e : u8L (sb s ++ 128 :: List.replicate m 0 ++ (le8 X).take 5) = u8L (sb s ++ 128 :: List.replicate m 0 ++ (le8 X).take 4) ++ [.int .u8 (X / 4294967296 % 256)] := by simp [u8L, le8]
            rw [e]; simpa using hown2
          obtain ⟨gb2, cap2, rfl, _⟩ := hown3.cell
          have HO3 := Lib.hid hown3; have HK3 := Lib.hid hke2
          clear hown2 hgr2 hown3 hke2 a1
          go_wp2_with fail
          go_roundw
          case rel => exact ⟨5, n + 1, gb2, cap2, rfl, rfl, by have := HN.out; omega, by omega, HO3.out, HK3.out⟩
          case measure => simp [intOf]
        · have a1 : bits .and .u64 (X / 1099511627776) 255 = X / 1099511627776 % 256 := and255u _ (by omega) (by omega)
          go_wp2_with (at_builtin; refine wpList_append8 rfl _ _ rfl (w.heap.size + 2) n _ (u8L (sb s ++ 128 :: List.replicate m 0 ++ (le8 X).take 5)) (X / 1099511627776 % 256) rfl (HO.out.alloc _) _ _ rfl (cell0 rfl rfl) (by omega) (by simp; omega) ?_)
          intro v2 w2 hown2 hgr2
          have hke2 := (HK.out.alloc _).grown hgr2 (fun k hk => (HO.out.lt k hk).1)
          have hown3 : Own8 w2 (w.heap.size + 2) v2 (n + 1) (u8L (sb s ++ 128 :: List.replicate m 0 ++ (le8 X).take 6)) := by
            have e : u8L (sb s ++ 128 :: List.replicate m 0 ++ (le8 X).take 6) = u8L (sb s ++ 128 :: List.replicate m 0 ++ (le8 X).take 5) ++ [.int .u8 (X / 1099511627776 % 256)] := by simp [u8L, le8]
            rw [e]; simpa using hown2
          obtain ⟨gb2, cap2, rfl, _⟩ := hown3.cell
          have HO3 := Lib.hid hown3; have HK3 := Lib.hid hke2
          clear hown2 hgr2 hown3 hke2 a1
          go_wp2_with fail
          go_roundw
          case rel => exact ⟨6, n + 1, gb2, cap2, rfl, rfl, by have := HN.out; omega, by omega, HO3.out, HK3.out⟩
          case measure => simp [intOf]
        · have a1 : bits .and .u64 (X / 281474976710656) 255 = X / 281474976710656 % 256 := and255u _ (by omega) (by omega)
          go_wp2_with (at_builtin; refine wpList_append8 rfl _ _ rfl (w.heap.size + 2) n _ (u8L (sb s ++ 128 :: List.replicate m 0 ++ (le8 X).take 6)) (X / 281474976710656 % 256) rfl (HO.out.alloc _) _ _ rfl (cell0 rfl rfl) (by omega) (by simp; omega) ?_)
          intro v2 w2 hown2 hgr2
          have hke2 := (HK.out.alloc _).grown hgr2 (fun k hk => (HO.out.lt k hk).1)
          have hown3 : Own8 w2 (w.heap.size + 2) v2 (n + 1) (u8L (sb s ++ 128 :: List.replicate m 0 ++ (le8 X).take 7)) := by
            have e : u8L (sb s ++ 128 :: List.replicate m 0 ++ (le8 X).take 7) = u8L (sb s ++ 128 :: List.replicate m 0 ++ (le8 X).take 6) ++ [.int .u8 (X / 281474976710656 % 256)] := by simp [u8L, le8]
            rw [e]; simpa using hown2
          obtain ⟨gb2, cap2, rfl, _⟩ := hown3.cell
          have HO3 := Lib.hid hown3; have HK3 := Lib.hid hke2
          clear hown2 hgr2 hown3 hke2 a1
          go_wp2_with fail
          go_roundw
          case rel => exact ⟨7, n + 1, gb2, cap2, rfl, rfl, by have := HN.out; omega, by omega, HO3.out, HK3.out⟩
          case measure => simp [intOf]
        · have a1 : bits .and .u64 (X / 72057594037927936) 255 = X / 72057594037927936 % 256 := and255u _ (by omega) (by omega)
          go_wp2_with (at_builtin; refine wpList_append8 rfl _ _ rfl (w.heap.size + 2) n _ (u8L (sb s ++ 128 :: List.replicate m 0 ++ (le8 X).take 7)) (X / 72057594037927936 % 256) rfl (HO.out.alloc _) _ _ rfl (cell0 rfl rfl) (by omega) (by simp; omega) ?_)
          intro v2 w2 hown2 hgr2
          have hke2 := (HK.out.alloc _).grown hgr2 (fun k hk => (HO.out.lt k hk).1)
          have hown3 : Own8 w2 (w.heap.size + 2) v2 (n + 1) (u8L (sb s ++ 128 :: List.replicate m 0 ++ (le8 X).take 8)) := by
            have e : u8L (sb s ++ 128 :: List.replicate m 0 ++ (le8 X).take 8) = u8L (sb s ++ 128 :: List.replicate m 0 ++ (le8 X).take 7) ++ [.int .u8 (X / 72057594037927936 % 256)] := by simp [u8L, le8]
            rw [e]; simpa using hown2
          obtain ⟨gb2, cap2, rfl, _⟩ := hown3.cell
          have HO3 := Lib.hid hown3; have HK3 := Lib.hid hke2
          clear hown2 hgr2 hown3 hke2 a1
          go_wp2_with fail
          go_roundw
          case rel => exact ⟨8, n + 1, gb2, cap2, rfl, rfl, by have := HN.out; omega, by omega, HO3.out, HK3.out⟩
          case measure => simp [intOf]
        · have hYs := padded_size s
          have hzz := HZ.out
          rw [hzz] at hYs
          have hYm := padded_mod s
          have hlist := pad_list s m X HX.out hzz
          have hmdd : md5 s = stOut (blks (padded s) ((padded s).size / 64)) := rfl
          generalize padded s = Y at hYs hYm hlist hmdd
          obtain ⟨M, hM⟩ : ∃ M, Y.size / 64 = M := ⟨_, rfl⟩
          rw [hM] at hmdd
          have hnY : n = Y.size := by have := HN.out; omega
          have hnM : n = 64 * M := by omega
          have hoY : Own8 wr (w.heap.size + 2) (.slice (some ⟨gb, 0, none⟩) n cap) n (u8L ((List.range Y.size).map (byt Y))) := by rw [hlist]; simpa [le8] using HO.out
          have HOY := Lib.hid hoY; have HMD := Lib.hid hmdd; have HNY := Lib.hid hnY; have HNM := Lib.hid hnM
          have hcap : n ≤ cap := by
            obtain ⟨g', cap', e, _, _, h, _⟩ := hoY.cell
            injection e with _ _ e3; omega
          have hgb : w.heap.size + 2 ≤ gb := (hoY.lt gb rfl).1
          clear HO hYs hzz hYm hlist hmdd hM hnY hnM hoY
          go_wp2_with fail
          go_loopw [8] (fun i w3 => ∃ j i0 : Nat, i0 = 64 * j ∧ i = .int .i64 i0 ∧ j ≤ M ∧ Own8 w3 (w.heap.size + 2) (.slice (some ⟨gb, 0, none⟩) n cap) n (u8L ((List.range Y.size).map (byt Y))) ∧ Keeps w w3 (blks Y j)) (fun i _ => n - (intOf i).toNat)
          case atStart => exact ⟨0, 0, rfl, rfl, by omega, HOY.out, HK.out⟩
          case round =>
            clear HOY HK hzr
            obtain ⟨j, i0, hi0, rfl, hj, hown, hke⟩ := hrel
            have HO := Lib.hid hown; have HK := Lib.hid hke
            have hnm := HNM.out
            have hny := HNY.out
            by_cases hlt : j < M
            · have y1 : (i0 : Int) < (n : Int) := by omega
              obtain ⟨i1, hi1⟩ : ∃ i1, i0 + 64 = i1 := ⟨_, rfl⟩
              have c1 : (i0 : Int) + 64 = (i1 : Int) := by omega
              have c2 : i1 ≤ cap := by omega
              have c3 : i0 ≤ i1 := by omega
              have c4 : i1 - i0 = 64 := by omega
              have c5 : ¬ cap = i0 := by omega
              have hb : ∀ q, q < 64 → wr.cell? ⟨gb, i0 + q, none⟩ = some (.int .u8 (byt (Y.extract (64 * j) (64 * j + 64)) q)) := fun q hq => by
                obtain ⟨g', cap', e, _, _, _, _, hc⟩ := hown.cell
                injection e with e1 _ _
                injection e1 with e1
                injection e1 with e1
                subst e1
                rw [byt_ext _ _ _ _ (by omega), ← hi0]
                exact hc (i0 + q) _ (by unfold u8L; rw [List.getElem?_map, List.getElem?_map, List.getElem?_range (by omega)]; rfl)
              have HB := Lib.hid hb; have HI1 := Lib.hid hi1; have HI0 := Lib.hid hi0
              have hgl : gb < wr.heap.size := (hown.lt gb rfl).2
              clear hb hown hke hnm hny hi1 hi0
              go_wp2_with fail
              refine (rblock_any w.heap.size gb i0 (w.heap.size + 1) 4 (cap - i0) 64 (blks Y j) (Y.extract (64 * j) (64 * j + 64)) _ HK.out.1 (by omega) HB.out hgl HK.out.2.1 (blks_ok Y j) (by omega) (by omega) (by omega)).mono ?_
              rintro e w4 ⟨rfl, hbk4, hgr4⟩
              have hke4 : Keeps w w4 (blks Y (j + 1)) := ⟨hbk4, HK.out.2.1.grown hgr4 (fun e => by injection e with e; omega), HK.out.2.2.1.grown hgr4 HK.out.2.2.1.size (fun k hk => by injection hk with hk; omega), Nat.le_trans HK.out.2.2.2 hgr4.size⟩
              have hown4 := HO.out.grown hgr4 (fun e => by
                have : gb = w.heap.size := by simpa [Value.ownBlock] using e
                omega)
              have HK4 := Lib.hid hke4; have HO4 := Lib.hid hown4
              clear hbk4 hgr4 hke4 hown4
              go_wp2_with fail
              go_roundw
              case rel =>
                (repeat apply Exists.intro)
                refine And.symm ⟨rfl, ?_⟩
                exact ⟨j + 1, i1, by have := HI0.out; have := HI1.out; omega, rfl, by omega, HO4.out, HK4.out⟩
              case measure => have := HI1.out; simp [intOf]; omega
            · obtain rfl : j = M := by omega
              have y1 : ¬ (i0 : Int) < (n : Int) := by omega
              obtain ⟨st, hst⟩ : ∃ st, blks Y j = st := ⟨_, rfl⟩
              have hsok := blks_ok Y j
              have hmd := HMD.out
              rw [hst] at hsok hmd hke
              have HK5 := Lib.hid hke; have HM5 := Lib.hid hmd
              clear HK HO hown hke hmd hst hnm hny HMD hi0
              obtain ⟨zs, hzs⟩ : ∃ zs, [st.a, st.b, st.c, st.d] = zs := ⟨_, rfl⟩
              have hzr : ∀ p, p < 4 → ∃ y, zs[p]? = some y ∧ (hC st)[p]? = some (.int .u32 y) ∧ 0 ≤ y ∧ y < 4294967296 := by
                obtain ⟨o1, o2, o3, o4⟩ := hsok
                intro p hp
                rw [← hzs]
                rcases (by omega : p = 0 ∨ p = 1 ∨ p = 2 ∨ p = 3) with rfl | rfl | rfl | rfl
                · exact ⟨_, rfl, rfl, o1⟩
                · exact ⟨_, rfl, rfl, o2⟩
                · exact ⟨_, rfl, rfl, o3⟩
                · exact ⟨_, rfl, rfl, o4⟩
              have HZR := Lib.hid hzr; have HZS := Lib.hid hzs
              clear hsok hzr hzs
              obtain ⟨ie, hie, hq0, hq1, hq2⟩ := info_parts info_u8
              have HQ1 := Lib.hid hq1; have HQ2 := Lib.hid hq2; have HQ0 := Lib.hid hq0; have HI := Lib.hid hie
              clear hq0 hq1 hq2 hie
              go_wp2_with fail
              clear y1
              go_loopw [9, 10] (fun v i w5 => ∃ p : Nat, i = .int .i64 p ∧ p ≤ 4 ∧ w5.ownsRow (w.heap.size + 2) 5 1 v (4 * p) (u8Cells (lB (zs.take p))) ∧ Keeps w w5 st) (fun _ i _ => 4 - (intOf i).toNat)
              case atStart => exact ⟨0, rfl, by omega, World.ownsRow_nil _ _ _ _, HK5.out⟩
              case round =>
                clear HK5
                obtain ⟨p, rfl, hp, hown, hke⟩ := hrel
                have HO := Lib.hid hown; have HK := Lib.hid hke
                clear hown hke
                by_cases hlp : p < 4
                · have y1 : (p : Int) < 4 := by omega
                  obtain ⟨y, hy, hcy, r0, r1⟩ := HZR.out p hlp
                  have HY := Lib.hid (lB_snoc hy); have HCY := Lib.hid hcy
                  clear hy hcy
                  go_wp2_with fail
                  go_loopw [9, 11] (fun v i w5 => ∃ q : Nat, i = .int .i64 q ∧ q ≤ 4 ∧ w5.ownsRow (w.heap.size + 2) 5 1 v (4 * p + q) (u8Cells (lB (zs.take p) ++ (le4 y).take q)) ∧ Keeps w w5 st) (fun _ i _ => 4 - (intOf i).toNat)
                  case atStart => exact ⟨0, rfl, by omega, by simpa using HO.out, HK.out⟩
                  case round =>
                    clear HO HK
                    obtain ⟨q, rfl, hq, hown, hke⟩ := hrel
                    have HO := Lib.hid hown; have HK := Lib.hid hke
                    have hcell : wr.cell? ⟨w.heap.size, p, none⟩ = some (.int .u32 y) := by rw [hke.1.cell]; exact HCY.out
                    have hzq := hke.2.2.2
                    clear hown hke
                    rcases (by omega : q = 0 ∨ q = 1 ∨ q = 2 ∨ q = 3 ∨ q = 4) with rfl | rfl | rfl | rfl | rfl
                    · have a1 : bits .and .u32 y 255 = y % 256 := and255w _ (by omega) (by omega)
                      go_wp2_with (at_builtin; refine wpList_append_own _ rfl _ _ 41 rfl (w.heap.size + 2) 5 ie _ 1 1 Try.underlying41 HI.out HQ0.out HQ1.out HQ2.out rfl (by omega) _ _ _ rfl (HO.out.alloc _) ⟨wr.heap.size, 0, none⟩ 1 1 [.int .u8 (y % 256)] rfl rfl (cell_one_new _ _ _) (by simp [Value.oneCell']) (by unfold maxLen; omega) (by omega) (by simp; omega) ?_)
                      intro v3 w3 hown3 hgrow hnil3
                      clear hnil3
                      have hke3 := (HK.out.alloc _).grown hgrow (fun k hk => (HO.out.lt k hk).1)
                      have hown4 : w3.ownsRow (w.heap.size + 2) 5 1 v3 (4 * p + 1) (u8Cells (lB (zs.take p) ++ (le4 y).take 1)) := by simpa [u8Cells, le4, Nat.add_assoc] using hown3
                      have HO3 := Lib.hid hown4; have HK3 := Lib.hid hke3
                      clear hown3 hown4 hgrow hke3 a1
                      go_wp2_with fail
                      go_roundw
                      case rel => exact ⟨1, rfl, by omega, HO3.out, HK3.out⟩
                      case measure => simp [intOf]
                    · have a1 : bits .and .u32 (y / 256) 255 = y / 256 % 256 := and255w _ (by omega) (by omega)
                      go_wp2_with (at_builtin; refine wpList_append_own _ rfl _ _ 41 rfl (w.heap.size + 2) 5 ie _ 1 1 Try.underlying41 HI.out HQ0.out HQ1.out HQ2.out rfl (by omega) _ _ _ rfl (HO.out.alloc _) ⟨wr.heap.size, 0, none⟩ 1 1 [.int .u8 (y / 256 % 256)] rfl rfl (cell_one_new _ _ _) (by simp [Value.oneCell']) (by unfold maxLen; omega) (by omega) (by simp; omega) ?_)
                      intro v3 w3 hown3 hgrow hnil3
                      clear hnil3
                      have hke3 := (HK.out.alloc _).grown hgrow (fun k hk => (HO.out.lt k hk).1)
                      have hown4 : w3.ownsRow (w.heap.size + 2) 5 1 v3 (4 * p + 2) (u8Cells (lB (zs.take p) ++ (le4 y).take 2)) := by simpa [u8Cells, le4, Nat.add_assoc] using hown3
                      have HO3 := Lib.hid hown4; have HK3 := Lib.hid hke3
                      clear hown3 hown4 hgrow hke3 a1
                      go_wp2_with fail
                      go_roundw
                      case rel => exact ⟨2, rfl, by omega, HO3.out, HK3.out⟩
                      case measure => simp [intOf]
                    · have a1 : bits .and .u32 (y / 65536) 255 = y / 65536 % 256 := and255w _ (by omega) (by omega)
                      go_wp2_with (at_builtin; refine wpList_append_own _ rfl _ _ 41 rfl (w.heap.size + 2) 5 ie _ 1 1 Try.underlying41 HI.out HQ0.out HQ1.out HQ2.out rfl (by omega) _ _ _ rfl (HO.out.alloc _) ⟨wr.heap.size, 0, none⟩ 1 1 [.int .u8 (y / 65536 % 256)] rfl rfl (cell_one_new _ _ _) (by simp [Value.oneCell']) (by unfold maxLen; omega) (by omega) (by simp; omega) ?_)
                      intro v3 w3 hown3 hgrow hnil3
                      clear hnil3
                      have hke3 := (HK.out.alloc _).grown hgrow (fun k hk => (HO.out.lt k hk).1)
                      have hown4 : w3.ownsRow (w.heap.size + 2) 5 1 v3 (4 * p + 3) (u8Cells (lB (zs.take p) ++ (le4 y).take 3)) := by simpa [u8Cells, le4, Nat.add_assoc] using hown3
                      have HO3 := Lib.hid hown4; have HK3 := Lib.hid hke3
                      clear hown3 hown4 hgrow hke3 a1
                      go_wp2_with fail
                      go_roundw
                      case rel => exact ⟨3, rfl, by omega, HO3.out, HK3.out⟩
                      case measure => simp [intOf]
                    · have a1 : bits .and .u32 (y / 16777216) 255 = y / 16777216 % 256 := and255w _ (by omega) (by omega)
                      go_wp2_with (at_builtin; refine wpList_append_own _ rfl _ _ 41 rfl (w.heap.size + 2) 5 ie _ 1 1 Try.underlying41 HI.out HQ0.out HQ1.out HQ2.out rfl (by omega) _ _ _ rfl (HO.out.alloc _) ⟨wr.heap.size, 0, none⟩ 1 1 [.int .u8 (y / 16777216 % 256)] rfl rfl (cell_one_new _ _ _) (by simp [Value.oneCell']) (by unfold maxLen; omega) (by omega) (by simp; omega) ?_)
                      intro v3 w3 hown3 hgrow hnil3
                      clear hnil3
                      have hke3 := (HK.out.alloc _).grown hgrow (fun k hk => (HO.out.lt k hk).1)
                      have hown4 : w3.ownsRow (w.heap.size + 2) 5 1 v3 (4 * p + 4) (u8Cells (lB (zs.take p) ++ (le4 y).take 4)) := by simpa [u8Cells, le4, Nat.add_assoc] using hown3
                      have HO3 := Lib.hid hown4; have HK3 := Lib.hid hke3
                      clear hown3 hown4 hgrow hke3 a1
                      go_wp2_with fail
                      go_roundw
                      case rel => exact ⟨4, rfl, by omega, HO3.out, HK3.out⟩
                      case measure => simp [intOf]
                    · clear hcell
                      go_wp2_with fail
                      go_roundw
                      case rel => exact ⟨p + 1, by go_num, by omega, by
                        have h := HO.out
                        rw [show 4 * (p + 1) = 4 * p + 4 from by omega, HY.out]
                        exact h, HK.out⟩
                      case measure => simp [intOf]; omega
                · obtain rfl : p = 4 := by omega
                  have ho := HO.out
                  have hzl : zs.take 4 = zs := by rw [← HZS.out]; rfl
                  rw [hzl] at ho
                  have hconv := conv_own wr (lB zs) _ ho (by omega)
                  clear ho hzl
                  go_wp2_with fail
                  go_ret
                  exact ⟨by rw [HM5.out, ← HZS.out]; unfold stOut lB; simp, HK.out.2.2.1⟩
end Go.Proofs.Ytdfefpbpfneahaa
