/- The contract of report.Put: which text or error. No condition but memory's own limits. -/
import Derived.Test.YtppegmggcmjboaaRepPlain
import Derived.Test.YtppegmggcmjboaaIntLend
namespace Go.Proofs.Ytppegmggcmjboaa
open Go.RowKit
set_option linter.unusedVariables false
set_option linter.unusedSimpArgs false
attribute [local go_sem] conv1 conv1d conv1n conv1a conv1ad conv1an conv2 conv2d conv2n conv2a conv2ad conv2an conv4 conv4d conv4n conv4a conv4ad conv4an conv5 conv5d conv5n conv5a conv5ad conv5an size_nums byt_fold
def u8Cells (xs : List Int) : List Value := xs.map (Value.int .u8)
def PutR (ns : List Int) (w : World) (v : Value) (k : Nat) (wr : World) : Prop :=
  (∀ j n, j < k → ns[j]? = some n → rBadN n = false) ∧ wr.ownsRow w.heap.size 5 1 v (4 * k) (u8Cells (rBytes (ns.take k))) ∧ Below w.heap.size w wr
def PutI (n : Int) (B : List Int) (w : World) (v : Value) (k j : Nat) (wr : World) : Prop :=
  wr.ownsRow w.heap.size 5 1 v (4 * k + j) (u8Cells (B ++ (be4 n).take j)) ∧ Below w.heap.size w wr
theorem puti_step (B : List Int) (z : Int) (j : Nat) (hj : j < 4) (x : Int) (hx : (be4 z)[j]'(by rw [be4_len]; exact hj) = x) : u8Cells (B ++ (be4 z).take j) ++ [Value.int .u8 x] = u8Cells (B ++ (be4 z).take (j + 1)) := by
  rw [List.take_succ_eq_append_getElem (by rw [be4_len]; exact hj), hx]
  simp [u8Cells]
/-- string(b) of a slice of bytes that the call owns. -/
theorem conv_own {base : Nat} {v : Value} (w : World) (xs : List Int) (n : Nat) (h : w.ownsRow base 5 1 v n (u8Cells xs)) (hn : 0 < n) :
    (convert 39 9 v).run Try.prog w = .ok (.string (strOfNums xs)) w := by
  have hl : xs.length = n := by have := h.1; simp [u8Cells] at this; exact this
  rcases h.2 with ⟨_, h0⟩ | ⟨g, cap, cur, rfl, hg, hh, hnc, hcm, hcs, htk⟩
  · omega
  · subst hl
    refine run_convert_bytes_arg _ 39 5 Try.underlying39 Try.underlying5 _ 0 _ cap xs rfl (fun i hi => ?_) 9 Try.underlying9
    rw [cell_of_row w g _ cur _ _ hh]
    have a1 : (u8Cells xs)[i]? = some (.int .u8 xs[i]) := by unfold u8Cells; rw [List.getElem?_map, List.getElem?_eq_getElem hi]; rfl
    rw [← htk, List.getElem?_take] at a1
    split at a1
    · simp only [Nat.zero_add]
      simp [List.getD, hi]
      simpa using a1
    · cases a1
set_option maxRecDepth 100000 in
set_option maxHeartbeats 1000000 in
theorem repput_any (A : Option Addr) (n cap : Nat) (ns : List Int) (w : World) (hv : IntsAt w A n ns) (hn : n ≤ 9223372036854775807) :
    Calls Try.prog 7 #[.slice A n cap] w (RepPut ns w) := by
  have HV := Lib.hid hv; clear hv
  by_cases h12 : n = 12
  case neg =>
    have hb : ((n : Int) != 12) = true := by simp; omega
    go_enter Try.func7, Try.ntmps7
    go_wp2_with fail
    go_ret2
    exact repput_bad (Below.refl _ _) (rE_len (by have := HV.out.1; omega))
  subst h12
  obtain ⟨i0, hi, hz0, hz1, hz2⟩ := info_parts info_u8
  have HZ1 := Lib.hid hz1; have HZ2 := Lib.hid hz2; have HZ0 := Lib.hid hz0; have HI := Lib.hid hi
  clear hz0 hz1 hz2 hi
  go_enter Try.func7, Try.ntmps7
  go_wp2_with fail
  go_loopw [4, 13] (fun v i wr => ∃ k : Nat, i = .int .i64 k ∧ k ≤ 12 ∧ PutR ns w v k wr) (fun _ i _ => 12 - (intOf i).toNat)
  case atStart => exact ⟨0, rfl, by omega, fun j n h => by omega, World.ownsRow_nil _ _ _ _, Below.refl _ _⟩
  case round =>
    obtain ⟨k, rfl, hkn, hS, hown, hbel⟩ := hrel
    have HS := Lib.hid hS; clear hS
    have HO := Lib.hid hown; clear hown
    by_cases hlt : k < 12
    · obtain ⟨b, off, z, rfl, hb, ho, c1⟩ := (HV.out.keep hbel).at_ k hlt
      have HOZ := Lib.hid ho; clear ho
      have y1 : (k : Int) < 12 := by omega
      by_cases hbad : z < 0 ∨ 4294967295 < z
      · have hb0 : rE ns = 700 := rE_bad HOZ.out (by unfold rBadN; exact decide_eq_true hbad)
        have HB0 := Lib.hid hb0; clear hb0
        rcases hbad with hbad | hbad
        all_goals
          go_wp2_with fail
          go_ret2
          exact repput_bad hbel HB0.out
      · have z0 : 0 ≤ z := by omega
        have z1 : z ≤ 4294967295 := by omega
        clear hbad
        go_wp2_with fail
        go_loopw [4, 7] (fun v i wr => ∃ j : Nat, j ≤ 4 ∧ i = .int .i64 (3 - (j : Int)) ∧ PutI z (rBytes (ns.take k)) w v k j wr) (fun _ i _ => (intOf i + 1).toNat)
        case atStart => exact ⟨0, by omega, rfl, by simpa using HO.out, hbel⟩
        case round =>
          obtain ⟨j, hj, rfl, hown2, hbel2⟩ := hrel
          have HO2 := Lib.hid hown2; clear hown2
          rcases (by omega : (j = 0 ∧ 3 - (j : Int) = 3) ∨ (j = 1 ∧ 3 - (j : Int) = 2) ∨ (j = 2 ∧ 3 - (j : Int) = 1) ∨ (j = 3 ∧ 3 - (j : Int) = 0) ∨ (j = 4 ∧ 3 - (j : Int) = -1)) with ⟨rfl, e⟩ | ⟨rfl, e⟩ | ⟨rfl, e⟩ | ⟨rfl, e⟩ | ⟨rfl, e⟩
          · rw [e]; clear e
            go_wp2_with (at_builtin; refine wpList_append_own _ rfl _ _ 39 rfl w.heap.size 5 i0 _ 1 1 Try.underlying39 HI.out HZ0.out HZ1.out HZ2.out rfl (by omega) _ _ _ rfl (HO2.out.alloc _) ⟨wr.heap.size, 0, none⟩ 1 1 [.int .u8 (z / 16777216)] rfl rfl (cell_one_new _ _ _) (by simp [Value.oneCell']) ?c10 ?c20 ?c30 ?_)
            case c10 => unfold maxLen; omega
            case c20 => omega
            case c30 => have := hbel2.size; simp; omega
            intro v3 w3 hown3 hgrow hnil3
            clear hnil3
            have hb3 : Below w.heap.size w w3 := (hbel2.alloc hbel2.size _).grown hgrow (by have := hbel2.size; simp; omega) (fun k hk => (HO2.out.lt k hk).1)
            have hown4 : w3.ownsRow w.heap.size 5 1 v3 (4 * k + 1) (u8Cells (rBytes (ns.take k) ++ (be4 z).take 1)) := by simpa [u8Cells, be4, Nat.add_assoc] using hown3
            have HO3 := Lib.hid hown4; clear hown3 hown4 hgrow
            go_wp2_with fail
            go_roundw
            case rel => exact ⟨1, by omega, rfl, HO3.out, hb3⟩
            case measure => simp [intOf]
          · rw [e]; clear e
            go_wp2_with (at_builtin; refine wpList_append_own _ rfl _ _ 39 rfl w.heap.size 5 i0 _ 1 1 Try.underlying39 HI.out HZ0.out HZ1.out HZ2.out rfl (by omega) _ _ _ rfl (HO2.out.alloc _) ⟨wr.heap.size, 0, none⟩ 1 1 [.int .u8 (z / 65536 % 256)] rfl rfl (cell_one_new _ _ _) (by simp [Value.oneCell']) ?c11 ?c21 ?c31 ?_)
            case c11 => unfold maxLen; omega
            case c21 => omega
            case c31 => have := hbel2.size; simp; omega
            intro v3 w3 hown3 hgrow hnil3
            clear hnil3
            have hb3 : Below w.heap.size w w3 := (hbel2.alloc hbel2.size _).grown hgrow (by have := hbel2.size; simp; omega) (fun k hk => (HO2.out.lt k hk).1)
            have hown4 : w3.ownsRow w.heap.size 5 1 v3 (4 * k + 2) (u8Cells (rBytes (ns.take k) ++ (be4 z).take 2)) := by simpa [u8Cells, be4, Nat.add_assoc] using hown3
            have HO3 := Lib.hid hown4; clear hown3 hown4 hgrow
            go_wp2_with fail
            go_roundw
            case rel => exact ⟨2, by omega, rfl, HO3.out, hb3⟩
            case measure => simp [intOf]
          · rw [e]; clear e
            go_wp2_with (at_builtin; refine wpList_append_own _ rfl _ _ 39 rfl w.heap.size 5 i0 _ 1 1 Try.underlying39 HI.out HZ0.out HZ1.out HZ2.out rfl (by omega) _ _ _ rfl (HO2.out.alloc _) ⟨wr.heap.size, 0, none⟩ 1 1 [.int .u8 (z / 256 % 256)] rfl rfl (cell_one_new _ _ _) (by simp [Value.oneCell']) ?c12 ?c22 ?c32 ?_)
            case c12 => unfold maxLen; omega
            case c22 => omega
            case c32 => have := hbel2.size; simp; omega
            intro v3 w3 hown3 hgrow hnil3
            clear hnil3
            have hb3 : Below w.heap.size w w3 := (hbel2.alloc hbel2.size _).grown hgrow (by have := hbel2.size; simp; omega) (fun k hk => (HO2.out.lt k hk).1)
            have hown4 : w3.ownsRow w.heap.size 5 1 v3 (4 * k + 3) (u8Cells (rBytes (ns.take k) ++ (be4 z).take 3)) := by simpa [u8Cells, be4, Nat.add_assoc] using hown3
            have HO3 := Lib.hid hown4; clear hown3 hown4 hgrow
            go_wp2_with fail
            go_roundw
            case rel => exact ⟨3, by omega, rfl, HO3.out, hb3⟩
            case measure => simp [intOf]
          · rw [e]; clear e
            go_wp2_with (at_builtin; refine wpList_append_own _ rfl _ _ 39 rfl w.heap.size 5 i0 _ 1 1 Try.underlying39 HI.out HZ0.out HZ1.out HZ2.out rfl (by omega) _ _ _ rfl (HO2.out.alloc _) ⟨wr.heap.size, 0, none⟩ 1 1 [.int .u8 (z % 256)] rfl rfl (cell_one_new _ _ _) (by simp [Value.oneCell']) ?c13 ?c23 ?c33 ?_)
            case c13 => unfold maxLen; omega
            case c23 => omega
            case c33 => have := hbel2.size; simp; omega
            intro v3 w3 hown3 hgrow hnil3
            clear hnil3
            have hb3 : Below w.heap.size w w3 := (hbel2.alloc hbel2.size _).grown hgrow (by have := hbel2.size; simp; omega) (fun k hk => (HO2.out.lt k hk).1)
            have hown4 : w3.ownsRow w.heap.size 5 1 v3 (4 * k + 4) (u8Cells (rBytes (ns.take k) ++ (be4 z).take 4)) := by simpa [u8Cells, be4, Nat.add_assoc] using hown3
            have HO3 := Lib.hid hown4; clear hown3 hown4 hgrow
            go_wp2_with fail
            go_roundw
            case rel => exact ⟨4, by omega, rfl, HO3.out, hb3⟩
            case measure => simp [intOf]
          · rw [e]; clear e
            go_wp2_with fail
            go_roundw
            case rel => exact ⟨k + 1, by go_num, by omega, fun j' n' hj' hn' => by
                by_cases hjk : j' = k
                · subst hjk
                  rw [HOZ.out] at hn'
                  obtain rfl := Option.some.inj hn'
                  unfold rBadN; exact decide_eq_false (by omega)
                · exact HS.out j' n' (by omega) hn', by
                have h := HO2.out
                rw [show 4 * (k + 1) = 4 * k + 4 from by omega, rBytes_snoc HOZ.out]
                exact h, hbel2⟩
            case measure => simp [intOf]; omega
    · obtain rfl : k = 12 := by omega
      have hconv := conv_own _ (rBytes (ns.take 12)) 48 HO.out (by decide)
      have hE : rE ns = 0 := rE_ok HV.out.1 HS.out
      have HE := Lib.hid hE; clear hE
      go_wp2_with fail
      go_ret2
      exact repput_ok hbel HE.out (by rw [List.take_of_length_le (by have := HV.out.1; omega)])
end Go.Proofs.Ytppegmggcmjboaa
