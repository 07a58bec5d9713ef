/- The contract of digest.words. No condition. -/
import Derived.Test.YtdfefpbpfneahaaDigA
import Derived.Test.YtdfefpbpfneahaaBlk
import Derived.Test.YtdfefpbpfneahaaMake
import Derived.Deep.AppendLies
import Derived.BigRegion
namespace Go.Proofs.Ytdfefpbpfneahaa
open Go.RowKit
set_option linter.unusedVariables false
set_option linter.unusedSimpArgs false
attribute [local go_sem] conv1 conv1d conv1n conv1a conv1ad conv1an conv2 conv2d conv2n conv2a conv2ad conv2an conv4 conv4d conv4n conv4a conv4ad conv4an conv5 conv5d conv5n conv5a conv5ad conv5an size_nums byt_fold
def U32At (w : World) (A : Option Addr) (n : Nat) (zs : List Int) : Prop :=
  zs.length = n ∧ (0 < n → ∃ b off, A = some ⟨b, off, none⟩ ∧ b < w.heap.size ∧ ∀ j (h : j < zs.length), w.cell? ⟨b, off + j, none⟩ = some (.int .u32 zs[j]))
theorem U32At.keep {w w' : World} {A : Option Addr} {n : Nat} {zs : List Int} (h : U32At w A n zs) (hb : Below w.heap.size w w') : U32At w' A n zs := by
  refine ⟨h.1, fun hn => ?_⟩
  obtain ⟨b, off, rfl, hlt, hc⟩ := h.2 hn
  exact ⟨b, off, rfl, Nat.lt_of_lt_of_le hlt hb.size, fun j hj => (hb.cell (p := ⟨b, off + j, none⟩) hlt).trans (hc j hj)⟩
theorem U32At.at_ {w : World} {A : Option Addr} {n : Nat} {zs : List Int} (h : U32At w A n zs) (k : Nat) (hk : k < n) :
    ∃ b off z, A = some ⟨b, off, none⟩ ∧ b < w.heap.size ∧ zs[k]? = some z ∧ w.cell? ⟨b, off + k, none⟩ = some (.int .u32 z) := by
  obtain ⟨b, off, e, hlt, hc⟩ := h.2 (by omega)
  have hj : k < zs.length := by rw [h.1]; exact hk
  exact ⟨b, off, _, e, hlt, List.getElem?_eq_getElem hj, hc k hj⟩
def u8Cells (xs : List Int) : List Value := xs.map (Value.int .u8)
/-- string(b) of a slice of bytes that the call owns. -/
theorem conv_own {base : Nat} {v : Value} (w : World) (xs : List Int) (n : Nat) (h : w.ownsRow base 5 1 v n (u8Cells xs)) (hn : 0 < n) :
    (convert 41 9 v).run Try.prog w = .ok (.string (strOfNums xs)) w := by
  have hl : xs.length = n := by have := h.1; simp [u8Cells] at this; exact this
  rcases h.2 with ⟨_, h0⟩ | ⟨g, cap, cur, rfl, hg, hh, hnc, hcm, hcs, htk⟩
  · omega
  · subst hl
    refine run_convert_bytes_arg _ 41 5 Try.underlying41 Try.underlying5 _ 0 _ cap xs rfl (fun i hi => ?_) 9 Try.underlying9
    rw [cell_of_row w g _ cur _ _ hh]
    have a1 : (u8Cells xs)[i]? = some (.int .u8 xs[i]) := by unfold u8Cells; rw [List.getElem?_map, List.getElem?_eq_getElem hi]; rfl
    rw [← htk, List.getElem?_take] at a1
    split at a1
    · simp only [Nat.zero_add]
      simp [List.getD, hi]
      simpa using a1
    · cases a1
def lB (zs : List Int) : List Int := zs.flatMap le4
theorem lB_len : ∀ zs, (lB zs).length = 4 * zs.length
  | [] => rfl
  | z :: zs => by show (le4 z ++ lB zs).length = _; rw [List.length_append, lB_len zs, List.length_cons]; show 4 + _ = _; omega
theorem lB_snoc {zs : List Int} {k : Nat} {z : Int} (h : zs[k]? = some z) : lB (zs.take (k + 1)) = lB (zs.take k) ++ le4 z := by
  obtain ⟨hk, e⟩ := List.getElem?_eq_some_iff.1 h
  rw [List.take_succ_eq_append_getElem hk, e]
  unfold lB; rw [List.flatMap_append]; simp
theorem four_news (w : World) (x0 x1 x2 x3 : Value) (t : TypeId) : ∀ j u, [x0, x1, x2, x3][j]? = some u → (w.alloc (.cells #[x0, x1, x2, x3] t)).cell? ((⟨w.heap.size, 0, none⟩ : Addr).add j) = some u :=
  World.news_of_block (cs := #[x0, x1, x2, x3]) (fr := (0, 0)) (heap_alloc_new w _)
set_option maxRecDepth 100000 in
set_option maxHeartbeats 1000000 in
theorem words_any (A : Option Addr) (n cap : Nat) (zs : List Int) (w : World) (hv : U32At w A n zs) (h0 : 0 < n) (hn : n ≤ 1000) (hr : ∀ z ∈ zs, 0 ≤ z ∧ z < 4294967296) :
    Calls Try.prog 41 #[.slice A n cap] w fun e w' => e = .returned (.string (strOfNums (lB zs))) ∧ Below w.heap.size w w' := by
  have HV := Lib.hid hv; clear hv
  have HR := Lib.hid hr; clear hr
  obtain ⟨i0, hi, hz0, hz1, hz2⟩ := info_parts info_u8
  have HZ1 := Lib.hid hz1; have HZ2 := Lib.hid hz2; have HZ0 := Lib.hid hz0; have HI := Lib.hid hi
  clear hz0 hz1 hz2 hi
  go_enter Try.func41, Try.ntmps41
  go_wp2_with fail
  go_loopw [3, 8] (fun v i wr => ∃ k : Nat, i = .int .i64 k ∧ k ≤ n ∧ wr.ownsRow w.heap.size 5 1 v (4 * k) (u8Cells (lB (zs.take k))) ∧ Below w.heap.size w wr) (fun _ i _ => n - (intOf i).toNat)
  case atStart => exact ⟨0, rfl, by omega, World.ownsRow_nil _ _ _ _, Below.refl _ _⟩
  case round =>
    obtain ⟨k, rfl, hkn, hown, hbel⟩ := hrel
    have HO := Lib.hid hown; clear hown
    by_cases hlt : k < n
    · obtain ⟨b, off, z, rfl, hb, ho, c1⟩ := (HV.out.keep hbel).at_ k hlt
      have y1 : (k : Int) < (n : Int) := by omega
      obtain ⟨z0, z1⟩ := HR.out z (List.mem_of_getElem? ho)
      have hsn := lB_snoc ho
      have HSN := Lib.hid hsn; clear hsn ho
      go_wp2_with (at_builtin; refine wpList_append_own _ rfl _ _ 41 rfl w.heap.size 5 i0 _ 1 1 Try.underlying41 HI.out HZ0.out HZ1.out HZ2.out rfl (by omega) _ _ _ rfl (HO.out.alloc _) ⟨wr.heap.size, 0, none⟩ 4 4 [.int .u8 (z % 256), .int .u8 (z / 256 % 256), .int .u8 (z / 65536 % 256), .int .u8 (z / 16777216)] rfl rfl (four_news wr _ _ _ _ _) (by simp [Value.oneCell']) ?c1 ?c2 ?c3 ?_)
      case c1 => unfold maxLen; omega
      case c2 => omega
      case c3 => have := hbel.size; simp; omega
      intro v3 w3 hown3 hgrow hnil3
      clear hnil3
      have hb3 : Below w.heap.size w w3 := (hbel.alloc hbel.size _).grown hgrow (by have := hbel.size; simp; omega) (fun k hk => (HO.out.lt k hk).1)
      have hown4 : w3.ownsRow w.heap.size 5 1 v3 (4 * (k + 1)) (u8Cells (lB (zs.take (k + 1)))) := by
        rw [HSN.out]
        have e : z / 16777216 % 256 = z / 16777216 := by omega
        unfold le4; rw [e]
        simpa [u8Cells, Nat.mul_add] using hown3
      have HO3 := Lib.hid hown4; clear hown3 hown4 hgrow
      go_wp2_with fail
      go_roundw
      case rel => exact ⟨k + 1, by go_num, by omega, HO3.out, hb3⟩
      case measure => simp [intOf]; omega
    · obtain rfl : k = n := by omega
      have hl := HV.out.1
      have ho := HO.out
      rw [List.take_of_length_le (by omega)] at ho
      have hconv := conv_own _ _ _ ho (by omega)
      clear ho hl
      go_wp2_with fail
      go_ret
      exact ⟨rfl, hbel⟩
end Go.Proofs.Ytdfefpbpfneahaa
