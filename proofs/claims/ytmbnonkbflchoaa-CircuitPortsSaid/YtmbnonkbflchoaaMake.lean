/- Rules for make([]byte, k) and string(make([]byte, k)). No condition. -/
import Derived.Test.YtmbnonkbflchoaaStr
namespace Go.Proofs.Ytmbnonkbflchoaa
open Go.RowKit
set_option linter.unusedVariables false
set_option linter.unusedSimpArgs false
theorem info_u8 : (Try.prog.info? 5).map (fun i => (i.zero, i.size, i.bytes)) = some (some (.int .u8 0), 1, 1) := by kernel_rfl
/-- k zero bytes, as cells and as a string. -/
def zcells (k : Nat) : Array Value := madeCells #[.int .u8 0] k
def zstr (k : Nat) : ByteArray := strOfNums (List.replicate k 0)
theorem zcells_eq (k : Nat) : zcells k = ((List.replicate k (0 : Int)).map (Value.int .u8)).toArray := by
  apply Array.toList_inj.1
  unfold zcells
  rw [toList_madeCells_one]; simp
theorem zstr_size (k : Nat) : (zstr k).size = k := by unfold zstr; rw [size_nums]; simp
theorem run_mk (k : Nat) (hk : k ≤ 140737488355328) (w : World) : (Instr.makeSlice 36 (.int .i64 (k : Int)) (.int .i64 (k : Int))).run Try.prog w = .ok (.slice (some ⟨w.heap.size, 0, none⟩) k k) (w.alloc (.cells (zcells k) 5)) := by
  obtain ⟨i0, hi, hz0, hz1, hz2⟩ := info_parts info_u8
  have h := run_make (P := Try.prog) w 36 5 i0 (.int .u8 0) Try.underlying36 hi hz0 .i64 .i64 k k (by omega) (by omega) (by rw [hz2]; omega) (by omega)
  rw [hz1] at h
  simpa [zcells, Value.cells] using h
theorem conv_z (k : Nat) (w : World) (b c : Nat) (hb : b = w.heap.size) : (convert 36 9 (.slice (some ⟨b, 0, none⟩) k c)).run Try.prog (w.alloc (.cells (zcells k) 5)) = .ok (.string (zstr k)) (w.alloc (.cells (zcells k) 5)) := by
  have h := conv_in (List.replicate k 0) (w.alloc (.cells (zcells k) 5)) b c (by rw [heap_top _ _ _ hb, zcells_eq])
  rw [List.length_replicate] at h
  exact h
end Go.Proofs.Ytmbnonkbflchoaa
