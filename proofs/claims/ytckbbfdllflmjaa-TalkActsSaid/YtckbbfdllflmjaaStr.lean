/- Rules for string([]byte{..}) of a block of one to five bytes that was just made (a further block or a draw may have come since). No condition. -/
import Derived.Test.YtckbbfdllflmjaaChecked
import Derived.Test.YtckbbfdllflmjaaBytes
import Derived.WalkKit
import Derived.Deep.QuietTactic
import Derived.BigQuiet
import Derived.WalkSpells
import Derived.WalkLawsBesides
import Derived.WalkSmall
import Derived.Lib.Hide
import Derived.RowKit3
namespace Go.Proofs.Ytckbbfdllflmjaa
open Go.RowKit
set_option linter.unusedVariables false
set_option linter.unusedSimpArgs false

theorem below_step {B : Nat} {w w1 w2 : World} (h : Below B w w1) (hb : Below w1.heap.size w1 w2) (hB : B ≤ w1.heap.size) : Below B w w2 := h.trans (hb.mono hB)
theorem conv_in (xs : List Int) (W : World) (b c : Nat) (hW : W.heap[b]? = some (.cells (xs.map (Value.int .u8)).toArray 5)) :
    (convert 85 9 (.slice (some ⟨b, 0, none⟩) xs.length c)).run Try.prog W = .ok (.string (strOfNums xs)) W := by
  refine run_convert_bytes_arg _ 85 5 Try.underlying85 Try.underlying5 _ 0 _ c xs rfl (fun i hi => ?_) 9 Try.underlying9
  rw [cell_of_row _ _ _ _ _ _ hW]
  simp [hi, List.getD]
theorem heap_top (w : World) (o : Obj) (b : Nat) (hb : b = w.heap.size) : (w.alloc o).heap[b]? = some o := by subst hb; exact heap_alloc_new w _
theorem heap_top2 (w : World) (o p : Obj) (b : Nat) (hb : b = w.heap.size) : ((w.alloc o).alloc p).heap[b]? = some o := by
  subst hb; exact (Below.heap_alloc _ _ _ (by simp)).trans (heap_alloc_new w _)
theorem conv1 (w : World) (b c : Nat) (x0 : Int) (hb : b = w.heap.size) : (convert 85 9 (.slice (some ⟨b, 0, none⟩) 1 c)).run Try.prog (w.alloc (.cells #[.int .u8 x0] 5)) = .ok (.string (strOfNums [x0])) (w.alloc (.cells #[.int .u8 x0] 5)) :=
  conv_in [x0] _ b c (heap_top w _ b hb)
theorem conv1d (w : World) (b c : Nat) (x0 : Int) (hb : b = w.heap.size) : (convert 85 9 (.slice (some ⟨b, 0, none⟩) 1 c)).run Try.prog (w.alloc (.cells #[.int .u8 x0] 5)).drew = .ok (.string (strOfNums [x0])) (w.alloc (.cells #[.int .u8 x0] 5)).drew :=
  conv_in [x0] _ b c (heap_top w _ b hb)
theorem conv1n (w : World) (b c : Nat) (x0 : Int) (k : Nat) (hb : b = w.heap.size) : (convert 85 9 (.slice (some ⟨b, 0, none⟩) 1 c)).run Try.prog ((w.alloc (.cells #[.int .u8 x0] 5)).drewN k) = .ok (.string (strOfNums [x0])) ((w.alloc (.cells #[.int .u8 x0] 5)).drewN k) :=
  conv_in [x0] _ b c (heap_top w _ b hb)
theorem conv1a (w : World) (b c : Nat) (x0 : Int) (o : Obj) (hb : b = w.heap.size) : (convert 85 9 (.slice (some ⟨b, 0, none⟩) 1 c)).run Try.prog ((w.alloc (.cells #[.int .u8 x0] 5)).alloc o) = .ok (.string (strOfNums [x0])) ((w.alloc (.cells #[.int .u8 x0] 5)).alloc o) :=
  conv_in [x0] _ b c (heap_top2 w _ o b hb)
theorem conv1ad (w : World) (b c : Nat) (x0 : Int) (o : Obj) (hb : b = w.heap.size) : (convert 85 9 (.slice (some ⟨b, 0, none⟩) 1 c)).run Try.prog ((w.alloc (.cells #[.int .u8 x0] 5)).alloc o).drew = .ok (.string (strOfNums [x0])) ((w.alloc (.cells #[.int .u8 x0] 5)).alloc o).drew :=
  conv_in [x0] _ b c (heap_top2 w _ o b hb)
theorem conv1an (w : World) (b c : Nat) (x0 : Int) (o : Obj) (k : Nat) (hb : b = w.heap.size) : (convert 85 9 (.slice (some ⟨b, 0, none⟩) 1 c)).run Try.prog (((w.alloc (.cells #[.int .u8 x0] 5)).alloc o).drewN k) = .ok (.string (strOfNums [x0])) (((w.alloc (.cells #[.int .u8 x0] 5)).alloc o).drewN k) :=
  conv_in [x0] _ b c (heap_top2 w _ o b hb)
theorem conv2 (w : World) (b c : Nat) (x0 x1 : Int) (hb : b = w.heap.size) : (convert 85 9 (.slice (some ⟨b, 0, none⟩) 2 c)).run Try.prog (w.alloc (.cells #[.int .u8 x0, .int .u8 x1] 5)) = .ok (.string (strOfNums [x0, x1])) (w.alloc (.cells #[.int .u8 x0, .int .u8 x1] 5)) :=
  conv_in [x0, x1] _ b c (heap_top w _ b hb)
theorem conv2d (w : World) (b c : Nat) (x0 x1 : Int) (hb : b = w.heap.size) : (convert 85 9 (.slice (some ⟨b, 0, none⟩) 2 c)).run Try.prog (w.alloc (.cells #[.int .u8 x0, .int .u8 x1] 5)).drew = .ok (.string (strOfNums [x0, x1])) (w.alloc (.cells #[.int .u8 x0, .int .u8 x1] 5)).drew :=
  conv_in [x0, x1] _ b c (heap_top w _ b hb)
theorem conv2n (w : World) (b c : Nat) (x0 x1 : Int) (k : Nat) (hb : b = w.heap.size) : (convert 85 9 (.slice (some ⟨b, 0, none⟩) 2 c)).run Try.prog ((w.alloc (.cells #[.int .u8 x0, .int .u8 x1] 5)).drewN k) = .ok (.string (strOfNums [x0, x1])) ((w.alloc (.cells #[.int .u8 x0, .int .u8 x1] 5)).drewN k) :=
  conv_in [x0, x1] _ b c (heap_top w _ b hb)
theorem conv2a (w : World) (b c : Nat) (x0 x1 : Int) (o : Obj) (hb : b = w.heap.size) : (convert 85 9 (.slice (some ⟨b, 0, none⟩) 2 c)).run Try.prog ((w.alloc (.cells #[.int .u8 x0, .int .u8 x1] 5)).alloc o) = .ok (.string (strOfNums [x0, x1])) ((w.alloc (.cells #[.int .u8 x0, .int .u8 x1] 5)).alloc o) :=
  conv_in [x0, x1] _ b c (heap_top2 w _ o b hb)
theorem conv2ad (w : World) (b c : Nat) (x0 x1 : Int) (o : Obj) (hb : b = w.heap.size) : (convert 85 9 (.slice (some ⟨b, 0, none⟩) 2 c)).run Try.prog ((w.alloc (.cells #[.int .u8 x0, .int .u8 x1] 5)).alloc o).drew = .ok (.string (strOfNums [x0, x1])) ((w.alloc (.cells #[.int .u8 x0, .int .u8 x1] 5)).alloc o).drew :=
  conv_in [x0, x1] _ b c (heap_top2 w _ o b hb)
theorem conv2an (w : World) (b c : Nat) (x0 x1 : Int) (o : Obj) (k : Nat) (hb : b = w.heap.size) : (convert 85 9 (.slice (some ⟨b, 0, none⟩) 2 c)).run Try.prog (((w.alloc (.cells #[.int .u8 x0, .int .u8 x1] 5)).alloc o).drewN k) = .ok (.string (strOfNums [x0, x1])) (((w.alloc (.cells #[.int .u8 x0, .int .u8 x1] 5)).alloc o).drewN k) :=
  conv_in [x0, x1] _ b c (heap_top2 w _ o b hb)
theorem conv4 (w : World) (b c : Nat) (x0 x1 x2 x3 : Int) (hb : b = w.heap.size) : (convert 85 9 (.slice (some ⟨b, 0, none⟩) 4 c)).run Try.prog (w.alloc (.cells #[.int .u8 x0, .int .u8 x1, .int .u8 x2, .int .u8 x3] 5)) = .ok (.string (strOfNums [x0, x1, x2, x3])) (w.alloc (.cells #[.int .u8 x0, .int .u8 x1, .int .u8 x2, .int .u8 x3] 5)) :=
  conv_in [x0, x1, x2, x3] _ b c (heap_top w _ b hb)
theorem conv4d (w : World) (b c : Nat) (x0 x1 x2 x3 : Int) (hb : b = w.heap.size) : (convert 85 9 (.slice (some ⟨b, 0, none⟩) 4 c)).run Try.prog (w.alloc (.cells #[.int .u8 x0, .int .u8 x1, .int .u8 x2, .int .u8 x3] 5)).drew = .ok (.string (strOfNums [x0, x1, x2, x3])) (w.alloc (.cells #[.int .u8 x0, .int .u8 x1, .int .u8 x2, .int .u8 x3] 5)).drew :=
  conv_in [x0, x1, x2, x3] _ b c (heap_top w _ b hb)
theorem conv4n (w : World) (b c : Nat) (x0 x1 x2 x3 : Int) (k : Nat) (hb : b = w.heap.size) : (convert 85 9 (.slice (some ⟨b, 0, none⟩) 4 c)).run Try.prog ((w.alloc (.cells #[.int .u8 x0, .int .u8 x1, .int .u8 x2, .int .u8 x3] 5)).drewN k) = .ok (.string (strOfNums [x0, x1, x2, x3])) ((w.alloc (.cells #[.int .u8 x0, .int .u8 x1, .int .u8 x2, .int .u8 x3] 5)).drewN k) :=
  conv_in [x0, x1, x2, x3] _ b c (heap_top w _ b hb)
theorem conv4a (w : World) (b c : Nat) (x0 x1 x2 x3 : Int) (o : Obj) (hb : b = w.heap.size) : (convert 85 9 (.slice (some ⟨b, 0, none⟩) 4 c)).run Try.prog ((w.alloc (.cells #[.int .u8 x0, .int .u8 x1, .int .u8 x2, .int .u8 x3] 5)).alloc o) = .ok (.string (strOfNums [x0, x1, x2, x3])) ((w.alloc (.cells #[.int .u8 x0, .int .u8 x1, .int .u8 x2, .int .u8 x3] 5)).alloc o) :=
  conv_in [x0, x1, x2, x3] _ b c (heap_top2 w _ o b hb)
theorem conv4ad (w : World) (b c : Nat) (x0 x1 x2 x3 : Int) (o : Obj) (hb : b = w.heap.size) : (convert 85 9 (.slice (some ⟨b, 0, none⟩) 4 c)).run Try.prog ((w.alloc (.cells #[.int .u8 x0, .int .u8 x1, .int .u8 x2, .int .u8 x3] 5)).alloc o).drew = .ok (.string (strOfNums [x0, x1, x2, x3])) ((w.alloc (.cells #[.int .u8 x0, .int .u8 x1, .int .u8 x2, .int .u8 x3] 5)).alloc o).drew :=
  conv_in [x0, x1, x2, x3] _ b c (heap_top2 w _ o b hb)
theorem conv4an (w : World) (b c : Nat) (x0 x1 x2 x3 : Int) (o : Obj) (k : Nat) (hb : b = w.heap.size) : (convert 85 9 (.slice (some ⟨b, 0, none⟩) 4 c)).run Try.prog (((w.alloc (.cells #[.int .u8 x0, .int .u8 x1, .int .u8 x2, .int .u8 x3] 5)).alloc o).drewN k) = .ok (.string (strOfNums [x0, x1, x2, x3])) (((w.alloc (.cells #[.int .u8 x0, .int .u8 x1, .int .u8 x2, .int .u8 x3] 5)).alloc o).drewN k) :=
  conv_in [x0, x1, x2, x3] _ b c (heap_top2 w _ o b hb)
theorem conv5 (w : World) (b c : Nat) (x0 x1 x2 x3 x4 : Int) (hb : b = w.heap.size) : (convert 85 9 (.slice (some ⟨b, 0, none⟩) 5 c)).run Try.prog (w.alloc (.cells #[.int .u8 x0, .int .u8 x1, .int .u8 x2, .int .u8 x3, .int .u8 x4] 5)) = .ok (.string (strOfNums [x0, x1, x2, x3, x4])) (w.alloc (.cells #[.int .u8 x0, .int .u8 x1, .int .u8 x2, .int .u8 x3, .int .u8 x4] 5)) :=
  conv_in [x0, x1, x2, x3, x4] _ b c (heap_top w _ b hb)
theorem conv5d (w : World) (b c : Nat) (x0 x1 x2 x3 x4 : Int) (hb : b = w.heap.size) : (convert 85 9 (.slice (some ⟨b, 0, none⟩) 5 c)).run Try.prog (w.alloc (.cells #[.int .u8 x0, .int .u8 x1, .int .u8 x2, .int .u8 x3, .int .u8 x4] 5)).drew = .ok (.string (strOfNums [x0, x1, x2, x3, x4])) (w.alloc (.cells #[.int .u8 x0, .int .u8 x1, .int .u8 x2, .int .u8 x3, .int .u8 x4] 5)).drew :=
  conv_in [x0, x1, x2, x3, x4] _ b c (heap_top w _ b hb)
theorem conv5n (w : World) (b c : Nat) (x0 x1 x2 x3 x4 : Int) (k : Nat) (hb : b = w.heap.size) : (convert 85 9 (.slice (some ⟨b, 0, none⟩) 5 c)).run Try.prog ((w.alloc (.cells #[.int .u8 x0, .int .u8 x1, .int .u8 x2, .int .u8 x3, .int .u8 x4] 5)).drewN k) = .ok (.string (strOfNums [x0, x1, x2, x3, x4])) ((w.alloc (.cells #[.int .u8 x0, .int .u8 x1, .int .u8 x2, .int .u8 x3, .int .u8 x4] 5)).drewN k) :=
  conv_in [x0, x1, x2, x3, x4] _ b c (heap_top w _ b hb)
theorem conv5a (w : World) (b c : Nat) (x0 x1 x2 x3 x4 : Int) (o : Obj) (hb : b = w.heap.size) : (convert 85 9 (.slice (some ⟨b, 0, none⟩) 5 c)).run Try.prog ((w.alloc (.cells #[.int .u8 x0, .int .u8 x1, .int .u8 x2, .int .u8 x3, .int .u8 x4] 5)).alloc o) = .ok (.string (strOfNums [x0, x1, x2, x3, x4])) ((w.alloc (.cells #[.int .u8 x0, .int .u8 x1, .int .u8 x2, .int .u8 x3, .int .u8 x4] 5)).alloc o) :=
  conv_in [x0, x1, x2, x3, x4] _ b c (heap_top2 w _ o b hb)
theorem conv5ad (w : World) (b c : Nat) (x0 x1 x2 x3 x4 : Int) (o : Obj) (hb : b = w.heap.size) : (convert 85 9 (.slice (some ⟨b, 0, none⟩) 5 c)).run Try.prog ((w.alloc (.cells #[.int .u8 x0, .int .u8 x1, .int .u8 x2, .int .u8 x3, .int .u8 x4] 5)).alloc o).drew = .ok (.string (strOfNums [x0, x1, x2, x3, x4])) ((w.alloc (.cells #[.int .u8 x0, .int .u8 x1, .int .u8 x2, .int .u8 x3, .int .u8 x4] 5)).alloc o).drew :=
  conv_in [x0, x1, x2, x3, x4] _ b c (heap_top2 w _ o b hb)
theorem conv5an (w : World) (b c : Nat) (x0 x1 x2 x3 x4 : Int) (o : Obj) (k : Nat) (hb : b = w.heap.size) : (convert 85 9 (.slice (some ⟨b, 0, none⟩) 5 c)).run Try.prog (((w.alloc (.cells #[.int .u8 x0, .int .u8 x1, .int .u8 x2, .int .u8 x3, .int .u8 x4] 5)).alloc o).drewN k) = .ok (.string (strOfNums [x0, x1, x2, x3, x4])) (((w.alloc (.cells #[.int .u8 x0, .int .u8 x1, .int .u8 x2, .int .u8 x3, .int .u8 x4] 5)).alloc o).drewN k) :=
  conv_in [x0, x1, x2, x3, x4] _ b c (heap_top2 w _ o b hb)
end Go.Proofs.Ytckbbfdllflmjaa
