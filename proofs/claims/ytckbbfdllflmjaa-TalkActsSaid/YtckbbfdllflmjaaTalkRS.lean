/- The contract of law 22's spoil: of lists of no or one datagram. No condition. -/
import Derived.Test.YtckbbfdllflmjaaTalkRD
namespace Go.Proofs.Ytckbbfdllflmjaa
open Go.RowKit
set_option linter.unusedVariables false
set_option linter.unusedSimpArgs false
attribute [local go_sem] conv1 conv1d conv1n conv1a conv1ad conv1an conv2 conv2d conv2n conv2a conv2ad conv2an conv4 conv4d conv4n conv4a conv4ad conv4an conv5 conv5d conv5n conv5a conv5ad conv5an size_nums byt_fold
set_option maxRecDepth 100000 in
set_option maxHeartbeats 1000000 in
theorem spoils_nil (A : Option Addr) (cap : Nat) (w : World) : Calls Try.prog 24 #[.slice A 0 cap] w fun e w' => e = .returned (.tuple #[]) ∧ w = w' := by
  go_enter Try.func24, Try.ntmps24
  go_wp2_with fail
  go_loopw [2] (fun i wr => i = .int .i64 0 ∧ wr = w) (fun i _ => 0)
  case atStart => exact ⟨rfl, rfl⟩
  case round =>
    obtain ⟨rfl, rfl⟩ := hrel
    go_wp2_with fail
    go_end0
    exact ⟨rfl, rfl⟩
/-- The blocks of a list of one datagram. -/
def OneX (b : Nat) (R : Option Addr) : Nat → Prop := fun x => x = b ∨ ∃ r, R = some r ∧ r.block = x
set_option maxRecDepth 100000 in
set_option maxHeartbeats 1000000 in
theorem spoils_one (c i a : Int) (b : Nat) (R : Option Addr) (n rc cap : Nat) (os : List (Int × ByteArray)) (w0 w : World) (h : One w0 w b c i a R n rc os) :
    Calls Try.prog 24 #[.slice (some ⟨b, 0, none⟩) 1 cap] w fun e w' => e = .returned (.tuple #[]) ∧ Chg (OneX b R) w w' := by
  have H := Lib.hid h; clear h
  go_enter Try.func24, Try.ntmps24
  go_wp2_with fail
  go_loopw [2] (fun i wr => ∃ k : Nat, i = .int .i64 k ∧ k ≤ 1 ∧ (k = 0 → wr = w) ∧ Chg (OneX b R) w wr) (fun i _ => 1 - (intOf i).toNat)
  case atStart => exact ⟨0, rfl, by omega, fun _ => rfl, Chg.refl _ _⟩
  case round =>
    obtain ⟨k, rfl, hk, h0, hch⟩ := hrel
    rcases (by omega : k = 0 ∨ k = 1) with rfl | rfl
    · obtain rfl := h0 rfl
      have c3 : wr.cell? ⟨b, 3, none⟩ = some (.slice R n rc) := H.out.2.1.cell 3
      go_wp2_with fail
      refine (spoil_any w0.heap.size R n rc os _ H.out.2.2.1.1 H.out.2.2.1.2.1 (by have := H.out.2.2.1.2.2; omega)).mono ?_
      rintro e w2 ⟨rfl, hg⟩
      have hc2 : Chg (OneX b R) wr w2 := Chg.row hg (fun k e => by
        cases R with
        | none => cases e
        | some r => exact .inr ⟨r, rfl, Option.some.inj e⟩)
      have hb2 : Blk w2 b 34 #[.int .i64 c, .int .i64 i, .int .i64 a, .slice R n rc] := H.out.2.1.grown hg (fun e => by
        cases R with
        | none => cases e
        | some r => exact H.out.2.2.2 r rfl (Option.some.inj e).symm)
      have c1 : w2.cell? ⟨b, 1, none⟩ = some (.int .i64 i) := hb2.cell 1
      have hf := hb2.frozen
      clear hch hg
      go_wp2_with fail
      go_roundw
      case rel => exact ⟨1, by go_num, by omega, fun h => by omega, hc2.set (.inl rfl) _⟩
      case measure => simp [intOf]
    · go_wp2_with fail
      go_end0
      exact ⟨rfl, hch⟩
end Go.Proofs.Ytckbbfdllflmjaa
