/- The contracts of package circuit's Send and Read where there is no such pipe. No condition but that numbers are ints. -/
import Derived.Test.YtmbnonkbflchoaaCirJ
namespace Go.Proofs.Ytmbnonkbflchoaa
open Go.RowKit
set_option linter.unusedVariables false
set_option linter.unusedSimpArgs false
open Go.Maps
theorem send_no (g : Nat) (s : Sw) (c n : Int) (d : ByteArray) (w : World) (h : SwAt w g s) (hc : (Lit.int .i64 c).wf = true) (hu : isUp s.D c = false) : Calls Try.prog 14 #[.pointer (some ⟨g, 0, none⟩), .int .i64 c, .int .i64 n, .string d] w fun e w' => e = .returned (.int .i64 2502) ∧ w = w' := by
  have H := Lib.hid h; clear h
  go_enter Try.func14, Try.ntmps14
  go_wp2_with fail
  refine (open_no g s c n _ H.out hc hu).mono ?_
  rintro e w1 ⟨rfl, rfl⟩
  go_wp2
  go_ret
  exact ⟨rfl, rfl⟩
theorem send_side (g : Nat) (s : Sw) (c n : Int) (d : ByteArray) (w : World) (h : SwAt w g s) (hc : (Lit.int .i64 c).wf = true) (hu : isUp s.D c = true) (hn : sideB n = false) : Calls Try.prog 14 #[.pointer (some ⟨g, 0, none⟩), .int .i64 c, .int .i64 n, .string d] w fun e w' => e = .returned (.int .i64 2500) ∧ w = w' := by
  have H := Lib.hid h; clear h
  go_enter Try.func14, Try.ntmps14
  go_wp2_with fail
  refine (open_side g s c n _ H.out hc hu hn).mono ?_
  rintro e w1 ⟨rfl, rfl⟩
  go_wp2
  go_ret
  exact ⟨rfl, rfl⟩
theorem read_no (g : Nat) (s : Sw) (c n : Int) (w : World) (h : SwAt w g s) (hc : (Lit.int .i64 c).wf = true) (hu : isUp s.D c = false) : Calls Try.prog 15 #[.pointer (some ⟨g, 0, none⟩), .int .i64 c, .int .i64 n] w fun e w' => e = .returned (.tuple #[.string ⟨#[]⟩, .int .i64 2502]) ∧ w = w' := by
  have H := Lib.hid h; clear h
  obtain ⟨m, hm⟩ : ∃ m, wrap64 (1 - n) = m := ⟨_, rfl⟩
  go_enter Try.func15, Try.ntmps15
  go_wp2_with fail
  refine (open_no g s c m _ H.out hc hu).mono ?_
  rintro e w1 ⟨rfl, rfl⟩
  go_wp2
  go_ret2
  exact ⟨rfl, rfl⟩
theorem read_side (g : Nat) (s : Sw) (c n : Int) (w : World) (h : SwAt w g s) (hc : (Lit.int .i64 c).wf = true) (hu : isUp s.D c = true) (hn : sideB (wrap64 (1 - n)) = false) : Calls Try.prog 15 #[.pointer (some ⟨g, 0, none⟩), .int .i64 c, .int .i64 n] w fun e w' => e = .returned (.tuple #[.string ⟨#[]⟩, .int .i64 2500]) ∧ w = w' := by
  have H := Lib.hid h; clear h
  obtain ⟨m, hm⟩ : ∃ m, wrap64 (1 - n) = m := ⟨_, rfl⟩
  rw [hm] at hn
  go_enter Try.func15, Try.ntmps15
  go_wp2_with fail
  refine (open_side g s c m _ H.out hc hu hn).mono ?_
  rintro e w1 ⟨rfl, rfl⟩
  go_wp2
  go_ret2
  exact ⟨rfl, rfl⟩
end Go.Proofs.Ytmbnonkbflchoaa
