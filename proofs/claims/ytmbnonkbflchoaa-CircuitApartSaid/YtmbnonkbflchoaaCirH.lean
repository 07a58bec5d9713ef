/- The contract of package circuit's Send where nothing is laid: too much, or a piece that is lost. No condition but that numbers are ints. -/
import Derived.Test.YtmbnonkbflchoaaCirG
namespace Go.Proofs.Ytmbnonkbflchoaa
open Go.RowKit
set_option linter.unusedVariables false
set_option linter.unusedSimpArgs false
open Go.Maps
set_option maxHeartbeats 4000000 in
theorem send_big (g : Nat) (s : Sw) (c : Int) (n q : Nat) (x : Pipe × Pipe) (d : ByteArray) (w : World) (h : SwAt w g s) (hc : (Lit.int .i64 c).wf = true) (hq : s.D.atKey (keyD c) nilD = .lit (.int .i64 (q : Int))) (hn : n = 0 ∨ n = 1) (hb : Blk w q 58 (cirC x)) (hw : wrap64 (s.most - (thP n x).bytes) = s.most - (thP n x).bytes) (hbig : s.most - (thP n x).bytes < (d.size : Int)) : Calls Try.prog 14 #[.pointer (some ⟨g, 0, none⟩), .int .i64 c, .int .i64 (n : Int), .string d] w fun e w' => e = .returned (.int .i64 2500) ∧ ∃ m, w' = w.drewN m := by
  have c1 : w.cell? ⟨g, 1, none⟩ = some (.int .i64 s.most) := h.1.cell 1
  have H := Lib.hid h
  rcases hn with rfl | rfl
  · have q1 : w.cell? ⟨q, 1, none⟩ = some (.int .i64 x.1.bytes) := hb.cell 1
    have hw' : wrap64 (s.most - x.1.bytes) = s.most - x.1.bytes := hw
    have hd : decide (s.most - x.1.bytes < (d.size : Int)) = true := decide_eq_true hbig
    clear h hb hw hbig
    go_enter Try.func14, Try.ntmps14
    go_wp2_with fail
    refine (open_ok g s c 0 q _ H.out hc hq (.inl rfl)).mono ?_
    rintro e w1 ⟨rfl, rfl⟩
    go_wp2
    go_quiet (fail)
    go_wp2
    go_ret
    exact ⟨rfl, _, rfl⟩
  · have q1 : w.cell? ⟨q, 4, none⟩ = some (.int .i64 x.2.bytes) := hb.cell 4
    have hw' : wrap64 (s.most - x.2.bytes) = s.most - x.2.bytes := hw
    have hd : decide (s.most - x.2.bytes < (d.size : Int)) = true := decide_eq_true hbig
    clear h hb hw hbig
    go_enter Try.func14, Try.ntmps14
    go_wp2_with fail
    refine (open_ok g s c 1 q _ H.out hc hq (.inr rfl)).mono ?_
    rintro e w1 ⟨rfl, rfl⟩
    go_wp2
    go_quiet (fail)
    go_wp2
    go_ret
    exact ⟨rfl, _, rfl⟩
set_option maxHeartbeats 4000000 in
theorem send_lost (g : Nat) (s : Sw) (c : Int) (n q : Nat) (x : Pipe × Pipe) (d : ByteArray) (w : World) (h : SwAt w g s) (hc : (Lit.int .i64 c).wf = true) (hq : s.D.atKey (keyD c) nilD = .lit (.int .i64 (q : Int))) (hn : n = 0 ∨ n = 1) (hb : Blk w q 58 (cirC x)) (hw : wrap64 (s.most - (thP n x).bytes) = s.most - (thP n x).bytes) (hfit : ¬ s.most - (thP n x).bytes < (d.size : Int)) (h0 : 0 < (thP n x).lost) (h1 : (thP n x).lost < 4611686018427387904) : Calls Try.prog 14 #[.pointer (some ⟨g, 0, none⟩), .int .i64 c, .int .i64 (n : Int), .string d] w fun e w' => e = .returned (.int .i64 0) ∧ SwAt w' g s ∧ Blk w' q 58 (cirC (withP n { thP n x with lost := (thP n x).lost - 1 } x)) ∧ w.grownBy w' (some q) := by
  have c1 : w.cell? ⟨g, 1, none⟩ = some (.int .i64 s.most) := h.1.cell 1
  have H := Lib.hid h
  have hgq := blk_ne h.1 hb (by decide)
  have hmq := map_ne h hb
  have hfz := hb.frozen
  have hwl := wrap_less h0 h1
  rcases hn with rfl | rfl
  · have q1 : w.cell? ⟨q, 1, none⟩ = some (.int .i64 x.1.bytes) := hb.cell 1
    have q2 : w.cell? ⟨q, 2, none⟩ = some (.int .i64 x.1.lost) := hb.cell 2
    have hw' : wrap64 (s.most - x.1.bytes) = s.most - x.1.bytes := hw
    have hd : decide (s.most - x.1.bytes < (d.size : Int)) = false := decide_eq_false (by have : ¬ (s.most - x.1.bytes < (d.size : Int)) := hfit; exact this)
    have hlo : decide (0 < x.1.lost) = true := decide_eq_true h0
    have hwl' : wrap64 (x.1.lost - 1) = x.1.lost - 1 := hwl
    have HB := Lib.hid hb
    clear h hb hw hfit hwl
    go_enter Try.func14, Try.ntmps14
    go_wp2_with fail
    refine (open_ok g s c 0 q _ H.out hc hq (.inl rfl)).mono ?_
    rintro e w1 ⟨rfl, rfl⟩
    go_wp2
    go_quiet (fail)
    go_wp2
    go_ret
    exact ⟨rfl, sw_far H.out (gr_set (gr_drewN (gr_refl w q) _) (.inl rfl) _) hgq hmq, (HB.out.drewN _).set_ 2 _, gr_set (gr_drewN (gr_refl w q) _) (.inl rfl) _⟩
  · have q1 : w.cell? ⟨q, 4, none⟩ = some (.int .i64 x.2.bytes) := hb.cell 4
    have q2 : w.cell? ⟨q, 5, none⟩ = some (.int .i64 x.2.lost) := hb.cell 5
    have hw' : wrap64 (s.most - x.2.bytes) = s.most - x.2.bytes := hw
    have hd : decide (s.most - x.2.bytes < (d.size : Int)) = false := decide_eq_false (by have : ¬ (s.most - x.2.bytes < (d.size : Int)) := hfit; exact this)
    have hlo : decide (0 < x.2.lost) = true := decide_eq_true h0
    have hwl' : wrap64 (x.2.lost - 1) = x.2.lost - 1 := hwl
    have HB := Lib.hid hb
    clear h hb hw hfit hwl
    go_enter Try.func14, Try.ntmps14
    go_wp2_with fail
    refine (open_ok g s c 1 q _ H.out hc hq (.inr rfl)).mono ?_
    rintro e w1 ⟨rfl, rfl⟩
    go_wp2
    go_quiet (fail)
    go_wp2
    go_ret
    exact ⟨rfl, sw_far H.out (gr_set (gr_drewN (gr_refl w q) _) (.inl rfl) _) hgq hmq, (HB.out.drewN _).set_ 5 _, gr_set (gr_drewN (gr_refl w q) _) (.inl rfl) _⟩
end Go.Proofs.Ytmbnonkbflchoaa
