/- Statement PolicyOnce: the walk. No condition but memory's own limits. -/
import Derived.Test.YtjmcgekegenobaaPolW
import Derived.Test.YtjmcgekegenobaaPolT
namespace Go.Proofs.Ytjmcgekegenobaa
open Go.RowKit
set_option linter.unusedVariables false
set_option linter.unusedSimpArgs false
theorem learnB_ok {l : Lk} {c : Int} {os : List (Int × ByteArray)} {w w' : World} {e : Ending} (hm : mayB l = true) (hc : codeB c = true) (h : LearnB l c os w e w') : Below w.heap.size w w' ∧ e = .returned (.tuple #[lkV (learnAll c l os), .int .i64 0]) := by
  refine ⟨h.1, ?_⟩
  rw [h.2, hm, hc]
  rfl
theorem learnB_no {l : Lk} {c : Int} {os : List (Int × ByteArray)} {w w' : World} {e : Ending} (hm : mayB l = false) (h : LearnB l c os w e w') : Below w.heap.size w w' ∧ e = .returned (.tuple #[.agg #[.int .i64 0, .int .i64 0, .int .i64 0, .bool false, .string ⟨#[]⟩, .int .i64 0], .int .i64 1400]) := by
  refine ⟨h.1, ?_⟩
  rw [h.2, hm]
  rfl
set_option maxRecDepth 100000 in
set_option maxHeartbeats 8000000 in
theorem once_walk (a : Lk) (nak : Bool) (A : Option Addr) (n cap : Nat) (os : List (Int × ByteArray)) (hnil : A = none → n = 0 ∧ cap = 0) (hcap : n ≤ cap) (hz : n * 24 ≤ 140737488351232 ∧ ∀ o ∈ os, o.2.size ≤ 140737488351232) (w : World) (hv : OptsAt w A n os) : Calls Try.prog 8 #[lkV a, .bool nak, .slice A n cap] w fun e w' => e = .returned (.bool true) ∧ Below w.heap.size w w' := by
  have hn := hz.1
  clear hz
  have HV := Lib.hid hv; clear hv
  have ha0 : Blk (w.alloc (.cells (lkC a) 23)) w.heap.size 23 (lkC a) := Blk.new w _ _
  have HA0 := Lib.hid ha0; clear ha0
  show Calls _ _ #[.agg #[.int .i64 a.mru, .int .i64 a.magic, .int .i64 a.mrru, .bool a.short, .string a.disc, .int .i64 a.num], _, _] _ _
  cases nak
  · cases hma : mayB a
    · go_enter Try.func8, Try.ntmps8
      go_wp2_with fail
      refine (awake_any _).mono ?_
      rintro e w1 ⟨rfl, hb1⟩
      have bel1 : Below w.heap.size w w1 := below_step ((Below.refl _ w).alloc (Nat.le_refl _) _) hb1 (by simp)
      have ha1' : Blk w1 w.heap.size 23 (lkC a) := HA0.out.keep hb1
      have a10 : w1.cell? ⟨w.heap.size, 0, none⟩ = some (.int .i64 a.mru) := ha1'.cell 0
      have a11 : w1.cell? ⟨w.heap.size, 1, none⟩ = some (.int .i64 a.magic) := ha1'.cell 1
      have a12 : w1.cell? ⟨w.heap.size, 2, none⟩ = some (.int .i64 a.mrru) := ha1'.cell 2
      have a13 : w1.cell? ⟨w.heap.size, 3, none⟩ = some (.bool a.short) := ha1'.cell 3
      have a14 : w1.cell? ⟨w.heap.size, 4, none⟩ = some (.string a.disc) := ha1'.cell 4
      have a15 : w1.cell? ⟨w.heap.size, 5, none⟩ = some (.int .i64 a.num) := ha1'.cell 5
      have za1 := ha1'.lt
      have HA1 := Lib.hid ha1'; clear ha1'
      go_wp2_with fail
      refine (learns_any a 4 A n cap os _ (HV.out.keep bel1) (by omega)).mono ?_
      rintro e w2 h2
      obtain ⟨hb2, rfl⟩ := learnB_no hma h2
      clear h2
      have bel2 := below_step bel1 hb2 bel1.size
      have ha2' : Blk w2 w.heap.size 23 (lkC a) := HA1.out.keep hb2
      have a20 : w2.cell? ⟨w.heap.size, 0, none⟩ = some (.int .i64 a.mru) := ha2'.cell 0
      have a21 : w2.cell? ⟨w.heap.size, 1, none⟩ = some (.int .i64 a.magic) := ha2'.cell 1
      have a22 : w2.cell? ⟨w.heap.size, 2, none⟩ = some (.int .i64 a.mrru) := ha2'.cell 2
      have a23 : w2.cell? ⟨w.heap.size, 3, none⟩ = some (.bool a.short) := ha2'.cell 3
      have a24 : w2.cell? ⟨w.heap.size, 4, none⟩ = some (.string a.disc) := ha2'.cell 4
      have a25 : w2.cell? ⟨w.heap.size, 5, none⟩ = some (.int .i64 a.num) := ha2'.cell 5
      have za2 := ha2'.lt
      have HA2 := Lib.hid ha2'; clear ha2'
      go_wp2_with (first | (go_at_call 11; refine (num_any _ _).mono ?_; rintro e w' ⟨rfl, rfl⟩))
      refine (mayref_any a _).mono ?_
      rintro e w3 ⟨rfl, hb3⟩
      rw [hma]
      have hq : Blk (w2.alloc (.cells #[.int .i64 0, .int .i64 0, .int .i64 0, .bool false, .string ⟨#[]⟩, .int .i64 0] 23)) w2.heap.size 23 (lkC zeroL) := Blk.new _ _ _
      have hq3 := hq.keep hb3
      clear hq
      have q30 : w3.cell? ⟨w2.heap.size, 0, none⟩ = some (.int .i64 0) := hq3.cell 0
      have q31 : w3.cell? ⟨w2.heap.size, 1, none⟩ = some (.int .i64 0) := hq3.cell 1
      have q32 : w3.cell? ⟨w2.heap.size, 2, none⟩ = some (.int .i64 0) := hq3.cell 2
      have q33 : w3.cell? ⟨w2.heap.size, 3, none⟩ = some (.bool false) := hq3.cell 3
      have q34 : w3.cell? ⟨w2.heap.size, 4, none⟩ = some (.string ⟨#[]⟩) := hq3.cell 4
      have q35 : w3.cell? ⟨w2.heap.size, 5, none⟩ = some (.int .i64 0) := hq3.cell 5
      clear hq3
      have bel3 := below_step (bel2.alloc bel2.size _) hb3 (by have := bel2.size; simp; omega)
      go_wp2_with (first | (go_at_call 11; refine (num_any _ _).mono ?_; rintro e w' ⟨rfl, rfl⟩))
      go_ret
      exact ⟨rfl, bel3⟩
    · go_enter Try.func8, Try.ntmps8
      go_wp2_with fail
      refine (awake_any _).mono ?_
      rintro e w1 ⟨rfl, hb1⟩
      have bel1 : Below w.heap.size w w1 := below_step ((Below.refl _ w).alloc (Nat.le_refl _) _) hb1 (by simp)
      have ha1' : Blk w1 w.heap.size 23 (lkC a) := HA0.out.keep hb1
      have a10 : w1.cell? ⟨w.heap.size, 0, none⟩ = some (.int .i64 a.mru) := ha1'.cell 0
      have a11 : w1.cell? ⟨w.heap.size, 1, none⟩ = some (.int .i64 a.magic) := ha1'.cell 1
      have a12 : w1.cell? ⟨w.heap.size, 2, none⟩ = some (.int .i64 a.mrru) := ha1'.cell 2
      have a13 : w1.cell? ⟨w.heap.size, 3, none⟩ = some (.bool a.short) := ha1'.cell 3
      have a14 : w1.cell? ⟨w.heap.size, 4, none⟩ = some (.string a.disc) := ha1'.cell 4
      have a15 : w1.cell? ⟨w.heap.size, 5, none⟩ = some (.int .i64 a.num) := ha1'.cell 5
      have za1 := ha1'.lt
      have HA1 := Lib.hid ha1'; clear ha1'
      go_wp2_with fail
      refine (learns_any a 4 A n cap os _ (HV.out.keep bel1) (by omega)).mono ?_
      rintro e w2 h2
      obtain ⟨hb2, rfl⟩ := learnB_ok hma (show codeB 4 = true by decide) h2
      clear h2
      have bel2 := below_step bel1 hb2 bel1.size
      have hmb := may_all (c := 4) os hma
      have htw := learn_twice 4 a os
      obtain ⟨b, hbe⟩ : ∃ b, learnAll 4 a os = b := ⟨_, rfl⟩
      rw [hbe] at hmb htw
      rw [hbe]
      simp only [lkV]
      have ha2' : Blk w2 w.heap.size 23 (lkC a) := HA1.out.keep hb2
      have a20 : w2.cell? ⟨w.heap.size, 0, none⟩ = some (.int .i64 a.mru) := ha2'.cell 0
      have a21 : w2.cell? ⟨w.heap.size, 1, none⟩ = some (.int .i64 a.magic) := ha2'.cell 1
      have a22 : w2.cell? ⟨w.heap.size, 2, none⟩ = some (.int .i64 a.mrru) := ha2'.cell 2
      have a23 : w2.cell? ⟨w.heap.size, 3, none⟩ = some (.bool a.short) := ha2'.cell 3
      have a24 : w2.cell? ⟨w.heap.size, 4, none⟩ = some (.string a.disc) := ha2'.cell 4
      have a25 : w2.cell? ⟨w.heap.size, 5, none⟩ = some (.int .i64 a.num) := ha2'.cell 5
      have za2 := ha2'.lt
      have HA2 := Lib.hid ha2'; clear ha2'
      have hb2' : Blk (w2.alloc (.cells (lkC b) 23)) w2.heap.size 23 (lkC b) := Blk.new _ _ _
      have HB2 := Lib.hid hb2'; clear hb2'
      go_wp2_with (first | (go_at_call 11; refine (num_any _ _).mono ?_; rintro e w' ⟨rfl, rfl⟩))
      refine (learns_any b 4 A n cap os _ ((HV.out.keep bel2).keep ((Below.refl _ _).alloc (Nat.le_refl _) _)) (by omega)).mono ?_
      rintro e w3 h3
      obtain ⟨hb3, rfl⟩ := learnB_ok hmb (show codeB 4 = true by decide) h3
      clear h3
      rw [htw]
      simp only [lkV]
      have st3 : Below w2.heap.size w2 w3 := below_step ((Below.refl _ w2).alloc (Nat.le_refl _) _) hb3 (by simp)
      have bel3 := below_step bel2 st3 bel2.size
      have ha3' : Blk w3 w.heap.size 23 (lkC a) := HA2.out.keep st3
      have a30 : w3.cell? ⟨w.heap.size, 0, none⟩ = some (.int .i64 a.mru) := ha3'.cell 0
      have a31 : w3.cell? ⟨w.heap.size, 1, none⟩ = some (.int .i64 a.magic) := ha3'.cell 1
      have a32 : w3.cell? ⟨w.heap.size, 2, none⟩ = some (.int .i64 a.mrru) := ha3'.cell 2
      have a33 : w3.cell? ⟨w.heap.size, 3, none⟩ = some (.bool a.short) := ha3'.cell 3
      have a34 : w3.cell? ⟨w.heap.size, 4, none⟩ = some (.string a.disc) := ha3'.cell 4
      have a35 : w3.cell? ⟨w.heap.size, 5, none⟩ = some (.int .i64 a.num) := ha3'.cell 5
      have za3 := ha3'.lt
      have HA3 := Lib.hid ha3'; clear ha3'
      have hb3' : Blk w3 w2.heap.size 23 (lkC b) := HB2.out.keep hb3
      have b30 : w3.cell? ⟨w2.heap.size, 0, none⟩ = some (.int .i64 b.mru) := hb3'.cell 0
      have b31 : w3.cell? ⟨w2.heap.size, 1, none⟩ = some (.int .i64 b.magic) := hb3'.cell 1
      have b32 : w3.cell? ⟨w2.heap.size, 2, none⟩ = some (.int .i64 b.mrru) := hb3'.cell 2
      have b33 : w3.cell? ⟨w2.heap.size, 3, none⟩ = some (.bool b.short) := hb3'.cell 3
      have b34 : w3.cell? ⟨w2.heap.size, 4, none⟩ = some (.string b.disc) := hb3'.cell 4
      have b35 : w3.cell? ⟨w2.heap.size, 5, none⟩ = some (.int .i64 b.num) := hb3'.cell 5
      have zb3 := hb3'.lt
      have HB3 := Lib.hid hb3'; clear hb3'
      have hc3' : Blk (w3.alloc (.cells (lkC b) 23)) w3.heap.size 23 (lkC b) := Blk.new _ _ _
      have HC3 := Lib.hid hc3'; clear hc3'
      go_wp2_with (first | (go_at_call 11; refine (num_any _ _).mono ?_; rintro e w' ⟨rfl, rfl⟩))
      refine (learns_any a 4 none 0 0 [] _ (OptsAt.nil _ _) (by omega)).mono ?_
      rintro e w4 h4
      obtain ⟨hb4, rfl⟩ := learnB_ok hma (show codeB 4 = true by decide) h4
      clear h4
      rw [show learnAll 4 a [] = a from rfl]
      simp only [lkV]
      have st4 : Below w3.heap.size w3 w4 := below_step ((Below.refl _ w3).alloc (Nat.le_refl _) _) hb4 (by simp)
      have bel4 := below_step bel3 st4 bel3.size
      have ha4' : Blk w4 w.heap.size 23 (lkC a) := HA3.out.keep st4
      have a40 : w4.cell? ⟨w.heap.size, 0, none⟩ = some (.int .i64 a.mru) := ha4'.cell 0
      have a41 : w4.cell? ⟨w.heap.size, 1, none⟩ = some (.int .i64 a.magic) := ha4'.cell 1
      have a42 : w4.cell? ⟨w.heap.size, 2, none⟩ = some (.int .i64 a.mrru) := ha4'.cell 2
      have a43 : w4.cell? ⟨w.heap.size, 3, none⟩ = some (.bool a.short) := ha4'.cell 3
      have a44 : w4.cell? ⟨w.heap.size, 4, none⟩ = some (.string a.disc) := ha4'.cell 4
      have a45 : w4.cell? ⟨w.heap.size, 5, none⟩ = some (.int .i64 a.num) := ha4'.cell 5
      have za4 := ha4'.lt
      have HA4 := Lib.hid ha4'; clear ha4'
      have hb4' : Blk w4 w2.heap.size 23 (lkC b) := HB3.out.keep st4
      have b40 : w4.cell? ⟨w2.heap.size, 0, none⟩ = some (.int .i64 b.mru) := hb4'.cell 0
      have b41 : w4.cell? ⟨w2.heap.size, 1, none⟩ = some (.int .i64 b.magic) := hb4'.cell 1
      have b42 : w4.cell? ⟨w2.heap.size, 2, none⟩ = some (.int .i64 b.mrru) := hb4'.cell 2
      have b43 : w4.cell? ⟨w2.heap.size, 3, none⟩ = some (.bool b.short) := hb4'.cell 3
      have b44 : w4.cell? ⟨w2.heap.size, 4, none⟩ = some (.string b.disc) := hb4'.cell 4
      have b45 : w4.cell? ⟨w2.heap.size, 5, none⟩ = some (.int .i64 b.num) := hb4'.cell 5
      have zb4 := hb4'.lt
      have HB4 := Lib.hid hb4'; clear hb4'
      have hc4' : Blk w4 w3.heap.size 23 (lkC b) := HC3.out.keep hb4
      have c40 : w4.cell? ⟨w3.heap.size, 0, none⟩ = some (.int .i64 b.mru) := hc4'.cell 0
      have c41 : w4.cell? ⟨w3.heap.size, 1, none⟩ = some (.int .i64 b.magic) := hc4'.cell 1
      have c42 : w4.cell? ⟨w3.heap.size, 2, none⟩ = some (.int .i64 b.mrru) := hc4'.cell 2
      have c43 : w4.cell? ⟨w3.heap.size, 3, none⟩ = some (.bool b.short) := hc4'.cell 3
      have c44 : w4.cell? ⟨w3.heap.size, 4, none⟩ = some (.string b.disc) := hc4'.cell 4
      have c45 : w4.cell? ⟨w3.heap.size, 5, none⟩ = some (.int .i64 b.num) := hc4'.cell 5
      have zc4 := hc4'.lt
      have HC4 := Lib.hid hc4'; clear hc4'
      go_wp2_with (first | (go_at_call 11; refine (num_any _ _).mono ?_; rintro e w' ⟨rfl, rfl⟩))
      refine (mayref_any b _).mono ?_
      rintro e w5 ⟨rfl, hb5⟩
      rw [hmb]
      have bel5 := below_step (bel4.alloc bel4.size _) hb5 (by have := bel4.size; simp; omega)
      go_wp2_with fail
      go_ret
      exact ⟨rfl, bel5⟩
  · cases hma : mayB a
    · go_enter Try.func8, Try.ntmps8
      go_wp2_with fail
      refine (awake_any _).mono ?_
      rintro e w1 ⟨rfl, hb1⟩
      have bel1 : Below w.heap.size w w1 := below_step ((Below.refl _ w).alloc (Nat.le_refl _) _) hb1 (by simp)
      have ha1' : Blk w1 w.heap.size 23 (lkC a) := HA0.out.keep hb1
      have a10 : w1.cell? ⟨w.heap.size, 0, none⟩ = some (.int .i64 a.mru) := ha1'.cell 0
      have a11 : w1.cell? ⟨w.heap.size, 1, none⟩ = some (.int .i64 a.magic) := ha1'.cell 1
      have a12 : w1.cell? ⟨w.heap.size, 2, none⟩ = some (.int .i64 a.mrru) := ha1'.cell 2
      have a13 : w1.cell? ⟨w.heap.size, 3, none⟩ = some (.bool a.short) := ha1'.cell 3
      have a14 : w1.cell? ⟨w.heap.size, 4, none⟩ = some (.string a.disc) := ha1'.cell 4
      have a15 : w1.cell? ⟨w.heap.size, 5, none⟩ = some (.int .i64 a.num) := ha1'.cell 5
      have za1 := ha1'.lt
      have HA1 := Lib.hid ha1'; clear ha1'
      go_wp2_with fail
      refine (learns_any a 3 A n cap os _ (HV.out.keep bel1) (by omega)).mono ?_
      rintro e w2 h2
      obtain ⟨hb2, rfl⟩ := learnB_no hma h2
      clear h2
      have bel2 := below_step bel1 hb2 bel1.size
      have ha2' : Blk w2 w.heap.size 23 (lkC a) := HA1.out.keep hb2
      have a20 : w2.cell? ⟨w.heap.size, 0, none⟩ = some (.int .i64 a.mru) := ha2'.cell 0
      have a21 : w2.cell? ⟨w.heap.size, 1, none⟩ = some (.int .i64 a.magic) := ha2'.cell 1
      have a22 : w2.cell? ⟨w.heap.size, 2, none⟩ = some (.int .i64 a.mrru) := ha2'.cell 2
      have a23 : w2.cell? ⟨w.heap.size, 3, none⟩ = some (.bool a.short) := ha2'.cell 3
      have a24 : w2.cell? ⟨w.heap.size, 4, none⟩ = some (.string a.disc) := ha2'.cell 4
      have a25 : w2.cell? ⟨w.heap.size, 5, none⟩ = some (.int .i64 a.num) := ha2'.cell 5
      have za2 := ha2'.lt
      have HA2 := Lib.hid ha2'; clear ha2'
      go_wp2_with (first | (go_at_call 11; refine (num_any _ _).mono ?_; rintro e w' ⟨rfl, rfl⟩))
      refine (mayref_any a _).mono ?_
      rintro e w3 ⟨rfl, hb3⟩
      rw [hma]
      have hq : Blk (w2.alloc (.cells #[.int .i64 0, .int .i64 0, .int .i64 0, .bool false, .string ⟨#[]⟩, .int .i64 0] 23)) w2.heap.size 23 (lkC zeroL) := Blk.new _ _ _
      have hq3 := hq.keep hb3
      clear hq
      have q30 : w3.cell? ⟨w2.heap.size, 0, none⟩ = some (.int .i64 0) := hq3.cell 0
      have q31 : w3.cell? ⟨w2.heap.size, 1, none⟩ = some (.int .i64 0) := hq3.cell 1
      have q32 : w3.cell? ⟨w2.heap.size, 2, none⟩ = some (.int .i64 0) := hq3.cell 2
      have q33 : w3.cell? ⟨w2.heap.size, 3, none⟩ = some (.bool false) := hq3.cell 3
      have q34 : w3.cell? ⟨w2.heap.size, 4, none⟩ = some (.string ⟨#[]⟩) := hq3.cell 4
      have q35 : w3.cell? ⟨w2.heap.size, 5, none⟩ = some (.int .i64 0) := hq3.cell 5
      clear hq3
      have bel3 := below_step (bel2.alloc bel2.size _) hb3 (by have := bel2.size; simp; omega)
      go_wp2_with (first | (go_at_call 11; refine (num_any _ _).mono ?_; rintro e w' ⟨rfl, rfl⟩))
      go_ret
      exact ⟨rfl, bel3⟩
    · go_enter Try.func8, Try.ntmps8
      go_wp2_with fail
      refine (awake_any _).mono ?_
      rintro e w1 ⟨rfl, hb1⟩
      have bel1 : Below w.heap.size w w1 := below_step ((Below.refl _ w).alloc (Nat.le_refl _) _) hb1 (by simp)
      have ha1' : Blk w1 w.heap.size 23 (lkC a) := HA0.out.keep hb1
      have a10 : w1.cell? ⟨w.heap.size, 0, none⟩ = some (.int .i64 a.mru) := ha1'.cell 0
      have a11 : w1.cell? ⟨w.heap.size, 1, none⟩ = some (.int .i64 a.magic) := ha1'.cell 1
      have a12 : w1.cell? ⟨w.heap.size, 2, none⟩ = some (.int .i64 a.mrru) := ha1'.cell 2
      have a13 : w1.cell? ⟨w.heap.size, 3, none⟩ = some (.bool a.short) := ha1'.cell 3
      have a14 : w1.cell? ⟨w.heap.size, 4, none⟩ = some (.string a.disc) := ha1'.cell 4
      have a15 : w1.cell? ⟨w.heap.size, 5, none⟩ = some (.int .i64 a.num) := ha1'.cell 5
      have za1 := ha1'.lt
      have HA1 := Lib.hid ha1'; clear ha1'
      go_wp2_with fail
      refine (learns_any a 3 A n cap os _ (HV.out.keep bel1) (by omega)).mono ?_
      rintro e w2 h2
      obtain ⟨hb2, rfl⟩ := learnB_ok hma (show codeB 3 = true by decide) h2
      clear h2
      have bel2 := below_step bel1 hb2 bel1.size
      have hmb := may_all (c := 3) os hma
      have htw := learn_twice 3 a os
      obtain ⟨b, hbe⟩ : ∃ b, learnAll 3 a os = b := ⟨_, rfl⟩
      rw [hbe] at hmb htw
      rw [hbe]
      simp only [lkV]
      have ha2' : Blk w2 w.heap.size 23 (lkC a) := HA1.out.keep hb2
      have a20 : w2.cell? ⟨w.heap.size, 0, none⟩ = some (.int .i64 a.mru) := ha2'.cell 0
      have a21 : w2.cell? ⟨w.heap.size, 1, none⟩ = some (.int .i64 a.magic) := ha2'.cell 1
      have a22 : w2.cell? ⟨w.heap.size, 2, none⟩ = some (.int .i64 a.mrru) := ha2'.cell 2
      have a23 : w2.cell? ⟨w.heap.size, 3, none⟩ = some (.bool a.short) := ha2'.cell 3
      have a24 : w2.cell? ⟨w.heap.size, 4, none⟩ = some (.string a.disc) := ha2'.cell 4
      have a25 : w2.cell? ⟨w.heap.size, 5, none⟩ = some (.int .i64 a.num) := ha2'.cell 5
      have za2 := ha2'.lt
      have HA2 := Lib.hid ha2'; clear ha2'
      have hb2' : Blk (w2.alloc (.cells (lkC b) 23)) w2.heap.size 23 (lkC b) := Blk.new _ _ _
      have HB2 := Lib.hid hb2'; clear hb2'
      go_wp2_with (first | (go_at_call 11; refine (num_any _ _).mono ?_; rintro e w' ⟨rfl, rfl⟩))
      refine (learns_any b 3 A n cap os _ ((HV.out.keep bel2).keep ((Below.refl _ _).alloc (Nat.le_refl _) _)) (by omega)).mono ?_
      rintro e w3 h3
      obtain ⟨hb3, rfl⟩ := learnB_ok hmb (show codeB 3 = true by decide) h3
      clear h3
      rw [htw]
      simp only [lkV]
      have st3 : Below w2.heap.size w2 w3 := below_step ((Below.refl _ w2).alloc (Nat.le_refl _) _) hb3 (by simp)
      have bel3 := below_step bel2 st3 bel2.size
      have ha3' : Blk w3 w.heap.size 23 (lkC a) := HA2.out.keep st3
      have a30 : w3.cell? ⟨w.heap.size, 0, none⟩ = some (.int .i64 a.mru) := ha3'.cell 0
      have a31 : w3.cell? ⟨w.heap.size, 1, none⟩ = some (.int .i64 a.magic) := ha3'.cell 1
      have a32 : w3.cell? ⟨w.heap.size, 2, none⟩ = some (.int .i64 a.mrru) := ha3'.cell 2
      have a33 : w3.cell? ⟨w.heap.size, 3, none⟩ = some (.bool a.short) := ha3'.cell 3
      have a34 : w3.cell? ⟨w.heap.size, 4, none⟩ = some (.string a.disc) := ha3'.cell 4
      have a35 : w3.cell? ⟨w.heap.size, 5, none⟩ = some (.int .i64 a.num) := ha3'.cell 5
      have za3 := ha3'.lt
      have HA3 := Lib.hid ha3'; clear ha3'
      have hb3' : Blk w3 w2.heap.size 23 (lkC b) := HB2.out.keep hb3
      have b30 : w3.cell? ⟨w2.heap.size, 0, none⟩ = some (.int .i64 b.mru) := hb3'.cell 0
      have b31 : w3.cell? ⟨w2.heap.size, 1, none⟩ = some (.int .i64 b.magic) := hb3'.cell 1
      have b32 : w3.cell? ⟨w2.heap.size, 2, none⟩ = some (.int .i64 b.mrru) := hb3'.cell 2
      have b33 : w3.cell? ⟨w2.heap.size, 3, none⟩ = some (.bool b.short) := hb3'.cell 3
      have b34 : w3.cell? ⟨w2.heap.size, 4, none⟩ = some (.string b.disc) := hb3'.cell 4
      have b35 : w3.cell? ⟨w2.heap.size, 5, none⟩ = some (.int .i64 b.num) := hb3'.cell 5
      have zb3 := hb3'.lt
      have HB3 := Lib.hid hb3'; clear hb3'
      have hc3' : Blk (w3.alloc (.cells (lkC b) 23)) w3.heap.size 23 (lkC b) := Blk.new _ _ _
      have HC3 := Lib.hid hc3'; clear hc3'
      go_wp2_with (first | (go_at_call 11; refine (num_any _ _).mono ?_; rintro e w' ⟨rfl, rfl⟩))
      refine (learns_any a 3 none 0 0 [] _ (OptsAt.nil _ _) (by omega)).mono ?_
      rintro e w4 h4
      obtain ⟨hb4, rfl⟩ := learnB_ok hma (show codeB 3 = true by decide) h4
      clear h4
      rw [show learnAll 3 a [] = a from rfl]
      simp only [lkV]
      have st4 : Below w3.heap.size w3 w4 := below_step ((Below.refl _ w3).alloc (Nat.le_refl _) _) hb4 (by simp)
      have bel4 := below_step bel3 st4 bel3.size
      have ha4' : Blk w4 w.heap.size 23 (lkC a) := HA3.out.keep st4
      have a40 : w4.cell? ⟨w.heap.size, 0, none⟩ = some (.int .i64 a.mru) := ha4'.cell 0
      have a41 : w4.cell? ⟨w.heap.size, 1, none⟩ = some (.int .i64 a.magic) := ha4'.cell 1
      have a42 : w4.cell? ⟨w.heap.size, 2, none⟩ = some (.int .i64 a.mrru) := ha4'.cell 2
      have a43 : w4.cell? ⟨w.heap.size, 3, none⟩ = some (.bool a.short) := ha4'.cell 3
      have a44 : w4.cell? ⟨w.heap.size, 4, none⟩ = some (.string a.disc) := ha4'.cell 4
      have a45 : w4.cell? ⟨w.heap.size, 5, none⟩ = some (.int .i64 a.num) := ha4'.cell 5
      have za4 := ha4'.lt
      have HA4 := Lib.hid ha4'; clear ha4'
      have hb4' : Blk w4 w2.heap.size 23 (lkC b) := HB3.out.keep st4
      have b40 : w4.cell? ⟨w2.heap.size, 0, none⟩ = some (.int .i64 b.mru) := hb4'.cell 0
      have b41 : w4.cell? ⟨w2.heap.size, 1, none⟩ = some (.int .i64 b.magic) := hb4'.cell 1
      have b42 : w4.cell? ⟨w2.heap.size, 2, none⟩ = some (.int .i64 b.mrru) := hb4'.cell 2
      have b43 : w4.cell? ⟨w2.heap.size, 3, none⟩ = some (.bool b.short) := hb4'.cell 3
      have b44 : w4.cell? ⟨w2.heap.size, 4, none⟩ = some (.string b.disc) := hb4'.cell 4
      have b45 : w4.cell? ⟨w2.heap.size, 5, none⟩ = some (.int .i64 b.num) := hb4'.cell 5
      have zb4 := hb4'.lt
      have HB4 := Lib.hid hb4'; clear hb4'
      have hc4' : Blk w4 w3.heap.size 23 (lkC b) := HC3.out.keep hb4
      have c40 : w4.cell? ⟨w3.heap.size, 0, none⟩ = some (.int .i64 b.mru) := hc4'.cell 0
      have c41 : w4.cell? ⟨w3.heap.size, 1, none⟩ = some (.int .i64 b.magic) := hc4'.cell 1
      have c42 : w4.cell? ⟨w3.heap.size, 2, none⟩ = some (.int .i64 b.mrru) := hc4'.cell 2
      have c43 : w4.cell? ⟨w3.heap.size, 3, none⟩ = some (.bool b.short) := hc4'.cell 3
      have c44 : w4.cell? ⟨w3.heap.size, 4, none⟩ = some (.string b.disc) := hc4'.cell 4
      have c45 : w4.cell? ⟨w3.heap.size, 5, none⟩ = some (.int .i64 b.num) := hc4'.cell 5
      have zc4 := hc4'.lt
      have HC4 := Lib.hid hc4'; clear hc4'
      go_wp2_with (first | (go_at_call 11; refine (num_any _ _).mono ?_; rintro e w' ⟨rfl, rfl⟩))
      refine (mayref_any b _).mono ?_
      rintro e w5 ⟨rfl, hb5⟩
      rw [hmb]
      have bel5 := below_step (bel4.alloc bel4.size _) hb5 (by have := bel4.size; simp; omega)
      go_wp2_with fail
      go_ret
      exact ⟨rfl, bel5⟩
end Go.Proofs.Ytjmcgekegenobaa
