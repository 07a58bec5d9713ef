/- Statement PolicyBack: the walk. No condition. -/
import Derived.Test.YtjmcgekegenobaaPolQ
import Derived.Test.YtjmcgekegenobaaPolT
namespace Go.Proofs.Ytjmcgekegenobaa
open Go.RowKit
set_option linter.unusedVariables false
set_option linter.unusedSimpArgs false
set_option maxRecDepth 100000 in
set_option maxHeartbeats 8000000 in
theorem back_walk (a b : Lk) (w : World) : Calls Try.prog 3 #[lkV a, lkV b] w fun e w' => e = .returned (.bool true) ∧ Below w.heap.size w w' := by
  have ha0 : Blk ((w.alloc (.cells (lkC a) 23)).alloc (.cells (lkC b) 23)) w.heap.size 23 (lkC a) := (Blk.new w _ _).alloc _
  have hb0 : Blk ((w.alloc (.cells (lkC a) 23)).alloc (.cells (lkC b) 23)) (w.heap.size + 1) 23 (lkC b) := Blk.new_at _ _ (by simp) _ _
  have HA0 := Lib.hid ha0; have HB0 := Lib.hid hb0; clear ha0 hb0
  show Calls _ _ #[.agg #[.int .i64 a.mru, .int .i64 a.magic, .int .i64 a.mrru, .bool a.short, .string a.disc, .int .i64 a.num], .agg #[.int .i64 b.mru, .int .i64 b.magic, .int .i64 b.mrru, .bool b.short, .string b.disc, .int .i64 b.num]] _ _
  cases hma : mayB a
  · go_enter Try.func3, Try.ntmps3
    go_wp2_with fail
    refine (awake_any _).mono ?_
    rintro e w1 ⟨rfl, hb1⟩
    have bel1 : Below w.heap.size w w1 := below_step (((Below.refl _ w).alloc (Nat.le_refl _) _).alloc (by simp) _) hb1 (by simp; omega)
    have ha1 : Blk w1 w.heap.size 23 (lkC a) := HA0.out.keep hb1
    have hb1' : Blk w1 (w.heap.size + 1) 23 (lkC b) := HB0.out.keep hb1
    have a10 : w1.cell? ⟨w.heap.size, 0, none⟩ = some (.int .i64 a.mru) := ha1.cell 0
    have a11 : w1.cell? ⟨w.heap.size, 1, none⟩ = some (.int .i64 a.magic) := ha1.cell 1
    have a12 : w1.cell? ⟨w.heap.size, 2, none⟩ = some (.int .i64 a.mrru) := ha1.cell 2
    have a13 : w1.cell? ⟨w.heap.size, 3, none⟩ = some (.bool a.short) := ha1.cell 3
    have a14 : w1.cell? ⟨w.heap.size, 4, none⟩ = some (.string a.disc) := ha1.cell 4
    have a15 : w1.cell? ⟨w.heap.size, 5, none⟩ = some (.int .i64 a.num) := ha1.cell 5
    have b10 : w1.cell? ⟨w.heap.size + 1, 0, none⟩ = some (.int .i64 b.mru) := hb1'.cell 0
    have b11 : w1.cell? ⟨w.heap.size + 1, 1, none⟩ = some (.int .i64 b.magic) := hb1'.cell 1
    have b12 : w1.cell? ⟨w.heap.size + 1, 2, none⟩ = some (.int .i64 b.mrru) := hb1'.cell 2
    have b13 : w1.cell? ⟨w.heap.size + 1, 3, none⟩ = some (.bool b.short) := hb1'.cell 3
    have b14 : w1.cell? ⟨w.heap.size + 1, 4, none⟩ = some (.string b.disc) := hb1'.cell 4
    have b15 : w1.cell? ⟨w.heap.size + 1, 5, none⟩ = some (.int .i64 b.num) := hb1'.cell 5
    have za1 := ha1.lt; have zb1 := hb1'.lt
    have HA1 := Lib.hid ha1; have HB1 := Lib.hid hb1'; clear ha1 hb1'
    go_wp2_with fail
    refine (ask_any a _).mono ?_
    rintro e w2 h2
    obtain ⟨rfl, hb2⟩ := ask_no hma h2
    clear h2
    have bel2 := below_step bel1 hb2 bel1.size
    go_wp2_with (first | (go_at_call 11; refine (num_any _ _).mono ?_; rintro e w' ⟨rfl, rfl⟩))
    go_ret
    exact ⟨rfl, bel2⟩
  · go_enter Try.func3, Try.ntmps3
    go_wp2_with fail
    refine (awake_any _).mono ?_
    rintro e w1 ⟨rfl, hb1⟩
    have bel1 : Below w.heap.size w w1 := below_step (((Below.refl _ w).alloc (Nat.le_refl _) _).alloc (by simp) _) hb1 (by simp; omega)
    have ha1 : Blk w1 w.heap.size 23 (lkC a) := HA0.out.keep hb1
    have hb1' : Blk w1 (w.heap.size + 1) 23 (lkC b) := HB0.out.keep hb1
    have a10 : w1.cell? ⟨w.heap.size, 0, none⟩ = some (.int .i64 a.mru) := ha1.cell 0
    have a11 : w1.cell? ⟨w.heap.size, 1, none⟩ = some (.int .i64 a.magic) := ha1.cell 1
    have a12 : w1.cell? ⟨w.heap.size, 2, none⟩ = some (.int .i64 a.mrru) := ha1.cell 2
    have a13 : w1.cell? ⟨w.heap.size, 3, none⟩ = some (.bool a.short) := ha1.cell 3
    have a14 : w1.cell? ⟨w.heap.size, 4, none⟩ = some (.string a.disc) := ha1.cell 4
    have a15 : w1.cell? ⟨w.heap.size, 5, none⟩ = some (.int .i64 a.num) := ha1.cell 5
    have b10 : w1.cell? ⟨w.heap.size + 1, 0, none⟩ = some (.int .i64 b.mru) := hb1'.cell 0
    have b11 : w1.cell? ⟨w.heap.size + 1, 1, none⟩ = some (.int .i64 b.magic) := hb1'.cell 1
    have b12 : w1.cell? ⟨w.heap.size + 1, 2, none⟩ = some (.int .i64 b.mrru) := hb1'.cell 2
    have b13 : w1.cell? ⟨w.heap.size + 1, 3, none⟩ = some (.bool b.short) := hb1'.cell 3
    have b14 : w1.cell? ⟨w.heap.size + 1, 4, none⟩ = some (.string b.disc) := hb1'.cell 4
    have b15 : w1.cell? ⟨w.heap.size + 1, 5, none⟩ = some (.int .i64 b.num) := hb1'.cell 5
    have za1 := ha1.lt; have zb1 := hb1'.lt
    have HA1 := Lib.hid ha1; have HB1 := Lib.hid hb1'; clear ha1 hb1'
    go_wp2_with fail
    refine (ask_any a _).mono ?_
    rintro e w2 h2
    obtain ⟨A2, n2, cap2, rfl, hr2, hb2⟩ := ask_ok hma h2
    clear h2
    have bel2 := below_step bel1 hb2 bel1.size
    have ha2 : Blk w2 w.heap.size 23 (lkC a) := HA1.out.keep hb2
    have hb2' : Blk w2 (w.heap.size + 1) 23 (lkC b) := HB1.out.keep hb2
    have a20 : w2.cell? ⟨w.heap.size, 0, none⟩ = some (.int .i64 a.mru) := ha2.cell 0
    have a21 : w2.cell? ⟨w.heap.size, 1, none⟩ = some (.int .i64 a.magic) := ha2.cell 1
    have a22 : w2.cell? ⟨w.heap.size, 2, none⟩ = some (.int .i64 a.mrru) := ha2.cell 2
    have a23 : w2.cell? ⟨w.heap.size, 3, none⟩ = some (.bool a.short) := ha2.cell 3
    have a24 : w2.cell? ⟨w.heap.size, 4, none⟩ = some (.string a.disc) := ha2.cell 4
    have a25 : w2.cell? ⟨w.heap.size, 5, none⟩ = some (.int .i64 a.num) := ha2.cell 5
    have b20 : w2.cell? ⟨w.heap.size + 1, 0, none⟩ = some (.int .i64 b.mru) := hb2'.cell 0
    have b21 : w2.cell? ⟨w.heap.size + 1, 1, none⟩ = some (.int .i64 b.magic) := hb2'.cell 1
    have b22 : w2.cell? ⟨w.heap.size + 1, 2, none⟩ = some (.int .i64 b.mrru) := hb2'.cell 2
    have b23 : w2.cell? ⟨w.heap.size + 1, 3, none⟩ = some (.bool b.short) := hb2'.cell 3
    have b24 : w2.cell? ⟨w.heap.size + 1, 4, none⟩ = some (.string b.disc) := hb2'.cell 4
    have b25 : w2.cell? ⟨w.heap.size + 1, 5, none⟩ = some (.int .i64 b.num) := hb2'.cell 5
    have za2 := ha2.lt; have zb2 := hb2'.lt
    have HA2 := Lib.hid ha2; have HB2 := Lib.hid hb2'; clear ha2 hb2'
    have HR2 := Lib.hid hr2; clear hr2
    go_wp2_with (first | (go_at_call 11; refine (num_any _ _).mono ?_; rintro e w' ⟨rfl, rfl⟩))
    refine (taken_any A2 n2 cap2 (askL a) _ HR2.out.1 (by have := HR2.out.2.1; omega) HR2.out.2.2.2).mono ?_
    rintro e w3 ⟨hb3, rfl⟩
    rw [taken_ask hma]
    have bel3 := below_step bel2 hb3 bel2.size
    have ha3 : Blk w3 w.heap.size 23 (lkC a) := HA2.out.keep hb3
    have hb3' : Blk w3 (w.heap.size + 1) 23 (lkC b) := HB2.out.keep hb3
    have a30 : w3.cell? ⟨w.heap.size, 0, none⟩ = some (.int .i64 a.mru) := ha3.cell 0
    have a31 : w3.cell? ⟨w.heap.size, 1, none⟩ = some (.int .i64 a.magic) := ha3.cell 1
    have a32 : w3.cell? ⟨w.heap.size, 2, none⟩ = some (.int .i64 a.mrru) := ha3.cell 2
    have a33 : w3.cell? ⟨w.heap.size, 3, none⟩ = some (.bool a.short) := ha3.cell 3
    have a34 : w3.cell? ⟨w.heap.size, 4, none⟩ = some (.string a.disc) := ha3.cell 4
    have a35 : w3.cell? ⟨w.heap.size, 5, none⟩ = some (.int .i64 a.num) := ha3.cell 5
    have b30 : w3.cell? ⟨w.heap.size + 1, 0, none⟩ = some (.int .i64 b.mru) := hb3'.cell 0
    have b31 : w3.cell? ⟨w.heap.size + 1, 1, none⟩ = some (.int .i64 b.magic) := hb3'.cell 1
    have b32 : w3.cell? ⟨w.heap.size + 1, 2, none⟩ = some (.int .i64 b.mrru) := hb3'.cell 2
    have b33 : w3.cell? ⟨w.heap.size + 1, 3, none⟩ = some (.bool b.short) := hb3'.cell 3
    have b34 : w3.cell? ⟨w.heap.size + 1, 4, none⟩ = some (.string b.disc) := hb3'.cell 4
    have b35 : w3.cell? ⟨w.heap.size + 1, 5, none⟩ = some (.int .i64 b.num) := hb3'.cell 5
    have za3 := ha3.lt; have zb3 := hb3'.lt
    have HA3 := Lib.hid ha3; have HB3 := Lib.hid hb3'; clear ha3 hb3'
    have HR3 := Lib.hid (HR2.out.keep hb3)
    simp only [lkV]
    go_wp2_with (first | (go_at_call 11; refine (num_any _ _).mono ?_; rintro e w' ⟨rfl, rfl⟩))
    refine (judge_any b A2 n2 cap2 (askL a) _ (HR3.out.keep ((Below.refl _ _).alloc (Nat.le_refl _) _)).1 HR2.out.2.1 HR2.out.2.2.1 HR2.out.2.2.2 (ask_fits hma)).mono ?_
    rintro e w4 h4
    cases hmb : mayB b
    · obtain ⟨rfl, hb4⟩ := judge_no hmb h4
      clear h4
      have st4 : Below w3.heap.size w3 w4 := below_step ((Below.refl _ w3).alloc (Nat.le_refl _) _) hb4 (by simp)
      have bel4 := below_step bel3 st4 bel3.size
      have ha4 : Blk w4 w.heap.size 23 (lkC a) := HA3.out.keep st4
      have hb4' : Blk w4 (w.heap.size + 1) 23 (lkC b) := HB3.out.keep st4
      have a40 : w4.cell? ⟨w.heap.size, 0, none⟩ = some (.int .i64 a.mru) := ha4.cell 0
      have a41 : w4.cell? ⟨w.heap.size, 1, none⟩ = some (.int .i64 a.magic) := ha4.cell 1
      have a42 : w4.cell? ⟨w.heap.size, 2, none⟩ = some (.int .i64 a.mrru) := ha4.cell 2
      have a43 : w4.cell? ⟨w.heap.size, 3, none⟩ = some (.bool a.short) := ha4.cell 3
      have a44 : w4.cell? ⟨w.heap.size, 4, none⟩ = some (.string a.disc) := ha4.cell 4
      have a45 : w4.cell? ⟨w.heap.size, 5, none⟩ = some (.int .i64 a.num) := ha4.cell 5
      have b40 : w4.cell? ⟨w.heap.size + 1, 0, none⟩ = some (.int .i64 b.mru) := hb4'.cell 0
      have b41 : w4.cell? ⟨w.heap.size + 1, 1, none⟩ = some (.int .i64 b.magic) := hb4'.cell 1
      have b42 : w4.cell? ⟨w.heap.size + 1, 2, none⟩ = some (.int .i64 b.mrru) := hb4'.cell 2
      have b43 : w4.cell? ⟨w.heap.size + 1, 3, none⟩ = some (.bool b.short) := hb4'.cell 3
      have b44 : w4.cell? ⟨w.heap.size + 1, 4, none⟩ = some (.string b.disc) := hb4'.cell 4
      have b45 : w4.cell? ⟨w.heap.size + 1, 5, none⟩ = some (.int .i64 b.num) := hb4'.cell 5
      have za4 := ha4.lt; have zb4 := hb4'.lt
      have HA4 := Lib.hid ha4; have HB4 := Lib.hid hb4'; clear ha4 hb4'
      go_wp2_with (first | (go_at_call 11; refine (num_any _ _).mono ?_; rintro e w' ⟨rfl, rfl⟩))
      refine (mayref_any b _).mono ?_
      rintro e w5 ⟨rfl, hb5⟩
      rw [hmb]
      have bel5 := below_step bel4 hb5 bel4.size
      go_wp2_with fail
      go_ret
      exact ⟨rfl, bel5⟩
    · obtain ⟨A4, n4, cap4, rfl, hr4, hb4⟩ := judge_ok hmb h4
      clear h4
      have st4 : Below w3.heap.size w3 w4 := below_step ((Below.refl _ w3).alloc (Nat.le_refl _) _) hb4 (by simp)
      have bel4 := below_step bel3 st4 bel3.size
      have ha4 : Blk w4 w.heap.size 23 (lkC a) := HA3.out.keep st4
      have hb4' : Blk w4 (w.heap.size + 1) 23 (lkC b) := HB3.out.keep st4
      have a40 : w4.cell? ⟨w.heap.size, 0, none⟩ = some (.int .i64 a.mru) := ha4.cell 0
      have a41 : w4.cell? ⟨w.heap.size, 1, none⟩ = some (.int .i64 a.magic) := ha4.cell 1
      have a42 : w4.cell? ⟨w.heap.size, 2, none⟩ = some (.int .i64 a.mrru) := ha4.cell 2
      have a43 : w4.cell? ⟨w.heap.size, 3, none⟩ = some (.bool a.short) := ha4.cell 3
      have a44 : w4.cell? ⟨w.heap.size, 4, none⟩ = some (.string a.disc) := ha4.cell 4
      have a45 : w4.cell? ⟨w.heap.size, 5, none⟩ = some (.int .i64 a.num) := ha4.cell 5
      have b40 : w4.cell? ⟨w.heap.size + 1, 0, none⟩ = some (.int .i64 b.mru) := hb4'.cell 0
      have b41 : w4.cell? ⟨w.heap.size + 1, 1, none⟩ = some (.int .i64 b.magic) := hb4'.cell 1
      have b42 : w4.cell? ⟨w.heap.size + 1, 2, none⟩ = some (.int .i64 b.mrru) := hb4'.cell 2
      have b43 : w4.cell? ⟨w.heap.size + 1, 3, none⟩ = some (.bool b.short) := hb4'.cell 3
      have b44 : w4.cell? ⟨w.heap.size + 1, 4, none⟩ = some (.string b.disc) := hb4'.cell 4
      have b45 : w4.cell? ⟨w.heap.size + 1, 5, none⟩ = some (.int .i64 b.num) := hb4'.cell 5
      have za4 := ha4.lt; have zb4 := hb4'.lt
      have HA4 := Lib.hid ha4; have HB4 := Lib.hid hb4'; clear ha4 hb4'
      obtain ⟨jv, jl⟩ := judge_ask (b := b) hma
      cases hsa : a.short <;> cases hsb : b.short
      · rw [hsa] at a43
        rw [hsb] at b43
        have hc : cS a b = false := by unfold cS; rw [hsa, hsb]; rfl
        rw [hc, if_neg (by decide)] at jv jl
        cases hm0 : (a.magic == 0) <;> cases hme : (a.magic == b.magic)
        · have hmn : (a.magic != 0) = true := by unfold bne; rw [hm0]; rfl
          have hcm : cM a b = false := by unfold cM; rw [hmn, hme]; rfl
          rw [hcm, if_neg (by decide)] at jv jl
          rw [jv]
          rw [jl] at hr4
          have HR4 := Lib.hid hr4; clear hr4
          go_wp2_with (first | (go_at_call 11; refine (num_any _ _).mono ?_; rintro e w' ⟨rfl, rfl⟩) | (go_at_call 15; refine (same_any A4 A2 n4 n2 cap4 cap2 (askL a) (askL a) _ HR4.out.1 (HR3.out.keep st4).1 (by have := HR4.out.2.1; omega)).mono ?_; rintro e w5 ⟨rfl, hb5⟩; rw [same_refl]; have bel5 := below_step bel4 hb5 bel4.size))
          go_ret
          exact ⟨rfl, bel5⟩
        · have hmn : (a.magic != 0) = true := by unfold bne; rw [hm0]; rfl
          have hcm : cM a b = true := by unfold cM; rw [hmn, hme]; rfl
          rw [hcm, if_pos rfl] at jv jl
          rw [jv]
          rw [jl] at hr4
          have hn4 : n4 = 1 := hr4.1.1.symm
          subst hn4
          obtain ⟨b4, o4, rfl, hlt4, hcc⟩ := hr4.1.2 (by decide)
          have s0 : w4.cell? ⟨b4, o4, none⟩ = some (.int .i64 5) := (hcc 0 (by simp)).1
          clear hcc hr4
          go_wp2_with (first | (go_at_call 11; refine (num_any _ _).mono ?_; rintro e w' ⟨rfl, rfl⟩))
          go_ret
          exact ⟨rfl, bel4⟩
        · have hmn : (a.magic != 0) = false := by unfold bne; rw [hm0]; rfl
          have hcm : cM a b = false := by unfold cM; rw [hmn, hme]; rfl
          rw [hcm, if_neg (by decide)] at jv jl
          rw [jv]
          rw [jl] at hr4
          have HR4 := Lib.hid hr4; clear hr4
          go_wp2_with (first | (go_at_call 11; refine (num_any _ _).mono ?_; rintro e w' ⟨rfl, rfl⟩) | (go_at_call 15; refine (same_any A4 A2 n4 n2 cap4 cap2 (askL a) (askL a) _ HR4.out.1 (HR3.out.keep st4).1 (by have := HR4.out.2.1; omega)).mono ?_; rintro e w5 ⟨rfl, hb5⟩; rw [same_refl]; have bel5 := below_step bel4 hb5 bel4.size))
          go_ret
          exact ⟨rfl, bel5⟩
        · have hmn : (a.magic != 0) = false := by unfold bne; rw [hm0]; rfl
          have hcm : cM a b = false := by unfold cM; rw [hmn, hme]; rfl
          rw [hcm, if_neg (by decide)] at jv jl
          rw [jv]
          rw [jl] at hr4
          have HR4 := Lib.hid hr4; clear hr4
          go_wp2_with (first | (go_at_call 11; refine (num_any _ _).mono ?_; rintro e w' ⟨rfl, rfl⟩) | (go_at_call 15; refine (same_any A4 A2 n4 n2 cap4 cap2 (askL a) (askL a) _ HR4.out.1 (HR3.out.keep st4).1 (by have := HR4.out.2.1; omega)).mono ?_; rintro e w5 ⟨rfl, hb5⟩; rw [same_refl]; have bel5 := below_step bel4 hb5 bel4.size))
          go_ret
          exact ⟨rfl, bel5⟩
      · rw [hsa] at a43
        rw [hsb] at b43
        have hc : cS a b = false := by unfold cS; rw [hsa, hsb]; rfl
        rw [hc, if_neg (by decide)] at jv jl
        cases hm0 : (a.magic == 0) <;> cases hme : (a.magic == b.magic)
        · have hmn : (a.magic != 0) = true := by unfold bne; rw [hm0]; rfl
          have hcm : cM a b = false := by unfold cM; rw [hmn, hme]; rfl
          rw [hcm, if_neg (by decide)] at jv jl
          rw [jv]
          rw [jl] at hr4
          have HR4 := Lib.hid hr4; clear hr4
          go_wp2_with (first | (go_at_call 11; refine (num_any _ _).mono ?_; rintro e w' ⟨rfl, rfl⟩) | (go_at_call 15; refine (same_any A4 A2 n4 n2 cap4 cap2 (askL a) (askL a) _ HR4.out.1 (HR3.out.keep st4).1 (by have := HR4.out.2.1; omega)).mono ?_; rintro e w5 ⟨rfl, hb5⟩; rw [same_refl]; have bel5 := below_step bel4 hb5 bel4.size))
          go_ret
          exact ⟨rfl, bel5⟩
        · have hmn : (a.magic != 0) = true := by unfold bne; rw [hm0]; rfl
          have hcm : cM a b = true := by unfold cM; rw [hmn, hme]; rfl
          rw [hcm, if_pos rfl] at jv jl
          rw [jv]
          rw [jl] at hr4
          have hn4 : n4 = 1 := hr4.1.1.symm
          subst hn4
          obtain ⟨b4, o4, rfl, hlt4, hcc⟩ := hr4.1.2 (by decide)
          have s0 : w4.cell? ⟨b4, o4, none⟩ = some (.int .i64 5) := (hcc 0 (by simp)).1
          clear hcc hr4
          go_wp2_with (first | (go_at_call 11; refine (num_any _ _).mono ?_; rintro e w' ⟨rfl, rfl⟩))
          go_ret
          exact ⟨rfl, bel4⟩
        · have hmn : (a.magic != 0) = false := by unfold bne; rw [hm0]; rfl
          have hcm : cM a b = false := by unfold cM; rw [hmn, hme]; rfl
          rw [hcm, if_neg (by decide)] at jv jl
          rw [jv]
          rw [jl] at hr4
          have HR4 := Lib.hid hr4; clear hr4
          go_wp2_with (first | (go_at_call 11; refine (num_any _ _).mono ?_; rintro e w' ⟨rfl, rfl⟩) | (go_at_call 15; refine (same_any A4 A2 n4 n2 cap4 cap2 (askL a) (askL a) _ HR4.out.1 (HR3.out.keep st4).1 (by have := HR4.out.2.1; omega)).mono ?_; rintro e w5 ⟨rfl, hb5⟩; rw [same_refl]; have bel5 := below_step bel4 hb5 bel4.size))
          go_ret
          exact ⟨rfl, bel5⟩
        · have hmn : (a.magic != 0) = false := by unfold bne; rw [hm0]; rfl
          have hcm : cM a b = false := by unfold cM; rw [hmn, hme]; rfl
          rw [hcm, if_neg (by decide)] at jv jl
          rw [jv]
          rw [jl] at hr4
          have HR4 := Lib.hid hr4; clear hr4
          go_wp2_with (first | (go_at_call 11; refine (num_any _ _).mono ?_; rintro e w' ⟨rfl, rfl⟩) | (go_at_call 15; refine (same_any A4 A2 n4 n2 cap4 cap2 (askL a) (askL a) _ HR4.out.1 (HR3.out.keep st4).1 (by have := HR4.out.2.1; omega)).mono ?_; rintro e w5 ⟨rfl, hb5⟩; rw [same_refl]; have bel5 := below_step bel4 hb5 bel4.size))
          go_ret
          exact ⟨rfl, bel5⟩
      · rw [hsa] at a43
        rw [hsb] at b43
        have hc : cS a b = true := by unfold cS; rw [hsa, hsb]; rfl
        rw [hc, if_pos rfl] at jv jl
        rw [jv]
        rw [jl] at hr4
        have hn4 : n4 = 1 := hr4.1.1.symm
        subst hn4
        obtain ⟨b4, o4, rfl, hlt4, hcc⟩ := hr4.1.2 (by decide)
        have s0 : w4.cell? ⟨b4, o4, none⟩ = some (.int .i64 18) := (hcc 0 (by simp)).1
        clear hcc hr4
        go_wp2_with (first | (go_at_call 11; refine (num_any _ _).mono ?_; rintro e w' ⟨rfl, rfl⟩))
        go_ret
        exact ⟨rfl, bel4⟩
      · rw [hsa] at a43
        rw [hsb] at b43
        have hc : cS a b = false := by unfold cS; rw [hsa, hsb]; rfl
        rw [hc, if_neg (by decide)] at jv jl
        cases hm0 : (a.magic == 0) <;> cases hme : (a.magic == b.magic)
        · have hmn : (a.magic != 0) = true := by unfold bne; rw [hm0]; rfl
          have hcm : cM a b = false := by unfold cM; rw [hmn, hme]; rfl
          rw [hcm, if_neg (by decide)] at jv jl
          rw [jv]
          rw [jl] at hr4
          have HR4 := Lib.hid hr4; clear hr4
          go_wp2_with (first | (go_at_call 11; refine (num_any _ _).mono ?_; rintro e w' ⟨rfl, rfl⟩) | (go_at_call 15; refine (same_any A4 A2 n4 n2 cap4 cap2 (askL a) (askL a) _ HR4.out.1 (HR3.out.keep st4).1 (by have := HR4.out.2.1; omega)).mono ?_; rintro e w5 ⟨rfl, hb5⟩; rw [same_refl]; have bel5 := below_step bel4 hb5 bel4.size))
          go_ret
          exact ⟨rfl, bel5⟩
        · have hmn : (a.magic != 0) = true := by unfold bne; rw [hm0]; rfl
          have hcm : cM a b = true := by unfold cM; rw [hmn, hme]; rfl
          rw [hcm, if_pos rfl] at jv jl
          rw [jv]
          rw [jl] at hr4
          have hn4 : n4 = 1 := hr4.1.1.symm
          subst hn4
          obtain ⟨b4, o4, rfl, hlt4, hcc⟩ := hr4.1.2 (by decide)
          have s0 : w4.cell? ⟨b4, o4, none⟩ = some (.int .i64 5) := (hcc 0 (by simp)).1
          clear hcc hr4
          go_wp2_with (first | (go_at_call 11; refine (num_any _ _).mono ?_; rintro e w' ⟨rfl, rfl⟩))
          go_ret
          exact ⟨rfl, bel4⟩
        · have hmn : (a.magic != 0) = false := by unfold bne; rw [hm0]; rfl
          have hcm : cM a b = false := by unfold cM; rw [hmn, hme]; rfl
          rw [hcm, if_neg (by decide)] at jv jl
          rw [jv]
          rw [jl] at hr4
          have HR4 := Lib.hid hr4; clear hr4
          go_wp2_with (first | (go_at_call 11; refine (num_any _ _).mono ?_; rintro e w' ⟨rfl, rfl⟩) | (go_at_call 15; refine (same_any A4 A2 n4 n2 cap4 cap2 (askL a) (askL a) _ HR4.out.1 (HR3.out.keep st4).1 (by have := HR4.out.2.1; omega)).mono ?_; rintro e w5 ⟨rfl, hb5⟩; rw [same_refl]; have bel5 := below_step bel4 hb5 bel4.size))
          go_ret
          exact ⟨rfl, bel5⟩
        · have hmn : (a.magic != 0) = false := by unfold bne; rw [hm0]; rfl
          have hcm : cM a b = false := by unfold cM; rw [hmn, hme]; rfl
          rw [hcm, if_neg (by decide)] at jv jl
          rw [jv]
          rw [jl] at hr4
          have HR4 := Lib.hid hr4; clear hr4
          go_wp2_with (first | (go_at_call 11; refine (num_any _ _).mono ?_; rintro e w' ⟨rfl, rfl⟩) | (go_at_call 15; refine (same_any A4 A2 n4 n2 cap4 cap2 (askL a) (askL a) _ HR4.out.1 (HR3.out.keep st4).1 (by have := HR4.out.2.1; omega)).mono ?_; rintro e w5 ⟨rfl, hb5⟩; rw [same_refl]; have bel5 := below_step bel4 hb5 bel4.size))
          go_ret
          exact ⟨rfl, bel5⟩
end Go.Proofs.Ytjmcgekegenobaa
