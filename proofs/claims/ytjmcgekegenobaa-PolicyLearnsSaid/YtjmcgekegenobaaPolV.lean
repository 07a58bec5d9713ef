/- Statement PolicyLearns: the walk. No condition. -/
import Derived.Test.YtjmcgekegenobaaPolU
import Derived.Test.YtjmcgekegenobaaPolT
namespace Go.Proofs.Ytjmcgekegenobaa
open Go.RowKit
set_option linter.unusedVariables false
set_option linter.unusedSimpArgs false
theorem learn_ok {l m : Lk} {c : Int} {os : List (Int × ByteArray)} {w w' : World} {e : Ending} (hm : mayB l = true) (hc : codeB c = true) (hl : learnAll c l os = m) (h : LearnB l c os w e w') : Below w.heap.size w w' ∧ e = .returned (.tuple #[lkV m, .int .i64 0]) := by
  refine ⟨h.1, ?_⟩
  rw [h.2, hm, hc, hl]
  rfl
def LearnsR (b : Lk) (w : World) (v i : Value) (wr : World) : Prop := ∃ (l : Lk) (k : Nat) (A : Option Addr) (n cap : Nat), i = .int .i64 k ∧ v = .slice A n cap ∧ Res wr A n cap (askL l) ∧ mayB l = true ∧ Blk wr w.heap.size 23 (lkC l) ∧ Blk wr (w.heap.size + 1) 23 (lkC b) ∧ k + farL l b ≤ 2 ∧ Below w.heap.size w wr
set_option maxRecDepth 100000 in
set_option maxHeartbeats 8000000 in
theorem learns_walk (a b : Lk) (w : World) : Calls Try.prog 4 #[lkV a, lkV b] w fun e w' => e = .returned (.bool true) ∧ Below w.heap.size w w' := by
  have ha0 : Blk ((w.alloc (.cells (lkC a) 23)).alloc (.cells (lkC b) 23)) w.heap.size 23 (lkC a) := (Blk.new w _ _).alloc _
  have hb0 : Blk ((w.alloc (.cells (lkC a) 23)).alloc (.cells (lkC b) 23)) (w.heap.size + 1) 23 (lkC b) := Blk.new_at _ _ (by simp) _ _
  have HA0 := Lib.hid ha0; have HB0 := Lib.hid hb0; clear ha0 hb0
  show Calls _ _ #[.agg #[.int .i64 a.mru, .int .i64 a.magic, .int .i64 a.mrru, .bool a.short, .string a.disc, .int .i64 a.num], .agg #[.int .i64 b.mru, .int .i64 b.magic, .int .i64 b.mrru, .bool b.short, .string b.disc, .int .i64 b.num]] _ _
  cases hma : mayB a
  · go_enter Try.func4, Try.ntmps4
    go_wp2_with fail
    refine (awake_any _).mono ?_
    rintro e w1 ⟨rfl, hb1⟩
    have bel1 : Below w.heap.size w w1 := below_step (((Below.refl _ w).alloc (Nat.le_refl _) _).alloc (by simp) _) hb1 (by simp; omega)
    have ha1 : Blk w1 w.heap.size 23 (lkC a) := HA0.out.keep hb1
    have hb1' : Blk w1 (w.heap.size + 1) 23 (lkC b) := HB0.out.keep hb1
    have a10 : w1.cell? ⟨w.heap.size, 0, none⟩ = some (.int .i64 a.mru) := ha1.cell 0
    have a11 : w1.cell? ⟨w.heap.size, 1, none⟩ = some (.int .i64 a.magic) := ha1.cell 1
    have a12 : w1.cell? ⟨w.heap.size, 2, none⟩ = some (.int .i64 a.mrru) := ha1.cell 2
    have a13 : w1.cell? ⟨w.heap.size, 3, none⟩ = some (.bool a.short) := ha1.cell 3
    have a14 : w1.cell? ⟨w.heap.size, 4, none⟩ = some (.string a.disc) := ha1.cell 4
    have a15 : w1.cell? ⟨w.heap.size, 5, none⟩ = some (.int .i64 a.num) := ha1.cell 5
    have b10 : w1.cell? ⟨w.heap.size + 1, 0, none⟩ = some (.int .i64 b.mru) := hb1'.cell 0
    have b11 : w1.cell? ⟨w.heap.size + 1, 1, none⟩ = some (.int .i64 b.magic) := hb1'.cell 1
    have b12 : w1.cell? ⟨w.heap.size + 1, 2, none⟩ = some (.int .i64 b.mrru) := hb1'.cell 2
    have b13 : w1.cell? ⟨w.heap.size + 1, 3, none⟩ = some (.bool b.short) := hb1'.cell 3
    have b14 : w1.cell? ⟨w.heap.size + 1, 4, none⟩ = some (.string b.disc) := hb1'.cell 4
    have b15 : w1.cell? ⟨w.heap.size + 1, 5, none⟩ = some (.int .i64 b.num) := hb1'.cell 5
    have za1 := ha1.lt; have zb1 := hb1'.lt
    have HA1 := Lib.hid ha1; have HB1 := Lib.hid hb1'; clear ha1 hb1'
    go_wp2_with fail
    refine (ask_any a _).mono ?_
    rintro e w2 h2
    obtain ⟨rfl, hb2⟩ := ask_no hma h2
    clear h2
    have bel2 := below_step bel1 hb2 bel1.size
    go_wp2_with (first | (go_at_call 11; refine (num_any _ _).mono ?_; rintro e w' ⟨rfl, rfl⟩))
    go_ret
    exact ⟨rfl, bel2⟩
  · cases hmb : mayB b
    · go_enter Try.func4, Try.ntmps4
      go_wp2_with fail
      refine (awake_any _).mono ?_
      rintro e w1 ⟨rfl, hb1⟩
      have bel1 : Below w.heap.size w w1 := below_step (((Below.refl _ w).alloc (Nat.le_refl _) _).alloc (by simp) _) hb1 (by simp; omega)
      have ha1 : Blk w1 w.heap.size 23 (lkC a) := HA0.out.keep hb1
      have hb1' : Blk w1 (w.heap.size + 1) 23 (lkC b) := HB0.out.keep hb1
      have a10 : w1.cell? ⟨w.heap.size, 0, none⟩ = some (.int .i64 a.mru) := ha1.cell 0
      have a11 : w1.cell? ⟨w.heap.size, 1, none⟩ = some (.int .i64 a.magic) := ha1.cell 1
      have a12 : w1.cell? ⟨w.heap.size, 2, none⟩ = some (.int .i64 a.mrru) := ha1.cell 2
      have a13 : w1.cell? ⟨w.heap.size, 3, none⟩ = some (.bool a.short) := ha1.cell 3
      have a14 : w1.cell? ⟨w.heap.size, 4, none⟩ = some (.string a.disc) := ha1.cell 4
      have a15 : w1.cell? ⟨w.heap.size, 5, none⟩ = some (.int .i64 a.num) := ha1.cell 5
      have b10 : w1.cell? ⟨w.heap.size + 1, 0, none⟩ = some (.int .i64 b.mru) := hb1'.cell 0
      have b11 : w1.cell? ⟨w.heap.size + 1, 1, none⟩ = some (.int .i64 b.magic) := hb1'.cell 1
      have b12 : w1.cell? ⟨w.heap.size + 1, 2, none⟩ = some (.int .i64 b.mrru) := hb1'.cell 2
      have b13 : w1.cell? ⟨w.heap.size + 1, 3, none⟩ = some (.bool b.short) := hb1'.cell 3
      have b14 : w1.cell? ⟨w.heap.size + 1, 4, none⟩ = some (.string b.disc) := hb1'.cell 4
      have b15 : w1.cell? ⟨w.heap.size + 1, 5, none⟩ = some (.int .i64 b.num) := hb1'.cell 5
      have za1 := ha1.lt; have zb1 := hb1'.lt
      have HA1 := Lib.hid ha1; have HB1 := Lib.hid hb1'; clear ha1 hb1'
      go_wp2_with fail
      refine (ask_any a _).mono ?_
      rintro e w2 h2
      obtain ⟨A2, n2, cap2, rfl, hr2, hb2⟩ := ask_ok hma h2
      clear h2
      have bel2 := below_step bel1 hb2 bel1.size
      have ha2 : Blk w2 w.heap.size 23 (lkC a) := HA1.out.keep hb2
      have hb2' : Blk w2 (w.heap.size + 1) 23 (lkC b) := HB1.out.keep hb2
      have a20 : w2.cell? ⟨w.heap.size, 0, none⟩ = some (.int .i64 a.mru) := ha2.cell 0
      have a21 : w2.cell? ⟨w.heap.size, 1, none⟩ = some (.int .i64 a.magic) := ha2.cell 1
      have a22 : w2.cell? ⟨w.heap.size, 2, none⟩ = some (.int .i64 a.mrru) := ha2.cell 2
      have a23 : w2.cell? ⟨w.heap.size, 3, none⟩ = some (.bool a.short) := ha2.cell 3
      have a24 : w2.cell? ⟨w.heap.size, 4, none⟩ = some (.string a.disc) := ha2.cell 4
      have a25 : w2.cell? ⟨w.heap.size, 5, none⟩ = some (.int .i64 a.num) := ha2.cell 5
      have b20 : w2.cell? ⟨w.heap.size + 1, 0, none⟩ = some (.int .i64 b.mru) := hb2'.cell 0
      have b21 : w2.cell? ⟨w.heap.size + 1, 1, none⟩ = some (.int .i64 b.magic) := hb2'.cell 1
      have b22 : w2.cell? ⟨w.heap.size + 1, 2, none⟩ = some (.int .i64 b.mrru) := hb2'.cell 2
      have b23 : w2.cell? ⟨w.heap.size + 1, 3, none⟩ = some (.bool b.short) := hb2'.cell 3
      have b24 : w2.cell? ⟨w.heap.size + 1, 4, none⟩ = some (.string b.disc) := hb2'.cell 4
      have b25 : w2.cell? ⟨w.heap.size + 1, 5, none⟩ = some (.int .i64 b.num) := hb2'.cell 5
      have za2 := ha2.lt; have zb2 := hb2'.lt
      have HA2 := Lib.hid ha2; have HB2 := Lib.hid hb2'; clear ha2 hb2'
      have HR2 := Lib.hid hr2; clear hr2
      go_wp2_with (first | (go_at_call 11; refine (num_any _ _).mono ?_; rintro e w' ⟨rfl, rfl⟩))
      refine (mayref_any b _).mono ?_
      rintro e w3 ⟨rfl, hb3⟩
      rw [hmb]
      have bel3 := below_step bel2 hb3 bel2.size
      go_wp2_with fail
      go_ret
      exact ⟨rfl, bel3⟩
    · go_enter Try.func4, Try.ntmps4
      go_wp2_with fail
      refine (awake_any _).mono ?_
      rintro e w1 ⟨rfl, hb1⟩
      have bel1 : Below w.heap.size w w1 := below_step (((Below.refl _ w).alloc (Nat.le_refl _) _).alloc (by simp) _) hb1 (by simp; omega)
      have ha1 : Blk w1 w.heap.size 23 (lkC a) := HA0.out.keep hb1
      have hb1' : Blk w1 (w.heap.size + 1) 23 (lkC b) := HB0.out.keep hb1
      have a10 : w1.cell? ⟨w.heap.size, 0, none⟩ = some (.int .i64 a.mru) := ha1.cell 0
      have a11 : w1.cell? ⟨w.heap.size, 1, none⟩ = some (.int .i64 a.magic) := ha1.cell 1
      have a12 : w1.cell? ⟨w.heap.size, 2, none⟩ = some (.int .i64 a.mrru) := ha1.cell 2
      have a13 : w1.cell? ⟨w.heap.size, 3, none⟩ = some (.bool a.short) := ha1.cell 3
      have a14 : w1.cell? ⟨w.heap.size, 4, none⟩ = some (.string a.disc) := ha1.cell 4
      have a15 : w1.cell? ⟨w.heap.size, 5, none⟩ = some (.int .i64 a.num) := ha1.cell 5
      have b10 : w1.cell? ⟨w.heap.size + 1, 0, none⟩ = some (.int .i64 b.mru) := hb1'.cell 0
      have b11 : w1.cell? ⟨w.heap.size + 1, 1, none⟩ = some (.int .i64 b.magic) := hb1'.cell 1
      have b12 : w1.cell? ⟨w.heap.size + 1, 2, none⟩ = some (.int .i64 b.mrru) := hb1'.cell 2
      have b13 : w1.cell? ⟨w.heap.size + 1, 3, none⟩ = some (.bool b.short) := hb1'.cell 3
      have b14 : w1.cell? ⟨w.heap.size + 1, 4, none⟩ = some (.string b.disc) := hb1'.cell 4
      have b15 : w1.cell? ⟨w.heap.size + 1, 5, none⟩ = some (.int .i64 b.num) := hb1'.cell 5
      have za1 := ha1.lt; have zb1 := hb1'.lt
      have HA1 := Lib.hid ha1; have HB1 := Lib.hid hb1'; clear ha1 hb1'
      go_wp2_with fail
      refine (ask_any a _).mono ?_
      rintro e w2 h2
      obtain ⟨A2, n2, cap2, rfl, hr2, hb2⟩ := ask_ok hma h2
      clear h2
      have bel2 := below_step bel1 hb2 bel1.size
      have ha2 : Blk w2 w.heap.size 23 (lkC a) := HA1.out.keep hb2
      have hb2' : Blk w2 (w.heap.size + 1) 23 (lkC b) := HB1.out.keep hb2
      have a20 : w2.cell? ⟨w.heap.size, 0, none⟩ = some (.int .i64 a.mru) := ha2.cell 0
      have a21 : w2.cell? ⟨w.heap.size, 1, none⟩ = some (.int .i64 a.magic) := ha2.cell 1
      have a22 : w2.cell? ⟨w.heap.size, 2, none⟩ = some (.int .i64 a.mrru) := ha2.cell 2
      have a23 : w2.cell? ⟨w.heap.size, 3, none⟩ = some (.bool a.short) := ha2.cell 3
      have a24 : w2.cell? ⟨w.heap.size, 4, none⟩ = some (.string a.disc) := ha2.cell 4
      have a25 : w2.cell? ⟨w.heap.size, 5, none⟩ = some (.int .i64 a.num) := ha2.cell 5
      have b20 : w2.cell? ⟨w.heap.size + 1, 0, none⟩ = some (.int .i64 b.mru) := hb2'.cell 0
      have b21 : w2.cell? ⟨w.heap.size + 1, 1, none⟩ = some (.int .i64 b.magic) := hb2'.cell 1
      have b22 : w2.cell? ⟨w.heap.size + 1, 2, none⟩ = some (.int .i64 b.mrru) := hb2'.cell 2
      have b23 : w2.cell? ⟨w.heap.size + 1, 3, none⟩ = some (.bool b.short) := hb2'.cell 3
      have b24 : w2.cell? ⟨w.heap.size + 1, 4, none⟩ = some (.string b.disc) := hb2'.cell 4
      have b25 : w2.cell? ⟨w.heap.size + 1, 5, none⟩ = some (.int .i64 b.num) := hb2'.cell 5
      have za2 := ha2.lt; have zb2 := hb2'.lt
      have HA2 := Lib.hid ha2; have HB2 := Lib.hid hb2'; clear ha2 hb2'
      have HR2 := Lib.hid hr2; clear hr2
      go_wp2_with (first | (go_at_call 11; refine (num_any _ _).mono ?_; rintro e w' ⟨rfl, rfl⟩))
      refine (mayref_any b _).mono ?_
      rintro e w3 ⟨rfl, hb3⟩
      rw [hmb]
      have bel3 := below_step bel2 hb3 bel2.size
      have ha3 : Blk w3 w.heap.size 23 (lkC a) := HA2.out.keep hb3
      have hb3' : Blk w3 (w.heap.size + 1) 23 (lkC b) := HB2.out.keep hb3
      have a30 : w3.cell? ⟨w.heap.size, 0, none⟩ = some (.int .i64 a.mru) := ha3.cell 0
      have a31 : w3.cell? ⟨w.heap.size, 1, none⟩ = some (.int .i64 a.magic) := ha3.cell 1
      have a32 : w3.cell? ⟨w.heap.size, 2, none⟩ = some (.int .i64 a.mrru) := ha3.cell 2
      have a33 : w3.cell? ⟨w.heap.size, 3, none⟩ = some (.bool a.short) := ha3.cell 3
      have a34 : w3.cell? ⟨w.heap.size, 4, none⟩ = some (.string a.disc) := ha3.cell 4
      have a35 : w3.cell? ⟨w.heap.size, 5, none⟩ = some (.int .i64 a.num) := ha3.cell 5
      have b30 : w3.cell? ⟨w.heap.size + 1, 0, none⟩ = some (.int .i64 b.mru) := hb3'.cell 0
      have b31 : w3.cell? ⟨w.heap.size + 1, 1, none⟩ = some (.int .i64 b.magic) := hb3'.cell 1
      have b32 : w3.cell? ⟨w.heap.size + 1, 2, none⟩ = some (.int .i64 b.mrru) := hb3'.cell 2
      have b33 : w3.cell? ⟨w.heap.size + 1, 3, none⟩ = some (.bool b.short) := hb3'.cell 3
      have b34 : w3.cell? ⟨w.heap.size + 1, 4, none⟩ = some (.string b.disc) := hb3'.cell 4
      have b35 : w3.cell? ⟨w.heap.size + 1, 5, none⟩ = some (.int .i64 b.num) := hb3'.cell 5
      have za3 := ha3.lt; have zb3 := hb3'.lt
      have HA3 := Lib.hid ha3; have HB3 := Lib.hid hb3'; clear ha3 hb3'
      have HR3 := Lib.hid (HR2.out.keep hb3)
      go_wp2_with fail
      go_loopw [5, 7] (fun v i wr => LearnsR b w v i wr) (fun _ i _ => 4 - (intOf i).toNat)
      case atStart => exact ⟨a, 0, A2, n2, cap2, rfl, rfl, HR3.out, hma, HA3.out, HB3.out, by unfold farL; cases cS a b <;> cases cM a b <;> decide, bel3⟩
      case round =>
        obtain ⟨l, k, A, n, cap, rfl, rfl, hres, hml, hla, hlb, hfar, hbel⟩ := hrel
        have hk2 : (k : Int) ≤ 2 := by omega
        have hk4 : (k : Int) < 4 := by omega
        have RES := Lib.hid hres; clear hres
        have HFAR := Lib.hid hfar; clear hfar
        have la0 : wr.cell? ⟨w.heap.size, 0, none⟩ = some (.int .i64 l.mru) := hla.cell 0
        have la1 : wr.cell? ⟨w.heap.size, 1, none⟩ = some (.int .i64 l.magic) := hla.cell 1
        have la2 : wr.cell? ⟨w.heap.size, 2, none⟩ = some (.int .i64 l.mrru) := hla.cell 2
        have la3 : wr.cell? ⟨w.heap.size, 3, none⟩ = some (.bool l.short) := hla.cell 3
        have la4 : wr.cell? ⟨w.heap.size, 4, none⟩ = some (.string l.disc) := hla.cell 4
        have la5 : wr.cell? ⟨w.heap.size, 5, none⟩ = some (.int .i64 l.num) := hla.cell 5
        have lb0 : wr.cell? ⟨w.heap.size + 1, 0, none⟩ = some (.int .i64 b.mru) := hlb.cell 0
        have lb1 : wr.cell? ⟨w.heap.size + 1, 1, none⟩ = some (.int .i64 b.magic) := hlb.cell 1
        have lb2 : wr.cell? ⟨w.heap.size + 1, 2, none⟩ = some (.int .i64 b.mrru) := hlb.cell 2
        have lb3 : wr.cell? ⟨w.heap.size + 1, 3, none⟩ = some (.bool b.short) := hlb.cell 3
        have lb4 : wr.cell? ⟨w.heap.size + 1, 4, none⟩ = some (.string b.disc) := hlb.cell 4
        have lb5 : wr.cell? ⟨w.heap.size + 1, 5, none⟩ = some (.int .i64 b.num) := hlb.cell 5
        have zl := hla.lt; have zb := hlb.lt
        have HLA := Lib.hid hla; have HLB := Lib.hid hlb; clear hla hlb
        rcases hcS : cS l b with _ | _
        · rcases hcM : cM l b with _ | _
          · go_wp2_with fail
            refine (judge_any b A n cap (askL l) _ RES.out.1 RES.out.2.1 RES.out.2.2.1 RES.out.2.2.2 (ask_fits hml)).mono ?_
            rintro e w4 h4
            obtain ⟨A4, n4, cap4, rfl, hr4, hb4⟩ := judge_ok hmb h4
            clear h4
            have bel4 := below_step hbel hb4 hbel.size
            have hla4 := HLA.out.keep hb4
            have hlb4 := HLB.out.keep hb4
            have a40 : w4.cell? ⟨w.heap.size, 0, none⟩ = some (.int .i64 l.mru) := hla4.cell 0
            have a41 : w4.cell? ⟨w.heap.size, 1, none⟩ = some (.int .i64 l.magic) := hla4.cell 1
            have a42 : w4.cell? ⟨w.heap.size, 2, none⟩ = some (.int .i64 l.mrru) := hla4.cell 2
            have a43 : w4.cell? ⟨w.heap.size, 3, none⟩ = some (.bool l.short) := hla4.cell 3
            have a44 : w4.cell? ⟨w.heap.size, 4, none⟩ = some (.string l.disc) := hla4.cell 4
            have a45 : w4.cell? ⟨w.heap.size, 5, none⟩ = some (.int .i64 l.num) := hla4.cell 5
            have b40 : w4.cell? ⟨w.heap.size + 1, 0, none⟩ = some (.int .i64 b.mru) := hlb4.cell 0
            have b41 : w4.cell? ⟨w.heap.size + 1, 1, none⟩ = some (.int .i64 b.magic) := hlb4.cell 1
            have b42 : w4.cell? ⟨w.heap.size + 1, 2, none⟩ = some (.int .i64 b.mrru) := hlb4.cell 2
            have b43 : w4.cell? ⟨w.heap.size + 1, 3, none⟩ = some (.bool b.short) := hlb4.cell 3
            have b44 : w4.cell? ⟨w.heap.size + 1, 4, none⟩ = some (.string b.disc) := hlb4.cell 4
            have b45 : w4.cell? ⟨w.heap.size + 1, 5, none⟩ = some (.int .i64 b.num) := hlb4.cell 5
            have zl4 := hla4.lt; have zb4 := hlb4.lt
            have HLA4 := Lib.hid hla4; have HLB4 := Lib.hid hlb4; clear hla4 hlb4
            obtain ⟨jv, jl⟩ := judge_ask (b := b) hml
            rw [hcS, if_neg (by decide), hcM, if_neg (by decide)] at jv jl
            rw [jv]
            go_wp2_with (first | (go_at_call 11; refine (num_any _ _).mono ?_; rintro e w' ⟨rfl, rfl⟩))
            go_ret
            exact ⟨rfl, bel4⟩
          · go_wp2_with fail
            refine (judge_any b A n cap (askL l) _ RES.out.1 RES.out.2.1 RES.out.2.2.1 RES.out.2.2.2 (ask_fits hml)).mono ?_
            rintro e w4 h4
            obtain ⟨A4, n4, cap4, rfl, hr4, hb4⟩ := judge_ok hmb h4
            clear h4
            have bel4 := below_step hbel hb4 hbel.size
            have hla4 := HLA.out.keep hb4
            have hlb4 := HLB.out.keep hb4
            have a40 : w4.cell? ⟨w.heap.size, 0, none⟩ = some (.int .i64 l.mru) := hla4.cell 0
            have a41 : w4.cell? ⟨w.heap.size, 1, none⟩ = some (.int .i64 l.magic) := hla4.cell 1
            have a42 : w4.cell? ⟨w.heap.size, 2, none⟩ = some (.int .i64 l.mrru) := hla4.cell 2
            have a43 : w4.cell? ⟨w.heap.size, 3, none⟩ = some (.bool l.short) := hla4.cell 3
            have a44 : w4.cell? ⟨w.heap.size, 4, none⟩ = some (.string l.disc) := hla4.cell 4
            have a45 : w4.cell? ⟨w.heap.size, 5, none⟩ = some (.int .i64 l.num) := hla4.cell 5
            have b40 : w4.cell? ⟨w.heap.size + 1, 0, none⟩ = some (.int .i64 b.mru) := hlb4.cell 0
            have b41 : w4.cell? ⟨w.heap.size + 1, 1, none⟩ = some (.int .i64 b.magic) := hlb4.cell 1
            have b42 : w4.cell? ⟨w.heap.size + 1, 2, none⟩ = some (.int .i64 b.mrru) := hlb4.cell 2
            have b43 : w4.cell? ⟨w.heap.size + 1, 3, none⟩ = some (.bool b.short) := hlb4.cell 3
            have b44 : w4.cell? ⟨w.heap.size + 1, 4, none⟩ = some (.string b.disc) := hlb4.cell 4
            have b45 : w4.cell? ⟨w.heap.size + 1, 5, none⟩ = some (.int .i64 b.num) := hlb4.cell 5
            have zl4 := hla4.lt; have zb4 := hlb4.lt
            have HLA4 := Lib.hid hla4; have HLB4 := Lib.hid hlb4; clear hla4 hlb4
            obtain ⟨jv, jl⟩ := judge_ask (b := b) hml
            rw [hcS, if_neg (by decide), hcM, if_pos rfl] at jv jl
            have hcm2 := hcM
            unfold cM at hcm2
            simp only [Bool.and_eq_true, bne_iff_ne, ne_eq, beq_iff_eq] at hcm2
            obtain ⟨hm0, hme⟩ := hcm2
            have hmr := (may_range hmb).2.1
            obtain ⟨f0, f1, f2⟩ := flip_range hmr.1 (by omega)
            have hlm := learn_magic hm0 f0 f1
            have hfm := far_magic hcM hmb hml
            have HFM := Lib.hid hfm
            have hmn := hfm.2
            clear hfm
            obtain ⟨f, hf⟩ : ∃ f, flipM b.magic = f := ⟨_, rfl⟩
            rw [hf] at f0 f1 f2 hlm HFM jl hmn
            have hd1 : (f == l.magic) = false := by simp; omega
            have hd2 : decide (f = l.magic) = false := decide_eq_false (by omega)
            clear hm0 hme hmr hf f0 f1 f2
            rw [jv]
            rw [jl] at hr4
            have HR4 := Lib.hid hr4; clear hr4
            go_wp2_with (first | (go_at_call 11; refine (num_any _ _).mono ?_; rintro e w' ⟨rfl, rfl⟩))
            refine (learns_any l 3 A4 n4 cap4 [(5, be4 f)] _ HR4.out.1 (by have := HR4.out.2.1; omega)).mono ?_
            rintro e w5 h5
            obtain ⟨hb5, rfl⟩ := learn_ok hml (show codeB 3 = true by decide) hlm h5
            clear h5
            simp only [lkV]
            have bel5 := below_step bel4 hb5 bel4.size
            have hla5 := HLA4.out.keep hb5
            have hlb5 := HLB4.out.keep hb5
            have a50 : w5.cell? ⟨w.heap.size, 0, none⟩ = some (.int .i64 l.mru) := hla5.cell 0
            have a51 : w5.cell? ⟨w.heap.size, 1, none⟩ = some (.int .i64 l.magic) := hla5.cell 1
            have a52 : w5.cell? ⟨w.heap.size, 2, none⟩ = some (.int .i64 l.mrru) := hla5.cell 2
            have a53 : w5.cell? ⟨w.heap.size, 3, none⟩ = some (.bool l.short) := hla5.cell 3
            have a54 : w5.cell? ⟨w.heap.size, 4, none⟩ = some (.string l.disc) := hla5.cell 4
            have a55 : w5.cell? ⟨w.heap.size, 5, none⟩ = some (.int .i64 l.num) := hla5.cell 5
            have fa5 := hla5.frozen
            have zl5 := hla5.lt; have zb5 := hlb5.lt
            have hne5 : w.heap.size ≠ w5.heap.size := by omega
            have hne6 : w.heap.size + 1 ≠ w5.heap.size := by omega
            have HLA5 := Lib.hid hla5; have HLB5 := Lib.hid hlb5; clear hla5 hlb5
            go_wp2_with (first | (go_at_call 11; refine (num_any _ _).mono ?_; rintro e w' ⟨rfl, rfl⟩))
            refine (ask_any { l with magic := f } _).mono ?_
            rintro e w6 h6
            obtain ⟨A6, n6, cap6, rfl, hr6, hb6⟩ := ask_ok hmn h6
            clear h6
            have HR6 := Lib.hid hr6; clear hr6
            have hla6 : Blk w6 w.heap.size 23 (lkC { l with magic := f }) := by
              refine Blk.keep ?_ hb6
              exact Blk.alloc (Blk.set6 HLA5.out _ _ _ _ _ _) _
            have hlb6 : Blk w6 (w.heap.size + 1) 23 (lkC b) := by
              refine Blk.keep ?_ hb6
              exact (by repeat' (first | (with_reducible exact HLB5.out) | (with_reducible refine Blk.far ?_ (by first | omega | (simp; done) | (simp; omega)) _) | (with_reducible refine Blk.alloc ?_ _) | (with_reducible refine Blk.drew ?_) | (with_reducible refine Blk.drewN ?_ _)))
            have bel6 : Below w.heap.size w w6 := by
              refine below_step (Below.alloc (below_set6 bel5 (Nat.le_refl _) _ _ _ _ _ _) ?_ _) hb6 ?_
              · rw [size_set6]; exact bel5.size
              · have := bel5.size
                simp
                omega
            have HLA6 := Lib.hid hla6; have HLB6 := Lib.hid hlb6; clear hla6 hlb6
            go_wp2_with (first | (go_at_call 11; refine (num_any _ _).mono ?_; rintro e w' ⟨rfl, rfl⟩))
            go_roundw
            case rel => exact ⟨{ l with magic := f }, k + 1, A6, n6, cap6, by go_num, rfl, HR6.out, hmn, HLA6.out, HLB6.out, by have := HFAR.out; have := HFM.1; omega, bel6⟩
            case measure => simp [intOf]; omega
        · go_wp2_with fail
          refine (judge_any b A n cap (askL l) _ RES.out.1 RES.out.2.1 RES.out.2.2.1 RES.out.2.2.2 (ask_fits hml)).mono ?_
          rintro e w4 h4
          obtain ⟨A4, n4, cap4, rfl, hr4, hb4⟩ := judge_ok hmb h4
          clear h4
          have bel4 := below_step hbel hb4 hbel.size
          have hla4 := HLA.out.keep hb4
          have hlb4 := HLB.out.keep hb4
          have a40 : w4.cell? ⟨w.heap.size, 0, none⟩ = some (.int .i64 l.mru) := hla4.cell 0
          have a41 : w4.cell? ⟨w.heap.size, 1, none⟩ = some (.int .i64 l.magic) := hla4.cell 1
          have a42 : w4.cell? ⟨w.heap.size, 2, none⟩ = some (.int .i64 l.mrru) := hla4.cell 2
          have a43 : w4.cell? ⟨w.heap.size, 3, none⟩ = some (.bool l.short) := hla4.cell 3
          have a44 : w4.cell? ⟨w.heap.size, 4, none⟩ = some (.string l.disc) := hla4.cell 4
          have a45 : w4.cell? ⟨w.heap.size, 5, none⟩ = some (.int .i64 l.num) := hla4.cell 5
          have b40 : w4.cell? ⟨w.heap.size + 1, 0, none⟩ = some (.int .i64 b.mru) := hlb4.cell 0
          have b41 : w4.cell? ⟨w.heap.size + 1, 1, none⟩ = some (.int .i64 b.magic) := hlb4.cell 1
          have b42 : w4.cell? ⟨w.heap.size + 1, 2, none⟩ = some (.int .i64 b.mrru) := hlb4.cell 2
          have b43 : w4.cell? ⟨w.heap.size + 1, 3, none⟩ = some (.bool b.short) := hlb4.cell 3
          have b44 : w4.cell? ⟨w.heap.size + 1, 4, none⟩ = some (.string b.disc) := hlb4.cell 4
          have b45 : w4.cell? ⟨w.heap.size + 1, 5, none⟩ = some (.int .i64 b.num) := hlb4.cell 5
          have zl4 := hla4.lt; have zb4 := hlb4.lt
          have HLA4 := Lib.hid hla4; have HLB4 := Lib.hid hlb4; clear hla4 hlb4
          obtain ⟨jv, jl⟩ := judge_ask (b := b) hml
          rw [hcS, if_pos rfl] at jv jl
          have hsh : l.short = true := by unfold cS at hcS; simp only [Bool.and_eq_true] at hcS; exact hcS.1
          have hmn : mayB { l with short := false } = true := by rw [(far_short hcS).2]; exact hml
          have HFM := Lib.hid (far_short hcS)
          have HSH := Lib.hid hsh; have HCS := Lib.hid hcS; clear hsh hcS
          rw [jv]
          rw [jl] at hr4
          have HR4 := Lib.hid hr4; clear hr4
          go_wp2_with (first | (go_at_call 11; refine (num_any _ _).mono ?_; rintro e w' ⟨rfl, rfl⟩))
          refine (learns_any l 4 A4 n4 cap4 [(18, ⟨#[]⟩)] _ HR4.out.1 (by have := HR4.out.2.1; omega)).mono ?_
          rintro e w5 h5
          obtain ⟨hb5, rfl⟩ := learn_ok hml (show codeB 4 = true by decide) (learn_short HSH.out) h5
          clear h5
          simp only [lkV]
          have bel5 := below_step bel4 hb5 bel4.size
          have hla5 := HLA4.out.keep hb5
          have hlb5 := HLB4.out.keep hb5
          have a50 : w5.cell? ⟨w.heap.size, 0, none⟩ = some (.int .i64 l.mru) := hla5.cell 0
          have a51 : w5.cell? ⟨w.heap.size, 1, none⟩ = some (.int .i64 l.magic) := hla5.cell 1
          have a52 : w5.cell? ⟨w.heap.size, 2, none⟩ = some (.int .i64 l.mrru) := hla5.cell 2
          have a53 : w5.cell? ⟨w.heap.size, 3, none⟩ = some (.bool l.short) := hla5.cell 3
          have a54 : w5.cell? ⟨w.heap.size, 4, none⟩ = some (.string l.disc) := hla5.cell 4
          have a55 : w5.cell? ⟨w.heap.size, 5, none⟩ = some (.int .i64 l.num) := hla5.cell 5
          have fa5 := hla5.frozen
          have zl5 := hla5.lt; have zb5 := hlb5.lt
          have hne5 : w.heap.size ≠ w5.heap.size := by omega
          have hne6 : w.heap.size + 1 ≠ w5.heap.size := by omega
          have HLA5 := Lib.hid hla5; have HLB5 := Lib.hid hlb5; clear hla5 hlb5
          rw [HSH.out] at a53
          go_wp2_with (first | (go_at_call 11; refine (num_any _ _).mono ?_; rintro e w' ⟨rfl, rfl⟩))
          refine (ask_any { l with short := false } _).mono ?_
          rintro e w6 h6
          obtain ⟨A6, n6, cap6, rfl, hr6, hb6⟩ := ask_ok hmn h6
          clear h6
          have HR6 := Lib.hid hr6; clear hr6
          have hla6 : Blk w6 w.heap.size 23 (lkC { l with short := false }) := by
            refine Blk.keep ?_ hb6
            exact Blk.alloc (Blk.set6 HLA5.out _ _ _ _ _ _) _
          have hlb6 : Blk w6 (w.heap.size + 1) 23 (lkC b) := by
            refine Blk.keep ?_ hb6
            exact (by repeat' (first | (with_reducible exact HLB5.out) | (with_reducible refine Blk.far ?_ (by first | omega | (simp; done) | (simp; omega)) _) | (with_reducible refine Blk.alloc ?_ _) | (with_reducible refine Blk.drew ?_) | (with_reducible refine Blk.drewN ?_ _)))
          have bel6 : Below w.heap.size w w6 := by
            refine below_step (Below.alloc (below_set6 bel5 (Nat.le_refl _) _ _ _ _ _ _) ?_ _) hb6 ?_
            · rw [size_set6]; exact bel5.size
            · have := bel5.size
              simp
              omega
          have HLA6 := Lib.hid hla6; have HLB6 := Lib.hid hlb6; clear hla6 hlb6
          go_wp2_with (first | (go_at_call 11; refine (num_any _ _).mono ?_; rintro e w' ⟨rfl, rfl⟩))
          go_roundw
          case rel => exact ⟨{ l with short := false }, k + 1, A6, n6, cap6, by go_num, rfl, HR6.out, hmn, HLA6.out, HLB6.out, by have := HFAR.out; have := HFM.1; omega, bel6⟩
          case measure => simp [intOf]; omega
end Go.Proofs.Ytjmcgekegenobaa
