/- TimerAll walked: it returns true. No condition. -/
import Derived.Test.YtjhcengdaclihaaTimAk
namespace Go.Proofs.Ytjhcengdaclihaa
open Go.RowKit
set_option linter.unusedVariables false
set_option linter.unusedSimpArgs false
open Go.Maps
theorem cnt_yes (p : Nat → Bool) (n : Nat) (h : p n = true) : cnt p (n + 1) = cnt p n + 1 := by show _ + _ = _; rw [if_pos h]
theorem cnt_no (p : Nat → Bool) (n : Nat) (h : p n = false) : cnt p (n + 1) = cnt p n := by show _ + _ = _; rw [if_neg (by rw [h]; decide)]; rfl
def AlR (w0 : World) (g mb bl bh : Nat) (w : World) : Prop := ∃ v S L, AlI w0 w g mb bl bh v S L
set_option maxHeartbeats 4000000 in
set_option maxRecDepth 100000 in
theorem all_walk (A : Option Addr) (n cap : Nat) (zs : List Int) (B : Option Addr) (m cap2 : Nat) (ys : List Int) (_ : A = none → n = 0 ∧ cap = 0) (_ : n ≤ cap) (_ : n * 8 ≤ 140737488351232) (_ : B = none → m = 0 ∧ cap2 = 0) (_ : m ≤ cap2) (_ : m * 8 ≤ 140737488351232) (w0 : World) (hv : IntsAt w0 A n zs) (hu : IntsAt w0 B m ys) : Calls Try.prog 4 #[.slice A n cap, .slice B m cap2] w0 fun e w' => e = .returned (.bool true) ∧ Below w0.heap.size w0 w' := by
  have HV := Lib.hid hv; clear hv
  have HU := Lib.hid hu; clear hu
  have hmk := run_mk64
  have hmkb := run_mkb64
  go_enter Try.func4, Try.ntmps4
  go_wp2_with fail
  refine (awake_any _).mono ?_
  rintro e wa ⟨rfl, hba⟩
  have HBA := Lib.hid hba; clear hba
  go_wp2_with fail
  refine (new_to HBA.out).mono ?_
  rintro e w1 ⟨rfl, h1, hb1⟩
  generalize wa.heap.size + 1 = g at *
  generalize wa.heap.size = mb at *
  have hz1 := h1.bel.size
  have ta : TO w0 (w1.alloc (.cells (madeCells #[.int .i64 0] 64) 3)) g mb (.slice none 0 0) [] := h1.keep ((Below.refl w1.heap.size w1).alloc (Nat.le_refl _) _)
  have tb : TO w0 ((w1.alloc (.cells (madeCells #[.int .i64 0] 64) 3)).alloc (.cells (madeCells #[.bool false] 64) 4)) g mb (.slice none 0 0) [] := ta.keep ((Below.refl _ _).alloc (Nat.le_refl _) _)
  have ia : IB ((w1.alloc (.cells (madeCells #[.int .i64 0] 64) 3)).alloc (.cells (madeCells #[.bool false] 64) 4)) w1.heap.size 3 (fun _ => .int .i64 0) := (IB.made w1 _ _).keep ((Below.refl _ _).alloc (Nat.le_refl _) _)
  have ib := IB.made (w1.alloc (.cells (madeCells #[.int .i64 0] 64) 3)) 4 (.bool false)
  have esz : (w1.alloc (.cells (madeCells #[.int .i64 0] 64) 3)).heap.size = w1.heap.size + 1 := by simp
  rw [esz] at ib
  have START := Lib.hid (show AlI w0 ((w1.alloc (.cells (madeCells #[.int .i64 0] 64) 3)).alloc (.cells (madeCells #[.bool false] 64) 4)) g mb w1.heap.size (w1.heap.size + 1) (.slice none 0 0) [] (fun _ => 0) from
    ⟨tb, ia, ib, hz1, by omega, by omega, (fun x hx => by cases hx), (fun x hx => by cases hx), (fun x hx => by cases hx)⟩)
  clear h1 hb1 hz1 ta tb ia ib esz
  go_wp2_with fail
  generalize (w1.alloc (.cells (madeCells #[.int .i64 0] 64) 3)).alloc (.cells (madeCells #[.bool false] 64) 4) = w2 at *
  generalize w1.heap.size + 1 = bh at *
  generalize w1.heap.size = bl at *
  clear hmk hmkb
  go_loopw [8] (fun i wr => ∃ k : Nat, i = .int .i64 k ∧ k ≤ 100 ∧ AlR w0 g mb bl bh wr) (fun i _ => 100 - (intOf i).toNat)
  case atStart => exact ⟨0, rfl, by omega, _, _, _, START.out⟩
  case round =>
    obtain ⟨k, rfl, hk, v, S, L, hto⟩ := hrel
    have H := Lib.hid hto; clear hto
    clear HBA START
    have hne := H.out.ne
    have hne2 := Ne.symm hne
    by_cases hlt : (k < n ∧ k < m) ∧ k < 100
    · obtain ⟨⟨hn, hm⟩, h100⟩ := hlt
      obtain ⟨b, off, z, rfl, hb, ho, c1⟩ := (HV.out.keep H.out.to.bel).at_ k hn
      obtain ⟨b', off', z', rfl, hb', ho', c1'⟩ := (HU.out.keep H.out.to.bel).at_ k hm
      obtain ⟨x, hx, hx1⟩ := and63 z
      obtain ⟨y, hy, hy1⟩ := and1023 z'
      have HWX := Lib.hid (show (Lit.int .i64 (x : Int)).wf = true from WalkArith.wf_i64 (by omega))
      have y1 : (k : Int) < (n : Int) := by omega
      have y2 : (k : Int) < (m : Int) := by omega
      have y3 : (k : Int) < 100 := by omega
      have y4 : (x : Int) < 64 := by omega
      have HK := Lib.hid (And.intro h100 hk)
      have HX := Lib.hid hx1
      have HY := Lib.hid hy1
      clear ho ho' hx1 hy1 hb hb' hn hm h100 hk
      go_wp2_with fail
      go_quiet (fail)
      go_wp2_with fail
      have HD := H.out.keep (below_drewN (Below.refl wr.heap.size wr) nq)
      refine (set_to (x : Int) (y : Int) HD.to HWX.out).mono ?_
      rintro e w3 ⟨rfl, v3, h3, hm3⟩
      rw [HD.code x y]
      obtain ⟨st, li, hi⟩ := HD.step HX.out HY.out h3 hm3
      have ST := Lib.hid st
      have cl := li.cell HX.out
      have ch := hi.cell HX.out
      have fl := li.frozen x
      have fh := hi.frozen x
      have hwk : wrap64 ((k : Int) + 1) = (k : Int) + 1 := by have := HK.out; exact wrap_in (by omega) (by omega)
      clear HD st li hi h3 hm3 c1 c1' H
      go_wp2_with (first | (go_at_call 10; refine (num_any _ _).mono ?_; rintro e w' ⟨rfl, rfl⟩))
      go_roundw
      case rel => exact ⟨k + 1, by go_num, HK.out.1, _, _, _, ST.out⟩
      case measure => have := HK.out; clear hwk; simp [intOf]; omega
    · have SI := Lib.hid H.out.to.ids
      have HIN := Lib.hid H.out.inr
      have HAT := Lib.hid H.out.at_
      have CNT := Lib.hid (cnt_all H.out.inr H.out.to.ids.2)
      obtain ⟨d1, d2⟩ := due_every H.out.le
      go_wp2_with fail
      all_goals
        refine (due_to 1023 H.out.to).mono ?_
        rintro e w3 ⟨A3, cap3, rfl, ho3, v3, h3, hm3⟩
        rw [d2] at h3
        rw [d1] at ho3 ⊢
        rw [List.length_map]
        have li := H.out.li.mv H.out.to (by decide) (by decide) hm3
        have hi := H.out.hi.mv H.out.to (by decide) (by decide) hm3
        have HO := Lib.hid (IntsAt.own ho3)
        have H3 := Lib.hid h3
        have LI := Lib.hid li
        have HI := Lib.hid hi
        clear ho3 h3 hm3 li hi d1 d2 H
        go_wp2_with fail
        go_loopw [13, 14] (fun u i wr => ∃ k : Nat, i = .int .i64 k ∧ k ≤ 64 ∧ u = .int .i64 (cnt (fun j => hasT (j : Int) S) k) ∧ wr = w3) (fun _ i _ => 64 - (intOf i).toNat)
        case atStart => exact ⟨0, rfl, by omega, rfl, by trivial⟩
        case round =>
          obtain ⟨k2, rfl, hk2, rfl, rfl⟩ := hrel
          by_cases hlt2 : k2 < 64
          · have z1 : (k2 : Int) < 64 := by omega
            have ch := HI.out.cell hlt2
            have HL2 := Lib.hid hlt2
            clear hlt2 hk2 hlt hk
            have Z2 := Lib.hid (show wrap64 ((k2 : Int) + 1) = (k2 : Int) + 1 from by have := HL2.out; exact wrap_in (by omega) (by omega))
            cases hh : hasT (k2 : Int) S with
            | true =>
              rw [hh] at ch
              have z3 : wrap64 ((cnt (fun j => hasT (j : Int) S) k2 : Int) + 1) = (cnt (fun j => hasT (j : Int) S) k2 : Int) + 1 := by
                have := cnt_le (fun j => hasT (j : Int) S) k2
                have := HL2.out
                exact wrap_in (by omega) (by omega)
              have HH := Lib.hid hh
              have z2 := Z2.out
              clear hh
              go_wp2_with fail
              go_roundw
              case rel =>
                refine ⟨k2 + 1, by go_num, HL2.out, ?_, by trivial⟩
                have e : cnt (fun j => hasT (j : Int) S) (k2 + 1) = cnt (fun j => hasT (j : Int) S) k2 + 1 := cnt_yes (fun j => hasT (j : Int) S) k2 HH.out
                rw [e]
                go_num
              case measure => have := HL2.out; clear z2 z3; simp [intOf]; omega
            | false =>
              rw [hh] at ch
              have HH := Lib.hid hh
              have z2 := Z2.out
              clear hh
              go_wp2_with fail
              go_roundw
              case rel =>
                refine ⟨k2 + 1, by go_num, HL2.out, ?_, by trivial⟩
                have e : cnt (fun j => hasT (j : Int) S) (k2 + 1) = cnt (fun j => hasT (j : Int) S) k2 := cnt_no (fun j => hasT (j : Int) S) k2 HH.out
                rw [e]
              case measure => have := HL2.out; clear z2; simp [intOf]; omega
          · obtain rfl : k2 = 64 := by omega
            rw [CNT.out]
            clear hlt2 hk2
            go_wp2_with fail
            go_loopw [15] (fun i wq => ∃ q : Nat, i = .int .i64 q ∧ 1 ≤ q ∧ Below wr.heap.size wr wq) (fun i _ => S.length - (intOf i).toNat)
            case atStart => exact ⟨1, rfl, by omega, Below.refl _ _⟩
            case round =>
              obtain ⟨q, rfl, hq, hbq⟩ := hrel
              have HBQ := Lib.hid hbq
              clear hbq
              by_cases hlt3 : q < S.length
              · obtain ⟨j, hj⟩ : ∃ j, q = j + 1 := ⟨q - 1, by omega⟩
                obtain ⟨j1, j2, p1, p2, p3, p4, p5, p6⟩ := row_pair SI.out.1 HIN.out HAT.out (k := j) (by omega)
                obtain ⟨c, off, rfl, q1, q2⟩ := ints_two (HO.out.keep HBQ.out) p1 p2
                have r1 := (LI.out.keep HBQ.out).cell p3
                have r2 := (LI.out.keep HBQ.out).cell p4
                rw [← hj] at q2
                have s1 : (q : Int) < (S.length : Int) := by omega
                have s2 : (j : Int) < (S.length : Int) := by omega
                have s4 : ¬ (63 : Int) < (j1 : Int) := by omega
                have s5 : ¬ (63 : Int) < (j2 : Int) := by omega
                have s6 : (j1 : Int) < 64 := by omega
                have s7 : (j2 : Int) < 64 := by omega
                have HLE := Lib.hid (show S.length ≤ 64 from by rw [← CNT.out]; exact cnt_le _ _)
                have S3 := Lib.hid (show wrap64 ((q : Int) - 1) = (j : Int) from by have := HLE.out; rw [wrap_in (by omega) (by omega)]; omega)
                have S8 := Lib.hid (show wrap64 ((q : Int) + 1) = (q : Int) + 1 from by have := HLE.out; exact wrap_in (by omega) (by omega))
                have HQ := Lib.hid (And.intro hlt3 hq)
                have HJ := Lib.hid hj
                have P5 := Lib.hid p5
                have P6 := Lib.hid p6
                clear p1 p2 p3 p4 p5 p6 hlt3 hq hj
                have s3 := S3.out
                go_wp2_with fail
                go_quiet (fail)
                clear s3
                have r1 := (LI.out.keep (HBQ.out)).cell (show j1 < 64 by omega)
                have r2 := (LI.out.keep (HBQ.out)).cell (show j2 < 64 by omega)
                have hd1 : decide ((j1 : Int) < 0) = false := decide_eq_false (by omega)
                have hd2 : decide ((j2 : Int) < 0) = false := decide_eq_false (by omega)
                have hd3 : decide ((63 : Int) < (j1 : Int)) = false := decide_eq_false (by omega)
                have hd4 : decide ((63 : Int) < (j2 : Int)) = false := decide_eq_false (by omega)
                have hd5 : decide (L j2 < L j1) = false := decide_eq_false (by have := P5.out; omega)
                generalize L j1 = l1 at *
                generalize L j2 = l2 at *
                clear q1 q2
                by_cases he : l1 = l2
                · have he2 : (l1 == l2) = true := by simpa using he
                  have hd6 : decide (j2 ≤ j1) = false := decide_eq_false (P6.out he)
                  clear he
                  have s8 := S8.out
                  go_wp2_with fail
                  go_quiet (fail)
                  go_wp2_with fail
                  refine ⟨?rel, ?measure⟩
                  case rel =>
                    (repeat apply Exists.intro)
                    refine And.symm ⟨rfl, ?_⟩
                    exact ⟨q + 1, by rw [s8]; rfl, Nat.le_add_left 1 q, below_drewN HBQ.out _⟩
                  case measure =>
                    show S.length - (intOf (.int .i64 (wrap64 ((q : Int) + 1)))).toNat < S.length - (intOf (.int .i64 (q : Int))).toNat
                    rw [s8]
                    clear s8
                    have := HQ.out
                    show S.length - ((q : Int) + 1).toNat < S.length - (q : Int).toNat
                    omega
                · have he2 : (l1 == l2) = false := by simpa using he
                  clear he
                  have s8 := S8.out
                  go_wp2_with fail
                  go_quiet (fail)
                  go_wp2_with fail
                  refine ⟨?rel, ?measure⟩
                  case rel =>
                    (repeat apply Exists.intro)
                    refine And.symm ⟨rfl, ?_⟩
                    exact ⟨q + 1, by rw [s8]; rfl, Nat.le_add_left 1 q, below_drewN HBQ.out _⟩
                  case measure =>
                    show S.length - (intOf (.int .i64 (wrap64 ((q : Int) + 1)))).toNat < S.length - (intOf (.int .i64 (q : Int))).toNat
                    rw [s8]
                    clear s8
                    have := HQ.out
                    show S.length - ((q : Int) + 1).toNat < S.length - (q : Int).toNat
                    omega
              · clear hq
                go_wp2_with fail
                refine (tlen_to (H3.out.keep HBQ.out)).mono ?_
                rintro e w9 ⟨rfl, rfl⟩
                go_wp2_with fail
                refine (due_to 5000 (H3.out.keep HBQ.out)).mono ?_
                rintro e w9 ⟨A9, cap9, rfl, -, v9, h9, -⟩
                rw [show dueL 5000 [] = [] from rfl]
                have H9 := Lib.hid h9
                clear h9
                go_wp2_with fail
                go_ret
                exact ⟨rfl, H9.out.bel⟩
end Go.Proofs.Ytjhcengdaclihaa
