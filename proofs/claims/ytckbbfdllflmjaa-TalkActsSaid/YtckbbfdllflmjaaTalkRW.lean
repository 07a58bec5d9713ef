/- TalkActs walked: it returns true. No condition but memory's own limits. -/
import Derived.Test.YtckbbfdllflmjaaTalkRT
import Derived.Test.YtckbbfdllflmjaaActsOpen22
import Derived.Deep.RegionHeld3
import Derived.BigQuiet
import Derived.Deep.CutBlock
namespace Go.Proofs.Ytckbbfdllflmjaa
open Go.RowKit
set_option linter.unusedVariables false
set_option linter.unusedSimpArgs false
attribute [local go_sem] conv1 conv1d conv1n conv1a conv1ad conv1an conv2 conv2d conv2n conv2a conv2ad conv2an conv4 conv4d conv4n conv4a conv4ad conv4an conv5 conv5d conv5n conv5a conv5ad conv5an size_nums byt_fold
def LpR (w0 w : World) (g r : Nat) : Prop := ∃ s Y, TK w0 w Y g r s s ∧ InvS s
theorem wrap_in {x : Int} (h0 : -9223372036854775808 ≤ x) (h1 : x ≤ 9223372036854775807) : wrap64 x = x := by
  exact IntWalk.wrap64_in _ (by omega)
theorem lent_head {w : World} {A : Option Addr} {n : Nat} {os : List (Int × ByteArray)} (h : OptsAt w A (n + 2) (lentOf os)) (hl : os.length = n) : OptsAt w A n os := OptsAt.head h hl
theorem lent_lies {w0 w : World} {Y : Nat → Prop} {g r q b n cap : Nat} {s t : TS} {cs : Array Value} {os : List (Int × ByteArray)} (h : TJ w0 w Y g r s t q cs (some ⟨b, 0, none⟩) (n + 2) (lentOf os)) (hl : os.length = n) (hn : n * 24 ≤ 140737488351232) : Lies w Y (some ⟨b, 0, none⟩) n cap os :=
  ⟨lent_head h.lent.1 hl, hn, fun e => (by cases e), fun a ha => by
    obtain rfl := Option.some.inj ha
    refine ⟨?_, fun hy => h.lent.2 b 0 (by omega) rfl hy⟩
    obtain ⟨b', off, e, hlt, _⟩ := h.lent.1.2 (by omega)
    injection e with e
    injection e with e1 _
    rw [e1]; exact hlt⟩
theorem start_tk {w0 w1 w2 : World} {fav : Bool} {tries : Int} (h1 : TAt w1 (fun b => w0.heap.size ≤ b) w0.heap.size (ts0 fav tries)) (hb1 : Below w0.heap.size w0 w1) (h2 : RAt w2 (fun b => w0.heap.size ≤ b) w1.heap.size (ts0 fav tries)) (hb2 : Below w1.heap.size w1 w2) (hi : InvS (ts0 fav tries)) : LpR w0 w2 w0.heap.size w1.heap.size := by
  have l1 := h1.lt
  have l2 := h2.lt
  have hs : ∀ b, b = w0.heap.size ∨ b = w1.heap.size → w0.heap.size ≤ b ∧ b < w2.heap.size := fun b hb => by omega
  exact ⟨_, fun b => b = w0.heap.size ∨ b = w1.heap.size, ⟨hb1.trans (hb2.mono hb1.size), (h1.keep hb2).mono (fun b _ hb => (hs b hb).1), h2.mono (fun b _ hb => (hs b hb).1), by omega, .inl rfl, .inr rfl, hs⟩, hi⟩
theorem TJ.more {w0 w w' : World} {Y : Nat → Prop} {g r q m rn rc : Nat} {s t : TS} {cs : Array Value} {A R : Option Addr} {l xl : List (Int × ByteArray)} (h : TJ w0 w Y g r s t q cs A m l) (hb : Below w.heap.size w w') (hm : MadeO w w' R rn rc xl) : TJ w0 w' (OwnX Y R) g r s t q cs A m l :=
  h.prog (gr_of g hb) (fun b hb => .inl hb) (ownX_new hm) (TAt.own (h.k.tat.up.keep hb) hm)
set_option maxHeartbeats 8000000 in
set_option maxRecDepth 100000 in
theorem acts_bad (fav : Bool) (tries : Int) (A : Option Addr) (nn cap : Nat) (w0 : World) (hB : tnewB tries = false) : Calls Try.prog 3 #[.bool fav, .int .i64 tries, .slice A nn cap] w0 fun e w' => e = .returned (.bool true) ∧ Below w0.heap.size w0 w' := by
  go_enter Try.func3, Try.ntmps3
  go_wp2_with fail
  refine (tnew_bad fav tries _ hB).mono ?_
  rintro e w1 ⟨rfl, rfl⟩
  go_wp2_with fail
  refine (rnew_bad fav tries _ hB).mono ?_
  rintro e w2 ⟨rfl, rfl⟩
  go_wp2_with (first | (go_at_call 12; refine (num_any _ _).mono ?_; rintro e w' ⟨rfl, rfl⟩))
  refine (awake_any _).mono ?_
  rintro e w9 ⟨rfl, hb9⟩
  go_wp2_with fail
  go_ret
  exact ⟨rfl, hb9⟩
set_option maxHeartbeats 16000000 in
set_option maxRecDepth 100000 in
theorem acts_walk (fav : Bool) (tries : Int) (A : Option Addr) (nn cap : Nat) (rows : List (List Value)) (hwf : (Lit.int .i64 tries).wf = true) (hA : A = none → nn = 0 ∧ cap = 0) (hnc : nn ≤ cap) (w0 : World) (hz : nn * 64 ≤ 140737488351232 ∧ ∀ r ∈ rows, ActRow w0 140737488351232 r) (hv : RowsAt w0 A nn 6 rows) : Calls Try.prog 3 #[.bool fav, .int .i64 tries, .slice A nn cap] w0 fun e w' => e = .returned (.bool true) ∧ Below w0.heap.size w0 w' := by
  cases hB : tnewB tries
  case false => exact acts_bad fav tries A nn cap w0 hB
  have HV := Lib.hid hv; have HZ := Lib.hid hz
  have HI := Lib.hid (inv0 (fav := fav) hB)
  clear hv hz hA hnc hwf
  go_enter Try.func3, Try.ntmps3
  go_wp2_with fail
  refine (tnew_ok fav tries _ hB (fun b => w0.heap.size ≤ b)).mono ?_
  rintro e w1 ⟨rfl, h1, hb1⟩
  have H1 := Lib.hid h1; have HB1 := Lib.hid hb1
  clear h1 hb1
  go_wp2_with fail
  refine (rnew_ok fav tries _ hB (fun b => w0.heap.size ≤ b)).mono ?_
  rintro e w2 ⟨rfl, h2, hb2⟩
  have START := Lib.hid (start_tk H1.out HB1.out h2 hb2 HI.out)
  clear h2 hb2 H1 HB1 HI hB
  go_wp2_with (first | (go_at_call 12; refine (num_any _ _).mono ?_; rintro e w' ⟨rfl, rfl⟩))
  generalize w1.heap.size = r at *
  go_loopw [11] (fun i wr => ∃ k : Nat, i = .int .i64 k ∧ k ≤ 100 ∧ LpR w0 wr w0.heap.size r) (fun i _ => 100 - (intOf i).toNat)
  case atStart => exact ⟨0, rfl, by omega, START.out⟩
  case round =>
    obtain ⟨k, rfl, hk, s, Y, hac, hinv⟩ := hrel
    have H := Lib.hid hac; have INV := Lib.hid hinv
    clear hac hinv START
    by_cases hlt : k < nn
    · by_cases h100 : k < 100
      · have y1 : (k : Int) < (nn : Int) := by omega
        have y2 : (k : Int) < 100 := by omega
        obtain ⟨b, off, rw_, rfl, hb, hr, hrm, hc⟩ := (HV.out.below H.out.bel (Nat.le_refl _)).at_ k hlt
        obtain ⟨kd, c, i, a, O, n, ocap, os, ys, rfl, hos, hcap, hn, ho⟩ := HZ.out.2 rw_ hrm
        have q0 := hc 0 _ rfl; have q1 := hc 1 _ rfl; have q2 := hc 2 _ rfl; have q3 := hc 3 _ rfl; have q4 := hc 4 _ rfl; have q5 := hc 5 _ rfl
        simp only [Nat.add_zero] at q0
        have HK := Lib.hid (And.intro h100 hlt)
        have HW := Lib.hid (show wrap64 ((k : Int) + 1) = (k : Int) + 1 from wrap_in (by omega) (by omega))
        have HOS := Lib.hid hos; have HCAP := Lib.hid hcap; have HO := Lib.hid ho; have HN := Lib.hid hn
        have HLEN := Lib.hid hos.1
        have ACT := Lib.hid (Blk.new wr 36 #[.int .i64 kd, .int .i64 c, .int .i64 i, .int .i64 a, .slice O n ocap, .bool ys])
        have hgl := H.out.tat.lt
        have hrl := H.out.rat.lt
        clear hr hrm hc hb hk h100 hlt hos hcap hn ho
        go_wp2_with fail
        refine (lend_any O n ocap os _ ((HOS.out.keep H.out.bel).keep ((Below.refl _ _).alloc (Nat.le_refl _) _)) HN.out HCAP.out).mono ?_
        rintro e w3 ⟨x, xcap, rfl, hx, hxc, hxm, hxv, hxb⟩
        have T3 := Lib.hid (H.out.lend _ hxb hx hxv)
        have hz3 := hxb.size
        simp at hz3
        clear hx hxv hxb q0 q1 q2 q3 q4 q5 ACT
        generalize wr.heap.size = q at *
        have a0 : w3.cell? ⟨q, 0, none⟩ = some (.int .i64 kd) := T3.out.act.cell 0
        have a1 : w3.cell? ⟨q, 1, none⟩ = some (.int .i64 c) := T3.out.act.cell 1
        have a2 : w3.cell? ⟨q, 2, none⟩ = some (.int .i64 i) := T3.out.act.cell 2
        have a3 : w3.cell? ⟨q, 3, none⟩ = some (.int .i64 a) := T3.out.act.cell 3
        have a4 : w3.cell? ⟨q, 4, none⟩ = some (.slice O n ocap) := T3.out.act.cell 4
        have a5 : w3.cell? ⟨q, 5, none⟩ = some (.bool ys) := T3.out.act.cell 5
        go_upto_block 2 with fail
        go_cut [14, 15, 16, 17, 18, 19, 20, 21, 22, 23, 24, 25, 26] from 60 to 203 (fun _ _ _ _ _ _ _ _ _ _ _ _ _ wx => ∃ Yt S, TJ w0 wx Yt w0.heap.size r S S q #[.int .i64 kd, .int .i64 c, .int .i64 i, .int .i64 a, .slice O n ocap, .bool ys] (some ⟨x, 0, none⟩) (n + 2) (lentOf os) ∧ InvS S)
        case first =>
          by_cases c4 : kd < 4
          · obtain ⟨xc, xi, xa, xl, hR⟩ : ∃ xc xi xa xl, tAskR s c os = (xc, xi, xa, xl) := ⟨_, _, _, _, rfl⟩
            obtain ⟨E, hE⟩ : ∃ E, tAskE s c os = E := ⟨_, rfl⟩
            obtain ⟨S, hS⟩ : ∃ S, tAsk s c os = S := ⟨_, rfl⟩
            have INS := Lib.hid (show InvS S from by rw [← hS]; exact inv_ask c os INV.out)
            have HR := Lib.hid hR; have HE := Lib.hid hE; have HS := Lib.hid hS
            clear hR hE hS
            go_wp2_with fail
            refine (task_to T3.out INV.out c (lent_head T3.out.lent.1 HLEN.out) HN.out (fun e => by cases e) HR.out HE.out HS.out).mono ?_
            rintro e w4 ⟨R, rn, rc, rfl, hm4, t4⟩
            have hz4 := t4.act.lt
            have hg3 := T3.out.k.tat.lt
            have hr3 := T3.out.k.rat.lt
            have hr4 := t4.k.rat.lt
            have hne4 : q ≠ w4.heap.size := by omega
            have z1 : w4.cell? ⟨q, 1, none⟩ = some (.int .i64 c) := t4.act.cell 1
            have z4 : w4.cell? ⟨q, 4, none⟩ = some (.slice O n ocap) := t4.act.cell 4
            have M4 := Lib.hid hm4; have T4 := Lib.hid t4
            clear hm4 t4
            go_wp2_with fail
            refine (rask_to (T4.out.alloc _) INV.out c HOS.out HN.out HCAP.out HO.out HR.out HE.out HS.out).mono ?_
            rintro e w5 ⟨Q, qn, qc, rfl, hq5, t5, hg5⟩
            have hb14 : Blk w5 w4.heap.size 34 #[.int .i64 xc, .int .i64 xi, .int .i64 xa, .slice R rn rc] := (Blk.new w4 _ _).grown hg5 (fun e => by have := Option.some.inj e; omega)
            have hm5 : MadeO w3 w5 R rn rc xl := (M4.out.alloc _).chg (P := fun b => b = r) (Chg.gr hg5 rfl) (fun a' ha e => by have := (M4.out.new a' ha).1; omega)
            have hl14 := hb14.lt
            have e0 : w5.cell? ⟨w4.heap.size, 0, none⟩ = some (.int .i64 xc) := hb14.cell 0
            have e1 : w5.cell? ⟨w4.heap.size, 1, none⟩ = some (.int .i64 xi) := hb14.cell 1
            have e2 : w5.cell? ⟨w4.heap.size, 2, none⟩ = some (.int .i64 xa) := hb14.cell 2
            have e3 : w5.cell? ⟨w4.heap.size, 3, none⟩ = some (.slice R rn rc) := hb14.cell 3
            have B5 := Lib.hid hb14; have M5 := Lib.hid hm5; have T5 := Lib.hid t5; have Q5 := Lib.hid hq5
            clear hb14 hm5 t5 hq5 hg5 M4 T4 z1 z4
            generalize w4.heap.size = p at *
            go_wp2_with fail
            refine (sameb_any xc xi xa R Q rn qn rc qc xl _ (M5.out.optsAt.keep ((Below.refl _ _).alloc (Nat.le_refl _) _)) (Q5.out.keep ((Below.refl _ _).alloc (Nat.le_refl _) _)) (by have := M5.out.2.2; omega)).mono ?_
            rintro e w6 ⟨rfl, hb6⟩
            have T6 := Lib.hid ((T5.out.alloc (.cells #[.int .i64 xc, .int .i64 xi, .int .i64 xa, .slice Q qn qc] 34)).keep hb6)
            have M6 := Lib.hid ((M5.out.alloc (.cells #[.int .i64 xc, .int .i64 xi, .int .i64 xa, .slice Q qn qc] 34)).keep hb6)
            have e3' : w6.cell? ⟨p, 3, none⟩ = some (.slice R rn rc) := ((B5.out.alloc (.cells #[.int .i64 xc, .int .i64 xi, .int .i64 xa, .slice Q qn qc] 34)).keep hb6).cell 3
            clear hb6 e0 e1 e2 e3 T5 M5 B5 Q5
            go_wp2_with (first | (go_at_call 12; refine (num_any _ _).mono ?_; rintro e w' ⟨rfl, rfl⟩))
            refine (spoil_to T6.out M6.out (fun b hb => .inr hb) hg3 hr3).mono ?_
            rintro e w7 ⟨rfl, t7⟩
            have T7 := Lib.hid t7
            clear t7 T6 M6 e3' T3 a0 a1 a2 a3 a4 a5 hz3 hz4 hg3 hr3 hr4 hne4
            go_wp2_with fail
            go_meet
            case rel => exact ⟨_, _, T7.out, INS.out⟩
          · by_cases c6 : kd < 6
            · obtain ⟨xc, xi, xa, xl, hR⟩ : ∃ xc xi xa xl, tAgR s = (xc, xi, xa, xl) := ⟨_, _, _, _, rfl⟩
              obtain ⟨E, hE⟩ : ∃ E, tAgE s = E := ⟨_, rfl⟩
              obtain ⟨S, hS⟩ : ∃ S, tAg s = S := ⟨_, rfl⟩
              have INS := Lib.hid (show InvS S from by rw [← hS]; exact inv_ag INV.out)
              have HR := Lib.hid hR; have HE := Lib.hid hE; have HS := Lib.hid hS
              clear hR hE hS
              go_wp2_with fail
              refine (tagain_to T3.out INV.out HR.out HE.out HS.out).mono ?_
              rintro e w4 ⟨R, rn, rc, rfl, hm4, t4⟩
              have hz4 := t4.act.lt
              have hg3 := T3.out.k.tat.lt
              have hr3 := T3.out.k.rat.lt
              have hr4 := t4.k.rat.lt
              have hne4 : q ≠ w4.heap.size := by omega
              have z1 : w4.cell? ⟨q, 1, none⟩ = some (.int .i64 c) := t4.act.cell 1
              have z4 : w4.cell? ⟨q, 4, none⟩ = some (.slice O n ocap) := t4.act.cell 4
              have M4 := Lib.hid hm4; have T4 := Lib.hid t4
              clear hm4 t4
              go_wp2_with fail
              refine (ragain_to (T4.out.alloc _) INV.out HR.out HE.out HS.out).mono ?_
              rintro e w5 ⟨Q, qn, qc, rfl, hq5, t5, hg5⟩
              have hb14 : Blk w5 w4.heap.size 34 #[.int .i64 xc, .int .i64 xi, .int .i64 xa, .slice R rn rc] := (Blk.new w4 _ _).grown hg5 (fun e => by have := Option.some.inj e; omega)
              have hm5 : MadeO w3 w5 R rn rc xl := (M4.out.alloc _).chg (P := fun b => b = r) (Chg.gr hg5 rfl) (fun a' ha e => by have := (M4.out.new a' ha).1; omega)
              have hl14 := hb14.lt
              have e0 : w5.cell? ⟨w4.heap.size, 0, none⟩ = some (.int .i64 xc) := hb14.cell 0
              have e1 : w5.cell? ⟨w4.heap.size, 1, none⟩ = some (.int .i64 xi) := hb14.cell 1
              have e2 : w5.cell? ⟨w4.heap.size, 2, none⟩ = some (.int .i64 xa) := hb14.cell 2
              have e3 : w5.cell? ⟨w4.heap.size, 3, none⟩ = some (.slice R rn rc) := hb14.cell 3
              have B5 := Lib.hid hb14; have M5 := Lib.hid hm5; have T5 := Lib.hid t5; have Q5 := Lib.hid hq5
              clear hb14 hm5 t5 hq5 hg5 M4 T4 z1 z4
              generalize w4.heap.size = p at *
              go_wp2_with fail
              refine (sameb_any xc xi xa R Q rn qn rc qc xl _ (M5.out.optsAt.keep ((Below.refl _ _).alloc (Nat.le_refl _) _)) (Q5.out.keep ((Below.refl _ _).alloc (Nat.le_refl _) _)) (by have := M5.out.2.2; omega)).mono ?_
              rintro e w6 ⟨rfl, hb6⟩
              have T6 := Lib.hid ((T5.out.alloc (.cells #[.int .i64 xc, .int .i64 xi, .int .i64 xa, .slice Q qn qc] 34)).keep hb6)
              have M6 := Lib.hid ((M5.out.alloc (.cells #[.int .i64 xc, .int .i64 xi, .int .i64 xa, .slice Q qn qc] 34)).keep hb6)
              have e3' : w6.cell? ⟨p, 3, none⟩ = some (.slice R rn rc) := ((B5.out.alloc (.cells #[.int .i64 xc, .int .i64 xi, .int .i64 xa, .slice Q qn qc] 34)).keep hb6).cell 3
              clear hb6 e0 e1 e2 e3 T5 M5 B5 Q5
              go_wp2_with (first | (go_at_call 12; refine (num_any _ _).mono ?_; rintro e w' ⟨rfl, rfl⟩))
              refine (spoil_to T6.out M6.out (fun b hb => .inr hb) hg3 hr3).mono ?_
              rintro e w7 ⟨rfl, t7⟩
              have T7 := Lib.hid t7
              clear t7 T6 M6 e3' T3 a0 a1 a2 a3 a4 a5 hz3 hz4 hg3 hr3 hr4 hne4
              go_wp2_with fail
              go_meet
              case rel => exact ⟨_, _, T7.out, INS.out⟩
            · obtain ⟨L, hL⟩ : ∃ L, tkL s c i a os ys = L := ⟨_, rfl⟩
              obtain ⟨E, hE⟩ : ∃ E, tkE c i a os = E := ⟨_, rfl⟩
              obtain ⟨S, hS⟩ : ∃ S, tkS s c i a os = S := ⟨_, rfl⟩
              have INS := Lib.hid (show InvS S from by rw [← hS]; exact inv_tk c i a os INV.out)
              have HL := Lib.hid hL; have HE := Lib.hid hE; have HS := Lib.hid hS
              clear hL hE hS
              have T3a := Lib.hid (T3.out.alloc (.cells #[.int .i64 c, .int .i64 i, .int .i64 a, .slice (some ⟨x, 0, none⟩) n xcap] 34))
              have hgx := T3a.out.k.tat.lt
              have hrx := T3a.out.k.rat.lt
              have hq3 : q < w3.heap.size := T3.out.act.lt
              have hqne : q ≠ w3.heap.size := by omega
              go_wp2_with fail
              refine (ttake_to T3a.out INV.out c i a ys (lent_lies T3a.out HLEN.out HN.out) HL.out HE.out HS.out).mono ?_
              rintro e w4 ⟨v, rfl, hl⟩
              generalize w3.alloc (.cells #[.int .i64 c, .int .i64 i, .int .i64 a, .slice (some ⟨x, 0, none⟩) n xcap] 34) = w3a at *
              rcases hl with ⟨rfl, rfl, t4⟩ | ⟨c', i', a', os', b', R, n', rc, rfl, rfl, h1, t4⟩
              · have z1 : w4.cell? ⟨q, 1, none⟩ = some (.int .i64 c) := t4.act.cell 1
                have z2 : w4.cell? ⟨q, 2, none⟩ = some (.int .i64 i) := t4.act.cell 2
                have z3 : w4.cell? ⟨q, 3, none⟩ = some (.int .i64 a) := t4.act.cell 3
                have z4 : w4.cell? ⟨q, 4, none⟩ = some (.slice O n ocap) := t4.act.cell 4
                have z5 : w4.cell? ⟨q, 5, none⟩ = some (.bool ys) := t4.act.cell 5
                have T4 := Lib.hid t4
                clear t4 T3a T3 a0 a1 a2 a3 a4 a5 hz3
                go_wp2_with fail
                refine (rtake_to T4.out INV.out c i a ys HOS.out HN.out HCAP.out HO.out HL.out HE.out HS.out).mono ?_
                rintro e w5 ⟨v5, rfl, hl5, t5, -⟩
                obtain rfl : v5 = .slice none 0 0 := by
                  rcases hl5 with ⟨_, h⟩ | ⟨_, _, _, _, _, _, _, _, h, _⟩
                  · exact h
                  · cases h
                have T5 := Lib.hid t5
                clear t5 hl5 T4 z1 z2 z3 z4 z5
                go_wp2_with fail
                refine (samebs_nil none none 0 0 _).mono ?_
                rintro e w6 ⟨rfl, hb6⟩
                have T7 := Lib.hid (T5.out.keep hb6)
                clear hb6 T5
                go_wp2_with (first | (go_at_call 12; refine (num_any _ _).mono ?_; rintro e w' ⟨rfl, rfl⟩))
                refine (spoils_nil none 0 _).mono ?_
                rintro e w7 ⟨rfl, rfl⟩
                clear hgx hrx
                go_wp2_with fail
                go_meet
                case rel => exact ⟨_, _, T7.out, INS.out⟩
              · have z1 : w4.cell? ⟨q, 1, none⟩ = some (.int .i64 c) := t4.act.cell 1
                have z2 : w4.cell? ⟨q, 2, none⟩ = some (.int .i64 i) := t4.act.cell 2
                have z3 : w4.cell? ⟨q, 3, none⟩ = some (.int .i64 a) := t4.act.cell 3
                have z4 : w4.cell? ⟨q, 4, none⟩ = some (.slice O n ocap) := t4.act.cell 4
                have z5 : w4.cell? ⟨q, 5, none⟩ = some (.bool ys) := t4.act.cell 5
                have T4 := Lib.hid t4
                clear t4 T3a T3 a0 a1 a2 a3 a4 a5 hz3
                have O4 := Lib.hid h1
                clear h1
                go_wp2_with fail
                refine (rtake_to T4.out INV.out c i a ys HOS.out HN.out HCAP.out HO.out HL.out HE.out HS.out).mono ?_
                rintro e w5 ⟨v5, rfl, hl5, t5, hg5⟩
                obtain ⟨b5, Q, n5, qc5, rfl, hbq, hoq⟩ : ∃ b5 Q n5 qc5, v5 = .slice (some ⟨b5, 0, none⟩) 1 1 ∧ Blk w5 b5 34 #[.int .i64 c', .int .i64 i', .int .i64 a', .slice Q n5 qc5] ∧ OptsAt w5 Q n5 os' := by
                  rcases hl5 with ⟨h, _⟩ | ⟨c2, i2, a2, o2, b5, Q, n5, qc5, h, hv, _, hb, ho⟩
                  · cases h
                  · injection h with h _
                    injection h with f1 h; injection h with f2 h; injection h with f3 f4
                    subst f1 f2 f3 f4
                    exact ⟨b5, Q, n5, qc5, hv, hb, ho⟩
                have T5 := Lib.hid t5; have O5 := Lib.hid (O4.out.grown hg5 hrx); have BQ := Lib.hid hbq; have OQ := Lib.hid hoq
                clear t5 hl5 hg5 hbq hoq T4 O4 z1 z2 z3 z4 z5
                go_wp2_with fail
                refine (samebs_one c' i' a' b' b5 R Q n' n5 rc qc5 os' _ O5.out.2.1 BQ.out O5.out.2.2.1.optsAt OQ.out (by have := O5.out.2.2.1.2.2; omega) 1 1).mono ?_
                rintro e w6 ⟨rfl, hb6⟩
                have T6 := Lib.hid (T5.out.keep hb6); have O6 := Lib.hid (O5.out.keep hb6)
                clear hb6 T5 O5 BQ OQ
                go_wp2_with (first | (go_at_call 12; refine (num_any _ _).mono ?_; rintro e w' ⟨rfl, rfl⟩))
                refine (spoils_to T6.out O6.out hgx hrx).mono ?_
                rintro e w7 ⟨rfl, t7⟩
                have T7 := Lib.hid t7
                clear t7 T6 O6 hgx hrx
                go_wp2_with fail
                go_meet
                case rel => exact ⟨_, _, T7.out, INS.out⟩
        case rest =>
          obtain ⟨Yt, S, ht7, hins⟩ := hcut
          have T7 := Lib.hid ht7; have INS := Lib.hid hins
          clear ht7 hins T3 a0 a1 a2 a3 a4 a5 hz3
          have hg7 := T7.out.k.tat.lt
          have hr7 := T7.out.k.rat.lt
          have hq7 := T7.out.act.lt
          go_wp2_with fail
          refine (last_any _ _ _ _ T7.out.k.tat).mono ?_
          rintro e w8 ⟨R8, rn8, rc8, rfl, hm8, hb8⟩
          have hT9 := (T7.out.more hb8 hm8).alloc (.cells #[.int .i64 S.lc, .int .i64 S.li, .int .i64 S.la, .slice R8 rn8 rc8] 34)
          have hM9 := hm8.alloc (.cells #[.int .i64 S.lc, .int .i64 S.li, .int .i64 S.la, .slice R8 rn8 rc8] 34)
          have hB9 : Blk (w8.alloc (.cells #[.int .i64 S.lc, .int .i64 S.li, .int .i64 S.la, .slice R8 rn8 rc8] 34)) w8.heap.size 34 #[.int .i64 S.lc, .int .i64 S.li, .int .i64 S.la, .slice R8 rn8 rc8] := Blk.new _ _ _
          clear hb8 hm8
          go_wp2_with fail
          generalize w8.alloc (.cells #[.int .i64 S.lc, .int .i64 S.li, .int .i64 S.la, .slice R8 rn8 rc8] 34) = wA at hT9 hM9 hB9 ⊢
          generalize w8.heap.size = p8 at *
          obtain ⟨L9, A9, n9, ca9, B9, m9, cb9, hr9, -, -, hl9⟩ := hT9.k.rat
          have T9 := Lib.hid hT9; have M9 := Lib.hid hM9; have B27 := Lib.hid hB9; have R9 := Lib.hid hr9; have L9' := Lib.hid hl9
          clear hT9 hM9 hB9 hr9 hl9 T7
          refine wp_region_held_drew (S := fun V => Below wA.heap.size wA V) (by kernel_rfl) (Below.refl _ _).drew (fun hHeld => ?_)
          (refine wpAnyH_take (i := 0) (oi := _) (v := ?v0) rfl (by kernel_rfl) (by kernel_rfl) (by kernel_rfl) (fun _ _ _ h => h) (Or.inl ⟨by kernel_rfl, ?y0⟩) (by assumption) ?_; rotate_left; (· (intro w hSw; skip; go_simp; try with_reducible rfl)); simp only [Act.put, List.setIfInBounds_toArray, List.set_cons_zero, List.set_cons_succ, List.getElem_toArray, List.getElem_cons_succ, List.getElem_cons_zero])
          (refine wpAnyH_take (i := 2) (oi := _) (v := ?v2) rfl (by kernel_rfl) (by kernel_rfl) (by kernel_rfl) (fun _ _ _ h => h) (Or.inl ⟨by kernel_rfl, ?y2⟩) (by assumption) ?_; rotate_left; (· (intro w hSw; skip; go_simp; try with_reducible rfl)); simp only [Act.put, List.setIfInBounds_toArray, List.set_cons_zero, List.set_cons_succ, List.getElem_toArray, List.getElem_cons_succ, List.getElem_cons_zero])
          (refine wpAnyH_take (i := 3) (oi := _) (v := ?v3) rfl (by kernel_rfl) (by kernel_rfl) (by kernel_rfl) (fun _ _ _ h => h) (Or.inl ⟨by kernel_rfl, ?y3⟩) (by assumption) ?_; rotate_left; (· (intro w hSw; skip; go_simp; try with_reducible rfl)); simp only [Act.put, List.setIfInBounds_toArray, List.set_cons_zero, List.set_cons_succ, List.getElem_toArray, List.getElem_cons_succ, List.getElem_cons_zero])
          (refine wpAnyH_take (i := 4) (oi := _) (v := ?v4) rfl (by kernel_rfl) (by kernel_rfl) (by kernel_rfl) (fun _ _ _ h => h) (Or.inl ⟨by kernel_rfl, ?y4⟩) (by assumption) ?_; rotate_left; (· (intro w hSw; skip; go_simp; try with_reducible rfl)); simp only [Act.put, List.setIfInBounds_toArray, List.set_cons_zero, List.set_cons_succ, List.getElem_toArray, List.getElem_cons_succ, List.getElem_cons_zero])
          (refine wpAnyH_take (i := 5) (oi := _) (v := ?v5) rfl (by kernel_rfl) (by kernel_rfl) (by kernel_rfl) (fun _ _ _ h => h) (Or.inl ⟨by kernel_rfl, ?y5⟩) (by assumption) ?_; rotate_left; (· (intro w hSw; have hr0 : w.cell? ⟨r, 0, none⟩ = some (.bool (decide (0 < S.left))) := (R9.out.keep hSw).cell 0; have hr1 : w.cell? ⟨r, 1, none⟩ = some (.int .i64 S.lc) := (R9.out.keep hSw).cell 1; have hr2 : w.cell? ⟨r, 2, none⟩ = some (.int .i64 S.li) := (R9.out.keep hSw).cell 2; have hr3 : w.cell? ⟨r, 3, none⟩ = some (.int .i64 S.la) := (R9.out.keep hSw).cell 3; have hr4 : w.cell? ⟨r, 4, none⟩ = some (.slice B9 m9 cb9) := (R9.out.keep hSw).cell 4; clear hSw; go_simp; try with_reducible rfl)); simp only [Act.put, List.setIfInBounds_toArray, List.set_cons_zero, List.set_cons_succ, List.getElem_toArray, List.getElem_cons_succ, List.getElem_cons_zero])
          (refine wpAnyH_ready (rs := [1]) (by kernel_rfl) (by simp) ?_; refine AllReadyH.cons (o := _) rfl (fun K hK => ?_) AllReadyH.nil; rw [if_pos (by kernel_rfl)])
          go_simp
          refine (pending_any _ _ _ _ (T9.out.keep (Below.refl _ _).drew).k.tat).mono ?_
          rintro e w' ⟨rfl, rfl⟩
          go_simp
          (refine hK.out _ _ ?_ (fun hHeld => ?_))
          · exact (Below.refl _ _).drew
          clear hK
          (refine wpAnyH_take (i := 6) (oi := _) (v := ?v6) rfl (by kernel_rfl) (by kernel_rfl) (by kernel_rfl) (fun _ _ _ h => h) (Or.inl ⟨by kernel_rfl, ?y6⟩) (by assumption) ?_; rotate_left; (· (intro w hSw; skip; go_simp; try with_reducible rfl)); simp only [Act.put, List.setIfInBounds_toArray, List.set_cons_zero, List.set_cons_succ, List.getElem_toArray, List.getElem_cons_succ, List.getElem_cons_zero])
          (refine wpAnyH_take (i := 7) (oi := _) (v := ?v7) rfl (by kernel_rfl) (by kernel_rfl) (by kernel_rfl) (fun _ _ _ h => h) (Or.inl ⟨by kernel_rfl, ?y7⟩) (by assumption) ?_; rotate_left; (· (intro w hSw; skip; go_simp; try with_reducible rfl)); simp only [Act.put, List.setIfInBounds_toArray, List.set_cons_zero, List.set_cons_succ, List.getElem_toArray, List.getElem_cons_succ, List.getElem_cons_zero])
          (refine wpAnyH_take (i := 8) (oi := _) (v := ?v8) rfl (by kernel_rfl) (by kernel_rfl) (by kernel_rfl) (fun _ _ _ h => h) (Or.inl ⟨by kernel_rfl, ?y8⟩) (by assumption) ?_; rotate_left; (· (intro w hSw; have hb0 : w.cell? ⟨p8, 0, none⟩ = some (.int .i64 S.lc) := (B27.out.keep hSw).cell 0; have hb1 : w.cell? ⟨p8, 1, none⟩ = some (.int .i64 S.li) := (B27.out.keep hSw).cell 1; have hb2 : w.cell? ⟨p8, 2, none⟩ = some (.int .i64 S.la) := (B27.out.keep hSw).cell 2; have hb3 : w.cell? ⟨p8, 3, none⟩ = some (.slice R8 rn8 rc8) := (B27.out.keep hSw).cell 3; clear hSw; go_simp; try with_reducible rfl)); simp only [Act.put, List.setIfInBounds_toArray, List.set_cons_zero, List.set_cons_succ, List.getElem_toArray, List.getElem_cons_succ, List.getElem_cons_zero])
          (refine wpAnyH_take (i := 9) (oi := _) (v := ?v9) rfl (by kernel_rfl) (by kernel_rfl) (by kernel_rfl) (fun _ _ _ h => h) (Or.inl ⟨by kernel_rfl, ?y9⟩) (by assumption) ?_; rotate_left; (· (intro w hSw; skip; go_simp; try with_reducible rfl)); simp only [Act.put, List.setIfInBounds_toArray, List.set_cons_zero, List.set_cons_succ, List.getElem_toArray, List.getElem_cons_succ, List.getElem_cons_zero])
          (refine wpAnyH_take (i := 10) (oi := _) (v := ?v10) rfl (by kernel_rfl) (by kernel_rfl) (by kernel_rfl) (fun _ _ _ h => h) (Or.inl ⟨by kernel_rfl, ?y10⟩) (by assumption) ?_; rotate_left; (· (intro w hSw; skip; go_simp; try with_reducible rfl)); simp only [Act.put, List.setIfInBounds_toArray, List.set_cons_zero, List.set_cons_succ, List.getElem_toArray, List.getElem_cons_succ, List.getElem_cons_zero])
          (refine wpAnyH_take (i := 11) (oi := _) (v := ?v11) rfl (by kernel_rfl) (by kernel_rfl) (by kernel_rfl) (fun _ _ _ h => h) (Or.inl ⟨by kernel_rfl, ?y11⟩) (by assumption) ?_; rotate_left; (· (intro w hSw; skip; go_simp; try with_reducible rfl)); simp only [Act.put, List.setIfInBounds_toArray, List.set_cons_zero, List.set_cons_succ, List.getElem_toArray, List.getElem_cons_succ, List.getElem_cons_zero])
          (refine wpAnyH_take (i := 12) (oi := _) (v := ?v12) rfl (by kernel_rfl) (by kernel_rfl) (by kernel_rfl) (fun _ _ _ h => h) (Or.inl ⟨by kernel_rfl, ?y12⟩) (by assumption) ?_; rotate_left; (· (intro w hSw; have hr0 : w.cell? ⟨r, 0, none⟩ = some (.bool (decide (0 < S.left))) := (R9.out.keep hSw).cell 0; have hr1 : w.cell? ⟨r, 1, none⟩ = some (.int .i64 S.lc) := (R9.out.keep hSw).cell 1; have hr2 : w.cell? ⟨r, 2, none⟩ = some (.int .i64 S.li) := (R9.out.keep hSw).cell 2; have hr3 : w.cell? ⟨r, 3, none⟩ = some (.int .i64 S.la) := (R9.out.keep hSw).cell 3; have hr4 : w.cell? ⟨r, 4, none⟩ = some (.slice B9 m9 cb9) := (R9.out.keep hSw).cell 4; clear hSw; go_simp; try with_reducible rfl)); simp only [Act.put, List.setIfInBounds_toArray, List.set_cons_zero, List.set_cons_succ, List.getElem_toArray, List.getElem_cons_succ, List.getElem_cons_zero])
          (refine wpAnyH_ready (rs := [13]) (by kernel_rfl) (by simp) ?_; refine AllReadyH.cons (o := _) rfl (fun K hK => ?_) AllReadyH.nil; rw [if_pos (by kernel_rfl)])
          go_simp
          refine (sameb_any S.lc S.li S.la R8 B9 rn8 m9 rc8 cb9 S.ll _ (M9.out.keep (Below.refl _ _).drew).optsAt (L9'.out.keep (Below.refl _ _).drew).1 (by have := M9.out.2.2; omega)).mono ?_
          rintro e w10 ⟨rfl, hb10⟩
          have hA10 : Below wA.heap.size wA w10 := (Below.refl _ wA).drew.trans hb10
          go_simp
          (refine hK.out _ _ ?_ (fun hHeld => ?_))
          · exact hA10
          clear hK hb10
          (refine wpAnyH_take (i := 14) (oi := _) (v := ?v14) rfl (by kernel_rfl) (by kernel_rfl) (by kernel_rfl) (fun _ _ _ h => h) (Or.inl ⟨by kernel_rfl, ?y14⟩) (by assumption) ?_; rotate_left; (· (intro w hSw; skip; go_simp; try with_reducible rfl)); simp only [Act.put, List.setIfInBounds_toArray, List.set_cons_zero, List.set_cons_succ, List.getElem_toArray, List.getElem_cons_succ, List.getElem_cons_zero])
          (refine wpAnyH_take (i := 15) (oi := _) (v := ?v15) rfl (by kernel_rfl) (by kernel_rfl) (by kernel_rfl) (fun _ _ _ h => h) (Or.inl ⟨by kernel_rfl, ?y15⟩) (by assumption) ?_; rotate_left; (· (intro w hSw; skip; go_simp; try with_reducible rfl)); simp only [Act.put, List.setIfInBounds_toArray, List.set_cons_zero, List.set_cons_succ, List.getElem_toArray, List.getElem_cons_succ, List.getElem_cons_zero])
          (refine wpAnyH_take (i := 16) (oi := _) (v := ?v16) rfl (by kernel_rfl) (by kernel_rfl) (by kernel_rfl) (fun _ _ _ h => h) (Or.inl ⟨by kernel_rfl, ?y16⟩) (by assumption) ?_; rotate_left; (· (intro w hSw; skip; go_simp; try with_reducible rfl)); simp only [Act.put, List.setIfInBounds_toArray, List.set_cons_zero, List.set_cons_succ, List.getElem_toArray, List.getElem_cons_succ, List.getElem_cons_zero])
          (refine wpAnyH_take (i := 17) (oi := _) (v := ?v17) rfl (by kernel_rfl) (by kernel_rfl) (by kernel_rfl) (fun _ _ _ h => h) (Or.inl ⟨by kernel_rfl, ?y17⟩) (by assumption) ?_; rotate_left; (· (intro w hSw; skip; go_simp; try with_reducible rfl)); simp only [Act.put, List.setIfInBounds_toArray, List.set_cons_zero, List.set_cons_succ, List.getElem_toArray, List.getElem_cons_succ, List.getElem_cons_zero])
          (refine wpAnyH_take (i := 18) (oi := _) (v := ?v18) rfl (by kernel_rfl) (by kernel_rfl) (by kernel_rfl) (fun _ _ _ h => h) (Or.inl ⟨by kernel_rfl, ?y18⟩) (by assumption) ?_; rotate_left; (· (intro w hSw; skip; go_simp; try with_reducible rfl)); simp only [Act.put, List.setIfInBounds_toArray, List.set_cons_zero, List.set_cons_succ, List.getElem_toArray, List.getElem_cons_succ, List.getElem_cons_zero])
          (refine wpAnyH_take (i := 19) (oi := _) (v := ?v19) rfl (by kernel_rfl) (by kernel_rfl) (by kernel_rfl) (fun _ _ _ h => h) (Or.inl ⟨by kernel_rfl, ?y19⟩) (by assumption) ?_; rotate_left; (· (intro w hSw; skip; go_simp; try with_reducible rfl)); simp only [Act.put, List.setIfInBounds_toArray, List.set_cons_zero, List.set_cons_succ, List.getElem_toArray, List.getElem_cons_succ, List.getElem_cons_zero])
          (refine wpAnyH_take (i := 20) (oi := _) (v := ?v20) rfl (by kernel_rfl) (by kernel_rfl) (by kernel_rfl) (fun _ _ _ h => h) (Or.inl ⟨by kernel_rfl, ?y20⟩) (by assumption) ?_; rotate_left; (· (intro w hSw; have ha4 : w.cell? ⟨q, 4, none⟩ = some (.slice O n ocap) := (T9.out.act.keep hSw).cell 4; clear hSw; go_simp; try with_reducible rfl)); simp only [Act.put, List.setIfInBounds_toArray, List.set_cons_zero, List.set_cons_succ, List.getElem_toArray, List.getElem_cons_succ, List.getElem_cons_zero])
          (refine wpAnyH_ready (rs := [21]) (by kernel_rfl) (by simp) ?_; refine AllReadyH.cons (o := _) rfl (fun K hK => ?_) AllReadyH.nil; rw [if_pos (by kernel_rfl)])
          go_simp
          refine (kept_any x n xcap ocap O os _ (T9.out.keep hA10).lent.1 ((T9.out.keep hA10).k.arg HOS.out).1 hxc hxm).mono ?_
          rintro e w11 ⟨rfl, hb11⟩
          have hA11 : Below wA.heap.size wA w11 := hA10.trans (hb11.mono hA10.size)
          go_simp
          (refine hK.out _ _ ?_ (fun hHeld => ?_))
          · exact hA11
          clear hK hb11
          (refine wpAnyH_take (i := 22) (oi := _) (v := ?v22) rfl (by kernel_rfl) (by kernel_rfl) (by kernel_rfl) (fun _ _ _ h => h) (Or.inl ⟨by kernel_rfl, ?y22⟩) (by assumption) ?_; rotate_left; (· (intro w hSw; skip; go_simp; try with_reducible rfl)); simp only [Act.put, List.setIfInBounds_toArray, List.set_cons_zero, List.set_cons_succ, List.getElem_toArray, List.getElem_cons_succ, List.getElem_cons_zero])
          (refine wpAnyH_take (i := 23) (oi := _) (v := ?v23) rfl (by kernel_rfl) (by kernel_rfl) (by kernel_rfl) (fun _ _ _ h => h) (Or.inl ⟨by kernel_rfl, ?y23⟩) (by assumption) ?_; rotate_left; (· (intro w hSw; skip; go_simp; try with_reducible rfl)); simp only [Act.put, List.setIfInBounds_toArray, List.set_cons_zero, List.set_cons_succ, List.getElem_toArray, List.getElem_cons_succ, List.getElem_cons_zero])
          (refine wpAnyH_done (by kernel_rfl) ?_ _)
          have T11 := Lib.hid (T9.out.keep hA11)
          have M11 := Lib.hid (M9.out.keep hA11)
          have f3 : w11.cell? ⟨p8, 3, none⟩ = some (.slice R8 rn8 rc8) := (B27.out.keep hA11).cell 3
          clear hA10 hA11 T9 M9 B27 R9 L9' hHeld
          go_wp2_with fail
          refine (spoil_to T11.out M11.out (fun b hb => .inr hb) hg7 hr7).mono ?_
          rintro e w12 ⟨rfl, t12⟩
          have T12 := Lib.hid t12
          clear t12 T11 M11 f3
          have hw := HW.out
          go_wp2_with fail
          go_roundw
          case rel => exact ⟨k + 1, by first | (clear hw; go_num) | (rw [hw]; rfl), HK.out.1, S, _, T12.out.k, INS.out⟩
          case measure =>
            first
              | (have := HK.out; clear hw; simp [intOf]; omega)
              | (show 100 - (intOf (.int .i64 (wrap64 ((k : Int) + 1)))).toNat < 100 - (intOf (.int .i64 (k : Int))).toNat; rw [hw]; clear hw; have := HK.out; show 100 - ((k : Int) + 1).toNat < 100 - (k : Int).toNat; omega)
      · have y1 : (k : Int) < (nn : Int) := by omega
        have y2 : ¬ (k : Int) < 100 := by omega
        clear hk hlt h100
        go_wp2_with fail
        refine (awake_any _).mono ?_
        rintro e w9 ⟨rfl, hb9⟩
        have HB9 := Lib.hid (H.out.bel.trans (hb9.mono H.out.bel.size))
        clear hb9
        go_wp2_with fail
        go_ret
        exact ⟨rfl, HB9.out⟩
    · clear hk
      go_wp2_with fail
      refine (awake_any _).mono ?_
      rintro e w9 ⟨rfl, hb9⟩
      have HB9 := Lib.hid (H.out.bel.trans (hb9.mono H.out.bel.size))
      clear hb9
      go_wp2_with fail
      go_ret
      exact ⟨rfl, HB9.out⟩
end Go.Proofs.Ytckbbfdllflmjaa
