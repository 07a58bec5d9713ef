/- What package policy's Learn says, in plain words; its contract. No condition but that a length is an int's. -/
import Derived.Test.YtjmcgekegenobaaPolB
import Derived.Test.YtjmcgekegenobaaPolD
namespace Go.Proofs.Ytjmcgekegenobaa
open Go.RowKit
set_option linter.unusedVariables false
set_option linter.unusedSimpArgs false
attribute [local go_sem] conv1 conv1d conv1n conv1a conv1ad conv1an conv2 conv2d conv2n conv2a conv2ad conv2an conv4 conv4d conv4n conv4a conv4ad conv4an conv5 conv5d conv5n conv5a conv5ad conv5an size_nums byt_fold
def stepL (code : Int) (l : Lk) (o : Int × ByteArray) : Lk := if rightB o.1 o.2 && asksB l o.1 then (if code = 4 then clearL l o.1 else learnL l o.1 o.2) else l
def learnAll (code : Int) (l : Lk) (os : List (Int × ByteArray)) : Lk := os.foldl (stepL code) l
theorem right_six {k : Int} {d : ByteArray} (h : rightB k d = true) : six k ∧ d.size ≤ 20 := by
  unfold rightB sizeK at h
  unfold six
  simp only [Bool.or_eq_true, Bool.and_eq_true, decide_eq_true_eq] at h
  split at h
  · omega
  · split at h
    · omega
    · split at h
      · omega
      · split at h <;> omega
def codeB (c : Int) : Bool := decide (c = 3) || decide (c = 4)
def zeroL : Lk := ⟨0, 0, 0, false, ⟨#[]⟩, 0⟩
def LearnB (l : Lk) (c : Int) (os : List (Int × ByteArray)) (w : World) (e : Ending) (w' : World) : Prop := Below w.heap.size w w' ∧ e = .returned (.tuple (if mayB l && codeB c then #[lkV (learnAll c l os), .int .i64 0] else #[lkV zeroL, .int .i64 1400]))
def LearnR (l : Lk) (c : Int) (os : List (Int × ByteArray)) (g : Nat) (w : World) (k : Nat) (wr : World) : Prop :=
  k ≤ os.length ∧ Blk wr g 48 (lkC (learnAll c l (os.take k))) ∧ Blk wr (w.heap.size + 1) 23 (lkC zeroL) ∧ Below w.heap.size w wr
theorem learn_take {c : Int} {l : Lk} {os : List (Int × ByteArray)} {k : Nat} {o : Int × ByteArray} (h : os[k]? = some o) : learnAll c l (os.take (k + 1)) = stepL c (learnAll c l (os.take k)) o := by
  obtain ⟨hk, rfl⟩ := List.getElem?_eq_some_iff.1 h
  rw [List.take_succ_eq_append_getElem hk]
  unfold learnAll
  rw [List.foldl_append]
  rfl
set_option maxRecDepth 100000 in
set_option maxHeartbeats 8000000 in
theorem learns_any (l : Lk) (c : Int) (A : Option Addr) (n cap : Nat) (os : List (Int × ByteArray)) (w : World) (hv : OptsAt w A n os) (hn : n ≤ 9223372036854775807) : Calls Try.prog 16 #[lkV l, .int .i64 c, .slice A n cap] w (LearnB l c os w) := by
  have HV := Lib.hid hv; clear hv
  have hbl := Blk.new w 23 (lkC l)
  have HBL := Lib.hid hbl; clear hbl
  have hrb : Blk ((w.alloc (.cells (lkC l) 23)).alloc (.cells (lkC zeroL) 23)) (w.heap.size + 1) 23 (lkC zeroL) := Blk.new_at _ _ (by simp) _ _
  have HRB := Lib.hid hrb; clear hrb
  show Calls _ _ #[.agg #[.int .i64 l.mru, .int .i64 l.magic, .int .i64 l.mrru, .bool l.short, .string l.disc, .int .i64 l.num], _, _] _ _
  cases hmay : mayB l
  · go_enter Try.func16, Try.ntmps16
    go_wp2_with fail
    refine (may_any l _).mono ?_
    rintro e w1 ⟨rfl, hb1⟩
    rw [hmay]
    have bel1 : Below w.heap.size w w1 := below_step (((Below.refl _ w).alloc (Nat.le_refl _) _).alloc (by simp) _) hb1 (by simp; omega)
    have hz1 := hb1.size
    simp at hz1
    have HR1 : Blk w1 (w.heap.size + 1) 23 (lkC zeroL) := Blk.keep HRB hb1
    have r0 : w1.cell? ⟨w.heap.size + 1, 0, none⟩ = some (.int .i64 0) := HR1.cell 0
    have r1 : w1.cell? ⟨w.heap.size + 1, 1, none⟩ = some (.int .i64 0) := HR1.cell 1
    have r2 : w1.cell? ⟨w.heap.size + 1, 2, none⟩ = some (.int .i64 0) := HR1.cell 2
    have r3 : w1.cell? ⟨w.heap.size + 1, 3, none⟩ = some (.bool false) := HR1.cell 3
    have r4 : w1.cell? ⟨w.heap.size + 1, 4, none⟩ = some (.string ⟨#[]⟩) := HR1.cell 4
    have r5 : w1.cell? ⟨w.heap.size + 1, 5, none⟩ = some (.int .i64 0) := HR1.cell 5
    have rf := HR1.frozen
    have HL1 : Blk w1 w.heap.size 23 (lkC l) := Blk.keep (Blk.alloc HBL _) hb1
    have k0 : w1.cell? ⟨w.heap.size, 0, none⟩ = some (.int .i64 l.mru) := HL1.cell 0
    have k1 : w1.cell? ⟨w.heap.size, 1, none⟩ = some (.int .i64 l.magic) := HL1.cell 1
    have k2 : w1.cell? ⟨w.heap.size, 2, none⟩ = some (.int .i64 l.mrru) := HL1.cell 2
    have k3 : w1.cell? ⟨w.heap.size, 3, none⟩ = some (.bool l.short) := HL1.cell 3
    have k4 : w1.cell? ⟨w.heap.size, 4, none⟩ = some (.string l.disc) := HL1.cell 4
    have k5 : w1.cell? ⟨w.heap.size, 5, none⟩ = some (.int .i64 l.num) := HL1.cell 5
    have HR1' := Lib.hid HR1; clear HR1
    have HL1' := Lib.hid HL1; clear HL1
    go_wp2_with fail
    refine bodyPost_ret (v := .tuple #[.agg #[.int .i64 0, .int .i64 0, .int .i64 0, .bool false, .string ⟨#[]⟩, .int .i64 0], .int .i64 1400]) (by simp [results, Try.results16, go_sem, r0, r1, r2, r3, r4, r5, rf]) rfl ?_
    exact ⟨(by repeat' (first | (with_reducible exact bel1) | (with_reducible refine Below.setCell ?_ (Nat.le_refl _) _) | (with_reducible apply Below.setCell) | (with_reducible apply Below.alloc) | (with_reducible apply Below.drew) | (with_reducible apply below_drewN) | (exact Nat.le_refl _) | omega | (simp; done) | (simp; omega))), by rw [hmay]; rfl⟩
  · rcases Bool.eq_false_or_eq_true (codeB c) with hc | hc
    · have hc2 : c = 3 ∨ c = 4 := by unfold codeB at hc; simpa using hc
      have HC := Lib.hid hc; clear hc
      rcases hc2 with rfl | rfl
      · go_enter Try.func16, Try.ntmps16
        go_wp2_with fail
        refine (may_any l _).mono ?_
        rintro e w1 ⟨rfl, hb1⟩
        rw [hmay]
        have bel1 : Below w.heap.size w w1 := below_step (((Below.refl _ w).alloc (Nat.le_refl _) _).alloc (by simp) _) hb1 (by simp; omega)
        have hz1 := hb1.size
        simp at hz1
        have HR1 : Blk w1 (w.heap.size + 1) 23 (lkC zeroL) := Blk.keep HRB hb1
        have r0 : w1.cell? ⟨w.heap.size + 1, 0, none⟩ = some (.int .i64 0) := HR1.cell 0
        have r1 : w1.cell? ⟨w.heap.size + 1, 1, none⟩ = some (.int .i64 0) := HR1.cell 1
        have r2 : w1.cell? ⟨w.heap.size + 1, 2, none⟩ = some (.int .i64 0) := HR1.cell 2
        have r3 : w1.cell? ⟨w.heap.size + 1, 3, none⟩ = some (.bool false) := HR1.cell 3
        have r4 : w1.cell? ⟨w.heap.size + 1, 4, none⟩ = some (.string ⟨#[]⟩) := HR1.cell 4
        have r5 : w1.cell? ⟨w.heap.size + 1, 5, none⟩ = some (.int .i64 0) := HR1.cell 5
        have rf := HR1.frozen
        have HL1 : Blk w1 w.heap.size 23 (lkC l) := Blk.keep (Blk.alloc HBL _) hb1
        have k0 : w1.cell? ⟨w.heap.size, 0, none⟩ = some (.int .i64 l.mru) := HL1.cell 0
        have k1 : w1.cell? ⟨w.heap.size, 1, none⟩ = some (.int .i64 l.magic) := HL1.cell 1
        have k2 : w1.cell? ⟨w.heap.size, 2, none⟩ = some (.int .i64 l.mrru) := HL1.cell 2
        have k3 : w1.cell? ⟨w.heap.size, 3, none⟩ = some (.bool l.short) := HL1.cell 3
        have k4 : w1.cell? ⟨w.heap.size, 4, none⟩ = some (.string l.disc) := HL1.cell 4
        have k5 : w1.cell? ⟨w.heap.size, 5, none⟩ = some (.int .i64 l.num) := HL1.cell 5
        have HR1' := Lib.hid HR1; clear HR1
        have HL1' := Lib.hid HL1; clear HL1
        go_wp2_with fail
        go_loopw [28] (fun i wr => ∃ k : Nat, i = .int .i64 k ∧ LearnR l 3 os w1.heap.size w k wr) (fun i _ => n - (intOf i).toNat)
        case atStart => exact ⟨0, rfl, Nat.zero_le _, Blk.new w1 _ (lkC l), (Blk.alloc HR1' _), (by repeat' (first | (with_reducible exact bel1) | (with_reducible refine Below.setCell ?_ (Nat.le_refl _) _) | (with_reducible apply Below.setCell) | (with_reducible apply Below.alloc) | (with_reducible apply Below.drew) | (with_reducible apply below_drewN) | (exact Nat.le_refl _) | omega | (simp; done) | (simp; omega)))⟩
        case round =>
          obtain ⟨k, rfl, hk, hside, hrb, hbel⟩ := hrel
          have hlen := HV.out.1
          have hkn : k ≤ n := by omega
          have hkk : k < n → k + 1 ≤ os.length := by omega
          have hke : ¬ k < n → os.take k = os := by intro h; exact List.take_of_length_le (by omega)
          have HKK := Lib.hid hkk; have HKE := Lib.hid hke; clear hkk hke
          clear hlen
          obtain ⟨m, hm⟩ : ∃ m, learnAll 3 l (os.take k) = m := ⟨_, rfl⟩
          rw [hm] at hside
          have HM := Lib.hid hm; clear hm
          have z1 := hside.lt
          have z2 := hrb.lt
          by_cases hlt : k < n
          · have HS := Lib.hid hside; have HB := Lib.hid hrb; clear hside hrb
            obtain ⟨b, off, kind, data, rfl, hb, ho, c1, c2⟩ := (HV.out.keep hbel).at_ k hlt
            have HO := Lib.hid ho; clear ho
            have hst := learn_take (c := 3) (l := l) HO
            rw [HM] at hst
            have HST := Lib.hid hst; clear hst
            cases hr : rightB kind data
            · go_wp2_with fail
              refine (right_any kind data _).mono ?_
              rintro e w2 ⟨rfl, hb2⟩
              rw [hr]
              have h2 : Blk w2 w1.heap.size 48 (lkC m) := Blk.keep (by repeat' (first | (with_reducible exact HS.out) | (with_reducible refine Blk.far ?_ (by first | omega | (simp; done) | (simp; omega)) _) | (with_reducible refine Blk.alloc ?_ _) | (with_reducible refine Blk.drew ?_) | (with_reducible refine Blk.drewN ?_ _))) hb2
              have h3 : Blk w2 (w.heap.size + 1) 23 (lkC zeroL) := Blk.keep (by repeat' (first | (with_reducible exact HB.out) | (with_reducible refine Blk.far ?_ (by first | omega | (simp; done) | (simp; omega)) _) | (with_reducible refine Blk.alloc ?_ _) | (with_reducible refine Blk.drew ?_) | (with_reducible refine Blk.drewN ?_ _))) hb2
              have bel2 : Below w.heap.size w w2 := below_step (by repeat' (first | (with_reducible exact hbel) | (with_reducible refine Below.setCell ?_ (Nat.le_refl _) _) | (with_reducible apply Below.setCell) | (with_reducible apply Below.alloc) | (with_reducible apply Below.drew) | (with_reducible apply below_drewN) | (exact Nat.le_refl _) | omega | (simp; done) | (simp; omega))) hb2 (by have := hbel.size; simp; omega)
              have H2 := Lib.hid h2; have H3 := Lib.hid h3; clear h2 h3
              go_wp2_with fail
              go_roundw
              case rel => exact ⟨k + 1, by go_num, HKK hlt, by rw [HST.out, show stepL 3 m (kind, data) = m from by show (if rightB kind data && asksB m kind then _ else _) = _; rw [hr]; rfl]; exact H2, H3, bel2⟩
              case measure => simp [intOf]; omega
            · cases ha : asksB m kind
              · go_wp2_with fail
                refine (right_any kind data _).mono ?_
                rintro e w2 ⟨rfl, hb2⟩
                rw [hr]
                have h2 : Blk w2 w1.heap.size 48 (lkC m) := Blk.keep (by repeat' (first | (with_reducible exact HS.out) | (with_reducible refine Blk.far ?_ (by first | omega | (simp; done) | (simp; omega)) _) | (with_reducible refine Blk.alloc ?_ _) | (with_reducible refine Blk.drew ?_) | (with_reducible refine Blk.drewN ?_ _))) hb2
                have h3 : Blk w2 (w.heap.size + 1) 23 (lkC zeroL) := Blk.keep (by repeat' (first | (with_reducible exact HB.out) | (with_reducible refine Blk.far ?_ (by first | omega | (simp; done) | (simp; omega)) _) | (with_reducible refine Blk.alloc ?_ _) | (with_reducible refine Blk.drew ?_) | (with_reducible refine Blk.drewN ?_ _))) hb2
                have bel2 : Below w.heap.size w w2 := below_step (by repeat' (first | (with_reducible exact hbel) | (with_reducible refine Below.setCell ?_ (Nat.le_refl _) _) | (with_reducible apply Below.setCell) | (with_reducible apply Below.alloc) | (with_reducible apply Below.drew) | (with_reducible apply below_drewN) | (exact Nat.le_refl _) | omega | (simp; done) | (simp; omega))) hb2 (by have := hbel.size; simp; omega)
                have x0 : w2.cell? ⟨wr.heap.size, 0, none⟩ = some (.int .i64 kind) := (by repeat' (first | (with_reducible refine cell1 ?_) | (with_reducible exact hb2) | (with_reducible refine cellK hb2 ?_) | ((with_reducible refine cell0 ?hb ?hv); (case hb => first | rfl | (simp; done)); (case hv => rfl)) | (with_reducible refine cellA ?_) | (with_reducible refine cellD ?_) | (with_reducible refine cellN ?_) | ((with_reducible refine cellS ?hn ?_); (case hn => first | (left; omega) | (right; omega) | (left; simp; omega))) | ((with_reducible refine has0 ?hb ?hv); (case hb => first | rfl | (simp; done)); (case hv => rfl)) | (with_reducible refine hasA ?_) | (with_reducible refine hasD ?_) | (with_reducible refine hasN ?_) | (with_reducible refine hasK hb2 ?_) | (with_reducible refine hasS ?_)))
                have x1 : w2.cell? ⟨wr.heap.size, 1, none⟩ = some (.string data) := (by repeat' (first | (with_reducible refine cell1 ?_) | (with_reducible exact hb2) | (with_reducible refine cellK hb2 ?_) | ((with_reducible refine cell0 ?hb ?hv); (case hb => first | rfl | (simp; done)); (case hv => rfl)) | (with_reducible refine cellA ?_) | (with_reducible refine cellD ?_) | (with_reducible refine cellN ?_) | ((with_reducible refine cellS ?hn ?_); (case hn => first | (left; omega) | (right; omega) | (left; simp; omega))) | ((with_reducible refine has0 ?hb ?hv); (case hb => first | rfl | (simp; done)); (case hv => rfl)) | (with_reducible refine hasA ?_) | (with_reducible refine hasD ?_) | (with_reducible refine hasN ?_) | (with_reducible refine hasK hb2 ?_) | (with_reducible refine hasS ?_)))
                have H2 := Lib.hid h2; have H3 := Lib.hid h3; clear h2 h3
                go_wp2_with fail
                refine (asks_any _ _ m _ H2.out).mono ?_
                rintro e w' ⟨rfl, rfl⟩
                rw [ha]
                go_wp2_with fail
                go_roundw
                case rel => exact ⟨k + 1, by go_num, HKK hlt, by rw [HST.out, show stepL 3 m (kind, data) = m from by show (if rightB kind data && asksB m kind then _ else _) = _; rw [hr, ha]; rfl]; exact H2, H3, bel2⟩
                case measure => simp [intOf]; omega
              · go_wp2_with fail
                refine (right_any kind data _).mono ?_
                rintro e w2 ⟨rfl, hb2⟩
                rw [hr]
                have h2 : Blk w2 w1.heap.size 48 (lkC m) := Blk.keep (by repeat' (first | (with_reducible exact HS.out) | (with_reducible refine Blk.far ?_ (by first | omega | (simp; done) | (simp; omega)) _) | (with_reducible refine Blk.alloc ?_ _) | (with_reducible refine Blk.drew ?_) | (with_reducible refine Blk.drewN ?_ _))) hb2
                have h3 : Blk w2 (w.heap.size + 1) 23 (lkC zeroL) := Blk.keep (by repeat' (first | (with_reducible exact HB.out) | (with_reducible refine Blk.far ?_ (by first | omega | (simp; done) | (simp; omega)) _) | (with_reducible refine Blk.alloc ?_ _) | (with_reducible refine Blk.drew ?_) | (with_reducible refine Blk.drewN ?_ _))) hb2
                have bel2 : Below w.heap.size w w2 := below_step (by repeat' (first | (with_reducible exact hbel) | (with_reducible refine Below.setCell ?_ (Nat.le_refl _) _) | (with_reducible apply Below.setCell) | (with_reducible apply Below.alloc) | (with_reducible apply Below.drew) | (with_reducible apply below_drewN) | (exact Nat.le_refl _) | omega | (simp; done) | (simp; omega))) hb2 (by have := hbel.size; simp; omega)
                have x0 : w2.cell? ⟨wr.heap.size, 0, none⟩ = some (.int .i64 kind) := (by repeat' (first | (with_reducible refine cell1 ?_) | (with_reducible exact hb2) | (with_reducible refine cellK hb2 ?_) | ((with_reducible refine cell0 ?hb ?hv); (case hb => first | rfl | (simp; done)); (case hv => rfl)) | (with_reducible refine cellA ?_) | (with_reducible refine cellD ?_) | (with_reducible refine cellN ?_) | ((with_reducible refine cellS ?hn ?_); (case hn => first | (left; omega) | (right; omega) | (left; simp; omega))) | ((with_reducible refine has0 ?hb ?hv); (case hb => first | rfl | (simp; done)); (case hv => rfl)) | (with_reducible refine hasA ?_) | (with_reducible refine hasD ?_) | (with_reducible refine hasN ?_) | (with_reducible refine hasK hb2 ?_) | (with_reducible refine hasS ?_)))
                have x1 : w2.cell? ⟨wr.heap.size, 1, none⟩ = some (.string data) := (by repeat' (first | (with_reducible refine cell1 ?_) | (with_reducible exact hb2) | (with_reducible refine cellK hb2 ?_) | ((with_reducible refine cell0 ?hb ?hv); (case hb => first | rfl | (simp; done)); (case hv => rfl)) | (with_reducible refine cellA ?_) | (with_reducible refine cellD ?_) | (with_reducible refine cellN ?_) | ((with_reducible refine cellS ?hn ?_); (case hn => first | (left; omega) | (right; omega) | (left; simp; omega))) | ((with_reducible refine has0 ?hb ?hv); (case hb => first | rfl | (simp; done)); (case hv => rfl)) | (with_reducible refine hasA ?_) | (with_reducible refine hasD ?_) | (with_reducible refine hasN ?_) | (with_reducible refine hasK hb2 ?_) | (with_reducible refine hasS ?_)))
                have H2 := Lib.hid h2; have H3 := Lib.hid h3; clear h2 h3
                go_wp2_with fail
                refine (asks_any _ _ m _ H2.out).mono ?_
                rintro e w' ⟨rfl, rfl⟩
                rw [ha]
                go_wp2_with fail
                refine (learn_any w1.heap.size kind data m _ H2.out (right_six hr).1 (by have := (right_six hr).2; omega)).mono ?_
                rintro e w3 h3
                have HST3 := Lib.hid h3; clear h3
                obtain ⟨rfl, -, -⟩ := HST3.out
                go_wp2_with fail
                go_roundw
                case rel => exact ⟨k + 1, by go_num, HKK hlt, by rw [HST.out, show stepL 3 m (kind, data) = learnL m kind data from by show (if rightB kind data && asksB m kind then _ else _) = _; rw [hr, ha]; rfl]; exact HST3.2.1, H3.out.grown HST3.2.2 (by intro e; have e := Option.some.inj e; omega), below_gr bel2 HST3.2.2 bel2.size (by omega)⟩
                case measure => simp [intOf]; omega
          · have htk := HKE.out hlt
            rw [htk] at HM
            have s0 : wr.cell? ⟨w1.heap.size, 0, none⟩ = some (.int .i64 m.mru) := hside.cell 0
            have s1 : wr.cell? ⟨w1.heap.size, 1, none⟩ = some (.int .i64 m.magic) := hside.cell 1
            have s2 : wr.cell? ⟨w1.heap.size, 2, none⟩ = some (.int .i64 m.mrru) := hside.cell 2
            have s3 : wr.cell? ⟨w1.heap.size, 3, none⟩ = some (.bool m.short) := hside.cell 3
            have s4 : wr.cell? ⟨w1.heap.size, 4, none⟩ = some (.string m.disc) := hside.cell 4
            have s5 : wr.cell? ⟨w1.heap.size, 5, none⟩ = some (.int .i64 m.num) := hside.cell 5
            have sf := hside.frozen
            have qf := hrb.frozen
            have q0 : wr.cell? ⟨w.heap.size + 1, 0, none⟩ = some (.int .i64 0) := hrb.cell 0
            have q1 : wr.cell? ⟨w.heap.size + 1, 1, none⟩ = some (.int .i64 0) := hrb.cell 1
            have q2 : wr.cell? ⟨w.heap.size + 1, 2, none⟩ = some (.int .i64 0) := hrb.cell 2
            have q3 : wr.cell? ⟨w.heap.size + 1, 3, none⟩ = some (.bool false) := hrb.cell 3
            have q4 : wr.cell? ⟨w.heap.size + 1, 4, none⟩ = some (.string ⟨#[]⟩) := hrb.cell 4
            have q5 : wr.cell? ⟨w.heap.size + 1, 5, none⟩ = some (.int .i64 0) := hrb.cell 5
            clear hside hrb
            go_wp2_with fail
            refine bodyPost_ret (v := .tuple #[.agg #[.int .i64 m.mru, .int .i64 m.magic, .int .i64 m.mrru, .bool m.short, .string m.disc, .int .i64 m.num], .int .i64 0]) (by simp [results, Try.results16, go_sem, s0, s1, s2, s3, s4, s5, q0, q1, q2, q3, q4, q5, sf, qf]) rfl ?_
            exact ⟨(by repeat' (first | (with_reducible exact hbel) | (with_reducible refine Below.setCell ?_ (Nat.le_refl _) _) | (with_reducible apply Below.setCell) | (with_reducible apply Below.alloc) | (with_reducible apply Below.drew) | (with_reducible apply below_drewN) | (exact Nat.le_refl _) | omega | (simp; done) | (simp; omega))), by rw [hmay, HC.out, HM.out]; rfl⟩
      · go_enter Try.func16, Try.ntmps16
        go_wp2_with fail
        refine (may_any l _).mono ?_
        rintro e w1 ⟨rfl, hb1⟩
        rw [hmay]
        have bel1 : Below w.heap.size w w1 := below_step (((Below.refl _ w).alloc (Nat.le_refl _) _).alloc (by simp) _) hb1 (by simp; omega)
        have hz1 := hb1.size
        simp at hz1
        have HR1 : Blk w1 (w.heap.size + 1) 23 (lkC zeroL) := Blk.keep HRB hb1
        have r0 : w1.cell? ⟨w.heap.size + 1, 0, none⟩ = some (.int .i64 0) := HR1.cell 0
        have r1 : w1.cell? ⟨w.heap.size + 1, 1, none⟩ = some (.int .i64 0) := HR1.cell 1
        have r2 : w1.cell? ⟨w.heap.size + 1, 2, none⟩ = some (.int .i64 0) := HR1.cell 2
        have r3 : w1.cell? ⟨w.heap.size + 1, 3, none⟩ = some (.bool false) := HR1.cell 3
        have r4 : w1.cell? ⟨w.heap.size + 1, 4, none⟩ = some (.string ⟨#[]⟩) := HR1.cell 4
        have r5 : w1.cell? ⟨w.heap.size + 1, 5, none⟩ = some (.int .i64 0) := HR1.cell 5
        have rf := HR1.frozen
        have HL1 : Blk w1 w.heap.size 23 (lkC l) := Blk.keep (Blk.alloc HBL _) hb1
        have k0 : w1.cell? ⟨w.heap.size, 0, none⟩ = some (.int .i64 l.mru) := HL1.cell 0
        have k1 : w1.cell? ⟨w.heap.size, 1, none⟩ = some (.int .i64 l.magic) := HL1.cell 1
        have k2 : w1.cell? ⟨w.heap.size, 2, none⟩ = some (.int .i64 l.mrru) := HL1.cell 2
        have k3 : w1.cell? ⟨w.heap.size, 3, none⟩ = some (.bool l.short) := HL1.cell 3
        have k4 : w1.cell? ⟨w.heap.size, 4, none⟩ = some (.string l.disc) := HL1.cell 4
        have k5 : w1.cell? ⟨w.heap.size, 5, none⟩ = some (.int .i64 l.num) := HL1.cell 5
        have HR1' := Lib.hid HR1; clear HR1
        have HL1' := Lib.hid HL1; clear HL1
        go_wp2_with fail
        go_loopw [28] (fun i wr => ∃ k : Nat, i = .int .i64 k ∧ LearnR l 4 os w1.heap.size w k wr) (fun i _ => n - (intOf i).toNat)
        case atStart => exact ⟨0, rfl, Nat.zero_le _, Blk.new w1 _ (lkC l), (Blk.alloc HR1' _), (by repeat' (first | (with_reducible exact bel1) | (with_reducible refine Below.setCell ?_ (Nat.le_refl _) _) | (with_reducible apply Below.setCell) | (with_reducible apply Below.alloc) | (with_reducible apply Below.drew) | (with_reducible apply below_drewN) | (exact Nat.le_refl _) | omega | (simp; done) | (simp; omega)))⟩
        case round =>
          obtain ⟨k, rfl, hk, hside, hrb, hbel⟩ := hrel
          have hlen := HV.out.1
          have hkn : k ≤ n := by omega
          have hkk : k < n → k + 1 ≤ os.length := by omega
          have hke : ¬ k < n → os.take k = os := by intro h; exact List.take_of_length_le (by omega)
          have HKK := Lib.hid hkk; have HKE := Lib.hid hke; clear hkk hke
          clear hlen
          obtain ⟨m, hm⟩ : ∃ m, learnAll 4 l (os.take k) = m := ⟨_, rfl⟩
          rw [hm] at hside
          have HM := Lib.hid hm; clear hm
          have z1 := hside.lt
          have z2 := hrb.lt
          by_cases hlt : k < n
          · have HS := Lib.hid hside; have HB := Lib.hid hrb; clear hside hrb
            obtain ⟨b, off, kind, data, rfl, hb, ho, c1, c2⟩ := (HV.out.keep hbel).at_ k hlt
            have HO := Lib.hid ho; clear ho
            have hst := learn_take (c := 4) (l := l) HO
            rw [HM] at hst
            have HST := Lib.hid hst; clear hst
            cases hr : rightB kind data
            · go_wp2_with fail
              refine (right_any kind data _).mono ?_
              rintro e w2 ⟨rfl, hb2⟩
              rw [hr]
              have h2 : Blk w2 w1.heap.size 48 (lkC m) := Blk.keep (by repeat' (first | (with_reducible exact HS.out) | (with_reducible refine Blk.far ?_ (by first | omega | (simp; done) | (simp; omega)) _) | (with_reducible refine Blk.alloc ?_ _) | (with_reducible refine Blk.drew ?_) | (with_reducible refine Blk.drewN ?_ _))) hb2
              have h3 : Blk w2 (w.heap.size + 1) 23 (lkC zeroL) := Blk.keep (by repeat' (first | (with_reducible exact HB.out) | (with_reducible refine Blk.far ?_ (by first | omega | (simp; done) | (simp; omega)) _) | (with_reducible refine Blk.alloc ?_ _) | (with_reducible refine Blk.drew ?_) | (with_reducible refine Blk.drewN ?_ _))) hb2
              have bel2 : Below w.heap.size w w2 := below_step (by repeat' (first | (with_reducible exact hbel) | (with_reducible refine Below.setCell ?_ (Nat.le_refl _) _) | (with_reducible apply Below.setCell) | (with_reducible apply Below.alloc) | (with_reducible apply Below.drew) | (with_reducible apply below_drewN) | (exact Nat.le_refl _) | omega | (simp; done) | (simp; omega))) hb2 (by have := hbel.size; simp; omega)
              have H2 := Lib.hid h2; have H3 := Lib.hid h3; clear h2 h3
              go_wp2_with fail
              go_roundw
              case rel => exact ⟨k + 1, by go_num, HKK hlt, by rw [HST.out, show stepL 4 m (kind, data) = m from by show (if rightB kind data && asksB m kind then _ else _) = _; rw [hr]; rfl]; exact H2, H3, bel2⟩
              case measure => simp [intOf]; omega
            · cases ha : asksB m kind
              · go_wp2_with fail
                refine (right_any kind data _).mono ?_
                rintro e w2 ⟨rfl, hb2⟩
                rw [hr]
                have h2 : Blk w2 w1.heap.size 48 (lkC m) := Blk.keep (by repeat' (first | (with_reducible exact HS.out) | (with_reducible refine Blk.far ?_ (by first | omega | (simp; done) | (simp; omega)) _) | (with_reducible refine Blk.alloc ?_ _) | (with_reducible refine Blk.drew ?_) | (with_reducible refine Blk.drewN ?_ _))) hb2
                have h3 : Blk w2 (w.heap.size + 1) 23 (lkC zeroL) := Blk.keep (by repeat' (first | (with_reducible exact HB.out) | (with_reducible refine Blk.far ?_ (by first | omega | (simp; done) | (simp; omega)) _) | (with_reducible refine Blk.alloc ?_ _) | (with_reducible refine Blk.drew ?_) | (with_reducible refine Blk.drewN ?_ _))) hb2
                have bel2 : Below w.heap.size w w2 := below_step (by repeat' (first | (with_reducible exact hbel) | (with_reducible refine Below.setCell ?_ (Nat.le_refl _) _) | (with_reducible apply Below.setCell) | (with_reducible apply Below.alloc) | (with_reducible apply Below.drew) | (with_reducible apply below_drewN) | (exact Nat.le_refl _) | omega | (simp; done) | (simp; omega))) hb2 (by have := hbel.size; simp; omega)
                have x0 : w2.cell? ⟨wr.heap.size, 0, none⟩ = some (.int .i64 kind) := (by repeat' (first | (with_reducible refine cell1 ?_) | (with_reducible exact hb2) | (with_reducible refine cellK hb2 ?_) | ((with_reducible refine cell0 ?hb ?hv); (case hb => first | rfl | (simp; done)); (case hv => rfl)) | (with_reducible refine cellA ?_) | (with_reducible refine cellD ?_) | (with_reducible refine cellN ?_) | ((with_reducible refine cellS ?hn ?_); (case hn => first | (left; omega) | (right; omega) | (left; simp; omega))) | ((with_reducible refine has0 ?hb ?hv); (case hb => first | rfl | (simp; done)); (case hv => rfl)) | (with_reducible refine hasA ?_) | (with_reducible refine hasD ?_) | (with_reducible refine hasN ?_) | (with_reducible refine hasK hb2 ?_) | (with_reducible refine hasS ?_)))
                have x1 : w2.cell? ⟨wr.heap.size, 1, none⟩ = some (.string data) := (by repeat' (first | (with_reducible refine cell1 ?_) | (with_reducible exact hb2) | (with_reducible refine cellK hb2 ?_) | ((with_reducible refine cell0 ?hb ?hv); (case hb => first | rfl | (simp; done)); (case hv => rfl)) | (with_reducible refine cellA ?_) | (with_reducible refine cellD ?_) | (with_reducible refine cellN ?_) | ((with_reducible refine cellS ?hn ?_); (case hn => first | (left; omega) | (right; omega) | (left; simp; omega))) | ((with_reducible refine has0 ?hb ?hv); (case hb => first | rfl | (simp; done)); (case hv => rfl)) | (with_reducible refine hasA ?_) | (with_reducible refine hasD ?_) | (with_reducible refine hasN ?_) | (with_reducible refine hasK hb2 ?_) | (with_reducible refine hasS ?_)))
                have H2 := Lib.hid h2; have H3 := Lib.hid h3; clear h2 h3
                go_wp2_with fail
                refine (asks_any _ _ m _ H2.out).mono ?_
                rintro e w' ⟨rfl, rfl⟩
                rw [ha]
                go_wp2_with fail
                go_roundw
                case rel => exact ⟨k + 1, by go_num, HKK hlt, by rw [HST.out, show stepL 4 m (kind, data) = m from by show (if rightB kind data && asksB m kind then _ else _) = _; rw [hr, ha]; rfl]; exact H2, H3, bel2⟩
                case measure => simp [intOf]; omega
              · go_wp2_with fail
                refine (right_any kind data _).mono ?_
                rintro e w2 ⟨rfl, hb2⟩
                rw [hr]
                have h2 : Blk w2 w1.heap.size 48 (lkC m) := Blk.keep (by repeat' (first | (with_reducible exact HS.out) | (with_reducible refine Blk.far ?_ (by first | omega | (simp; done) | (simp; omega)) _) | (with_reducible refine Blk.alloc ?_ _) | (with_reducible refine Blk.drew ?_) | (with_reducible refine Blk.drewN ?_ _))) hb2
                have h3 : Blk w2 (w.heap.size + 1) 23 (lkC zeroL) := Blk.keep (by repeat' (first | (with_reducible exact HB.out) | (with_reducible refine Blk.far ?_ (by first | omega | (simp; done) | (simp; omega)) _) | (with_reducible refine Blk.alloc ?_ _) | (with_reducible refine Blk.drew ?_) | (with_reducible refine Blk.drewN ?_ _))) hb2
                have bel2 : Below w.heap.size w w2 := below_step (by repeat' (first | (with_reducible exact hbel) | (with_reducible refine Below.setCell ?_ (Nat.le_refl _) _) | (with_reducible apply Below.setCell) | (with_reducible apply Below.alloc) | (with_reducible apply Below.drew) | (with_reducible apply below_drewN) | (exact Nat.le_refl _) | omega | (simp; done) | (simp; omega))) hb2 (by have := hbel.size; simp; omega)
                have x0 : w2.cell? ⟨wr.heap.size, 0, none⟩ = some (.int .i64 kind) := (by repeat' (first | (with_reducible refine cell1 ?_) | (with_reducible exact hb2) | (with_reducible refine cellK hb2 ?_) | ((with_reducible refine cell0 ?hb ?hv); (case hb => first | rfl | (simp; done)); (case hv => rfl)) | (with_reducible refine cellA ?_) | (with_reducible refine cellD ?_) | (with_reducible refine cellN ?_) | ((with_reducible refine cellS ?hn ?_); (case hn => first | (left; omega) | (right; omega) | (left; simp; omega))) | ((with_reducible refine has0 ?hb ?hv); (case hb => first | rfl | (simp; done)); (case hv => rfl)) | (with_reducible refine hasA ?_) | (with_reducible refine hasD ?_) | (with_reducible refine hasN ?_) | (with_reducible refine hasK hb2 ?_) | (with_reducible refine hasS ?_)))
                have x1 : w2.cell? ⟨wr.heap.size, 1, none⟩ = some (.string data) := (by repeat' (first | (with_reducible refine cell1 ?_) | (with_reducible exact hb2) | (with_reducible refine cellK hb2 ?_) | ((with_reducible refine cell0 ?hb ?hv); (case hb => first | rfl | (simp; done)); (case hv => rfl)) | (with_reducible refine cellA ?_) | (with_reducible refine cellD ?_) | (with_reducible refine cellN ?_) | ((with_reducible refine cellS ?hn ?_); (case hn => first | (left; omega) | (right; omega) | (left; simp; omega))) | ((with_reducible refine has0 ?hb ?hv); (case hb => first | rfl | (simp; done)); (case hv => rfl)) | (with_reducible refine hasA ?_) | (with_reducible refine hasD ?_) | (with_reducible refine hasN ?_) | (with_reducible refine hasK hb2 ?_) | (with_reducible refine hasS ?_)))
                have H2 := Lib.hid h2; have H3 := Lib.hid h3; clear h2 h3
                go_wp2_with fail
                refine (asks_any _ _ m _ H2.out).mono ?_
                rintro e w' ⟨rfl, rfl⟩
                rw [ha]
                go_wp2_with fail
                refine (clear_any w1.heap.size kind m _ H2.out (right_six hr).1).mono ?_
                rintro e w3 h3
                have HST3 := Lib.hid h3; clear h3
                obtain ⟨rfl, -, -⟩ := HST3.out
                go_wp2_with fail
                go_roundw
                case rel => exact ⟨k + 1, by go_num, HKK hlt, by rw [HST.out, show stepL 4 m (kind, data) = clearL m kind from by show (if rightB kind data && asksB m kind then _ else _) = _; rw [hr, ha]; rfl]; exact HST3.2.1, H3.out.grown HST3.2.2 (by intro e; have e := Option.some.inj e; omega), below_gr bel2 HST3.2.2 bel2.size (by omega)⟩
                case measure => simp [intOf]; omega
          · have htk := HKE.out hlt
            rw [htk] at HM
            have s0 : wr.cell? ⟨w1.heap.size, 0, none⟩ = some (.int .i64 m.mru) := hside.cell 0
            have s1 : wr.cell? ⟨w1.heap.size, 1, none⟩ = some (.int .i64 m.magic) := hside.cell 1
            have s2 : wr.cell? ⟨w1.heap.size, 2, none⟩ = some (.int .i64 m.mrru) := hside.cell 2
            have s3 : wr.cell? ⟨w1.heap.size, 3, none⟩ = some (.bool m.short) := hside.cell 3
            have s4 : wr.cell? ⟨w1.heap.size, 4, none⟩ = some (.string m.disc) := hside.cell 4
            have s5 : wr.cell? ⟨w1.heap.size, 5, none⟩ = some (.int .i64 m.num) := hside.cell 5
            have sf := hside.frozen
            have qf := hrb.frozen
            have q0 : wr.cell? ⟨w.heap.size + 1, 0, none⟩ = some (.int .i64 0) := hrb.cell 0
            have q1 : wr.cell? ⟨w.heap.size + 1, 1, none⟩ = some (.int .i64 0) := hrb.cell 1
            have q2 : wr.cell? ⟨w.heap.size + 1, 2, none⟩ = some (.int .i64 0) := hrb.cell 2
            have q3 : wr.cell? ⟨w.heap.size + 1, 3, none⟩ = some (.bool false) := hrb.cell 3
            have q4 : wr.cell? ⟨w.heap.size + 1, 4, none⟩ = some (.string ⟨#[]⟩) := hrb.cell 4
            have q5 : wr.cell? ⟨w.heap.size + 1, 5, none⟩ = some (.int .i64 0) := hrb.cell 5
            clear hside hrb
            go_wp2_with fail
            refine bodyPost_ret (v := .tuple #[.agg #[.int .i64 m.mru, .int .i64 m.magic, .int .i64 m.mrru, .bool m.short, .string m.disc, .int .i64 m.num], .int .i64 0]) (by simp [results, Try.results16, go_sem, s0, s1, s2, s3, s4, s5, q0, q1, q2, q3, q4, q5, sf, qf]) rfl ?_
            exact ⟨(by repeat' (first | (with_reducible exact hbel) | (with_reducible refine Below.setCell ?_ (Nat.le_refl _) _) | (with_reducible apply Below.setCell) | (with_reducible apply Below.alloc) | (with_reducible apply Below.drew) | (with_reducible apply below_drewN) | (exact Nat.le_refl _) | omega | (simp; done) | (simp; omega))), by rw [hmay, HC.out, HM.out]; rfl⟩
    · have hc3 : (c == 3) = false := by unfold codeB at hc; simpa using (Bool.or_eq_false_iff.1 hc).1
      have hc4 : (c == 4) = false := by unfold codeB at hc; simpa using (Bool.or_eq_false_iff.1 hc).2
      go_enter Try.func16, Try.ntmps16
      go_wp2_with fail
      refine (may_any l _).mono ?_
      rintro e w1 ⟨rfl, hb1⟩
      rw [hmay]
      have bel1 : Below w.heap.size w w1 := below_step (((Below.refl _ w).alloc (Nat.le_refl _) _).alloc (by simp) _) hb1 (by simp; omega)
      have hz1 := hb1.size
      simp at hz1
      have HR1 : Blk w1 (w.heap.size + 1) 23 (lkC zeroL) := Blk.keep HRB hb1
      have r0 : w1.cell? ⟨w.heap.size + 1, 0, none⟩ = some (.int .i64 0) := HR1.cell 0
      have r1 : w1.cell? ⟨w.heap.size + 1, 1, none⟩ = some (.int .i64 0) := HR1.cell 1
      have r2 : w1.cell? ⟨w.heap.size + 1, 2, none⟩ = some (.int .i64 0) := HR1.cell 2
      have r3 : w1.cell? ⟨w.heap.size + 1, 3, none⟩ = some (.bool false) := HR1.cell 3
      have r4 : w1.cell? ⟨w.heap.size + 1, 4, none⟩ = some (.string ⟨#[]⟩) := HR1.cell 4
      have r5 : w1.cell? ⟨w.heap.size + 1, 5, none⟩ = some (.int .i64 0) := HR1.cell 5
      have rf := HR1.frozen
      have HL1 : Blk w1 w.heap.size 23 (lkC l) := Blk.keep (Blk.alloc HBL _) hb1
      have k0 : w1.cell? ⟨w.heap.size, 0, none⟩ = some (.int .i64 l.mru) := HL1.cell 0
      have k1 : w1.cell? ⟨w.heap.size, 1, none⟩ = some (.int .i64 l.magic) := HL1.cell 1
      have k2 : w1.cell? ⟨w.heap.size, 2, none⟩ = some (.int .i64 l.mrru) := HL1.cell 2
      have k3 : w1.cell? ⟨w.heap.size, 3, none⟩ = some (.bool l.short) := HL1.cell 3
      have k4 : w1.cell? ⟨w.heap.size, 4, none⟩ = some (.string l.disc) := HL1.cell 4
      have k5 : w1.cell? ⟨w.heap.size, 5, none⟩ = some (.int .i64 l.num) := HL1.cell 5
      have HR1' := Lib.hid HR1; clear HR1
      have HL1' := Lib.hid HL1; clear HL1
      go_wp2_with fail
      all_goals
        first
        | (refine bodyPost_ret (v := .tuple #[.agg #[.int .i64 0, .int .i64 0, .int .i64 0, .bool false, .string ⟨#[]⟩, .int .i64 0], .int .i64 1400]) (by simp [results, Try.results16, go_sem, r0, r1, r2, r3, r4, r5, rf]) rfl ?_
           exact ⟨(by repeat' (first | (with_reducible exact bel1) | (with_reducible refine Below.setCell ?_ (Nat.le_refl _) _) | (with_reducible apply Below.setCell) | (with_reducible apply Below.alloc) | (with_reducible apply Below.drew) | (with_reducible apply below_drewN) | (exact Nat.le_refl _) | omega | (simp; done) | (simp; omega))), by rw [hmay, hc]; rfl⟩)
        | (exfalso; simp_all; done)
end Go.Proofs.Ytjmcgekegenobaa
