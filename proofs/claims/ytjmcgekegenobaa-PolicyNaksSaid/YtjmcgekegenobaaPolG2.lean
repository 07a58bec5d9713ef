/- The contract of package policy's Judge, told more: what it answers lies in memory of its own. No condition but that options may be put and that a length is an int's and within the capacity. -/
import Derived.Test.YtjmcgekegenobaaPolG
namespace Go.Proofs.Ytjmcgekegenobaa
open Go.RowKit
set_option linter.unusedVariables false
set_option linter.unusedSimpArgs false
attribute [local go_sem] conv1 conv1d conv1n conv1a conv1ad conv1an conv2 conv2d conv2n conv2a conv2ad conv2an conv4 conv4d conv4n conv4a conv4ad conv4an conv5 conv5d conv5n conv5a conv5ad conv5an size_nums byt_fold
def FreshA (w : World) (A : Option Addr) : Prop := ∀ ad, A = some ad → w.heap.size ≤ ad.block
def JudB2 (l : Lk) (os : List (Int × ByteArray)) (w : World) (e : Ending) (w' : World) : Prop :=
  (mayB l = true ∧ ∃ A n cap, e = .returned (.tuple #[.int .i64 (judV l os), .slice A n cap, .int .i64 0]) ∧ Res w' A n cap (judL l os) ∧ Below w.heap.size w w' ∧ FreshA w A) ∨ (mayB l = false ∧ e = .returned (.tuple #[.int .i64 0, .slice none 0 0, .int .i64 1400]) ∧ Below w.heap.size w w')
theorem fresh_own {w W : World} {base n cap : Nat} {A : Option Addr} {xs : List Value} (h : W.ownsRow base 36 2 (.slice A n cap) n xs) (hb : w.heap.size ≤ base) : FreshA w A := by
  intro ad e
  subst e
  have := (h.lt ad.block rfl).1
  omega
theorem judge2_ok {l : Lk} {os : List (Int × ByteArray)} {w w' : World} {e : Ending} (hm : mayB l = true) (h : JudB2 l os w e w') : ∃ A n cap, e = .returned (.tuple #[.int .i64 (judV l os), .slice A n cap, .int .i64 0]) ∧ Res w' A n cap (judL l os) ∧ Below w.heap.size w w' ∧ FreshA w A := by
  rcases h with ⟨-, h⟩ | ⟨h, -⟩
  · exact h
  · rw [hm] at h; cases h
set_option maxRecDepth 100000 in
set_option maxHeartbeats 16000000 in
theorem judge2_any (l : Lk) (A : Option Addr) (n cap : Nat) (os : List (Int × ByteArray)) (w : World) (hv : OptsAt w A n os) (hn : n * 24 ≤ 140737488351232) (hnil : A = none → n = 0 ∧ cap = 0) (hcap : n ≤ cap) (hf : FitsAll os) : Calls Try.prog 13 #[lkV l, .slice A n cap] w (JudB2 l os w) := by
  obtain ⟨i0, hi, hz0, hz1, hz2⟩ := info_parts info_opt2
  have HZ1 := Lib.hid hz1; have HZ2 := Lib.hid hz2; have HZ0 := Lib.hid hz0; have HI := Lib.hid hi
  clear hz0 hz1 hz2 hi
  have HV := Lib.hid hv; clear hv
  have HN := Lib.hid hnil; clear hnil
  have HF := Lib.hid hf; clear hf
  have hbl := Blk.new w 23 (lkC l)
  have HBL := Lib.hid hbl; clear hbl
  show Calls _ _ #[.agg #[.int .i64 l.mru, .int .i64 l.magic, .int .i64 l.mrru, .bool l.short, .string l.disc, .int .i64 l.num], _] _ _
  cases hmay : mayB l
  · go_enter Try.func13, Try.ntmps13
    go_wp2_with fail
    refine (may_any l _).mono ?_
    rintro e w1 ⟨rfl, hb1⟩
    rw [hmay]
    have bel1 := below_step ((Below.refl _ w).alloc (Nat.le_refl _) _) hb1 (by simp)
    go_wp2_with fail
    refine bodyPost_ret (v := .tuple #[.int .i64 0, .slice none 0 0, .int .i64 1400]) (by simp [results, Try.results13, go_sem]) rfl ?_
    exact .inr ⟨hmay, rfl, bel1⟩
  · have HR := Lib.hid (may_range hmay)
    go_enter Try.func13, Try.ntmps13
    go_wp2_with fail
    refine (may_any l _).mono ?_
    rintro e w1 ⟨rfl, hb1⟩
    rw [hmay]
    have bel1 := below_step ((Below.refl _ w).alloc (Nat.le_refl _) _) hb1 (by simp)
    have hz1 := hb1.size
    simp at hz1
    have hl1 : Blk w1 w.heap.size 23 (lkC l) := HBL.out.keep hb1
    have k0 : w1.cell? ⟨w.heap.size, 0, none⟩ = some (.int .i64 l.mru) := hl1.cell 0
    have k1 : w1.cell? ⟨w.heap.size, 1, none⟩ = some (.int .i64 l.magic) := hl1.cell 1
    have k2 : w1.cell? ⟨w.heap.size, 2, none⟩ = some (.int .i64 l.mrru) := hl1.cell 2
    have k3 : w1.cell? ⟨w.heap.size, 3, none⟩ = some (.bool l.short) := hl1.cell 3
    have k4 : w1.cell? ⟨w.heap.size, 4, none⟩ = some (.string l.disc) := hl1.cell 4
    have k5 : w1.cell? ⟨w.heap.size, 5, none⟩ = some (.int .i64 l.num) := hl1.cell 5
    have HL1 := Lib.hid hl1; clear hl1
    have hzl : w.heap.size < w1.heap.size := by omega
    go_wp2_with fail
    go_loopw [8, 9, 22] (fun v u i wr => ∃ k : Nat, i = .int .i64 k ∧ JudR l os w1.heap.size w v u k wr) (fun _ _ i _ => n - (intOf i).toNat)
    case atStart => exact ⟨0, rfl, Nat.zero_le _, by simp, World.ownsRow_nil _ _ _ _, World.ownsRow_nil _ _ _ _, (fun g h => (by cases h)), Blk.new w1 _ (lkC l), HL1.out.alloc _, (by repeat' (first | (with_reducible exact bel1) | (with_reducible refine Below.setCell ?_ (Nat.le_refl _) _) | (with_reducible apply Below.setCell) | (with_reducible apply Below.alloc) | (with_reducible apply Below.drew) | (with_reducible apply below_drewN) | (exact Nat.le_refl _) | omega | (simp; done) | (simp; omega)))⟩
    case round =>
      obtain ⟨k, rfl, hJ⟩ := hrel
      obtain ⟨hk, hB, hown8, hown9, -, hside, hlb, hbel⟩ := id hJ
      have HJ := Lib.hid hJ; clear hJ
      have hrl := rejTo_len l os k
      have hnl := nakTo_len l os k
      have hlen := HV.out.1
      have hkn : k ≤ n := by omega
      have hke : ¬ k < n → k = os.length := by intro h; omega
      have HKE := Lib.hid hke; clear hke
      clear hlen
      have HS := Lib.hid hside; have HLB := Lib.hid hlb; have HO8 := Lib.hid hown8; have HO9 := Lib.hid hown9
      have z1 := hside.lt
      have z2 := hlb.lt
      clear hside hlb hown8 hown9
      by_cases hlt : k < n
      · obtain ⟨b, off, kind, data, rfl, hb, ho, c1, c2⟩ := (HV.out.keep hbel).at_ k hlt
        have hfit := HF.out k _ ho
        have HO := Lib.hid ho; clear ho
        have hkc : (k : Int) ≤ (cap : Int) := by omega
        have hk0 : (0 : Int) ≤ (k : Int) := by omega
        have hd1 : decide (kind < 0) = false := decide_eq_false (by have := hfit.1; simp at this; omega)
        have hd2 : decide (255 < kind) = false := decide_eq_false (by have := hfit.2.1; simp at this; omega)
        have hd3 : decide (253 < (data.size : Int)) = false := decide_eq_false (by have := hfit.2.2; simp at this; omega)
        have hdz : data.size ≤ 140737488351232 := by have := hfit.2.2; simp at this; omega
        clear hfit
        obtain ⟨fi, hfi⟩ : ∃ fi, idxOf (fun x _ => x == kind) (os.take k) = fi := ⟨_, rfl⟩
        have hba : isBadO l os k (kind, data) = (!rightB kind data || (kind == 18 && !l.short) || decide (0 ≤ fi)) := by rw [← hfi]; rfl
        have HBA := Lib.hid hba; have HFI := Lib.hid hfi; clear hba hfi
        obtain ⟨lr, hlr⟩ : ∃ lr, rejTo l os k = lr := ⟨_, rfl⟩
        obtain ⟨ln, hln⟩ : ∃ ln, nakTo l os k = ln := ⟨_, rfl⟩
        rw [hlr] at HO8 hrl
        rw [hln] at HO9 hnl
        have HLR := Lib.hid hlr; have HLN := Lib.hid hln; clear hlr hln
        cases hr : rightB kind data
        · go_wp2_with fail
          have x0 : (wr.alloc (Obj.cells #[Value.int IntKind.i64 kind, Value.string data] 36)).cell? ⟨wr.heap.size, 0, none⟩ = some (.int .i64 kind) := cell0 rfl rfl
          have x1 : (wr.alloc (Obj.cells #[Value.int IntKind.i64 kind, Value.string data] 36)).cell? ⟨wr.heap.size, 1, none⟩ = some (.string data) := cell0 rfl rfl
          have x3 : (wr.alloc (Obj.cells #[Value.int IntKind.i64 kind, Value.string data] 36)).cell? ⟨w.heap.size, 3, none⟩ = some (.bool l.short) := (HLB.out.alloc _).cell 3 |>.trans (by first | rfl | (rw [← hs]; rfl))
          have vA : OptsAt (wr.alloc (Obj.cells #[Value.int IntKind.i64 kind, Value.string data] 36)) (some ⟨b, off, none⟩) k (os.take k) := ((HV.out.keep hbel).take k (by omega)).keep ((Below.refl _ _).alloc (Nat.le_refl _) _)
          have wA : Below wr.heap.size wr (wr.alloc (Obj.cells #[Value.int IntKind.i64 kind, Value.string data] 36)) := (Below.refl _ _).alloc (Nat.le_refl _) _
          generalize (wr.alloc (Obj.cells #[Value.int IntKind.i64 kind, Value.string data] 36)) = WA at *
          have VA := Lib.hid vA; clear vA
          refine wp_region_held_drew (S := fun W => Below WA.heap.size WA W) (by kernel_rfl) (Below.refl _ _).drew (fun hHeld => ?_)
          (refine wpAnyH_take (i := 0) (oi := _) (v := ?vA0) rfl (by kernel_rfl) (by kernel_rfl) (by kernel_rfl) (fun _ _ _ h => h) (Or.inl ⟨by kernel_rfl, ?yA0⟩) (by assumption) ?_; rotate_left; (· (intro w hSw; have hw1 := cellK hSw x0; have hw2 := cellK hSw x1; have hw3 := cellK hSw x3; go_simp; try with_reducible rfl)); simp only [Act.put, List.setIfInBounds_toArray, List.set_cons_zero, List.set_cons_succ, List.getElem_toArray, List.getElem_cons_succ, List.getElem_cons_zero])
          (refine wpAnyH_ready (rs := [1]) (by kernel_rfl) (by simp) ?_; refine AllReadyH.cons (o := _) rfl (fun K hK => ?_) AllReadyH.nil; rw [if_pos (by kernel_rfl)])
          go_simp
          refine (right_any kind data _).mono ?_
          rintro e u1 ⟨rfl, hbu⟩
          rw [hr]
          go_simp
          (refine hK.out _ _ ?_ (fun hHeld => ?_))
          · exact keepB (A := WA) hHeld rfl hbu
          have hHu1 : Below WA.heap.size WA u1 := hHeld
          (refine wpAnyH_take (i := 2) (oi := _) (v := ?vA2) rfl (by kernel_rfl) (by kernel_rfl) (by kernel_rfl) (fun _ _ _ h => h) (Or.inl ⟨by kernel_rfl, ?yA2⟩) (by assumption) ?_; rotate_left; (· (intro w hSw; skip; go_simp; try with_reducible rfl)); simp only [Act.put, List.setIfInBounds_toArray, List.set_cons_zero, List.set_cons_succ, List.getElem_toArray, List.getElem_cons_succ, List.getElem_cons_zero])
          (refine wpAnyH_take (i := 3) (oi := _) (v := ?vA3) rfl (by kernel_rfl) (by kernel_rfl) (by kernel_rfl) (fun _ _ _ h => h) (Or.inl ⟨by kernel_rfl, ?yA3⟩) (by assumption) ?_; rotate_left; (· (intro w hSw; skip; go_simp; try with_reducible rfl)); simp only [Act.put, List.setIfInBounds_toArray, List.set_cons_zero, List.set_cons_succ, List.getElem_toArray, List.getElem_cons_succ, List.getElem_cons_zero])
          (refine wpAnyH_take (i := 4) (oi := _) (v := _) rfl (by kernel_rfl) (by kernel_rfl) (by kernel_rfl) (fun _ _ _ h => h) (Or.inr ⟨by kernel_rfl, rfl⟩) (by assumption) ?_; simp only [Act.put, List.setIfInBounds_toArray, List.set_cons_zero, List.set_cons_succ, List.getElem_toArray, List.getElem_cons_succ, List.getElem_cons_zero])
          (refine wpAnyH_take (i := 5) (oi := _) (v := _) rfl (by kernel_rfl) (by kernel_rfl) (by kernel_rfl) (fun _ _ _ h => h) (Or.inr ⟨by kernel_rfl, rfl⟩) (by assumption) ?_; simp only [Act.put, List.setIfInBounds_toArray, List.set_cons_zero, List.set_cons_succ, List.getElem_toArray, List.getElem_cons_succ, List.getElem_cons_zero])
          (refine wpAnyH_take (i := 6) (oi := _) (v := _) rfl (by kernel_rfl) (by kernel_rfl) (by kernel_rfl) (fun _ _ _ h => h) (Or.inr ⟨by kernel_rfl, rfl⟩) (by assumption) ?_; simp only [Act.put, List.setIfInBounds_toArray, List.set_cons_zero, List.set_cons_succ, List.getElem_toArray, List.getElem_cons_succ, List.getElem_cons_zero])
          (refine wpAnyH_take (i := 7) (oi := _) (v := _) rfl (by kernel_rfl) (by kernel_rfl) (by kernel_rfl) (fun _ _ _ h => h) (Or.inr ⟨by kernel_rfl, rfl⟩) (by assumption) ?_; simp only [Act.put, List.setIfInBounds_toArray, List.set_cons_zero, List.set_cons_succ, List.getElem_toArray, List.getElem_cons_succ, List.getElem_cons_zero])
          (refine wpAnyH_take (i := 8) (oi := _) (v := _) rfl (by kernel_rfl) (by kernel_rfl) (by kernel_rfl) (fun _ _ _ h => h) (Or.inr ⟨by kernel_rfl, rfl⟩) (by assumption) ?_; simp only [Act.put, List.setIfInBounds_toArray, List.set_cons_zero, List.set_cons_succ, List.getElem_toArray, List.getElem_cons_succ, List.getElem_cons_zero])
          (refine wpAnyH_take (i := 9) (oi := _) (v := _) rfl (by kernel_rfl) (by kernel_rfl) (by kernel_rfl) (fun _ _ _ h => h) (Or.inr ⟨by kernel_rfl, rfl⟩) (by assumption) ?_; simp only [Act.put, List.setIfInBounds_toArray, List.set_cons_zero, List.set_cons_succ, List.getElem_toArray, List.getElem_cons_succ, List.getElem_cons_zero])
          (refine wpAnyH_take (i := 10) (oi := _) (v := _) rfl (by kernel_rfl) (by kernel_rfl) (by kernel_rfl) (fun _ _ _ h => h) (Or.inr ⟨by kernel_rfl, rfl⟩) (by assumption) ?_; simp only [Act.put, List.setIfInBounds_toArray, List.set_cons_zero, List.set_cons_succ, List.getElem_toArray, List.getElem_cons_succ, List.getElem_cons_zero])
          (refine wpAnyH_take (i := 11) (oi := _) (v := _) rfl (by kernel_rfl) (by kernel_rfl) (by kernel_rfl) (fun _ _ _ h => h) (Or.inr ⟨by kernel_rfl, rfl⟩) (by assumption) ?_; simp only [Act.put, List.setIfInBounds_toArray, List.set_cons_zero, List.set_cons_succ, List.getElem_toArray, List.getElem_cons_succ, List.getElem_cons_zero])
          (refine wpAnyH_take (i := 12) (oi := _) (v := ?vA12) rfl (by kernel_rfl) (by kernel_rfl) (by kernel_rfl) (fun _ _ _ h => h) (Or.inl ⟨by kernel_rfl, ?yA12⟩) (by assumption) ?_; rotate_left; (· (intro w hSw; skip; go_simp; try with_reducible rfl)); simp only [Act.put, List.setIfInBounds_toArray, List.set_cons_zero, List.set_cons_succ, List.getElem_toArray, List.getElem_cons_succ, List.getElem_cons_zero])
          (refine wpAnyH_take (i := 13) (oi := _) (v := ?vA13) rfl (by kernel_rfl) (by kernel_rfl) (by kernel_rfl) (fun _ _ _ h => h) (Or.inl ⟨by kernel_rfl, ?yA13⟩) (by assumption) ?_; rotate_left; (· (intro w hSw; skip; go_simp; try with_reducible rfl)); simp only [Act.put, List.setIfInBounds_toArray, List.set_cons_zero, List.set_cons_succ, List.getElem_toArray, List.getElem_cons_succ, List.getElem_cons_zero])
          (refine wpAnyH_take (i := 14) (oi := _) (v := _) rfl (by kernel_rfl) (by kernel_rfl) (by kernel_rfl) (fun _ _ _ h => h) (Or.inr ⟨by kernel_rfl, rfl⟩) (by assumption) ?_; simp only [Act.put, List.setIfInBounds_toArray, List.set_cons_zero, List.set_cons_succ, List.getElem_toArray, List.getElem_cons_succ, List.getElem_cons_zero])
          (refine wpAnyH_take (i := 15) (oi := _) (v := _) rfl (by kernel_rfl) (by kernel_rfl) (by kernel_rfl) (fun _ _ _ h => h) (Or.inr ⟨by kernel_rfl, rfl⟩) (by assumption) ?_; simp only [Act.put, List.setIfInBounds_toArray, List.set_cons_zero, List.set_cons_succ, List.getElem_toArray, List.getElem_cons_succ, List.getElem_cons_zero])
          (refine wpAnyH_take (i := 16) (oi := _) (v := _) rfl (by kernel_rfl) (by kernel_rfl) (by kernel_rfl) (fun _ _ _ h => h) (Or.inr ⟨by kernel_rfl, rfl⟩) (by assumption) ?_; simp only [Act.put, List.setIfInBounds_toArray, List.set_cons_zero, List.set_cons_succ, List.getElem_toArray, List.getElem_cons_succ, List.getElem_cons_zero])
          (refine wpAnyH_take (i := 17) (oi := _) (v := _) rfl (by kernel_rfl) (by kernel_rfl) (by kernel_rfl) (fun _ _ _ h => h) (Or.inr ⟨by kernel_rfl, rfl⟩) (by assumption) ?_; simp only [Act.put, List.setIfInBounds_toArray, List.set_cons_zero, List.set_cons_succ, List.getElem_toArray, List.getElem_cons_succ, List.getElem_cons_zero])
          (refine wpAnyH_take (i := 18) (oi := _) (v := _) rfl (by kernel_rfl) (by kernel_rfl) (by kernel_rfl) (fun _ _ _ h => h) (Or.inr ⟨by kernel_rfl, rfl⟩) (by assumption) ?_; simp only [Act.put, List.setIfInBounds_toArray, List.set_cons_zero, List.set_cons_succ, List.getElem_toArray, List.getElem_cons_succ, List.getElem_cons_zero])
          (refine wpAnyH_take (i := 19) (oi := _) (v := _) rfl (by kernel_rfl) (by kernel_rfl) (by kernel_rfl) (fun _ _ _ h => h) (Or.inr ⟨by kernel_rfl, rfl⟩) (by assumption) ?_; simp only [Act.put, List.setIfInBounds_toArray, List.set_cons_zero, List.set_cons_succ, List.getElem_toArray, List.getElem_cons_succ, List.getElem_cons_zero])
          (refine wpAnyH_take (i := 20) (oi := _) (v := _) rfl (by kernel_rfl) (by kernel_rfl) (by kernel_rfl) (fun _ _ _ h => h) (Or.inr ⟨by kernel_rfl, rfl⟩) (by assumption) ?_; simp only [Act.put, List.setIfInBounds_toArray, List.set_cons_zero, List.set_cons_succ, List.getElem_toArray, List.getElem_cons_succ, List.getElem_cons_zero])
          (refine wpAnyH_take (i := 21) (oi := _) (v := ?vA21) rfl (by kernel_rfl) (by kernel_rfl) (by kernel_rfl) (fun _ _ _ h => h) (Or.inl ⟨by kernel_rfl, ?yA21⟩) (by assumption) ?_; rotate_left; (· (intro w hSw; skip; go_simp; try with_reducible rfl)); simp only [Act.put, List.setIfInBounds_toArray, List.set_cons_zero, List.set_cons_succ, List.getElem_toArray, List.getElem_cons_succ, List.getElem_cons_zero])
          (refine wpAnyH_done (by kernel_rfl) ?_ _)
          have wU : Below wr.heap.size wr u1 := below_step wA hHu1 wA.size
          have y0 : u1.cell? ⟨wr.heap.size, 0, none⟩ = some (.int .i64 kind) := cellK hHu1 x0
          have y1 : u1.cell? ⟨wr.heap.size, 1, none⟩ = some (.string data) := cellK hHu1 x1
          have hob := own_belowW HO8.out wU
          have HOB := Lib.hid hob; clear hob
          have hbad : isBadO l os k (kind, data) = true := by rw [HBA.out, hr]; rfl
          have HBAD := Lib.hid hbad; clear hbad
          go_wp2_with (at_builtin; refine wpList_append_two rfl _ _ 25 rfl (w1.heap.size + 1) 36 i0 _ 2 24 Try.underlying25 HI.out HZ0.out HZ1.out HZ2.out rfl (by omega) _ _ _ rfl (HOB.out.alloc _) ⟨u1.heap.size, 0, none⟩ 1 1 [.int .i64 kind, .string data] rfl rfl (two_cells_at _ _ (by simp) _ _ _) (by simp [Value.oneCell']) (by omega) ?ca1 ?ca2 ?ca3 ?_)
          case ca1 => unfold maxLen; omega
          case ca2 => omega
          case ca3 => have := wU.size; simp; omega
          intro v4 w4 hown4 hgrow hblk
          have fin := jud_rej HJ.out hzl wU HO.out HBAD.out (by rw [HLR.out]; exact hown4) hgrow (by simp) hblk
          have FIN := Lib.hid fin; clear fin hown4 hgrow hblk
          go_wp2_with fail
          go_roundw
          case rel => exact ⟨k + 1, by go_num, FIN⟩
          case measure => simp [intOf]; omega
        · cases h18 : (kind == 18)
          · go_wp2_with fail
            have x0 : (wr.alloc (Obj.cells #[Value.int IntKind.i64 kind, Value.string data] 36)).cell? ⟨wr.heap.size, 0, none⟩ = some (.int .i64 kind) := cell0 rfl rfl
            have x1 : (wr.alloc (Obj.cells #[Value.int IntKind.i64 kind, Value.string data] 36)).cell? ⟨wr.heap.size, 1, none⟩ = some (.string data) := cell0 rfl rfl
            have x3 : (wr.alloc (Obj.cells #[Value.int IntKind.i64 kind, Value.string data] 36)).cell? ⟨w.heap.size, 3, none⟩ = some (.bool l.short) := (HLB.out.alloc _).cell 3 |>.trans (by first | rfl | (rw [← hs]; rfl))
            have vA : OptsAt (wr.alloc (Obj.cells #[Value.int IntKind.i64 kind, Value.string data] 36)) (some ⟨b, off, none⟩) k (os.take k) := ((HV.out.keep hbel).take k (by omega)).keep ((Below.refl _ _).alloc (Nat.le_refl _) _)
            have wA : Below wr.heap.size wr (wr.alloc (Obj.cells #[Value.int IntKind.i64 kind, Value.string data] 36)) := (Below.refl _ _).alloc (Nat.le_refl _) _
            generalize (wr.alloc (Obj.cells #[Value.int IntKind.i64 kind, Value.string data] 36)) = WA at *
            have VA := Lib.hid vA; clear vA
            refine wp_region_held_drew (S := fun W => Below WA.heap.size WA W) (by kernel_rfl) (Below.refl _ _).drew (fun hHeld => ?_)
            (refine wpAnyH_take (i := 0) (oi := _) (v := ?vD0) rfl (by kernel_rfl) (by kernel_rfl) (by kernel_rfl) (fun _ _ _ h => h) (Or.inl ⟨by kernel_rfl, ?yD0⟩) (by assumption) ?_; rotate_left; (· (intro w hSw; have hw1 := cellK hSw x0; have hw2 := cellK hSw x1; have hw3 := cellK hSw x3; go_simp; try with_reducible rfl)); simp only [Act.put, List.setIfInBounds_toArray, List.set_cons_zero, List.set_cons_succ, List.getElem_toArray, List.getElem_cons_succ, List.getElem_cons_zero])
            (refine wpAnyH_ready (rs := [1]) (by kernel_rfl) (by simp) ?_; refine AllReadyH.cons (o := _) rfl (fun K hK => ?_) AllReadyH.nil; rw [if_pos (by kernel_rfl)])
            go_simp
            refine (right_any kind data _).mono ?_
            rintro e u1 ⟨rfl, hbu⟩
            rw [hr]
            go_simp
            (refine hK.out _ _ ?_ (fun hHeld => ?_))
            · exact keepB (A := WA) hHeld rfl hbu
            have hHu1 : Below WA.heap.size WA u1 := hHeld
            (refine wpAnyH_take (i := 2) (oi := _) (v := ?vD2) rfl (by kernel_rfl) (by kernel_rfl) (by kernel_rfl) (fun _ _ _ h => h) (Or.inl ⟨by kernel_rfl, ?yD2⟩) (by assumption) ?_; rotate_left; (· (intro w hSw; skip; go_simp; try with_reducible rfl)); simp only [Act.put, List.setIfInBounds_toArray, List.set_cons_zero, List.set_cons_succ, List.getElem_toArray, List.getElem_cons_succ, List.getElem_cons_zero])
            (refine wpAnyH_take (i := 3) (oi := _) (v := ?vD3) rfl (by kernel_rfl) (by kernel_rfl) (by kernel_rfl) (fun _ _ _ h => h) (Or.inl ⟨by kernel_rfl, ?yD3⟩) (by assumption) ?_; rotate_left; (· (intro w hSw; skip; go_simp; try with_reducible rfl)); simp only [Act.put, List.setIfInBounds_toArray, List.set_cons_zero, List.set_cons_succ, List.getElem_toArray, List.getElem_cons_succ, List.getElem_cons_zero])
            (refine wpAnyH_take (i := 4) (oi := _) (v := ?vD4) rfl (by kernel_rfl) (by kernel_rfl) (by kernel_rfl) (fun _ _ _ h => h) (Or.inl ⟨by kernel_rfl, ?yD4⟩) (by assumption) ?_; rotate_left; (· (intro w hSw; have hw1 := cellK hSw x0; have hw2 := cellK hSw x1; have hw3 := cellK hSw x3; go_simp; try with_reducible rfl)); simp only [Act.put, List.setIfInBounds_toArray, List.set_cons_zero, List.set_cons_succ, List.getElem_toArray, List.getElem_cons_succ, List.getElem_cons_zero])
            (refine wpAnyH_take (i := 5) (oi := _) (v := ?vD5) rfl (by kernel_rfl) (by kernel_rfl) (by kernel_rfl) (fun _ _ _ h => h) (Or.inl ⟨by kernel_rfl, ?yD5⟩) (by assumption) ?_; rotate_left; (· (intro w hSw; have hw1 := cellK hSw x0; have hw2 := cellK hSw x1; have hw3 := cellK hSw x3; go_simp; try with_reducible rfl)); simp only [Act.put, List.setIfInBounds_toArray, List.set_cons_zero, List.set_cons_succ, List.getElem_toArray, List.getElem_cons_succ, List.getElem_cons_zero])
            (refine wpAnyH_take (i := 6) (oi := _) (v := ?vD6) rfl (by kernel_rfl) (by kernel_rfl) (by kernel_rfl) (fun _ _ _ h => h) (Or.inl ⟨by kernel_rfl, ?yD6⟩) (by assumption) ?_; rotate_left; (· (intro w hSw; have hw1 := cellK hSw x0; have hw2 := cellK hSw x1; have hw3 := cellK hSw x3; go_simp; try with_reducible rfl)); simp only [Act.put, List.setIfInBounds_toArray, List.set_cons_zero, List.set_cons_succ, List.getElem_toArray, List.getElem_cons_succ, List.getElem_cons_zero])
            (refine wpAnyH_take (i := 7) (oi := _) (v := ?vD7) rfl (by kernel_rfl) (by kernel_rfl) (by kernel_rfl) (fun _ _ _ h => h) (Or.inl ⟨by kernel_rfl, ?yD7⟩) (by assumption) ?_; rotate_left; (· (intro w hSw; have hw1 := cellK hSw x0; have hw2 := cellK hSw x1; have hw3 := cellK hSw x3; go_simp; try with_reducible rfl)); simp only [Act.put, List.setIfInBounds_toArray, List.set_cons_zero, List.set_cons_succ, List.getElem_toArray, List.getElem_cons_succ, List.getElem_cons_zero])
            (refine wpAnyH_take (i := 8) (oi := _) (v := _) rfl (by kernel_rfl) (by kernel_rfl) (by kernel_rfl) (fun _ _ _ h => h) (Or.inr ⟨by kernel_rfl, rfl⟩) (by assumption) ?_; simp only [Act.put, List.setIfInBounds_toArray, List.set_cons_zero, List.set_cons_succ, List.getElem_toArray, List.getElem_cons_succ, List.getElem_cons_zero])
            (refine wpAnyH_take (i := 9) (oi := _) (v := _) rfl (by kernel_rfl) (by kernel_rfl) (by kernel_rfl) (fun _ _ _ h => h) (Or.inr ⟨by kernel_rfl, rfl⟩) (by assumption) ?_; simp only [Act.put, List.setIfInBounds_toArray, List.set_cons_zero, List.set_cons_succ, List.getElem_toArray, List.getElem_cons_succ, List.getElem_cons_zero])
            (refine wpAnyH_take (i := 10) (oi := _) (v := _) rfl (by kernel_rfl) (by kernel_rfl) (by kernel_rfl) (fun _ _ _ h => h) (Or.inr ⟨by kernel_rfl, rfl⟩) (by assumption) ?_; simp only [Act.put, List.setIfInBounds_toArray, List.set_cons_zero, List.set_cons_succ, List.getElem_toArray, List.getElem_cons_succ, List.getElem_cons_zero])
            (refine wpAnyH_take (i := 11) (oi := _) (v := ?vD11) rfl (by kernel_rfl) (by kernel_rfl) (by kernel_rfl) (fun _ _ _ h => h) (Or.inl ⟨by kernel_rfl, ?yD11⟩) (by assumption) ?_; rotate_left; (· (intro w hSw; skip; go_simp; try with_reducible rfl)); simp only [Act.put, List.setIfInBounds_toArray, List.set_cons_zero, List.set_cons_succ, List.getElem_toArray, List.getElem_cons_succ, List.getElem_cons_zero])
            (refine wpAnyH_take (i := 12) (oi := _) (v := ?vD12) rfl (by kernel_rfl) (by kernel_rfl) (by kernel_rfl) (fun _ _ _ h => h) (Or.inl ⟨by kernel_rfl, ?yD12⟩) (by assumption) ?_; rotate_left; (· (intro w hSw; skip; go_simp; try with_reducible rfl)); simp only [Act.put, List.setIfInBounds_toArray, List.set_cons_zero, List.set_cons_succ, List.getElem_toArray, List.getElem_cons_succ, List.getElem_cons_zero])
            (refine wpAnyH_take (i := 13) (oi := _) (v := ?vD13) rfl (by kernel_rfl) (by kernel_rfl) (by kernel_rfl) (fun _ _ _ h => h) (Or.inl ⟨by kernel_rfl, ?yD13⟩) (by assumption) ?_; rotate_left; (· (intro w hSw; skip; go_simp; try with_reducible rfl)); simp only [Act.put, List.setIfInBounds_toArray, List.set_cons_zero, List.set_cons_succ, List.getElem_toArray, List.getElem_cons_succ, List.getElem_cons_zero])
            (refine wpAnyH_take (i := 14) (oi := _) (v := ?vD14) rfl (by kernel_rfl) (by kernel_rfl) (by kernel_rfl) (fun _ _ _ h => h) (Or.inl ⟨by kernel_rfl, ?yD14⟩) (by assumption) ?_; rotate_left; (· (intro w hSw; have hw1 := cellK hSw x0; have hw2 := cellK hSw x1; have hw3 := cellK hSw x3; go_simp; try with_reducible rfl)); simp only [Act.put, List.setIfInBounds_toArray, List.set_cons_zero, List.set_cons_succ, List.getElem_toArray, List.getElem_cons_succ, List.getElem_cons_zero])
            (refine wpAnyH_take (i := 15) (oi := _) (v := ?vD15) rfl (by kernel_rfl) (by kernel_rfl) (by kernel_rfl) (fun _ _ _ h => h) (Or.inl ⟨by kernel_rfl, ?yD15⟩) (by assumption) ?_; rotate_left; (· (intro w hSw; have hw1 := cellK hSw x0; have hw2 := cellK hSw x1; have hw3 := cellK hSw x3; go_simp; try with_reducible rfl)); simp only [Act.put, List.setIfInBounds_toArray, List.set_cons_zero, List.set_cons_succ, List.getElem_toArray, List.getElem_cons_succ, List.getElem_cons_zero])
            (refine wpAnyH_take (i := 16) (oi := _) (v := ?vD16) rfl (by kernel_rfl) (by kernel_rfl) (by kernel_rfl) (fun _ _ _ h => h) (Or.inl ⟨by kernel_rfl, ?yD16⟩) (by assumption) ?_; rotate_left; (· (intro w hSw; have hw1 := cellK hSw x0; have hw2 := cellK hSw x1; have hw3 := cellK hSw x3; go_simp; try with_reducible rfl)); simp only [Act.put, List.setIfInBounds_toArray, List.set_cons_zero, List.set_cons_succ, List.getElem_toArray, List.getElem_cons_succ, List.getElem_cons_zero])
            (refine wpAnyH_take (i := 17) (oi := _) (v := ?vD17) rfl (by kernel_rfl) (by kernel_rfl) (by kernel_rfl) (fun _ _ _ h => h) (Or.inl ⟨by kernel_rfl, ?yD17⟩) (by assumption) ?_; rotate_left; (· (intro w hSw; have hw1 := cellK hSw x0; have hw2 := cellK hSw x1; have hw3 := cellK hSw x3; go_simp; try with_reducible rfl)); simp only [Act.put, List.setIfInBounds_toArray, List.set_cons_zero, List.set_cons_succ, List.getElem_toArray, List.getElem_cons_succ, List.getElem_cons_zero])
            (refine wpAnyH_take (i := 18) (oi := _) (v := ?vD18) rfl (by kernel_rfl) (by kernel_rfl) (by kernel_rfl) (fun _ _ _ h => h) (Or.inl ⟨by kernel_rfl, ?yD18⟩) (by assumption) ?_; rotate_left; (· (intro w hSw; have hw1 := cellK hSw x0; have hw2 := cellK hSw x1; have hw3 := cellK hSw x3; go_simp; try with_reducible rfl)); simp only [Act.put, List.setIfInBounds_toArray, List.set_cons_zero, List.set_cons_succ, List.getElem_toArray, List.getElem_cons_succ, List.getElem_cons_zero])
            (refine wpAnyH_ready (rs := [19]) (by kernel_rfl) (by simp) ?_; refine AllReadyH.cons (o := _) rfl (fun K hK => ?_) AllReadyH.nil; rw [if_pos (by kernel_rfl)])
            go_simp
            refine (find_any kind (some ⟨b, off, none⟩) k cap (os.take k) u1 (VA.out.keep hHu1) (by omega)).mono ?_
            rintro e u2 ⟨rfl, hbu2⟩
            rw [HFI.out]
            go_simp
            (refine hK.out _ _ ?_ (fun hHeld => ?_))
            · exact keepB (A := WA) hHu1 rfl hbu2
            have hHu2 : Below WA.heap.size WA u2 := hHeld
            (refine wpAnyH_take (i := 20) (oi := _) (v := ?vD20) rfl (by kernel_rfl) (by kernel_rfl) (by kernel_rfl) (fun _ _ _ h => h) (Or.inl ⟨by kernel_rfl, ?yD20⟩) (by assumption) ?_; rotate_left; (· (intro w hSw; skip; go_simp; try with_reducible rfl)); simp only [Act.put, List.setIfInBounds_toArray, List.set_cons_zero, List.set_cons_succ, List.getElem_toArray, List.getElem_cons_succ, List.getElem_cons_zero])
            (refine wpAnyH_take (i := 21) (oi := _) (v := ?vD21) rfl (by kernel_rfl) (by kernel_rfl) (by kernel_rfl) (fun _ _ _ h => h) (Or.inl ⟨by kernel_rfl, ?yD21⟩) (by assumption) ?_; rotate_left; (· (intro w hSw; skip; go_simp; try with_reducible rfl)); simp only [Act.put, List.setIfInBounds_toArray, List.set_cons_zero, List.set_cons_succ, List.getElem_toArray, List.getElem_cons_succ, List.getElem_cons_zero])
            (refine wpAnyH_done (by kernel_rfl) ?_ _)
            by_cases hf0 : 0 ≤ fi
            · have wU : Below wr.heap.size wr u2 := below_step wA hHu2 wA.size
              have y0 : u2.cell? ⟨wr.heap.size, 0, none⟩ = some (.int .i64 kind) := cellK hHu2 x0
              have y1 : u2.cell? ⟨wr.heap.size, 1, none⟩ = some (.string data) := cellK hHu2 x1
              have hob := own_belowW HO8.out wU
              have HOB := Lib.hid hob; clear hob
              have hbad : isBadO l os k (kind, data) = true := by rw [HBA.out, hr]; rw [h18, decide_eq_true hf0]; rfl
              have HBAD := Lib.hid hbad; clear hbad
              go_wp2_with (at_builtin; refine wpList_append_two rfl _ _ 25 rfl (w1.heap.size + 1) 36 i0 _ 2 24 Try.underlying25 HI.out HZ0.out HZ1.out HZ2.out rfl (by omega) _ _ _ rfl (HOB.out.alloc _) ⟨u2.heap.size, 0, none⟩ 1 1 [.int .i64 kind, .string data] rfl rfl (two_cells_at _ _ (by simp) _ _ _) (by simp [Value.oneCell']) (by omega) ?cda1 ?cda2 ?cda3 ?_)
              case cda1 => unfold maxLen; omega
              case cda2 => omega
              case cda3 => have := wU.size; simp; omega
              intro v4 w4 hown4 hgrow hblk
              have fin := jud_rej HJ.out hzl wU HO.out HBAD.out (by rw [HLR.out]; exact hown4) hgrow (by simp) hblk
              have FIN := Lib.hid fin; clear fin hown4 hgrow hblk
              go_wp2_with fail
              go_roundw
              case rel => exact ⟨k + 1, by go_num, FIN⟩
              case measure => simp [intOf]; omega
            · have wU : Below wr.heap.size wr u2 := below_step wA hHu2 wA.size
              have y0 : u2.cell? ⟨wr.heap.size, 0, none⟩ = some (.int .i64 kind) := cellK hHu2 x0
              have y1 : u2.cell? ⟨wr.heap.size, 1, none⟩ = some (.string data) := cellK hHu2 x1
              have hbad : isBadO l os k (kind, data) = false := by rw [HBA.out, hr]; rw [h18, decide_eq_false hf0]; rfl
              have HBAD := Lib.hid hbad; clear hbad
              go_wp2_with fail
              refine (better_any w1.heap.size kind data l _ (HS.out.keep wU) hdz (by have := HR.out.2.1; omega)).mono ?_
              rintro e u3 ⟨k', d', rfl, hsome, hbu3⟩
              have wU3 : Below wr.heap.size wr u3 := below_step wU hbu3 wU.size
              have wU4 : Below wr.heap.size wr (u3.alloc (.cells #[.int .i64 k', .string d'] 36)) := wU3.alloc wU3.size _
              cases hbe : bettO l kind data
              · simp only [Option.isSome_none]
                have fin := jud_stay HJ.out hzl wU4 HO.out HBAD.out hbe
                have FIN := Lib.hid fin; clear fin
                go_wp2_with fail
                go_roundw
                case rel => exact ⟨k + 1, by go_num, FIN⟩
                case measure => simp [intOf]; omega
              · rename_i o2
                have ho2 := hsome _ hbe
                subst ho2
                simp only [Option.isSome_some]
                have hob := own_belowW HO9.out wU4
                have HOB := Lib.hid hob; clear hob
                go_wp2_with (at_builtin; refine wpList_append_two rfl _ _ 25 rfl (w1.heap.size + 1) 36 i0 _ 2 24 Try.underlying25 HI.out HZ0.out HZ1.out HZ2.out rfl (by omega) _ _ _ rfl (HOB.out.alloc _) ⟨u3.heap.size + 1, 0, none⟩ 1 1 [.int .i64 k', .string d'] (by first | rfl | (simp; done)) rfl (two_cells_at _ _ (by simp) _ _ _) (by simp [Value.oneCell']) (by omega) ?cdb1 ?cdb2 ?cdb3 ?_)
                case cdb1 => unfold maxLen; omega
                case cdb2 => omega
                case cdb3 => have := wU3.size; simp; omega
                intro v4 w4 hown4 hgrow hblk
                have fin := jud_nak HJ.out hzl wU4 HO.out HBAD.out hbe (by rw [HLN.out]; exact hown4) hgrow (by simp) hblk
                have FIN := Lib.hid fin; clear fin hown4 hgrow hblk
                go_wp2_with fail
                go_roundw
                case rel => exact ⟨k + 1, by go_num, FIN⟩
                case measure => simp [intOf]; omega
          · cases hs : l.short
            · go_wp2_with fail
              have x0 : (wr.alloc (Obj.cells #[Value.int IntKind.i64 kind, Value.string data] 36)).cell? ⟨wr.heap.size, 0, none⟩ = some (.int .i64 kind) := cell0 rfl rfl
              have x1 : (wr.alloc (Obj.cells #[Value.int IntKind.i64 kind, Value.string data] 36)).cell? ⟨wr.heap.size, 1, none⟩ = some (.string data) := cell0 rfl rfl
              have x3 : (wr.alloc (Obj.cells #[Value.int IntKind.i64 kind, Value.string data] 36)).cell? ⟨w.heap.size, 3, none⟩ = some (.bool false) := (HLB.out.alloc _).cell 3 |>.trans (by first | rfl | (rw [← hs]; rfl))
              have vA : OptsAt (wr.alloc (Obj.cells #[Value.int IntKind.i64 kind, Value.string data] 36)) (some ⟨b, off, none⟩) k (os.take k) := ((HV.out.keep hbel).take k (by omega)).keep ((Below.refl _ _).alloc (Nat.le_refl _) _)
              have wA : Below wr.heap.size wr (wr.alloc (Obj.cells #[Value.int IntKind.i64 kind, Value.string data] 36)) := (Below.refl _ _).alloc (Nat.le_refl _) _
              generalize (wr.alloc (Obj.cells #[Value.int IntKind.i64 kind, Value.string data] 36)) = WA at *
              have VA := Lib.hid vA; clear vA
              refine wp_region_held_drew (S := fun W => Below WA.heap.size WA W) (by kernel_rfl) (Below.refl _ _).drew (fun hHeld => ?_)
              (refine wpAnyH_take (i := 0) (oi := _) (v := ?vB0) rfl (by kernel_rfl) (by kernel_rfl) (by kernel_rfl) (fun _ _ _ h => h) (Or.inl ⟨by kernel_rfl, ?yB0⟩) (by assumption) ?_; rotate_left; (· (intro w hSw; have hw1 := cellK hSw x0; have hw2 := cellK hSw x1; have hw3 := cellK hSw x3; go_simp; try with_reducible rfl)); simp only [Act.put, List.setIfInBounds_toArray, List.set_cons_zero, List.set_cons_succ, List.getElem_toArray, List.getElem_cons_succ, List.getElem_cons_zero])
              (refine wpAnyH_ready (rs := [1]) (by kernel_rfl) (by simp) ?_; refine AllReadyH.cons (o := _) rfl (fun K hK => ?_) AllReadyH.nil; rw [if_pos (by kernel_rfl)])
              go_simp
              refine (right_any kind data _).mono ?_
              rintro e u1 ⟨rfl, hbu⟩
              rw [hr]
              go_simp
              (refine hK.out _ _ ?_ (fun hHeld => ?_))
              · exact keepB (A := WA) hHeld rfl hbu
              have hHu1 : Below WA.heap.size WA u1 := hHeld
              (refine wpAnyH_take (i := 2) (oi := _) (v := ?vB2) rfl (by kernel_rfl) (by kernel_rfl) (by kernel_rfl) (fun _ _ _ h => h) (Or.inl ⟨by kernel_rfl, ?yB2⟩) (by assumption) ?_; rotate_left; (· (intro w hSw; skip; go_simp; try with_reducible rfl)); simp only [Act.put, List.setIfInBounds_toArray, List.set_cons_zero, List.set_cons_succ, List.getElem_toArray, List.getElem_cons_succ, List.getElem_cons_zero])
              (refine wpAnyH_take (i := 3) (oi := _) (v := ?vB3) rfl (by kernel_rfl) (by kernel_rfl) (by kernel_rfl) (fun _ _ _ h => h) (Or.inl ⟨by kernel_rfl, ?yB3⟩) (by assumption) ?_; rotate_left; (· (intro w hSw; skip; go_simp; try with_reducible rfl)); simp only [Act.put, List.setIfInBounds_toArray, List.set_cons_zero, List.set_cons_succ, List.getElem_toArray, List.getElem_cons_succ, List.getElem_cons_zero])
              (refine wpAnyH_take (i := 4) (oi := _) (v := ?vB4) rfl (by kernel_rfl) (by kernel_rfl) (by kernel_rfl) (fun _ _ _ h => h) (Or.inl ⟨by kernel_rfl, ?yB4⟩) (by assumption) ?_; rotate_left; (· (intro w hSw; have hw1 := cellK hSw x0; have hw2 := cellK hSw x1; have hw3 := cellK hSw x3; go_simp; try with_reducible rfl)); simp only [Act.put, List.setIfInBounds_toArray, List.set_cons_zero, List.set_cons_succ, List.getElem_toArray, List.getElem_cons_succ, List.getElem_cons_zero])
              (refine wpAnyH_take (i := 5) (oi := _) (v := ?vB5) rfl (by kernel_rfl) (by kernel_rfl) (by kernel_rfl) (fun _ _ _ h => h) (Or.inl ⟨by kernel_rfl, ?yB5⟩) (by assumption) ?_; rotate_left; (· (intro w hSw; have hw1 := cellK hSw x0; have hw2 := cellK hSw x1; have hw3 := cellK hSw x3; go_simp; try with_reducible rfl)); simp only [Act.put, List.setIfInBounds_toArray, List.set_cons_zero, List.set_cons_succ, List.getElem_toArray, List.getElem_cons_succ, List.getElem_cons_zero])
              (refine wpAnyH_take (i := 6) (oi := _) (v := ?vB6) rfl (by kernel_rfl) (by kernel_rfl) (by kernel_rfl) (fun _ _ _ h => h) (Or.inl ⟨by kernel_rfl, ?yB6⟩) (by assumption) ?_; rotate_left; (· (intro w hSw; have hw1 := cellK hSw x0; have hw2 := cellK hSw x1; have hw3 := cellK hSw x3; go_simp; try with_reducible rfl)); simp only [Act.put, List.setIfInBounds_toArray, List.set_cons_zero, List.set_cons_succ, List.getElem_toArray, List.getElem_cons_succ, List.getElem_cons_zero])
              (refine wpAnyH_take (i := 7) (oi := _) (v := ?vB7) rfl (by kernel_rfl) (by kernel_rfl) (by kernel_rfl) (fun _ _ _ h => h) (Or.inl ⟨by kernel_rfl, ?yB7⟩) (by assumption) ?_; rotate_left; (· (intro w hSw; have hw1 := cellK hSw x0; have hw2 := cellK hSw x1; have hw3 := cellK hSw x3; go_simp; try with_reducible rfl)); simp only [Act.put, List.setIfInBounds_toArray, List.set_cons_zero, List.set_cons_succ, List.getElem_toArray, List.getElem_cons_succ, List.getElem_cons_zero])
              (refine wpAnyH_take (i := 8) (oi := _) (v := ?vB8) rfl (by kernel_rfl) (by kernel_rfl) (by kernel_rfl) (fun _ _ _ h => h) (Or.inl ⟨by kernel_rfl, ?yB8⟩) (by assumption) ?_; rotate_left; (· (intro w hSw; have hw1 := cellK hSw x0; have hw2 := cellK hSw x1; have hw3 := cellK hSw x3; go_simp; try with_reducible rfl)); simp only [Act.put, List.setIfInBounds_toArray, List.set_cons_zero, List.set_cons_succ, List.getElem_toArray, List.getElem_cons_succ, List.getElem_cons_zero])
              (refine wpAnyH_take (i := 9) (oi := _) (v := ?vB9) rfl (by kernel_rfl) (by kernel_rfl) (by kernel_rfl) (fun _ _ _ h => h) (Or.inl ⟨by kernel_rfl, ?yB9⟩) (by assumption) ?_; rotate_left; (· (intro w hSw; have hw1 := cellK hSw x0; have hw2 := cellK hSw x1; have hw3 := cellK hSw x3; go_simp; try with_reducible rfl)); simp only [Act.put, List.setIfInBounds_toArray, List.set_cons_zero, List.set_cons_succ, List.getElem_toArray, List.getElem_cons_succ, List.getElem_cons_zero])
              (refine wpAnyH_take (i := 10) (oi := _) (v := ?vB10) rfl (by kernel_rfl) (by kernel_rfl) (by kernel_rfl) (fun _ _ _ h => h) (Or.inl ⟨by kernel_rfl, ?yB10⟩) (by assumption) ?_; rotate_left; (· (intro w hSw; have hw1 := cellK hSw x0; have hw2 := cellK hSw x1; have hw3 := cellK hSw x3; go_simp; try with_reducible rfl)); simp only [Act.put, List.setIfInBounds_toArray, List.set_cons_zero, List.set_cons_succ, List.getElem_toArray, List.getElem_cons_succ, List.getElem_cons_zero])
              (refine wpAnyH_take (i := 11) (oi := _) (v := ?vB11) rfl (by kernel_rfl) (by kernel_rfl) (by kernel_rfl) (fun _ _ _ h => h) (Or.inl ⟨by kernel_rfl, ?yB11⟩) (by assumption) ?_; rotate_left; (· (intro w hSw; have hw1 := cellK hSw x0; have hw2 := cellK hSw x1; have hw3 := cellK hSw x3; go_simp; try with_reducible rfl)); simp only [Act.put, List.setIfInBounds_toArray, List.set_cons_zero, List.set_cons_succ, List.getElem_toArray, List.getElem_cons_succ, List.getElem_cons_zero])
              (refine wpAnyH_take (i := 12) (oi := _) (v := ?vB12) rfl (by kernel_rfl) (by kernel_rfl) (by kernel_rfl) (fun _ _ _ h => h) (Or.inl ⟨by kernel_rfl, ?yB12⟩) (by assumption) ?_; rotate_left; (· (intro w hSw; have hw1 := cellK hSw x0; have hw2 := cellK hSw x1; have hw3 := cellK hSw x3; go_simp; try with_reducible rfl)); simp only [Act.put, List.setIfInBounds_toArray, List.set_cons_zero, List.set_cons_succ, List.getElem_toArray, List.getElem_cons_succ, List.getElem_cons_zero])
              (refine wpAnyH_take (i := 13) (oi := _) (v := ?vB13) rfl (by kernel_rfl) (by kernel_rfl) (by kernel_rfl) (fun _ _ _ h => h) (Or.inl ⟨by kernel_rfl, ?yB13⟩) (by assumption) ?_; rotate_left; (· (intro w hSw; have hw1 := cellK hSw x0; have hw2 := cellK hSw x1; have hw3 := cellK hSw x3; go_simp; try with_reducible rfl)); simp only [Act.put, List.setIfInBounds_toArray, List.set_cons_zero, List.set_cons_succ, List.getElem_toArray, List.getElem_cons_succ, List.getElem_cons_zero])
              (refine wpAnyH_take (i := 14) (oi := _) (v := _) rfl (by kernel_rfl) (by kernel_rfl) (by kernel_rfl) (fun _ _ _ h => h) (Or.inr ⟨by kernel_rfl, rfl⟩) (by assumption) ?_; simp only [Act.put, List.setIfInBounds_toArray, List.set_cons_zero, List.set_cons_succ, List.getElem_toArray, List.getElem_cons_succ, List.getElem_cons_zero])
              (refine wpAnyH_take (i := 15) (oi := _) (v := _) rfl (by kernel_rfl) (by kernel_rfl) (by kernel_rfl) (fun _ _ _ h => h) (Or.inr ⟨by kernel_rfl, rfl⟩) (by assumption) ?_; simp only [Act.put, List.setIfInBounds_toArray, List.set_cons_zero, List.set_cons_succ, List.getElem_toArray, List.getElem_cons_succ, List.getElem_cons_zero])
              (refine wpAnyH_take (i := 16) (oi := _) (v := _) rfl (by kernel_rfl) (by kernel_rfl) (by kernel_rfl) (fun _ _ _ h => h) (Or.inr ⟨by kernel_rfl, rfl⟩) (by assumption) ?_; simp only [Act.put, List.setIfInBounds_toArray, List.set_cons_zero, List.set_cons_succ, List.getElem_toArray, List.getElem_cons_succ, List.getElem_cons_zero])
              (refine wpAnyH_take (i := 17) (oi := _) (v := _) rfl (by kernel_rfl) (by kernel_rfl) (by kernel_rfl) (fun _ _ _ h => h) (Or.inr ⟨by kernel_rfl, rfl⟩) (by assumption) ?_; simp only [Act.put, List.setIfInBounds_toArray, List.set_cons_zero, List.set_cons_succ, List.getElem_toArray, List.getElem_cons_succ, List.getElem_cons_zero])
              (refine wpAnyH_take (i := 18) (oi := _) (v := _) rfl (by kernel_rfl) (by kernel_rfl) (by kernel_rfl) (fun _ _ _ h => h) (Or.inr ⟨by kernel_rfl, rfl⟩) (by assumption) ?_; simp only [Act.put, List.setIfInBounds_toArray, List.set_cons_zero, List.set_cons_succ, List.getElem_toArray, List.getElem_cons_succ, List.getElem_cons_zero])
              (refine wpAnyH_take (i := 19) (oi := _) (v := _) rfl (by kernel_rfl) (by kernel_rfl) (by kernel_rfl) (fun _ _ _ h => h) (Or.inr ⟨by kernel_rfl, rfl⟩) (by assumption) ?_; simp only [Act.put, List.setIfInBounds_toArray, List.set_cons_zero, List.set_cons_succ, List.getElem_toArray, List.getElem_cons_succ, List.getElem_cons_zero])
              (refine wpAnyH_take (i := 20) (oi := _) (v := _) rfl (by kernel_rfl) (by kernel_rfl) (by kernel_rfl) (fun _ _ _ h => h) (Or.inr ⟨by kernel_rfl, rfl⟩) (by assumption) ?_; simp only [Act.put, List.setIfInBounds_toArray, List.set_cons_zero, List.set_cons_succ, List.getElem_toArray, List.getElem_cons_succ, List.getElem_cons_zero])
              (refine wpAnyH_take (i := 21) (oi := _) (v := ?vB21) rfl (by kernel_rfl) (by kernel_rfl) (by kernel_rfl) (fun _ _ _ h => h) (Or.inl ⟨by kernel_rfl, ?yB21⟩) (by assumption) ?_; rotate_left; (· (intro w hSw; skip; go_simp; try with_reducible rfl)); simp only [Act.put, List.setIfInBounds_toArray, List.set_cons_zero, List.set_cons_succ, List.getElem_toArray, List.getElem_cons_succ, List.getElem_cons_zero])
              (refine wpAnyH_done (by kernel_rfl) ?_ _)
              have wU : Below wr.heap.size wr u1 := below_step wA hHu1 wA.size
              have y0 : u1.cell? ⟨wr.heap.size, 0, none⟩ = some (.int .i64 kind) := cellK hHu1 x0
              have y1 : u1.cell? ⟨wr.heap.size, 1, none⟩ = some (.string data) := cellK hHu1 x1
              have hob := own_belowW HO8.out wU
              have HOB := Lib.hid hob; clear hob
              have hbad : isBadO l os k (kind, data) = true := by rw [HBA.out, hr]; rw [h18, hs]; rfl
              have HBAD := Lib.hid hbad; clear hbad
              go_wp2_with (at_builtin; refine wpList_append_two rfl _ _ 25 rfl (w1.heap.size + 1) 36 i0 _ 2 24 Try.underlying25 HI.out HZ0.out HZ1.out HZ2.out rfl (by omega) _ _ _ rfl (HOB.out.alloc _) ⟨u1.heap.size, 0, none⟩ 1 1 [.int .i64 kind, .string data] rfl rfl (two_cells_at _ _ (by simp) _ _ _) (by simp [Value.oneCell']) (by omega) ?cb1 ?cb2 ?cb3 ?_)
              case cb1 => unfold maxLen; omega
              case cb2 => omega
              case cb3 => have := wU.size; simp; omega
              intro v4 w4 hown4 hgrow hblk
              have fin := jud_rej HJ.out hzl wU HO.out HBAD.out (by rw [HLR.out]; exact hown4) hgrow (by simp) hblk
              have FIN := Lib.hid fin; clear fin hown4 hgrow hblk
              go_wp2_with fail
              go_roundw
              case rel => exact ⟨k + 1, by go_num, FIN⟩
              case measure => simp [intOf]; omega
            · go_wp2_with fail
              have x0 : (wr.alloc (Obj.cells #[Value.int IntKind.i64 kind, Value.string data] 36)).cell? ⟨wr.heap.size, 0, none⟩ = some (.int .i64 kind) := cell0 rfl rfl
              have x1 : (wr.alloc (Obj.cells #[Value.int IntKind.i64 kind, Value.string data] 36)).cell? ⟨wr.heap.size, 1, none⟩ = some (.string data) := cell0 rfl rfl
              have x3 : (wr.alloc (Obj.cells #[Value.int IntKind.i64 kind, Value.string data] 36)).cell? ⟨w.heap.size, 3, none⟩ = some (.bool true) := (HLB.out.alloc _).cell 3 |>.trans (by first | rfl | (rw [← hs]; rfl))
              have vA : OptsAt (wr.alloc (Obj.cells #[Value.int IntKind.i64 kind, Value.string data] 36)) (some ⟨b, off, none⟩) k (os.take k) := ((HV.out.keep hbel).take k (by omega)).keep ((Below.refl _ _).alloc (Nat.le_refl _) _)
              have wA : Below wr.heap.size wr (wr.alloc (Obj.cells #[Value.int IntKind.i64 kind, Value.string data] 36)) := (Below.refl _ _).alloc (Nat.le_refl _) _
              generalize (wr.alloc (Obj.cells #[Value.int IntKind.i64 kind, Value.string data] 36)) = WA at *
              have VA := Lib.hid vA; clear vA
              refine wp_region_held_drew (S := fun W => Below WA.heap.size WA W) (by kernel_rfl) (Below.refl _ _).drew (fun hHeld => ?_)
              (refine wpAnyH_take (i := 0) (oi := _) (v := ?vC0) rfl (by kernel_rfl) (by kernel_rfl) (by kernel_rfl) (fun _ _ _ h => h) (Or.inl ⟨by kernel_rfl, ?yC0⟩) (by assumption) ?_; rotate_left; (· (intro w hSw; have hw1 := cellK hSw x0; have hw2 := cellK hSw x1; have hw3 := cellK hSw x3; go_simp; try with_reducible rfl)); simp only [Act.put, List.setIfInBounds_toArray, List.set_cons_zero, List.set_cons_succ, List.getElem_toArray, List.getElem_cons_succ, List.getElem_cons_zero])
              (refine wpAnyH_ready (rs := [1]) (by kernel_rfl) (by simp) ?_; refine AllReadyH.cons (o := _) rfl (fun K hK => ?_) AllReadyH.nil; rw [if_pos (by kernel_rfl)])
              go_simp
              refine (right_any kind data _).mono ?_
              rintro e u1 ⟨rfl, hbu⟩
              rw [hr]
              go_simp
              (refine hK.out _ _ ?_ (fun hHeld => ?_))
              · exact keepB (A := WA) hHeld rfl hbu
              have hHu1 : Below WA.heap.size WA u1 := hHeld
              (refine wpAnyH_take (i := 2) (oi := _) (v := ?vC2) rfl (by kernel_rfl) (by kernel_rfl) (by kernel_rfl) (fun _ _ _ h => h) (Or.inl ⟨by kernel_rfl, ?yC2⟩) (by assumption) ?_; rotate_left; (· (intro w hSw; skip; go_simp; try with_reducible rfl)); simp only [Act.put, List.setIfInBounds_toArray, List.set_cons_zero, List.set_cons_succ, List.getElem_toArray, List.getElem_cons_succ, List.getElem_cons_zero])
              (refine wpAnyH_take (i := 3) (oi := _) (v := ?vC3) rfl (by kernel_rfl) (by kernel_rfl) (by kernel_rfl) (fun _ _ _ h => h) (Or.inl ⟨by kernel_rfl, ?yC3⟩) (by assumption) ?_; rotate_left; (· (intro w hSw; skip; go_simp; try with_reducible rfl)); simp only [Act.put, List.setIfInBounds_toArray, List.set_cons_zero, List.set_cons_succ, List.getElem_toArray, List.getElem_cons_succ, List.getElem_cons_zero])
              (refine wpAnyH_take (i := 4) (oi := _) (v := ?vC4) rfl (by kernel_rfl) (by kernel_rfl) (by kernel_rfl) (fun _ _ _ h => h) (Or.inl ⟨by kernel_rfl, ?yC4⟩) (by assumption) ?_; rotate_left; (· (intro w hSw; have hw1 := cellK hSw x0; have hw2 := cellK hSw x1; have hw3 := cellK hSw x3; go_simp; try with_reducible rfl)); simp only [Act.put, List.setIfInBounds_toArray, List.set_cons_zero, List.set_cons_succ, List.getElem_toArray, List.getElem_cons_succ, List.getElem_cons_zero])
              (refine wpAnyH_take (i := 5) (oi := _) (v := ?vC5) rfl (by kernel_rfl) (by kernel_rfl) (by kernel_rfl) (fun _ _ _ h => h) (Or.inl ⟨by kernel_rfl, ?yC5⟩) (by assumption) ?_; rotate_left; (· (intro w hSw; have hw1 := cellK hSw x0; have hw2 := cellK hSw x1; have hw3 := cellK hSw x3; go_simp; try with_reducible rfl)); simp only [Act.put, List.setIfInBounds_toArray, List.set_cons_zero, List.set_cons_succ, List.getElem_toArray, List.getElem_cons_succ, List.getElem_cons_zero])
              (refine wpAnyH_take (i := 6) (oi := _) (v := ?vC6) rfl (by kernel_rfl) (by kernel_rfl) (by kernel_rfl) (fun _ _ _ h => h) (Or.inl ⟨by kernel_rfl, ?yC6⟩) (by assumption) ?_; rotate_left; (· (intro w hSw; have hw1 := cellK hSw x0; have hw2 := cellK hSw x1; have hw3 := cellK hSw x3; go_simp; try with_reducible rfl)); simp only [Act.put, List.setIfInBounds_toArray, List.set_cons_zero, List.set_cons_succ, List.getElem_toArray, List.getElem_cons_succ, List.getElem_cons_zero])
              (refine wpAnyH_take (i := 7) (oi := _) (v := ?vC7) rfl (by kernel_rfl) (by kernel_rfl) (by kernel_rfl) (fun _ _ _ h => h) (Or.inl ⟨by kernel_rfl, ?yC7⟩) (by assumption) ?_; rotate_left; (· (intro w hSw; have hw1 := cellK hSw x0; have hw2 := cellK hSw x1; have hw3 := cellK hSw x3; go_simp; try with_reducible rfl)); simp only [Act.put, List.setIfInBounds_toArray, List.set_cons_zero, List.set_cons_succ, List.getElem_toArray, List.getElem_cons_succ, List.getElem_cons_zero])
              (refine wpAnyH_take (i := 8) (oi := _) (v := ?vC8) rfl (by kernel_rfl) (by kernel_rfl) (by kernel_rfl) (fun _ _ _ h => h) (Or.inl ⟨by kernel_rfl, ?yC8⟩) (by assumption) ?_; rotate_left; (· (intro w hSw; have hw1 := cellK hSw x0; have hw2 := cellK hSw x1; have hw3 := cellK hSw x3; go_simp; try with_reducible rfl)); simp only [Act.put, List.setIfInBounds_toArray, List.set_cons_zero, List.set_cons_succ, List.getElem_toArray, List.getElem_cons_succ, List.getElem_cons_zero])
              (refine wpAnyH_take (i := 9) (oi := _) (v := ?vC9) rfl (by kernel_rfl) (by kernel_rfl) (by kernel_rfl) (fun _ _ _ h => h) (Or.inl ⟨by kernel_rfl, ?yC9⟩) (by assumption) ?_; rotate_left; (· (intro w hSw; have hw1 := cellK hSw x0; have hw2 := cellK hSw x1; have hw3 := cellK hSw x3; go_simp; try with_reducible rfl)); simp only [Act.put, List.setIfInBounds_toArray, List.set_cons_zero, List.set_cons_succ, List.getElem_toArray, List.getElem_cons_succ, List.getElem_cons_zero])
              (refine wpAnyH_take (i := 10) (oi := _) (v := ?vC10) rfl (by kernel_rfl) (by kernel_rfl) (by kernel_rfl) (fun _ _ _ h => h) (Or.inl ⟨by kernel_rfl, ?yC10⟩) (by assumption) ?_; rotate_left; (· (intro w hSw; have hw1 := cellK hSw x0; have hw2 := cellK hSw x1; have hw3 := cellK hSw x3; go_simp; try with_reducible rfl)); simp only [Act.put, List.setIfInBounds_toArray, List.set_cons_zero, List.set_cons_succ, List.getElem_toArray, List.getElem_cons_succ, List.getElem_cons_zero])
              (refine wpAnyH_take (i := 11) (oi := _) (v := ?vC11) rfl (by kernel_rfl) (by kernel_rfl) (by kernel_rfl) (fun _ _ _ h => h) (Or.inl ⟨by kernel_rfl, ?yC11⟩) (by assumption) ?_; rotate_left; (· (intro w hSw; have hw1 := cellK hSw x0; have hw2 := cellK hSw x1; have hw3 := cellK hSw x3; go_simp; try with_reducible rfl)); simp only [Act.put, List.setIfInBounds_toArray, List.set_cons_zero, List.set_cons_succ, List.getElem_toArray, List.getElem_cons_succ, List.getElem_cons_zero])
              (refine wpAnyH_take (i := 12) (oi := _) (v := ?vC12) rfl (by kernel_rfl) (by kernel_rfl) (by kernel_rfl) (fun _ _ _ h => h) (Or.inl ⟨by kernel_rfl, ?yC12⟩) (by assumption) ?_; rotate_left; (· (intro w hSw; have hw1 := cellK hSw x0; have hw2 := cellK hSw x1; have hw3 := cellK hSw x3; go_simp; try with_reducible rfl)); simp only [Act.put, List.setIfInBounds_toArray, List.set_cons_zero, List.set_cons_succ, List.getElem_toArray, List.getElem_cons_succ, List.getElem_cons_zero])
              (refine wpAnyH_take (i := 13) (oi := _) (v := ?vC13) rfl (by kernel_rfl) (by kernel_rfl) (by kernel_rfl) (fun _ _ _ h => h) (Or.inl ⟨by kernel_rfl, ?yC13⟩) (by assumption) ?_; rotate_left; (· (intro w hSw; have hw1 := cellK hSw x0; have hw2 := cellK hSw x1; have hw3 := cellK hSw x3; go_simp; try with_reducible rfl)); simp only [Act.put, List.setIfInBounds_toArray, List.set_cons_zero, List.set_cons_succ, List.getElem_toArray, List.getElem_cons_succ, List.getElem_cons_zero])
              (refine wpAnyH_take (i := 14) (oi := _) (v := ?vC14) rfl (by kernel_rfl) (by kernel_rfl) (by kernel_rfl) (fun _ _ _ h => h) (Or.inl ⟨by kernel_rfl, ?yC14⟩) (by assumption) ?_; rotate_left; (· (intro w hSw; have hw1 := cellK hSw x0; have hw2 := cellK hSw x1; have hw3 := cellK hSw x3; go_simp; try with_reducible rfl)); simp only [Act.put, List.setIfInBounds_toArray, List.set_cons_zero, List.set_cons_succ, List.getElem_toArray, List.getElem_cons_succ, List.getElem_cons_zero])
              (refine wpAnyH_take (i := 15) (oi := _) (v := ?vC15) rfl (by kernel_rfl) (by kernel_rfl) (by kernel_rfl) (fun _ _ _ h => h) (Or.inl ⟨by kernel_rfl, ?yC15⟩) (by assumption) ?_; rotate_left; (· (intro w hSw; have hw1 := cellK hSw x0; have hw2 := cellK hSw x1; have hw3 := cellK hSw x3; go_simp; try with_reducible rfl)); simp only [Act.put, List.setIfInBounds_toArray, List.set_cons_zero, List.set_cons_succ, List.getElem_toArray, List.getElem_cons_succ, List.getElem_cons_zero])
              (refine wpAnyH_take (i := 16) (oi := _) (v := ?vC16) rfl (by kernel_rfl) (by kernel_rfl) (by kernel_rfl) (fun _ _ _ h => h) (Or.inl ⟨by kernel_rfl, ?yC16⟩) (by assumption) ?_; rotate_left; (· (intro w hSw; have hw1 := cellK hSw x0; have hw2 := cellK hSw x1; have hw3 := cellK hSw x3; go_simp; try with_reducible rfl)); simp only [Act.put, List.setIfInBounds_toArray, List.set_cons_zero, List.set_cons_succ, List.getElem_toArray, List.getElem_cons_succ, List.getElem_cons_zero])
              (refine wpAnyH_take (i := 17) (oi := _) (v := ?vC17) rfl (by kernel_rfl) (by kernel_rfl) (by kernel_rfl) (fun _ _ _ h => h) (Or.inl ⟨by kernel_rfl, ?yC17⟩) (by assumption) ?_; rotate_left; (· (intro w hSw; have hw1 := cellK hSw x0; have hw2 := cellK hSw x1; have hw3 := cellK hSw x3; go_simp; try with_reducible rfl)); simp only [Act.put, List.setIfInBounds_toArray, List.set_cons_zero, List.set_cons_succ, List.getElem_toArray, List.getElem_cons_succ, List.getElem_cons_zero])
              (refine wpAnyH_take (i := 18) (oi := _) (v := ?vC18) rfl (by kernel_rfl) (by kernel_rfl) (by kernel_rfl) (fun _ _ _ h => h) (Or.inl ⟨by kernel_rfl, ?yC18⟩) (by assumption) ?_; rotate_left; (· (intro w hSw; have hw1 := cellK hSw x0; have hw2 := cellK hSw x1; have hw3 := cellK hSw x3; go_simp; try with_reducible rfl)); simp only [Act.put, List.setIfInBounds_toArray, List.set_cons_zero, List.set_cons_succ, List.getElem_toArray, List.getElem_cons_succ, List.getElem_cons_zero])
              (refine wpAnyH_ready (rs := [19]) (by kernel_rfl) (by simp) ?_; refine AllReadyH.cons (o := _) rfl (fun K hK => ?_) AllReadyH.nil; rw [if_pos (by kernel_rfl)])
              go_simp
              refine (find_any kind (some ⟨b, off, none⟩) k cap (os.take k) u1 (VA.out.keep hHu1) (by omega)).mono ?_
              rintro e u2 ⟨rfl, hbu2⟩
              rw [HFI.out]
              go_simp
              (refine hK.out _ _ ?_ (fun hHeld => ?_))
              · exact keepB (A := WA) hHu1 rfl hbu2
              have hHu2 : Below WA.heap.size WA u2 := hHeld
              (refine wpAnyH_take (i := 20) (oi := _) (v := ?vC20) rfl (by kernel_rfl) (by kernel_rfl) (by kernel_rfl) (fun _ _ _ h => h) (Or.inl ⟨by kernel_rfl, ?yC20⟩) (by assumption) ?_; rotate_left; (· (intro w hSw; skip; go_simp; try with_reducible rfl)); simp only [Act.put, List.setIfInBounds_toArray, List.set_cons_zero, List.set_cons_succ, List.getElem_toArray, List.getElem_cons_succ, List.getElem_cons_zero])
              (refine wpAnyH_take (i := 21) (oi := _) (v := ?vC21) rfl (by kernel_rfl) (by kernel_rfl) (by kernel_rfl) (fun _ _ _ h => h) (Or.inl ⟨by kernel_rfl, ?yC21⟩) (by assumption) ?_; rotate_left; (· (intro w hSw; skip; go_simp; try with_reducible rfl)); simp only [Act.put, List.setIfInBounds_toArray, List.set_cons_zero, List.set_cons_succ, List.getElem_toArray, List.getElem_cons_succ, List.getElem_cons_zero])
              (refine wpAnyH_done (by kernel_rfl) ?_ _)
              by_cases hf0 : 0 ≤ fi
              · have wU : Below wr.heap.size wr u2 := below_step wA hHu2 wA.size
                have y0 : u2.cell? ⟨wr.heap.size, 0, none⟩ = some (.int .i64 kind) := cellK hHu2 x0
                have y1 : u2.cell? ⟨wr.heap.size, 1, none⟩ = some (.string data) := cellK hHu2 x1
                have hob := own_belowW HO8.out wU
                have HOB := Lib.hid hob; clear hob
                have hbad : isBadO l os k (kind, data) = true := by rw [HBA.out, hr]; rw [h18, hs, decide_eq_true hf0]; rfl
                have HBAD := Lib.hid hbad; clear hbad
                go_wp2_with (at_builtin; refine wpList_append_two rfl _ _ 25 rfl (w1.heap.size + 1) 36 i0 _ 2 24 Try.underlying25 HI.out HZ0.out HZ1.out HZ2.out rfl (by omega) _ _ _ rfl (HOB.out.alloc _) ⟨u2.heap.size, 0, none⟩ 1 1 [.int .i64 kind, .string data] rfl rfl (two_cells_at _ _ (by simp) _ _ _) (by simp [Value.oneCell']) (by omega) ?cca1 ?cca2 ?cca3 ?_)
                case cca1 => unfold maxLen; omega
                case cca2 => omega
                case cca3 => have := wU.size; simp; omega
                intro v4 w4 hown4 hgrow hblk
                have fin := jud_rej HJ.out hzl wU HO.out HBAD.out (by rw [HLR.out]; exact hown4) hgrow (by simp) hblk
                have FIN := Lib.hid fin; clear fin hown4 hgrow hblk
                go_wp2_with fail
                go_roundw
                case rel => exact ⟨k + 1, by go_num, FIN⟩
                case measure => simp [intOf]; omega
              · have wU : Below wr.heap.size wr u2 := below_step wA hHu2 wA.size
                have y0 : u2.cell? ⟨wr.heap.size, 0, none⟩ = some (.int .i64 kind) := cellK hHu2 x0
                have y1 : u2.cell? ⟨wr.heap.size, 1, none⟩ = some (.string data) := cellK hHu2 x1
                have hbad : isBadO l os k (kind, data) = false := by rw [HBA.out, hr]; rw [h18, hs, decide_eq_false hf0]; rfl
                have HBAD := Lib.hid hbad; clear hbad
                go_wp2_with fail
                refine (better_any w1.heap.size kind data l _ (HS.out.keep wU) hdz (by have := HR.out.2.1; omega)).mono ?_
                rintro e u3 ⟨k', d', rfl, hsome, hbu3⟩
                have wU3 : Below wr.heap.size wr u3 := below_step wU hbu3 wU.size
                have wU4 : Below wr.heap.size wr (u3.alloc (.cells #[.int .i64 k', .string d'] 36)) := wU3.alloc wU3.size _
                cases hbe : bettO l kind data
                · simp only [Option.isSome_none]
                  have fin := jud_stay HJ.out hzl wU4 HO.out HBAD.out hbe
                  have FIN := Lib.hid fin; clear fin
                  go_wp2_with fail
                  go_roundw
                  case rel => exact ⟨k + 1, by go_num, FIN⟩
                  case measure => simp [intOf]; omega
                · rename_i o2
                  have ho2 := hsome _ hbe
                  subst ho2
                  simp only [Option.isSome_some]
                  have hob := own_belowW HO9.out wU4
                  have HOB := Lib.hid hob; clear hob
                  go_wp2_with (at_builtin; refine wpList_append_two rfl _ _ 25 rfl (w1.heap.size + 1) 36 i0 _ 2 24 Try.underlying25 HI.out HZ0.out HZ1.out HZ2.out rfl (by omega) _ _ _ rfl (HOB.out.alloc _) ⟨u3.heap.size + 1, 0, none⟩ 1 1 [.int .i64 k', .string d'] (by first | rfl | (simp; done)) rfl (two_cells_at _ _ (by simp) _ _ _) (by simp [Value.oneCell']) (by omega) ?ccb1 ?ccb2 ?ccb3 ?_)
                  case ccb1 => unfold maxLen; omega
                  case ccb2 => omega
                  case ccb3 => have := wU3.size; simp; omega
                  intro v4 w4 hown4 hgrow hblk
                  have fin := jud_nak HJ.out hzl wU4 HO.out HBAD.out hbe (by rw [HLN.out]; exact hown4) hgrow (by simp) hblk
                  have FIN := Lib.hid fin; clear fin hown4 hgrow hblk
                  go_wp2_with fail
                  go_roundw
                  case rel => exact ⟨k + 1, by go_num, FIN⟩
                  case measure => simp [intOf]; omega
      · have hkl := HKE.out hlt
        clear HKE
        obtain ⟨lr, hlr⟩ : ∃ lr, rejTo l os k = lr := ⟨_, rfl⟩
        obtain ⟨ln, hln⟩ : ∃ ln, nakTo l os k = ln := ⟨_, rfl⟩
        rw [hlr] at HO8 hrl
        rw [hln] at HO9 hnl
        obtain ⟨A8, cap8, rfl, hres8⟩ := Res.own HO8.out (n := lr.length) rfl (by omega)
        obtain ⟨A9, cap9, rfl, hres9⟩ := Res.own HO9.out (n := ln.length) rfl (by omega)
        have F8 := Lib.hid (fresh_own (w := w) HO8.out (by omega)); have F9 := Lib.hid (fresh_own (w := w) HO9.out (by omega))
        have R8 := Lib.hid hres8; have R9 := Lib.hid hres9; clear hres8 hres9
        have hV : judV l os = if lr.length ≠ 0 then 2 else if ln.length ≠ 0 then 1 else 0 := by unfold judV; rw [← hkl, hlr, hln]
        have hL : judL l os = if lr.length ≠ 0 then lr else if ln.length ≠ 0 then ln else os := by unfold judL; rw [← hkl, hlr, hln]
        have HV2 := Lib.hid hV; have HL2 := Lib.hid hL; clear hV hL hlr hln
        by_cases h8 : lr.length = 0
        · have h8d : decide ((0 : Int) < (lr.length : Int)) = false := decide_eq_false (by omega)
          by_cases h9 : ln.length = 0
          · have h9d : decide ((0 : Int) < (ln.length : Int)) = false := decide_eq_false (by omega)
            have hv0 : judV l os = 0 := by rw [HV2.out, if_neg (by omega), if_neg (by omega)]
            have hl0 : judL l os = os := by rw [HL2.out, if_neg (by omega), if_neg (by omega)]
            have HV3 := Lib.hid hv0; have HL3 := Lib.hid hl0; clear hv0 hl0
            have e8 : lr = [] := List.eq_nil_of_length_eq_zero h8
            have e9 : ln = [] := List.eq_nil_of_length_eq_zero h9
            clear R8 R9 F8 F9 HV2 HL2 h8 h9 h8d h9d HO8 HO9
            subst e8 e9
            simp only [List.length_nil]
            have hw := HV.out.keep hbel
            have HW := Lib.hid hw; clear hw
            cases A with
            | none =>
              obtain ⟨rfl, rfl⟩ := HN.out rfl
              go_wp2_with (at_builtin; refine wpList_append_own_none rfl _ _ 25 rfl (w1.heap.size + 1) 36 i0 2 Try.underlying25 HI.out _ _ _ rfl (World.ownsRow_nil _ _ _ _) rfl ?_)
              go_wp2_with fail
              refine bodyPost_ret (v := .tuple #[.int .i64 0, .slice none 0 0, .int .i64 0]) (by simp [results, Try.results13, go_sem]) rfl ?_
              exact .inl ⟨hmay, none, 0, 0, by rw [HV3.out], by rw [HL3.out]; exact ⟨HW.out, hn, fun _ => ⟨rfl, rfl⟩, Nat.le_refl _⟩, hbel, fun _ e => (by cases e)⟩
            | some ad =>
              go_wp2_with (at_builtin; refine wpList_append_own _ rfl _ _ 25 rfl (w1.heap.size + 1) 36 i0 _ 2 24 Try.underlying25 HI.out HZ0.out HZ1.out HZ2.out rfl (by omega) _ _ _ rfl (World.ownsRow_nil _ _ _ _) ad n cap (optCells os) rfl (by rw [optCells_len, HW.out.1]) ?ce0 (optCells_one os) ?ce1 ?ce2 hB ?_)
              case ce0 =>
                intro j u hj
                by_cases hn0 : 0 < n
                · obtain ⟨b, off, e, -⟩ := HW.out.2 hn0
                  obtain rfl := Option.some.inj e
                  exact OptsAt.news HW.out hn0 j u hj
                · have : os = [] := List.eq_nil_of_length_eq_zero (by have := HW.out.1; omega)
                  subst this
                  cases hj
              case ce1 => unfold maxLen; omega
              case ce2 => omega
              intro v4 w4 hown4 hgrow hnil4
              clear hnil4
              have belw : Below w.heap.size w w4 := hbel.grown hgrow hbel.size (fun c hc => by cases hc)
              try simp only [Nat.zero_add, List.nil_append] at hown4
              obtain ⟨A4, cap4, rfl, hres4⟩ := Res.own hown4 HW.out.1 hn
              have F4 := Lib.hid (fresh_own (w := w) hown4 (by omega))
              have R4 := Lib.hid hres4; clear hres4 hown4 hgrow
              go_wp2_with fail
              refine bodyPost_ret (v := .tuple #[.int .i64 0, .slice A4 n cap4, .int .i64 0]) (by simp [results, Try.results13, go_sem]) rfl ?_
              exact .inl ⟨hmay, A4, n, cap4, by rw [HV3.out], by rw [HL3.out]; exact R4.out, belw, F4.out⟩
          · have hv1 : judV l os = 1 := by rw [HV2.out, if_neg (by omega), if_pos (by omega)]
            have hl1 : judL l os = ln := by rw [HL2.out, if_neg (by omega), if_pos (by omega)]
            have HV3 := Lib.hid hv1; have HL3 := Lib.hid hl1; clear hv1 hl1
            have h9p : (0 : Int) < (ln.length : Int) := by omega
            have e8 : lr = [] := List.eq_nil_of_length_eq_zero h8
            clear R8 F8 HV2 HL2 h8 h8d HO8
            subst e8
            simp only [List.length_nil]
            go_wp2_with fail
            refine bodyPost_ret (v := .tuple #[.int .i64 1, .slice A9 ln.length cap9, .int .i64 0]) (by simp [results, Try.results13, go_sem]) rfl ?_
            exact .inl ⟨hmay, A9, _, cap9, by rw [HV3.out], by rw [HL3.out]; exact R9.out, hbel, F9.out⟩
        · have hv2 : judV l os = 2 := by rw [HV2.out, if_pos (by omega)]
          have hl2 : judL l os = lr := by rw [HL2.out, if_pos (by omega)]
          have HV3 := Lib.hid hv2; have HL3 := Lib.hid hl2; clear hv2 hl2
          have h8p : (0 : Int) < (lr.length : Int) := by omega
          go_wp2_with fail
          refine bodyPost_ret (v := .tuple #[.int .i64 2, .slice A8 lr.length cap8, .int .i64 0]) (by simp [results, Try.results13, go_sem]) rfl ?_
          exact .inl ⟨hmay, A8, _, cap8, by rw [HV3.out], by rw [HL3.out]; exact R8.out, hbel, F8.out⟩
end Go.Proofs.Ytjmcgekegenobaa
