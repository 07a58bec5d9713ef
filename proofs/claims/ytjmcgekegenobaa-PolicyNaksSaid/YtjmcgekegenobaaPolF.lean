/- What package policy's Taken says, in plain words; its contract. No condition but that a length is an int's and within the capacity. -/
import Derived.Test.YtjmcgekegenobaaPolE
import Derived.Deep.RegionHeld3
namespace Go.Proofs.Ytjmcgekegenobaa
open Go.RowKit
set_option linter.unusedVariables false
set_option linter.unusedSimpArgs false
attribute [local go_sem] conv1 conv1d conv1n conv1a conv1ad conv1an conv2 conv2d conv2n conv2a conv2ad conv2an conv4 conv4d conv4n conv4a conv4ad conv4an conv5 conv5d conv5n conv5a conv5ad conv5an size_nums byt_fold
def badAt (os : List (Int × ByteArray)) (k : Nat) : Bool :=
  match os[k]? with
  | none => false
  | some o => !rightB o.1 o.2 || decide (0 ≤ idxOf (fun x _ => x == o.1) (os.take k))
def anyBad (os : List (Int × ByteArray)) (n : Nat) : Bool := (List.range n).any (badAt os)
theorem anyBad_succ (os : List (Int × ByteArray)) (k : Nat) : anyBad os (k + 1) = (anyBad os k || badAt os k) := by
  unfold anyBad
  rw [List.range_succ, List.any_append]
  simp
theorem anyBad_at {os : List (Int × ByteArray)} {k n : Nat} (hk : k < n) (h : badAt os k = true) : anyBad os n = true := by
  unfold anyBad
  exact List.any_eq_true.2 ⟨k, List.mem_range.2 hk, h⟩
def setAll (os : List (Int × ByteArray)) : Lk := os.foldl (fun l o => setL l o.1 o.2) zeroL
theorem set_take {os : List (Int × ByteArray)} {k : Nat} {o : Int × ByteArray} (h : os[k]? = some o) : setAll (os.take (k + 1)) = setL (setAll (os.take k)) o.1 o.2 := by
  obtain ⟨hk, rfl⟩ := List.getElem?_eq_some_iff.1 h
  rw [List.take_succ_eq_append_getElem hk]
  unfold setAll
  rw [List.foldl_append]
  rfl
theorem OptsAt.take {w : World} {A : Option Addr} {n : Nat} {os : List (Int × ByteArray)} (h : OptsAt w A n os) (k : Nat) (hk : k ≤ n) : OptsAt w A k (os.take k) := by
  refine ⟨by rw [List.length_take, h.1]; omega, fun h0 => ?_⟩
  obtain ⟨b, off, e, hlt, hc⟩ := h.2 (by omega)
  refine ⟨b, off, e, hlt, fun j hj => ?_⟩
  have hj2 : j < os.length := by rw [List.length_take] at hj; omega
  rw [List.getElem_take]
  exact hc j hj2
theorem keepB {A W B u : World} (h : Below A.heap.size A W) (e : B = W) (hb : Below B.heap.size B u) : Below A.heap.size A u := by
  subst e
  exact below_step h hb h.size
def TakenB (os : List (Int × ByteArray)) (w : World) (e : Ending) (w' : World) : Prop := Below w.heap.size w w' ∧ e = .returned (.tuple (if !anyBad os os.length && mayB (setAll os) then #[lkV (setAll os), .int .i64 0] else #[lkV zeroL, .int .i64 1400]))
theorem TakenB.bad {os : List (Int × ByteArray)} {w w' : World} (hb : Below w.heap.size w w') (h : anyBad os os.length = true) : TakenB os w (.returned (.tuple #[lkV zeroL, .int .i64 1400])) w' := ⟨hb, by rw [h]; rfl⟩
def TakenR (os : List (Int × ByteArray)) (w : World) (k : Nat) (wr : World) : Prop :=
  k ≤ os.length ∧ anyBad os k = false ∧ Blk wr (w.heap.size + 1) 48 (lkC (setAll (os.take k))) ∧ Blk wr w.heap.size 23 (lkC zeroL) ∧ Below w.heap.size w wr
set_option maxRecDepth 100000 in
set_option maxHeartbeats 8000000 in
theorem taken_any (A : Option Addr) (n cap : Nat) (os : List (Int × ByteArray)) (w : World) (hv : OptsAt w A n os) (hn : n ≤ 9223372036854775807) (hcap : n ≤ cap) : Calls Try.prog 12 #[.slice A n cap] w (TakenB os w) := by
  have HV := Lib.hid hv; clear hv
  have hrb : Blk (w.alloc (.cells (lkC zeroL) 23)) w.heap.size 23 (lkC zeroL) := Blk.new w _ _
  have HRB := Lib.hid hrb; clear hrb
  have hsb : Blk ((w.alloc (.cells (lkC zeroL) 23)).alloc (.cells (lkC zeroL) 48)) (w.heap.size + 1) 48 (lkC zeroL) := Blk.new_at _ _ (by simp) _ _
  have HSB := Lib.hid hsb; clear hsb
  go_enter Try.func12, Try.ntmps12
  go_wp2_with fail
  go_loopw [11] (fun i wr => ∃ k : Nat, i = .int .i64 k ∧ TakenR os w k wr) (fun i _ => n - (intOf i).toNat)
  case atStart => exact ⟨0, rfl, Nat.zero_le _, rfl, HSB, (Blk.alloc HRB _), (by repeat' (first | (with_reducible exact Below.refl _ _) | (with_reducible refine Below.setCell ?_ (Nat.le_refl _) _) | (with_reducible apply Below.setCell) | (with_reducible apply Below.alloc) | (with_reducible apply Below.drew) | (with_reducible apply below_drewN) | (exact Nat.le_refl _) | omega | (simp; done) | (simp; omega)))⟩
  case round =>
    obtain ⟨k, rfl, hk, hbad, hside, hrb, hbel⟩ := hrel
    have hlen := HV.out.1
    have hkn : k ≤ n := by omega
    have hkk : k < n → k + 1 ≤ os.length := by omega
    have hke : ¬ k < n → os.take k = os ∧ k = os.length := by intro h; exact ⟨List.take_of_length_le (by omega), by omega⟩
    have HKK := Lib.hid hkk; have HKE := Lib.hid hke; clear hkk hke
    clear hlen
    obtain ⟨m, hm⟩ : ∃ m, setAll (os.take k) = m := ⟨_, rfl⟩
    rw [hm] at hside
    have HM := Lib.hid hm; clear hm
    have HBAD := Lib.hid hbad; clear hbad
    have z1 := hside.lt
    have z2 := hrb.lt
    have HS := Lib.hid hside; have HB := Lib.hid hrb
    by_cases hlt : k < n
    · clear hside hrb
      obtain ⟨b, off, kind, data, rfl, hb, ho, c1, c2⟩ := (HV.out.keep hbel).at_ k hlt
      have hst := set_take ho
      have HST := Lib.hid hst; clear hst
      have HO := Lib.hid ho; clear ho
      have hkc : (k : Int) ≤ (cap : Int) := by omega
      have hk0 : (0 : Int) ≤ (k : Int) := by omega
      obtain ⟨fi, hfi⟩ : ∃ fi, idxOf (fun x _ => x == kind) (os.take k) = fi := ⟨_, rfl⟩
      have hba : badAt os k = (!rightB kind data || decide (0 ≤ fi)) := by
        show (match os[k]? with | none => false | some o => !rightB o.1 o.2 || decide (0 ≤ idxOf (fun x _ => x == o.1) (os.take k))) = _
        rw [HO.out, ← hfi]
      have HBA := Lib.hid hba; have HFI := Lib.hid hfi; clear hba hfi
      cases hr : rightB kind data
      · go_wp2_with fail
        have belA : Below w.heap.size w (wr.alloc (Obj.cells #[Value.int IntKind.i64 kind, Value.string data] 36)) := (by repeat' (first | (with_reducible exact hbel) | (with_reducible refine Below.setCell ?_ (Nat.le_refl _) _) | (with_reducible apply Below.setCell) | (with_reducible apply Below.alloc) | (with_reducible apply Below.drew) | (with_reducible apply below_drewN) | (exact Nat.le_refl _) | omega | (simp; done) | (simp; omega)))
        have x0 : (wr.alloc (Obj.cells #[Value.int IntKind.i64 kind, Value.string data] 36)).cell? ⟨wr.heap.size, 0, none⟩ = some (.int .i64 kind) := cell0 rfl rfl
        have x1 : (wr.alloc (Obj.cells #[Value.int IntKind.i64 kind, Value.string data] 36)).cell? ⟨wr.heap.size, 1, none⟩ = some (.string data) := cell0 rfl rfl
        have sA : Blk (wr.alloc (Obj.cells #[Value.int IntKind.i64 kind, Value.string data] 36)) (w.heap.size + 1) 48 (lkC m) := HS.out.alloc _
        have rA : Blk (wr.alloc (Obj.cells #[Value.int IntKind.i64 kind, Value.string data] 36)) w.heap.size 23 (lkC zeroL) := HB.out.alloc _
        have vA : OptsAt (wr.alloc (Obj.cells #[Value.int IntKind.i64 kind, Value.string data] 36)) (some ⟨b, off, none⟩) k (os.take k) := ((HV.out.keep hbel).take k (by omega)).keep ((Below.refl _ _).alloc (Nat.le_refl _) _)
        generalize (wr.alloc (Obj.cells #[Value.int IntKind.i64 kind, Value.string data] 36)) = WA at *
        have SA := Lib.hid sA; have RA := Lib.hid rA; have VA := Lib.hid vA; clear sA rA vA
        refine wp_region_held_drew (S := fun W => Below WA.heap.size WA W) (by kernel_rfl) (Below.refl _ _).drew (fun hHeld => ?_)
        (refine wpAnyH_take (i := 0) (oi := _) (v := ?v0) rfl (by kernel_rfl) (by kernel_rfl) (by kernel_rfl) (fun _ _ _ h => h) (Or.inl ⟨by kernel_rfl, ?y0⟩) (by assumption) ?_; rotate_left; (· (intro w hSw; have hw1 := cellK hSw x0; have hw2 := cellK hSw x1; go_simp; try with_reducible rfl)); simp only [Act.put, List.setIfInBounds_toArray, List.set_cons_zero, List.set_cons_succ, List.getElem_toArray, List.getElem_cons_succ, List.getElem_cons_zero])
        (refine wpAnyH_ready (rs := [1]) (by kernel_rfl) (by simp) ?_; refine AllReadyH.cons (o := _) rfl (fun K hK => ?_) AllReadyH.nil; rw [if_pos (by kernel_rfl)])
        go_simp
        refine (right_any kind data _).mono ?_
        rintro e u ⟨rfl, hbu⟩
        rw [hr]
        go_simp
        (refine hK.out _ _ ?_ (fun hHeld => ?_))
        · exact keepB (A := WA) hHeld rfl hbu
        (refine wpAnyH_take (i := 2) (oi := _) (v := ?v2) rfl (by kernel_rfl) (by kernel_rfl) (by kernel_rfl) (fun _ _ _ h => h) (Or.inl ⟨by kernel_rfl, ?y2⟩) (by assumption) ?_; rotate_left; (· (intro w hSw; skip; go_simp; try with_reducible rfl)); simp only [Act.put, List.setIfInBounds_toArray, List.set_cons_zero, List.set_cons_succ, List.getElem_toArray, List.getElem_cons_succ, List.getElem_cons_zero])
        (refine wpAnyH_take (i := 3) (oi := _) (v := ?v3) rfl (by kernel_rfl) (by kernel_rfl) (by kernel_rfl) (fun _ _ _ h => h) (Or.inl ⟨by kernel_rfl, ?y3⟩) (by assumption) ?_; rotate_left; (· (intro w hSw; skip; go_simp; try with_reducible rfl)); simp only [Act.put, List.setIfInBounds_toArray, List.set_cons_zero, List.set_cons_succ, List.getElem_toArray, List.getElem_cons_succ, List.getElem_cons_zero])
        (refine wpAnyH_take (i := 4) (oi := _) (v := _) rfl (by kernel_rfl) (by kernel_rfl) (by kernel_rfl) (fun _ _ _ h => h) (Or.inr ⟨by kernel_rfl, rfl⟩) (by assumption) ?_; simp only [Act.put, List.setIfInBounds_toArray, List.set_cons_zero, List.set_cons_succ, List.getElem_toArray, List.getElem_cons_succ, List.getElem_cons_zero])
        (refine wpAnyH_take (i := 5) (oi := _) (v := _) rfl (by kernel_rfl) (by kernel_rfl) (by kernel_rfl) (fun _ _ _ h => h) (Or.inr ⟨by kernel_rfl, rfl⟩) (by assumption) ?_; simp only [Act.put, List.setIfInBounds_toArray, List.set_cons_zero, List.set_cons_succ, List.getElem_toArray, List.getElem_cons_succ, List.getElem_cons_zero])
        (refine wpAnyH_take (i := 6) (oi := _) (v := _) rfl (by kernel_rfl) (by kernel_rfl) (by kernel_rfl) (fun _ _ _ h => h) (Or.inr ⟨by kernel_rfl, rfl⟩) (by assumption) ?_; simp only [Act.put, List.setIfInBounds_toArray, List.set_cons_zero, List.set_cons_succ, List.getElem_toArray, List.getElem_cons_succ, List.getElem_cons_zero])
        (refine wpAnyH_take (i := 7) (oi := _) (v := _) rfl (by kernel_rfl) (by kernel_rfl) (by kernel_rfl) (fun _ _ _ h => h) (Or.inr ⟨by kernel_rfl, rfl⟩) (by assumption) ?_; simp only [Act.put, List.setIfInBounds_toArray, List.set_cons_zero, List.set_cons_succ, List.getElem_toArray, List.getElem_cons_succ, List.getElem_cons_zero])
        (refine wpAnyH_take (i := 8) (oi := _) (v := _) rfl (by kernel_rfl) (by kernel_rfl) (by kernel_rfl) (fun _ _ _ h => h) (Or.inr ⟨by kernel_rfl, rfl⟩) (by assumption) ?_; simp only [Act.put, List.setIfInBounds_toArray, List.set_cons_zero, List.set_cons_succ, List.getElem_toArray, List.getElem_cons_succ, List.getElem_cons_zero])
        (refine wpAnyH_take (i := 9) (oi := _) (v := _) rfl (by kernel_rfl) (by kernel_rfl) (by kernel_rfl) (fun _ _ _ h => h) (Or.inr ⟨by kernel_rfl, rfl⟩) (by assumption) ?_; simp only [Act.put, List.setIfInBounds_toArray, List.set_cons_zero, List.set_cons_succ, List.getElem_toArray, List.getElem_cons_succ, List.getElem_cons_zero])
        (refine wpAnyH_take (i := 10) (oi := _) (v := _) rfl (by kernel_rfl) (by kernel_rfl) (by kernel_rfl) (fun _ _ _ h => h) (Or.inr ⟨by kernel_rfl, rfl⟩) (by assumption) ?_; simp only [Act.put, List.setIfInBounds_toArray, List.set_cons_zero, List.set_cons_succ, List.getElem_toArray, List.getElem_cons_succ, List.getElem_cons_zero])
        (refine wpAnyH_take (i := 11) (oi := _) (v := ?v11) rfl (by kernel_rfl) (by kernel_rfl) (by kernel_rfl) (fun _ _ _ h => h) (Or.inl ⟨by kernel_rfl, ?y11⟩) (by assumption) ?_; rotate_left; (· (intro w hSw; skip; go_simp; try with_reducible rfl)); simp only [Act.put, List.setIfInBounds_toArray, List.set_cons_zero, List.set_cons_succ, List.getElem_toArray, List.getElem_cons_succ, List.getElem_cons_zero])
        (refine wpAnyH_done (by kernel_rfl) ?_ _)
        have hHu : Below WA.heap.size WA u := hHeld
        have belu := below_step belA hHu belA.size
        have rU : Blk u w.heap.size 23 (lkC zeroL) := Blk.keep RA.out hHu
        have q0 : u.cell? ⟨w.heap.size, 0, none⟩ = some (.int .i64 0) := rU.cell 0
        have q1 : u.cell? ⟨w.heap.size, 1, none⟩ = some (.int .i64 0) := rU.cell 1
        have q2 : u.cell? ⟨w.heap.size, 2, none⟩ = some (.int .i64 0) := rU.cell 2
        have q3 : u.cell? ⟨w.heap.size, 3, none⟩ = some (.bool false) := rU.cell 3
        have q4 : u.cell? ⟨w.heap.size, 4, none⟩ = some (.string ⟨#[]⟩) := rU.cell 4
        have q5 : u.cell? ⟨w.heap.size, 5, none⟩ = some (.int .i64 0) := rU.cell 5
        have qf := rU.frozen
        clear rU
        go_wp2_with fail
        refine bodyPost_ret (v := .tuple #[.agg #[.int .i64 0, .int .i64 0, .int .i64 0, .bool false, .string ⟨#[]⟩, .int .i64 0], .int .i64 1400]) (by simp [results, Try.results12, go_sem, q0, q1, q2, q3, q4, q5, qf]) rfl ?_
        exact TakenB.bad (by repeat' (first | (with_reducible exact belu) | (with_reducible refine Below.setCell ?_ (Nat.le_refl _) _) | (with_reducible apply Below.setCell) | (with_reducible apply Below.alloc) | (with_reducible apply Below.drew) | (with_reducible apply below_drewN) | (exact Nat.le_refl _) | omega | (simp; done) | (simp; omega))) (anyBad_at (HKK.out hlt) (by rw [HBA.out, hr]; rfl))
      · go_wp2_with fail
        have belA : Below w.heap.size w (wr.alloc (Obj.cells #[Value.int IntKind.i64 kind, Value.string data] 36)) := (by repeat' (first | (with_reducible exact hbel) | (with_reducible refine Below.setCell ?_ (Nat.le_refl _) _) | (with_reducible apply Below.setCell) | (with_reducible apply Below.alloc) | (with_reducible apply Below.drew) | (with_reducible apply below_drewN) | (exact Nat.le_refl _) | omega | (simp; done) | (simp; omega)))
        have x0 : (wr.alloc (Obj.cells #[Value.int IntKind.i64 kind, Value.string data] 36)).cell? ⟨wr.heap.size, 0, none⟩ = some (.int .i64 kind) := cell0 rfl rfl
        have x1 : (wr.alloc (Obj.cells #[Value.int IntKind.i64 kind, Value.string data] 36)).cell? ⟨wr.heap.size, 1, none⟩ = some (.string data) := cell0 rfl rfl
        have sA : Blk (wr.alloc (Obj.cells #[Value.int IntKind.i64 kind, Value.string data] 36)) (w.heap.size + 1) 48 (lkC m) := HS.out.alloc _
        have rA : Blk (wr.alloc (Obj.cells #[Value.int IntKind.i64 kind, Value.string data] 36)) w.heap.size 23 (lkC zeroL) := HB.out.alloc _
        have vA : OptsAt (wr.alloc (Obj.cells #[Value.int IntKind.i64 kind, Value.string data] 36)) (some ⟨b, off, none⟩) k (os.take k) := ((HV.out.keep hbel).take k (by omega)).keep ((Below.refl _ _).alloc (Nat.le_refl _) _)
        generalize (wr.alloc (Obj.cells #[Value.int IntKind.i64 kind, Value.string data] 36)) = WA at *
        have SA := Lib.hid sA; have RA := Lib.hid rA; have VA := Lib.hid vA; clear sA rA vA
        refine wp_region_held_drew (S := fun W => Below WA.heap.size WA W) (by kernel_rfl) (Below.refl _ _).drew (fun hHeld => ?_)
        (refine wpAnyH_take (i := 0) (oi := _) (v := ?vB0) rfl (by kernel_rfl) (by kernel_rfl) (by kernel_rfl) (fun _ _ _ h => h) (Or.inl ⟨by kernel_rfl, ?yB0⟩) (by assumption) ?_; rotate_left; (· (intro w hSw; have hw1 := cellK hSw x0; have hw2 := cellK hSw x1; go_simp; try with_reducible rfl)); simp only [Act.put, List.setIfInBounds_toArray, List.set_cons_zero, List.set_cons_succ, List.getElem_toArray, List.getElem_cons_succ, List.getElem_cons_zero])
        (refine wpAnyH_ready (rs := [1]) (by kernel_rfl) (by simp) ?_; refine AllReadyH.cons (o := _) rfl (fun K hK => ?_) AllReadyH.nil; rw [if_pos (by kernel_rfl)])
        go_simp
        refine (right_any kind data _).mono ?_
        rintro e u ⟨rfl, hbu⟩
        rw [hr]
        go_simp
        (refine hK.out _ _ ?_ (fun hHeld => ?_))
        · exact keepB (A := WA) hHeld rfl hbu
        (refine wpAnyH_take (i := 2) (oi := _) (v := ?vB2) rfl (by kernel_rfl) (by kernel_rfl) (by kernel_rfl) (fun _ _ _ h => h) (Or.inl ⟨by kernel_rfl, ?yB2⟩) (by assumption) ?_; rotate_left; (· (intro w hSw; skip; go_simp; try with_reducible rfl)); simp only [Act.put, List.setIfInBounds_toArray, List.set_cons_zero, List.set_cons_succ, List.getElem_toArray, List.getElem_cons_succ, List.getElem_cons_zero])
        (refine wpAnyH_take (i := 3) (oi := _) (v := ?vB3) rfl (by kernel_rfl) (by kernel_rfl) (by kernel_rfl) (fun _ _ _ h => h) (Or.inl ⟨by kernel_rfl, ?yB3⟩) (by assumption) ?_; rotate_left; (· (intro w hSw; skip; go_simp; try with_reducible rfl)); simp only [Act.put, List.setIfInBounds_toArray, List.set_cons_zero, List.set_cons_succ, List.getElem_toArray, List.getElem_cons_succ, List.getElem_cons_zero])
        (refine wpAnyH_take (i := 4) (oi := _) (v := ?vB4) rfl (by kernel_rfl) (by kernel_rfl) (by kernel_rfl) (fun _ _ _ h => h) (Or.inl ⟨by kernel_rfl, ?yB4⟩) (by assumption) ?_; rotate_left; (· (intro w hSw; have hw1 := cellK hSw x0; have hw2 := cellK hSw x1; go_simp; try with_reducible rfl)); simp only [Act.put, List.setIfInBounds_toArray, List.set_cons_zero, List.set_cons_succ, List.getElem_toArray, List.getElem_cons_succ, List.getElem_cons_zero])
        (refine wpAnyH_take (i := 5) (oi := _) (v := ?vB5) rfl (by kernel_rfl) (by kernel_rfl) (by kernel_rfl) (fun _ _ _ h => h) (Or.inl ⟨by kernel_rfl, ?yB5⟩) (by assumption) ?_; rotate_left; (· (intro w hSw; have hw1 := cellK hSw x0; have hw2 := cellK hSw x1; go_simp; try with_reducible rfl)); simp only [Act.put, List.setIfInBounds_toArray, List.set_cons_zero, List.set_cons_succ, List.getElem_toArray, List.getElem_cons_succ, List.getElem_cons_zero])
        (refine wpAnyH_take (i := 6) (oi := _) (v := ?vB6) rfl (by kernel_rfl) (by kernel_rfl) (by kernel_rfl) (fun _ _ _ h => h) (Or.inl ⟨by kernel_rfl, ?yB6⟩) (by assumption) ?_; rotate_left; (· (intro w hSw; skip; go_simp; try with_reducible rfl)); simp only [Act.put, List.setIfInBounds_toArray, List.set_cons_zero, List.set_cons_succ, List.getElem_toArray, List.getElem_cons_succ, List.getElem_cons_zero])
        (refine wpAnyH_take (i := 7) (oi := _) (v := ?vB7) rfl (by kernel_rfl) (by kernel_rfl) (by kernel_rfl) (fun _ _ _ h => h) (Or.inl ⟨by kernel_rfl, ?yB7⟩) (by assumption) ?_; rotate_left; (· (intro w hSw; skip; go_simp; try with_reducible rfl)); simp only [Act.put, List.setIfInBounds_toArray, List.set_cons_zero, List.set_cons_succ, List.getElem_toArray, List.getElem_cons_succ, List.getElem_cons_zero])
        (refine wpAnyH_take (i := 8) (oi := _) (v := ?vB8) rfl (by kernel_rfl) (by kernel_rfl) (by kernel_rfl) (fun _ _ _ h => h) (Or.inl ⟨by kernel_rfl, ?yB8⟩) (by assumption) ?_; rotate_left; (· (intro w hSw; skip; go_simp; try with_reducible rfl)); simp only [Act.put, List.setIfInBounds_toArray, List.set_cons_zero, List.set_cons_succ, List.getElem_toArray, List.getElem_cons_succ, List.getElem_cons_zero])
        have hHu : Below WA.heap.size WA u := hHeld
        (refine wpAnyH_ready (rs := [9]) (by kernel_rfl) (by simp) ?_; refine AllReadyH.cons (o := _) rfl (fun K hK => ?_) AllReadyH.nil; rw [if_pos (by kernel_rfl)])
        go_simp
        refine (find_any kind (some ⟨b, off, none⟩) k cap (os.take k) u (VA.out.keep hHu) (by omega)).mono ?_
        rintro e u2 ⟨rfl, hbu2⟩
        rw [HFI.out]
        go_simp
        (refine hK.out _ _ ?_ (fun hHeld => ?_))
        · exact keepB (A := WA) hHu rfl hbu2
        (refine wpAnyH_take (i := 10) (oi := _) (v := ?vB10) rfl (by kernel_rfl) (by kernel_rfl) (by kernel_rfl) (fun _ _ _ h => h) (Or.inl ⟨by kernel_rfl, ?yB10⟩) (by assumption) ?_; rotate_left; (· (intro w hSw; skip; go_simp; try with_reducible rfl)); simp only [Act.put, List.setIfInBounds_toArray, List.set_cons_zero, List.set_cons_succ, List.getElem_toArray, List.getElem_cons_succ, List.getElem_cons_zero])
        (refine wpAnyH_take (i := 11) (oi := _) (v := ?vB11) rfl (by kernel_rfl) (by kernel_rfl) (by kernel_rfl) (fun _ _ _ h => h) (Or.inl ⟨by kernel_rfl, ?yB11⟩) (by assumption) ?_; rotate_left; (· (intro w hSw; skip; go_simp; try with_reducible rfl)); simp only [Act.put, List.setIfInBounds_toArray, List.set_cons_zero, List.set_cons_succ, List.getElem_toArray, List.getElem_cons_succ, List.getElem_cons_zero])
        (refine wpAnyH_done (by kernel_rfl) ?_ _)
        have hHu2 : Below WA.heap.size WA u2 := hHeld
        have belu := below_step belA hHu2 belA.size
        have sU := Blk.keep SA.out hHu2
        have y0 : u2.cell? ⟨wr.heap.size, 0, none⟩ = some (.int .i64 kind) := cellK hHu2 x0
        have y1 : u2.cell? ⟨wr.heap.size, 1, none⟩ = some (.string data) := cellK hHu2 x1
        have SU := Lib.hid sU; clear sU
        by_cases hf0 : 0 ≤ fi
        · have rU : Blk u2 w.heap.size 23 (lkC zeroL) := Blk.keep RA.out hHu2
          have q0 : u2.cell? ⟨w.heap.size, 0, none⟩ = some (.int .i64 0) := rU.cell 0
          have q1 : u2.cell? ⟨w.heap.size, 1, none⟩ = some (.int .i64 0) := rU.cell 1
          have q2 : u2.cell? ⟨w.heap.size, 2, none⟩ = some (.int .i64 0) := rU.cell 2
          have q3 : u2.cell? ⟨w.heap.size, 3, none⟩ = some (.bool false) := rU.cell 3
          have q4 : u2.cell? ⟨w.heap.size, 4, none⟩ = some (.string ⟨#[]⟩) := rU.cell 4
          have q5 : u2.cell? ⟨w.heap.size, 5, none⟩ = some (.int .i64 0) := rU.cell 5
          have qf := rU.frozen
          clear rU
          go_wp2_with fail
          refine bodyPost_ret (v := .tuple #[.agg #[.int .i64 0, .int .i64 0, .int .i64 0, .bool false, .string ⟨#[]⟩, .int .i64 0], .int .i64 1400]) (by simp [results, Try.results12, go_sem, q0, q1, q2, q3, q4, q5, qf]) rfl ?_
          exact TakenB.bad (by repeat' (first | (with_reducible exact belu) | (with_reducible refine Below.setCell ?_ (Nat.le_refl _) _) | (with_reducible apply Below.setCell) | (with_reducible apply Below.alloc) | (with_reducible apply Below.drew) | (with_reducible apply below_drewN) | (exact Nat.le_refl _) | omega | (simp; done) | (simp; omega))) (anyBad_at (HKK.out hlt) (by rw [HBA.out, hr]; simp [hf0]))
        · have rU : Blk u2 w.heap.size 23 (lkC zeroL) := Blk.keep RA.out hHu2
          have RU := Lib.hid rU; clear rU
          have HF := Lib.hid (decide_eq_false hf0)
          go_wp2_with fail
          refine (set_any (w.heap.size + 1) kind data m _ SU.out (right_six hr).1 (by have := (right_six hr).2; omega)).mono ?_
          rintro e w3 h3
          have HST3 := Lib.hid h3; clear h3
          obtain ⟨rfl, -, -⟩ := HST3.out
          go_wp2_with fail
          go_roundw
          case rel => exact ⟨k + 1, by go_num, HKK.out hlt, by rw [anyBad_succ, HBAD.out, HBA.out, hr, HF.out]; rfl, by rw [HST.out, HM.out]; exact HST3.2.1, RU.out.grown HST3.2.2 (by intro e; have e := Option.some.inj e; omega), below_gr belu HST3.2.2 belu.size (by omega)⟩
          case measure => simp [intOf]; omega
    · obtain ⟨htk, hke⟩ := HKE.out hlt
      rw [htk] at HM
      subst hke
      have s0 : wr.cell? ⟨w.heap.size + 1, 0, none⟩ = some (.int .i64 m.mru) := hside.cell 0
      have s1 : wr.cell? ⟨w.heap.size + 1, 1, none⟩ = some (.int .i64 m.magic) := hside.cell 1
      have s2 : wr.cell? ⟨w.heap.size + 1, 2, none⟩ = some (.int .i64 m.mrru) := hside.cell 2
      have s3 : wr.cell? ⟨w.heap.size + 1, 3, none⟩ = some (.bool m.short) := hside.cell 3
      have s4 : wr.cell? ⟨w.heap.size + 1, 4, none⟩ = some (.string m.disc) := hside.cell 4
      have s5 : wr.cell? ⟨w.heap.size + 1, 5, none⟩ = some (.int .i64 m.num) := hside.cell 5
      clear hside hrb
      cases hmay : mayB m
      · go_wp2_with fail
        refine (may_any m _).mono ?_
        rintro e u ⟨rfl, hbu⟩
        rw [hmay]
        have belu := below_step hbel hbu hbel.size
        have rU : Blk u w.heap.size 23 (lkC zeroL) := Blk.keep HB.out hbu
        have q0 : u.cell? ⟨w.heap.size, 0, none⟩ = some (.int .i64 0) := rU.cell 0
        have q1 : u.cell? ⟨w.heap.size, 1, none⟩ = some (.int .i64 0) := rU.cell 1
        have q2 : u.cell? ⟨w.heap.size, 2, none⟩ = some (.int .i64 0) := rU.cell 2
        have q3 : u.cell? ⟨w.heap.size, 3, none⟩ = some (.bool false) := rU.cell 3
        have q4 : u.cell? ⟨w.heap.size, 4, none⟩ = some (.string ⟨#[]⟩) := rU.cell 4
        have q5 : u.cell? ⟨w.heap.size, 5, none⟩ = some (.int .i64 0) := rU.cell 5
        have qf := rU.frozen
        clear rU
        go_wp2_with fail
        refine bodyPost_ret (v := .tuple #[.agg #[.int .i64 0, .int .i64 0, .int .i64 0, .bool false, .string ⟨#[]⟩, .int .i64 0], .int .i64 1400]) (by simp [results, Try.results12, go_sem, q0, q1, q2, q3, q4, q5, qf]) rfl ?_
        exact ⟨(by repeat' (first | (with_reducible exact belu) | (with_reducible refine Below.setCell ?_ (Nat.le_refl _) _) | (with_reducible apply Below.setCell) | (with_reducible apply Below.alloc) | (with_reducible apply Below.drew) | (with_reducible apply below_drewN) | (exact Nat.le_refl _) | omega | (simp; done) | (simp; omega))), by rw [HBAD.out, HM.out, hmay]; rfl⟩
      · go_wp2_with fail
        refine (may_any m _).mono ?_
        rintro e u ⟨rfl, hbu⟩
        rw [hmay]
        have belu := below_step hbel hbu hbel.size
        have rU : Blk u w.heap.size 23 (lkC zeroL) := Blk.keep HB.out hbu
        have sU : Blk u (w.heap.size + 1) 48 (lkC m) := Blk.keep HS.out hbu
        have q0 : u.cell? ⟨w.heap.size, 0, none⟩ = some (.int .i64 0) := rU.cell 0
        have q1 : u.cell? ⟨w.heap.size, 1, none⟩ = some (.int .i64 0) := rU.cell 1
        have q2 : u.cell? ⟨w.heap.size, 2, none⟩ = some (.int .i64 0) := rU.cell 2
        have q3 : u.cell? ⟨w.heap.size, 3, none⟩ = some (.bool false) := rU.cell 3
        have q4 : u.cell? ⟨w.heap.size, 4, none⟩ = some (.string ⟨#[]⟩) := rU.cell 4
        have q5 : u.cell? ⟨w.heap.size, 5, none⟩ = some (.int .i64 0) := rU.cell 5
        have t0 : u.cell? ⟨w.heap.size + 1, 0, none⟩ = some (.int .i64 m.mru) := sU.cell 0
        have t1 : u.cell? ⟨w.heap.size + 1, 1, none⟩ = some (.int .i64 m.magic) := sU.cell 1
        have t2 : u.cell? ⟨w.heap.size + 1, 2, none⟩ = some (.int .i64 m.mrru) := sU.cell 2
        have t3 : u.cell? ⟨w.heap.size + 1, 3, none⟩ = some (.bool m.short) := sU.cell 3
        have t4 : u.cell? ⟨w.heap.size + 1, 4, none⟩ = some (.string m.disc) := sU.cell 4
        have t5 : u.cell? ⟨w.heap.size + 1, 5, none⟩ = some (.int .i64 m.num) := sU.cell 5
        have qf := rU.frozen
        have sf := sU.frozen
        clear rU sU
        go_wp2_with fail
        refine bodyPost_ret (v := .tuple #[.agg #[.int .i64 m.mru, .int .i64 m.magic, .int .i64 m.mrru, .bool m.short, .string m.disc, .int .i64 m.num], .int .i64 0]) (by simp [results, Try.results12, go_sem, q0, q1, q2, q3, q4, q5, t0, t1, t2, t3, t4, t5, qf, sf]) rfl ?_
        exact ⟨(by repeat' (first | (with_reducible exact belu) | (with_reducible refine Below.setCell ?_ (Nat.le_refl _) _) | (with_reducible apply Below.setCell) | (with_reducible apply Below.alloc) | (with_reducible apply Below.drew) | (with_reducible apply below_drewN) | (exact Nat.le_refl _) | omega | (simp; done) | (simp; omega))), by rw [HBAD.out, HM.out, hmay]; rfl⟩
end Go.Proofs.Ytjmcgekegenobaa
