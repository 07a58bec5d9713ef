/- The law CircuitPorts, walked. No condition. -/
import Derived.Test.YtmbnonkbflchoaaCirV
import Derived.Great.BuildSlice
import Derived.Deep.RegionHeld3
namespace Go.Proofs.Ytmbnonkbflchoaa
open Go.RowKit
set_option linter.unusedVariables false
set_option linter.unusedSimpArgs false
open Go.Maps
theorem pob_low {w0 w : World} {g p i : Nat} {last : Int} {v : Value} {us : List Int} (h : PoB w0 g p i last v us w) : Below w0.heap.size w0 w := by
  obtain ⟨B, L, h, -⟩ := h
  exact h.2.1
theorem pob_drewN {w0 w : World} {g p i : Nat} {last : Int} {v : Value} {us : List Int} (h : PoB w0 g p i last v us w) (n : Nat) : PoB w0 g p i last v us (w.drewN n) := by
  obtain ⟨B, L, h1, h2, h3, h4, h5⟩ := h
  exact ⟨B, L, h1.drewN n, h2, own_keep h3 ⟨rfl, rfl, rfl, Nat.le_refl _, fun _ _ => rfl⟩, h4, h5⟩
set_option maxRecDepth 100000 in
set_option maxHeartbeats 8000000 in
theorem ports_walk (ports : Int) (A : Option Addr) (n cap : Nat) (zs : List Int) (_ : (Lit.int .i64 ports).wf = true) (hnil : A = none → n = 0 ∧ cap = 0) (hcap : n ≤ cap) (hz : n * 8 ≤ 140737488351232) (w0 : World) (hv : IntsAt w0 A n zs) : Calls Try.prog 3 #[.int .i64 ports, .slice A n cap] w0 fun e w' => e = .returned (.bool true) ∧ Below w0.heap.size w0 w' := by
  have HV := Lib.hid hv; clear hv hnil hcap
  obtain ⟨p0, hp0, hp1⟩ := and7 ports
  obtain ⟨p, hp⟩ : ∃ p : Nat, p = 1 + p0 := ⟨_, rfl⟩
  have hwp : wrap64 (1 + (p0 : Int)) = (p : Int) := by rw [wrap_in (by omega) (by omega)]; omega
  have hpp : 1 ≤ p ∧ p ≤ 8 := by omega
  obtain ⟨i0, hi, hz0, hz1, hz2⟩ := info_parts info_int
  have HZ1 := Lib.hid hz1; have HZ2 := Lib.hid hz2; have HZ0 := Lib.hid hz0; have HI := Lib.hid hi
  clear hp hp1 hz0 hz1 hz2 hi
  go_enter Try.func3, Try.ntmps3
  go_wp2_with fail
  refine (awake_any _).mono ?_
  rintro e w1 ⟨rfl, hb1⟩
  go_wp2_with fail
  refine (new_under (p : Int) 100 _ hb1 (by omega) (by omega) (by decide) (by decide)).mono ?_
  rintro e w2 ⟨rfl, -, L2, h2⟩
  generalize w1.heap.size + 1 = g at *
  have H2 := Lib.hid h2; clear h2
  go_wp2_with fail
  clear hwp hp0
  go_loopw [8, 9, 10] (fun u l i wr => ∃ (us : List Int) (last : Int) (k : Nat), l = .int .i64 last ∧ i = .int .i64 k ∧ PoB w0 g p k last u us wr) (fun _ _ i _ => 120 - (intOf i).toNat)
  case atStart => exact ⟨[], 0, 0, rfl, rfl, _, L2, H2.out, Ups.zero p, World.ownsRow_nil _ _ _ _, RowL.none _, by omega, by omega⟩
  case round =>
    obtain ⟨us, last, k, rfl, rfl, hrel⟩ := hrel
    have HR := Lib.hid hrel
    obtain ⟨B, L, hst, hup, hown, hrl, hl0, hk100⟩ := hrel
    have hle := hup.le
    have hle2 : last ≤ (k : Int) := by
      obtain ⟨s, hs⟩ := hst.1
      have := hs.l1
      rw [hup.last_] at this
      exact this
    have HS := Lib.hid hst; have HU := Lib.hid hup; have HO := Lib.hid hown; have HL := Lib.hid hrl
    obtain ⟨m, hm⟩ : ∃ m : Nat, us.length = m := ⟨_, rfl⟩
    rw [hm] at hown hle
    obtain ⟨uA, ucap, rfl⟩ := own_slice hown
    have hneg : us.length ≠ m → False := fun h => h hm
    clear hst hup hown hrl hneg
    by_cases hlt : k < n
    · by_cases h100 : k < 100
      · have y1 : (k : Int) < (n : Int) := by omega
        have y2 : (k : Int) < 100 := by omega
        obtain ⟨b, off, z, rfl, hb, ho, c1⟩ := (HV.out.keep HS.out.2.1).at_ k hlt
        have HZ := Lib.hid ho; clear ho hb
        obtain ⟨o, ho1, ho2⟩ := and1 z
        have hm8 : m ≤ 8 := by omega
        have HN := Lib.hid (show k ≤ 100 ∧ k < n from ⟨by omega, hlt⟩)
        clear hk100 hlt h100
        by_cases hodd : o = 0
        · subst hodd
          clear ho2
          have ⟨sb, hsb, hsb2⟩ := and1 (z / 2)
          have hw1 : wrap64 (1 - sb) = 1 - sb := wrap_in (by omega) (by omega)
          have hw2 : IntKind.i64.wrap (1 - sb) = 1 - sb := IntWalk.i64_in _ (by omega)
          have HSB := Lib.hid hsb2; clear hsb2
          go_wp2_with fail
          refine wp_region_held_drew (S := fun W => W.cell? ⟨b, off + k, none⟩ = some (.int .i64 z)) (by kernel_rfl) c1 (fun hHeld => ?_)
          (refine wpAnyH_take (i := 0) (oi := _) (v := ?vp0) rfl (by kernel_rfl) (by kernel_rfl) (by kernel_rfl) (fun _ _ _ h => h) (Or.inl ⟨by kernel_rfl, ?yp0⟩) (by assumption) ?_; rotate_left; (· (intro w hSw; have hw1 : w.cell? ⟨b, off + k, none⟩ = some (.int .i64 z) := hSw; clear hSw; go_simp; try with_reducible rfl)); simp only [Act.put, List.setIfInBounds_toArray, List.set_cons_zero, List.set_cons_succ, List.getElem_toArray, List.getElem_cons_succ, List.getElem_cons_zero])
          (refine wpAnyH_take (i := 1) (oi := _) (v := ?vp1) rfl (by kernel_rfl) (by kernel_rfl) (by kernel_rfl) (fun _ _ _ h => h) (Or.inl ⟨by kernel_rfl, ?yp1⟩) (by assumption) ?_; rotate_left; (· (intro w hSw; have hw1 : w.cell? ⟨b, off + k, none⟩ = some (.int .i64 z) := hSw; clear hSw; go_simp; try with_reducible rfl)); simp only [Act.put, List.setIfInBounds_toArray, List.set_cons_zero, List.set_cons_succ, List.getElem_toArray, List.getElem_cons_succ, List.getElem_cons_zero])
          (refine wpAnyH_take (i := 2) (oi := _) (v := ?vp2) rfl (by kernel_rfl) (by kernel_rfl) (by kernel_rfl) (fun _ _ _ h => h) (Or.inl ⟨by kernel_rfl, ?yp2⟩) (by assumption) ?_; rotate_left; (· (intro w hSw; have hw1 : w.cell? ⟨b, off + k, none⟩ = some (.int .i64 z) := hSw; clear hSw; go_simp; try with_reducible rfl)); simp only [Act.put, List.setIfInBounds_toArray, List.set_cons_zero, List.set_cons_succ, List.getElem_toArray, List.getElem_cons_succ, List.getElem_cons_zero])
          (refine wpAnyH_take (i := 3) (oi := _) (v := ?vp3) rfl (by kernel_rfl) (by kernel_rfl) (by kernel_rfl) (fun _ _ _ h => h) (Or.inl ⟨by kernel_rfl, ?yp3⟩) (by assumption) ?_; rotate_left; (· (intro w hSw; have hw1 : w.cell? ⟨b, off + k, none⟩ = some (.int .i64 z) := hSw; clear hSw; go_simp; try with_reducible rfl)); simp only [Act.put, List.setIfInBounds_toArray, List.set_cons_zero, List.set_cons_succ, List.getElem_toArray, List.getElem_cons_succ, List.getElem_cons_zero])
          (refine wpAnyH_take (i := 4) (oi := _) (v := ?vp4) rfl (by kernel_rfl) (by kernel_rfl) (by kernel_rfl) (fun _ _ _ h => h) (Or.inl ⟨by kernel_rfl, ?yp4⟩) (by assumption) ?_; rotate_left; (· (intro w hSw; have hw1 : w.cell? ⟨b, off + k, none⟩ = some (.int .i64 z) := hSw; clear hSw; go_simp; try with_reducible rfl)); simp only [Act.put, List.setIfInBounds_toArray, List.set_cons_zero, List.set_cons_succ, List.getElem_toArray, List.getElem_cons_succ, List.getElem_cons_zero])
          (refine wpAnyH_take (i := 5) (oi := _) (v := ?vp5) rfl (by kernel_rfl) (by kernel_rfl) (by kernel_rfl) (fun _ _ _ h => h) (Or.inl ⟨by kernel_rfl, ?yp5⟩) (by assumption) ?_; rotate_left; (· (intro w hSw; have hw1 : w.cell? ⟨b, off + k, none⟩ = some (.int .i64 z) := hSw; clear hSw; go_simp; try with_reducible rfl)); simp only [Act.put, List.setIfInBounds_toArray, List.set_cons_zero, List.set_cons_succ, List.getElem_toArray, List.getElem_cons_succ, List.getElem_cons_zero])
          (refine wpAnyH_take (i := 6) (oi := _) (v := ?vp6) rfl (by kernel_rfl) (by kernel_rfl) (by kernel_rfl) (fun _ _ _ h => h) (Or.inl ⟨by kernel_rfl, ?yp6⟩) (by assumption) ?_; rotate_left; (· (intro w hSw; have hw1 : w.cell? ⟨b, off + k, none⟩ = some (.int .i64 z) := hSw; clear hSw; go_simp; try with_reducible rfl)); simp only [Act.put, List.setIfInBounds_toArray, List.set_cons_zero, List.set_cons_succ, List.getElem_toArray, List.getElem_cons_succ, List.getElem_cons_zero])
          (refine wpAnyH_take (i := 7) (oi := _) (v := ?vp7) rfl (by kernel_rfl) (by kernel_rfl) (by kernel_rfl) (fun _ _ _ h => h) (Or.inl ⟨by kernel_rfl, ?yp7⟩) (by assumption) ?_; rotate_left; (· (intro w hSw; have hw1 : w.cell? ⟨b, off + k, none⟩ = some (.int .i64 z) := hSw; clear hSw; go_simp; try with_reducible rfl)); simp only [Act.put, List.setIfInBounds_toArray, List.set_cons_zero, List.set_cons_succ, List.getElem_toArray, List.getElem_cons_succ, List.getElem_cons_zero])
          (refine wpAnyH_take (i := 8) (oi := _) (v := ?vp8) rfl (by kernel_rfl) (by kernel_rfl) (by kernel_rfl) (fun _ _ _ h => h) (Or.inl ⟨by kernel_rfl, ?yp8⟩) (by assumption) ?_; rotate_left; (· (intro w hSw; have hw1 : w.cell? ⟨b, off + k, none⟩ = some (.int .i64 z) := hSw; clear hSw; go_simp; try with_reducible rfl)); simp only [Act.put, List.setIfInBounds_toArray, List.set_cons_zero, List.set_cons_succ, List.getElem_toArray, List.getElem_cons_succ, List.getElem_cons_zero])
          (refine wpAnyH_take (i := 9) (oi := _) (v := ?vp9) rfl (by kernel_rfl) (by kernel_rfl) (by kernel_rfl) (fun _ _ _ h => h) (Or.inl ⟨by kernel_rfl, ?yp9⟩) (by assumption) ?_; rotate_left; (· (intro w hSw; have hw1 : w.cell? ⟨b, off + k, none⟩ = some (.int .i64 z) := hSw; clear hSw; go_simp; try with_reducible rfl)); simp only [Act.put, List.setIfInBounds_toArray, List.set_cons_zero, List.set_cons_succ, List.getElem_toArray, List.getElem_cons_succ, List.getElem_cons_zero])
          (refine wpAnyH_take (i := 10) (oi := _) (v := ?vp10) rfl (by kernel_rfl) (by kernel_rfl) (by kernel_rfl) (fun _ _ _ h => h) (Or.inl ⟨by kernel_rfl, ?yp10⟩) (by assumption) ?_; rotate_left; (· (intro w hSw; have hw1 : w.cell? ⟨b, off + k, none⟩ = some (.int .i64 z) := hSw; clear hSw; go_simp; try with_reducible rfl)); simp only [Act.put, List.setIfInBounds_toArray, List.set_cons_zero, List.set_cons_succ, List.getElem_toArray, List.getElem_cons_succ, List.getElem_cons_zero])
          (refine wpAnyH_take (i := 11) (oi := _) (v := ?vp11) rfl (by kernel_rfl) (by kernel_rfl) (by kernel_rfl) (fun _ _ _ h => h) (Or.inl ⟨by kernel_rfl, ?yp11⟩) (by assumption) ?_; rotate_left; (· (intro w hSw; have hw1 : w.cell? ⟨b, off + k, none⟩ = some (.int .i64 z) := hSw; clear hSw; go_simp; try with_reducible rfl)); simp only [Act.put, List.setIfInBounds_toArray, List.set_cons_zero, List.set_cons_succ, List.getElem_toArray, List.getElem_cons_succ, List.getElem_cons_zero])
          (refine wpAnyH_take (i := 12) (oi := _) (v := ?vp12) rfl (by kernel_rfl) (by kernel_rfl) (by kernel_rfl) (fun _ _ _ h => h) (Or.inl ⟨by kernel_rfl, ?yp12⟩) (by assumption) ?_; rotate_left; (· (intro w hSw; have hw1 : w.cell? ⟨b, off + k, none⟩ = some (.int .i64 z) := hSw; clear hSw; go_simp; try with_reducible rfl)); simp only [Act.put, List.setIfInBounds_toArray, List.set_cons_zero, List.set_cons_succ, List.getElem_toArray, List.getElem_cons_succ, List.getElem_cons_zero])
          (refine wpAnyH_take (i := 13) (oi := _) (v := ?vp13) rfl (by kernel_rfl) (by kernel_rfl) (by kernel_rfl) (fun _ _ _ h => h) (Or.inl ⟨by kernel_rfl, ?yp13⟩) (by assumption) ?_; rotate_left; (· (intro w hSw; have hw1 : w.cell? ⟨b, off + k, none⟩ = some (.int .i64 z) := hSw; clear hSw; go_simp; try with_reducible rfl)); simp only [Act.put, List.setIfInBounds_toArray, List.set_cons_zero, List.set_cons_succ, List.getElem_toArray, List.getElem_cons_succ, List.getElem_cons_zero])
          have HSd := Lib.hid (HS.out.step (w' := wr.drew) ⟨rfl, rfl, rfl, Nat.le_refl _, fun _ _ => rfl⟩)
          have HOd := Lib.hid (own_keep (w' := wr.drew) HO.out ⟨rfl, rfl, rfl, Nat.le_refl _, fun _ _ => rfl⟩)
          by_cases hmp : m < p
          · have y3 : (m : Int) < (p : Int) := by omega
            have y4 : ¬ (p : Int) ≤ (m : Int) := by omega
            have y5 : ¬ (last + 1 ≤ last) := by omega
            obtain ⟨B', hB', hup'⟩ := HU.out.dial (by rw [hm]; exact hmp) hl0
            have HU' := Lib.hid hup'; have RB := Lib.hid hB'; clear hup' hB' hmp
            (refine wpAnyH_ready (rs := [14]) (by kernel_rfl) (by simp) ?_; refine AllReadyH.cons (o := _) rfl (fun K hK => ?_) AllReadyH.nil; rw [if_pos (by kernel_rfl)])
            go_simp
            refine (dial_to sb (1 - sb) _ _ HSd.out RB.out (by have := HN.out.1; omega) (side_b HSB.out) rfl).mono ?_
            rintro e wx ⟨rfl, Lx, hx, hf⟩
            have c2 := ints_cell (HV.out.keep hx.2.1) HN.out.2 HZ.out
            go_simp
            (refine hK.out _ _ ?_ (fun hHeld => ?_))
            · exact c2
            clear hK
            (refine wpAnyH_take (i := 15) (oi := _) (v := ?vpb15) rfl (by kernel_rfl) (by kernel_rfl) (by kernel_rfl) (fun _ _ _ h => h) (Or.inl ⟨by kernel_rfl, ?ypb15⟩) (by assumption) ?_; rotate_left; (· (intro w hSw; have hw1 : w.cell? ⟨b, off + k, none⟩ = some (.int .i64 z) := hSw; clear hSw; go_simp; try with_reducible rfl)); simp only [Act.put, List.setIfInBounds_toArray, List.set_cons_zero, List.set_cons_succ, List.getElem_toArray, List.getElem_cons_succ, List.getElem_cons_zero])
            (refine wpAnyH_take (i := 16) (oi := _) (v := ?vpb16) rfl (by kernel_rfl) (by kernel_rfl) (by kernel_rfl) (fun _ _ _ h => h) (Or.inl ⟨by kernel_rfl, ?ypb16⟩) (by assumption) ?_; rotate_left; (· (intro w hSw; have hw1 : w.cell? ⟨b, off + k, none⟩ = some (.int .i64 z) := hSw; clear hSw; go_simp; try with_reducible rfl)); simp only [Act.put, List.setIfInBounds_toArray, List.set_cons_zero, List.set_cons_succ, List.getElem_toArray, List.getElem_cons_succ, List.getElem_cons_zero])
            (refine wpAnyH_take (i := 17) (oi := _) (v := ?vpb17) rfl (by kernel_rfl) (by kernel_rfl) (by kernel_rfl) (fun _ _ _ h => h) (Or.inl ⟨by kernel_rfl, ?ypb17⟩) (by assumption) ?_; rotate_left; (· (intro w hSw; have hw1 : w.cell? ⟨b, off + k, none⟩ = some (.int .i64 z) := hSw; clear hSw; go_simp; try with_reducible rfl)); simp only [Act.put, List.setIfInBounds_toArray, List.set_cons_zero, List.set_cons_succ, List.getElem_toArray, List.getElem_cons_succ, List.getElem_cons_zero])
            (refine wpAnyH_ready (rs := [18]) (by kernel_rfl) (by simp) ?_; refine AllReadyH.cons (o := _) rfl (fun K hK => ?_) AllReadyH.nil; rw [if_pos (by kernel_rfl)])
            go_simp
            (refine hK.out _ _ ?_ (fun hHeld => ?_))
            · exact c2
            clear hK
            (refine wpAnyH_ready (rs := [19]) (by kernel_rfl) (by simp) ?_; refine AllReadyH.cons (o := _) rfl (fun K hK => ?_) AllReadyH.nil; rw [if_pos (by kernel_rfl)])
            go_simp
            (refine hK.out _ _ ?_ (fun hHeld => ?_))
            · exact c2
            clear hK
            (refine wpAnyH_done (by kernel_rfl) ?_ _)
            have HSx := Lib.hid hx; have HFx := Lib.hid hf; clear hx hf
            have howx := own_fr HL.out HOd.out HFx.out HSx.out.2.2.1
            have hrlx := HL.out.fr HOd.out HFx.out
            rw [hm] at howx
            have HOx := Lib.hid howx; have HLx := Lib.hid hrlx; clear howx hrlx
            go_wp2_with (first | (go_at_call 11; refine (num_any _ _).mono ?_; rintro e w' ⟨rfl, rfl⟩) | (at_builtin; refine wpList_append_own_at _ rfl _ _ 22 rfl w0.heap.size 3 i0 _ 1 8 Try.underlying22 HI.out HZ0.out HZ1.out HZ2.out rfl (by omega) (.slice uA m ucap) m (intCells us) rfl (HOx.out.alloc _) ⟨wx.heap.size, 0, none⟩ 1 1 [.int .i64 (last + 1)] rfl rfl (cell_one_new _ _ _) (by simp [Value.oneCell']) ?c1 ?c2 ?c3 ?_))
            case c1 => unfold maxLen; omega
            case c2 => omega
            case c3 => have := HSx.out.2.1.size; simp; omega
            intro v3 w3 hown3 hgrow hnil hblk
            clear hnil
            have hgr : wx.grownBy w3 (Value.ownBlock (.slice uA m ucap)) := World.grownBy.trans (b := wx.alloc (.cells #[.int .i64 (last + 1)] 3)) ⟨rfl, rfl, rfl, by simp, fun i hi _ => Below.heap_alloc wx _ i hi⟩ hgrow
            have hst3 := HSx.out.row HLx.out HOx.out hgr
            have hrl3 := HLx.out.grown (x := wx.heap.size + 1) HOx.out (by omega) hblk
            obtain ⟨uA3, ucap3, rfl⟩ := own_slice hown3
            have H3 := Lib.hid hst3; have HL3 := Lib.hid hrl3; have HO3 := Lib.hid hown3
            clear hgr hgrow hst3 hrl3 hown3 hblk
            have hlen' : (us ++ [last + 1]).length = m + 1 := by rw [List.length_append, hm]; rfl
            have hBn : B'.n = m + 1 := by rw [HU'.out.n, hlen']
            go_wp2_with (first | (go_at_call 11; refine (num_any _ _).mono ?_; rintro e w' ⟨rfl, rfl⟩))
            refine (busy_to 0 (m + 1) H3.out hBn rfl).mono ?_
            rintro e w' ⟨rfl, rfl⟩
            go_wp2_with (first | (go_at_call 11; refine (num_any _ _).mono ?_; rintro e w' ⟨rfl, rfl⟩))
            refine (busy_to 1 (m + 1) H3.out hBn rfl).mono ?_
            rintro e w' ⟨rfl, rfl⟩
            go_wp2_with (first | (go_at_call 11; refine (num_any _ _).mono ?_; rintro e w' ⟨rfl, rfl⟩))
            go_roundw
            case rel =>
              refine ⟨us ++ [last + 1], last + 1, k + 1, rfl, by go_num, B', _, H3.out.more (by omega), HU'.out, ?_, HL3.out, by omega, by have := HN.out.1; omega⟩
              rw [hlen']
              have := HO3.out
              unfold intCells at this ⊢
              rw [List.map_append]
              exact this
            case measure => have := HN.out.1; simp [intOf]; omega
          · have y3 : ¬ (m : Int) < (p : Int) := by omega
            have y4 : (p : Int) ≤ (m : Int) := by omega
            have hB' := HU.out.full (by rw [hm]; exact hmp)
            have RB := Lib.hid hB'; clear hB' hmp
            (refine wpAnyH_ready (rs := [14]) (by kernel_rfl) (by simp) ?_; refine AllReadyH.cons (o := _) rfl (fun K hK => ?_) AllReadyH.nil; rw [if_pos (by kernel_rfl)])
            go_simp
            refine (dial_to sb (1 - sb) _ _ HSd.out RB.out (by have := HN.out.1; omega) (side_b HSB.out) rfl).mono ?_
            rintro e wx ⟨rfl, Lx, hx, hf⟩
            have c2 := ints_cell (HV.out.keep hx.2.1) HN.out.2 HZ.out
            go_simp
            (refine hK.out _ _ ?_ (fun hHeld => ?_))
            · exact c2
            clear hK
            (refine wpAnyH_take (i := 15) (oi := _) (v := ?vpc15) rfl (by kernel_rfl) (by kernel_rfl) (by kernel_rfl) (fun _ _ _ h => h) (Or.inl ⟨by kernel_rfl, ?ypc15⟩) (by assumption) ?_; rotate_left; (· (intro w hSw; have hw1 : w.cell? ⟨b, off + k, none⟩ = some (.int .i64 z) := hSw; clear hSw; go_simp; try with_reducible rfl)); simp only [Act.put, List.setIfInBounds_toArray, List.set_cons_zero, List.set_cons_succ, List.getElem_toArray, List.getElem_cons_succ, List.getElem_cons_zero])
            (refine wpAnyH_take (i := 16) (oi := _) (v := ?vpc16) rfl (by kernel_rfl) (by kernel_rfl) (by kernel_rfl) (fun _ _ _ h => h) (Or.inl ⟨by kernel_rfl, ?ypc16⟩) (by assumption) ?_; rotate_left; (· (intro w hSw; have hw1 : w.cell? ⟨b, off + k, none⟩ = some (.int .i64 z) := hSw; clear hSw; go_simp; try with_reducible rfl)); simp only [Act.put, List.setIfInBounds_toArray, List.set_cons_zero, List.set_cons_succ, List.getElem_toArray, List.getElem_cons_succ, List.getElem_cons_zero])
            (refine wpAnyH_take (i := 17) (oi := _) (v := ?vpc17) rfl (by kernel_rfl) (by kernel_rfl) (by kernel_rfl) (fun _ _ _ h => h) (Or.inl ⟨by kernel_rfl, ?ypc17⟩) (by assumption) ?_; rotate_left; (· (intro w hSw; have hw1 : w.cell? ⟨b, off + k, none⟩ = some (.int .i64 z) := hSw; clear hSw; go_simp; try with_reducible rfl)); simp only [Act.put, List.setIfInBounds_toArray, List.set_cons_zero, List.set_cons_succ, List.getElem_toArray, List.getElem_cons_succ, List.getElem_cons_zero])
            (refine wpAnyH_ready (rs := [18]) (by kernel_rfl) (by simp) ?_; refine AllReadyH.cons (o := _) rfl (fun K hK => ?_) AllReadyH.nil; rw [if_pos (by kernel_rfl)])
            go_simp
            (refine hK.out _ _ ?_ (fun hHeld => ?_))
            · exact c2
            clear hK
            (refine wpAnyH_ready (rs := [19]) (by kernel_rfl) (by simp) ?_; refine AllReadyH.cons (o := _) rfl (fun K hK => ?_) AllReadyH.nil; rw [if_pos (by kernel_rfl)])
            go_simp
            (refine hK.out _ _ ?_ (fun hHeld => ?_))
            · exact c2
            clear hK
            (refine wpAnyH_done (by kernel_rfl) ?_ _)
            have HSx := Lib.hid hx; have HFx := Lib.hid hf; clear hx hf
            have howx := own_fr HL.out HOd.out HFx.out HSx.out.2.2.1
            have hrlx := HL.out.fr HOd.out HFx.out
            have HOx := Lib.hid howx; have HLx := Lib.hid hrlx; clear howx hrlx
            have hBn : B.n = m := by rw [HU.out.n, hm]
            go_wp2_with (first | (go_at_call 11; refine (num_any _ _).mono ?_; rintro e w' ⟨rfl, rfl⟩))
            refine (busy_to 0 m HSx.out hBn rfl).mono ?_
            rintro e w' ⟨rfl, rfl⟩
            go_wp2_with (first | (go_at_call 11; refine (num_any _ _).mono ?_; rintro e w' ⟨rfl, rfl⟩))
            refine (busy_to 1 m HSx.out hBn rfl).mono ?_
            rintro e w' ⟨rfl, rfl⟩
            go_wp2_with (first | (go_at_call 11; refine (num_any _ _).mono ?_; rintro e w' ⟨rfl, rfl⟩))
            go_roundw
            case rel => exact ⟨us, last, k + 1, rfl, by go_num, B, _, HSx.out, HU.out, HOx.out, HLx.out, by omega, by have := HN.out.1; omega⟩
            case measure => have := HN.out.1; simp [intOf]; omega
        · have ho3 : (o == 0) = false := by simpa using hodd
          clear ho2 hodd
          by_cases hm0 : m = 0
          · have hm1 : ((m : Int) == 0) = true := by simp [hm0]
            clear hm0
            have ⟨sb, hsb, hsb2⟩ := and1 (z / 2)
            have hw1 : wrap64 (1 - sb) = 1 - sb := wrap_in (by omega) (by omega)
            have hw2 : IntKind.i64.wrap (1 - sb) = 1 - sb := IntWalk.i64_in _ (by omega)
            have HSB := Lib.hid hsb2; clear hsb2
            go_wp2_with fail
            refine wp_region_held_drew (S := fun W => W.cell? ⟨b, off + k, none⟩ = some (.int .i64 z)) (by kernel_rfl) c1 (fun hHeld => ?_)
            (refine wpAnyH_take (i := 0) (oi := _) (v := ?vq0) rfl (by kernel_rfl) (by kernel_rfl) (by kernel_rfl) (fun _ _ _ h => h) (Or.inl ⟨by kernel_rfl, ?yq0⟩) (by assumption) ?_; rotate_left; (· (intro w hSw; have hw1 : w.cell? ⟨b, off + k, none⟩ = some (.int .i64 z) := hSw; clear hSw; go_simp; try with_reducible rfl)); simp only [Act.put, List.setIfInBounds_toArray, List.set_cons_zero, List.set_cons_succ, List.getElem_toArray, List.getElem_cons_succ, List.getElem_cons_zero])
            (refine wpAnyH_take (i := 1) (oi := _) (v := ?vq1) rfl (by kernel_rfl) (by kernel_rfl) (by kernel_rfl) (fun _ _ _ h => h) (Or.inl ⟨by kernel_rfl, ?yq1⟩) (by assumption) ?_; rotate_left; (· (intro w hSw; have hw1 : w.cell? ⟨b, off + k, none⟩ = some (.int .i64 z) := hSw; clear hSw; go_simp; try with_reducible rfl)); simp only [Act.put, List.setIfInBounds_toArray, List.set_cons_zero, List.set_cons_succ, List.getElem_toArray, List.getElem_cons_succ, List.getElem_cons_zero])
            (refine wpAnyH_take (i := 2) (oi := _) (v := ?vq2) rfl (by kernel_rfl) (by kernel_rfl) (by kernel_rfl) (fun _ _ _ h => h) (Or.inl ⟨by kernel_rfl, ?yq2⟩) (by assumption) ?_; rotate_left; (· (intro w hSw; have hw1 : w.cell? ⟨b, off + k, none⟩ = some (.int .i64 z) := hSw; clear hSw; go_simp; try with_reducible rfl)); simp only [Act.put, List.setIfInBounds_toArray, List.set_cons_zero, List.set_cons_succ, List.getElem_toArray, List.getElem_cons_succ, List.getElem_cons_zero])
            (refine wpAnyH_take (i := 3) (oi := _) (v := ?vq3) rfl (by kernel_rfl) (by kernel_rfl) (by kernel_rfl) (fun _ _ _ h => h) (Or.inl ⟨by kernel_rfl, ?yq3⟩) (by assumption) ?_; rotate_left; (· (intro w hSw; have hw1 : w.cell? ⟨b, off + k, none⟩ = some (.int .i64 z) := hSw; clear hSw; go_simp; try with_reducible rfl)); simp only [Act.put, List.setIfInBounds_toArray, List.set_cons_zero, List.set_cons_succ, List.getElem_toArray, List.getElem_cons_succ, List.getElem_cons_zero])
            (refine wpAnyH_take (i := 4) (oi := _) (v := ?vq4) rfl (by kernel_rfl) (by kernel_rfl) (by kernel_rfl) (fun _ _ _ h => h) (Or.inl ⟨by kernel_rfl, ?yq4⟩) (by assumption) ?_; rotate_left; (· (intro w hSw; have hw1 : w.cell? ⟨b, off + k, none⟩ = some (.int .i64 z) := hSw; clear hSw; go_simp; try with_reducible rfl)); simp only [Act.put, List.setIfInBounds_toArray, List.set_cons_zero, List.set_cons_succ, List.getElem_toArray, List.getElem_cons_succ, List.getElem_cons_zero])
            (refine wpAnyH_take (i := 5) (oi := _) (v := ?vq5) rfl (by kernel_rfl) (by kernel_rfl) (by kernel_rfl) (fun _ _ _ h => h) (Or.inl ⟨by kernel_rfl, ?yq5⟩) (by assumption) ?_; rotate_left; (· (intro w hSw; have hw1 : w.cell? ⟨b, off + k, none⟩ = some (.int .i64 z) := hSw; clear hSw; go_simp; try with_reducible rfl)); simp only [Act.put, List.setIfInBounds_toArray, List.set_cons_zero, List.set_cons_succ, List.getElem_toArray, List.getElem_cons_succ, List.getElem_cons_zero])
            (refine wpAnyH_take (i := 6) (oi := _) (v := ?vq6) rfl (by kernel_rfl) (by kernel_rfl) (by kernel_rfl) (fun _ _ _ h => h) (Or.inl ⟨by kernel_rfl, ?yq6⟩) (by assumption) ?_; rotate_left; (· (intro w hSw; have hw1 : w.cell? ⟨b, off + k, none⟩ = some (.int .i64 z) := hSw; clear hSw; go_simp; try with_reducible rfl)); simp only [Act.put, List.setIfInBounds_toArray, List.set_cons_zero, List.set_cons_succ, List.getElem_toArray, List.getElem_cons_succ, List.getElem_cons_zero])
            (refine wpAnyH_take (i := 7) (oi := _) (v := ?vq7) rfl (by kernel_rfl) (by kernel_rfl) (by kernel_rfl) (fun _ _ _ h => h) (Or.inl ⟨by kernel_rfl, ?yq7⟩) (by assumption) ?_; rotate_left; (· (intro w hSw; have hw1 : w.cell? ⟨b, off + k, none⟩ = some (.int .i64 z) := hSw; clear hSw; go_simp; try with_reducible rfl)); simp only [Act.put, List.setIfInBounds_toArray, List.set_cons_zero, List.set_cons_succ, List.getElem_toArray, List.getElem_cons_succ, List.getElem_cons_zero])
            (refine wpAnyH_take (i := 8) (oi := _) (v := ?vq8) rfl (by kernel_rfl) (by kernel_rfl) (by kernel_rfl) (fun _ _ _ h => h) (Or.inl ⟨by kernel_rfl, ?yq8⟩) (by assumption) ?_; rotate_left; (· (intro w hSw; have hw1 : w.cell? ⟨b, off + k, none⟩ = some (.int .i64 z) := hSw; clear hSw; go_simp; try with_reducible rfl)); simp only [Act.put, List.setIfInBounds_toArray, List.set_cons_zero, List.set_cons_succ, List.getElem_toArray, List.getElem_cons_succ, List.getElem_cons_zero])
            (refine wpAnyH_take (i := 9) (oi := _) (v := ?vq9) rfl (by kernel_rfl) (by kernel_rfl) (by kernel_rfl) (fun _ _ _ h => h) (Or.inl ⟨by kernel_rfl, ?yq9⟩) (by assumption) ?_; rotate_left; (· (intro w hSw; have hw1 : w.cell? ⟨b, off + k, none⟩ = some (.int .i64 z) := hSw; clear hSw; go_simp; try with_reducible rfl)); simp only [Act.put, List.setIfInBounds_toArray, List.set_cons_zero, List.set_cons_succ, List.getElem_toArray, List.getElem_cons_succ, List.getElem_cons_zero])
            (refine wpAnyH_take (i := 10) (oi := _) (v := ?vq10) rfl (by kernel_rfl) (by kernel_rfl) (by kernel_rfl) (fun _ _ _ h => h) (Or.inl ⟨by kernel_rfl, ?yq10⟩) (by assumption) ?_; rotate_left; (· (intro w hSw; have hw1 : w.cell? ⟨b, off + k, none⟩ = some (.int .i64 z) := hSw; clear hSw; go_simp; try with_reducible rfl)); simp only [Act.put, List.setIfInBounds_toArray, List.set_cons_zero, List.set_cons_succ, List.getElem_toArray, List.getElem_cons_succ, List.getElem_cons_zero])
            (refine wpAnyH_take (i := 11) (oi := _) (v := ?vq11) rfl (by kernel_rfl) (by kernel_rfl) (by kernel_rfl) (fun _ _ _ h => h) (Or.inl ⟨by kernel_rfl, ?yq11⟩) (by assumption) ?_; rotate_left; (· (intro w hSw; have hw1 : w.cell? ⟨b, off + k, none⟩ = some (.int .i64 z) := hSw; clear hSw; go_simp; try with_reducible rfl)); simp only [Act.put, List.setIfInBounds_toArray, List.set_cons_zero, List.set_cons_succ, List.getElem_toArray, List.getElem_cons_succ, List.getElem_cons_zero])
            (refine wpAnyH_take (i := 12) (oi := _) (v := ?vq12) rfl (by kernel_rfl) (by kernel_rfl) (by kernel_rfl) (fun _ _ _ h => h) (Or.inl ⟨by kernel_rfl, ?yq12⟩) (by assumption) ?_; rotate_left; (· (intro w hSw; have hw1 : w.cell? ⟨b, off + k, none⟩ = some (.int .i64 z) := hSw; clear hSw; go_simp; try with_reducible rfl)); simp only [Act.put, List.setIfInBounds_toArray, List.set_cons_zero, List.set_cons_succ, List.getElem_toArray, List.getElem_cons_succ, List.getElem_cons_zero])
            (refine wpAnyH_take (i := 13) (oi := _) (v := ?vq13) rfl (by kernel_rfl) (by kernel_rfl) (by kernel_rfl) (fun _ _ _ h => h) (Or.inl ⟨by kernel_rfl, ?yq13⟩) (by assumption) ?_; rotate_left; (· (intro w hSw; have hw1 : w.cell? ⟨b, off + k, none⟩ = some (.int .i64 z) := hSw; clear hSw; go_simp; try with_reducible rfl)); simp only [Act.put, List.setIfInBounds_toArray, List.set_cons_zero, List.set_cons_succ, List.getElem_toArray, List.getElem_cons_succ, List.getElem_cons_zero])
            have HSd := Lib.hid (HS.out.step (w' := wr.drew) ⟨rfl, rfl, rfl, Nat.le_refl _, fun _ _ => rfl⟩)
            have HOd := Lib.hid (own_keep (w' := wr.drew) HO.out ⟨rfl, rfl, rfl, Nat.le_refl _, fun _ _ => rfl⟩)
            by_cases hmp : m < p
            · have y3 : (m : Int) < (p : Int) := by omega
              have y4 : ¬ (p : Int) ≤ (m : Int) := by omega
              have y5 : ¬ (last + 1 ≤ last) := by omega
              obtain ⟨B', hB', hup'⟩ := HU.out.dial (by rw [hm]; exact hmp) hl0
              have HU' := Lib.hid hup'; have RB := Lib.hid hB'; clear hup' hB' hmp
              (refine wpAnyH_ready (rs := [14]) (by kernel_rfl) (by simp) ?_; refine AllReadyH.cons (o := _) rfl (fun K hK => ?_) AllReadyH.nil; rw [if_pos (by kernel_rfl)])
              go_simp
              refine (dial_to sb (1 - sb) _ _ HSd.out RB.out (by have := HN.out.1; omega) (side_b HSB.out) rfl).mono ?_
              rintro e wx ⟨rfl, Lx, hx, hf⟩
              have c2 := ints_cell (HV.out.keep hx.2.1) HN.out.2 HZ.out
              go_simp
              (refine hK.out _ _ ?_ (fun hHeld => ?_))
              · exact c2
              clear hK
              (refine wpAnyH_take (i := 15) (oi := _) (v := ?vqb15) rfl (by kernel_rfl) (by kernel_rfl) (by kernel_rfl) (fun _ _ _ h => h) (Or.inl ⟨by kernel_rfl, ?yqb15⟩) (by assumption) ?_; rotate_left; (· (intro w hSw; have hw1 : w.cell? ⟨b, off + k, none⟩ = some (.int .i64 z) := hSw; clear hSw; go_simp; try with_reducible rfl)); simp only [Act.put, List.setIfInBounds_toArray, List.set_cons_zero, List.set_cons_succ, List.getElem_toArray, List.getElem_cons_succ, List.getElem_cons_zero])
              (refine wpAnyH_take (i := 16) (oi := _) (v := ?vqb16) rfl (by kernel_rfl) (by kernel_rfl) (by kernel_rfl) (fun _ _ _ h => h) (Or.inl ⟨by kernel_rfl, ?yqb16⟩) (by assumption) ?_; rotate_left; (· (intro w hSw; have hw1 : w.cell? ⟨b, off + k, none⟩ = some (.int .i64 z) := hSw; clear hSw; go_simp; try with_reducible rfl)); simp only [Act.put, List.setIfInBounds_toArray, List.set_cons_zero, List.set_cons_succ, List.getElem_toArray, List.getElem_cons_succ, List.getElem_cons_zero])
              (refine wpAnyH_take (i := 17) (oi := _) (v := ?vqb17) rfl (by kernel_rfl) (by kernel_rfl) (by kernel_rfl) (fun _ _ _ h => h) (Or.inl ⟨by kernel_rfl, ?yqb17⟩) (by assumption) ?_; rotate_left; (· (intro w hSw; have hw1 : w.cell? ⟨b, off + k, none⟩ = some (.int .i64 z) := hSw; clear hSw; go_simp; try with_reducible rfl)); simp only [Act.put, List.setIfInBounds_toArray, List.set_cons_zero, List.set_cons_succ, List.getElem_toArray, List.getElem_cons_succ, List.getElem_cons_zero])
              (refine wpAnyH_ready (rs := [18]) (by kernel_rfl) (by simp) ?_; refine AllReadyH.cons (o := _) rfl (fun K hK => ?_) AllReadyH.nil; rw [if_pos (by kernel_rfl)])
              go_simp
              (refine hK.out _ _ ?_ (fun hHeld => ?_))
              · exact c2
              clear hK
              (refine wpAnyH_ready (rs := [19]) (by kernel_rfl) (by simp) ?_; refine AllReadyH.cons (o := _) rfl (fun K hK => ?_) AllReadyH.nil; rw [if_pos (by kernel_rfl)])
              go_simp
              (refine hK.out _ _ ?_ (fun hHeld => ?_))
              · exact c2
              clear hK
              (refine wpAnyH_done (by kernel_rfl) ?_ _)
              have HSx := Lib.hid hx; have HFx := Lib.hid hf; clear hx hf
              have howx := own_fr HL.out HOd.out HFx.out HSx.out.2.2.1
              have hrlx := HL.out.fr HOd.out HFx.out
              rw [hm] at howx
              have HOx := Lib.hid howx; have HLx := Lib.hid hrlx; clear howx hrlx
              go_wp2_with (first | (go_at_call 11; refine (num_any _ _).mono ?_; rintro e w' ⟨rfl, rfl⟩) | (at_builtin; refine wpList_append_own_at _ rfl _ _ 22 rfl w0.heap.size 3 i0 _ 1 8 Try.underlying22 HI.out HZ0.out HZ1.out HZ2.out rfl (by omega) (.slice uA m ucap) m (intCells us) rfl (HOx.out.alloc _) ⟨wx.heap.size, 0, none⟩ 1 1 [.int .i64 (last + 1)] rfl rfl (cell_one_new _ _ _) (by simp [Value.oneCell']) ?c1 ?c2 ?c3 ?_))
              case c1 => unfold maxLen; omega
              case c2 => omega
              case c3 => have := HSx.out.2.1.size; simp; omega
              intro v3 w3 hown3 hgrow hnil hblk
              clear hnil
              have hgr : wx.grownBy w3 (Value.ownBlock (.slice uA m ucap)) := World.grownBy.trans (b := wx.alloc (.cells #[.int .i64 (last + 1)] 3)) ⟨rfl, rfl, rfl, by simp, fun i hi _ => Below.heap_alloc wx _ i hi⟩ hgrow
              have hst3 := HSx.out.row HLx.out HOx.out hgr
              have hrl3 := HLx.out.grown (x := wx.heap.size + 1) HOx.out (by omega) hblk
              obtain ⟨uA3, ucap3, rfl⟩ := own_slice hown3
              have H3 := Lib.hid hst3; have HL3 := Lib.hid hrl3; have HO3 := Lib.hid hown3
              clear hgr hgrow hst3 hrl3 hown3 hblk
              have hlen' : (us ++ [last + 1]).length = m + 1 := by rw [List.length_append, hm]; rfl
              have hBn : B'.n = m + 1 := by rw [HU'.out.n, hlen']
              go_wp2_with (first | (go_at_call 11; refine (num_any _ _).mono ?_; rintro e w' ⟨rfl, rfl⟩))
              refine (busy_to 0 (m + 1) H3.out hBn rfl).mono ?_
              rintro e w' ⟨rfl, rfl⟩
              go_wp2_with (first | (go_at_call 11; refine (num_any _ _).mono ?_; rintro e w' ⟨rfl, rfl⟩))
              refine (busy_to 1 (m + 1) H3.out hBn rfl).mono ?_
              rintro e w' ⟨rfl, rfl⟩
              go_wp2_with (first | (go_at_call 11; refine (num_any _ _).mono ?_; rintro e w' ⟨rfl, rfl⟩))
              go_roundw
              case rel =>
                refine ⟨us ++ [last + 1], last + 1, k + 1, rfl, by go_num, B', _, H3.out.more (by omega), HU'.out, ?_, HL3.out, by omega, by have := HN.out.1; omega⟩
                rw [hlen']
                have := HO3.out
                unfold intCells at this ⊢
                rw [List.map_append]
                exact this
              case measure => have := HN.out.1; simp [intOf]; omega
            · have y3 : ¬ (m : Int) < (p : Int) := by omega
              have y4 : (p : Int) ≤ (m : Int) := by omega
              have hB' := HU.out.full (by rw [hm]; exact hmp)
              have RB := Lib.hid hB'; clear hB' hmp
              (refine wpAnyH_ready (rs := [14]) (by kernel_rfl) (by simp) ?_; refine AllReadyH.cons (o := _) rfl (fun K hK => ?_) AllReadyH.nil; rw [if_pos (by kernel_rfl)])
              go_simp
              refine (dial_to sb (1 - sb) _ _ HSd.out RB.out (by have := HN.out.1; omega) (side_b HSB.out) rfl).mono ?_
              rintro e wx ⟨rfl, Lx, hx, hf⟩
              have c2 := ints_cell (HV.out.keep hx.2.1) HN.out.2 HZ.out
              go_simp
              (refine hK.out _ _ ?_ (fun hHeld => ?_))
              · exact c2
              clear hK
              (refine wpAnyH_take (i := 15) (oi := _) (v := ?vqc15) rfl (by kernel_rfl) (by kernel_rfl) (by kernel_rfl) (fun _ _ _ h => h) (Or.inl ⟨by kernel_rfl, ?yqc15⟩) (by assumption) ?_; rotate_left; (· (intro w hSw; have hw1 : w.cell? ⟨b, off + k, none⟩ = some (.int .i64 z) := hSw; clear hSw; go_simp; try with_reducible rfl)); simp only [Act.put, List.setIfInBounds_toArray, List.set_cons_zero, List.set_cons_succ, List.getElem_toArray, List.getElem_cons_succ, List.getElem_cons_zero])
              (refine wpAnyH_take (i := 16) (oi := _) (v := ?vqc16) rfl (by kernel_rfl) (by kernel_rfl) (by kernel_rfl) (fun _ _ _ h => h) (Or.inl ⟨by kernel_rfl, ?yqc16⟩) (by assumption) ?_; rotate_left; (· (intro w hSw; have hw1 : w.cell? ⟨b, off + k, none⟩ = some (.int .i64 z) := hSw; clear hSw; go_simp; try with_reducible rfl)); simp only [Act.put, List.setIfInBounds_toArray, List.set_cons_zero, List.set_cons_succ, List.getElem_toArray, List.getElem_cons_succ, List.getElem_cons_zero])
              (refine wpAnyH_take (i := 17) (oi := _) (v := ?vqc17) rfl (by kernel_rfl) (by kernel_rfl) (by kernel_rfl) (fun _ _ _ h => h) (Or.inl ⟨by kernel_rfl, ?yqc17⟩) (by assumption) ?_; rotate_left; (· (intro w hSw; have hw1 : w.cell? ⟨b, off + k, none⟩ = some (.int .i64 z) := hSw; clear hSw; go_simp; try with_reducible rfl)); simp only [Act.put, List.setIfInBounds_toArray, List.set_cons_zero, List.set_cons_succ, List.getElem_toArray, List.getElem_cons_succ, List.getElem_cons_zero])
              (refine wpAnyH_ready (rs := [18]) (by kernel_rfl) (by simp) ?_; refine AllReadyH.cons (o := _) rfl (fun K hK => ?_) AllReadyH.nil; rw [if_pos (by kernel_rfl)])
              go_simp
              (refine hK.out _ _ ?_ (fun hHeld => ?_))
              · exact c2
              clear hK
              (refine wpAnyH_ready (rs := [19]) (by kernel_rfl) (by simp) ?_; refine AllReadyH.cons (o := _) rfl (fun K hK => ?_) AllReadyH.nil; rw [if_pos (by kernel_rfl)])
              go_simp
              (refine hK.out _ _ ?_ (fun hHeld => ?_))
              · exact c2
              clear hK
              (refine wpAnyH_done (by kernel_rfl) ?_ _)
              have HSx := Lib.hid hx; have HFx := Lib.hid hf; clear hx hf
              have howx := own_fr HL.out HOd.out HFx.out HSx.out.2.2.1
              have hrlx := HL.out.fr HOd.out HFx.out
              have HOx := Lib.hid howx; have HLx := Lib.hid hrlx; clear howx hrlx
              have hBn : B.n = m := by rw [HU.out.n, hm]
              go_wp2_with (first | (go_at_call 11; refine (num_any _ _).mono ?_; rintro e w' ⟨rfl, rfl⟩))
              refine (busy_to 0 m HSx.out hBn rfl).mono ?_
              rintro e w' ⟨rfl, rfl⟩
              go_wp2_with (first | (go_at_call 11; refine (num_any _ _).mono ?_; rintro e w' ⟨rfl, rfl⟩))
              refine (busy_to 1 m HSx.out hBn rfl).mono ?_
              rintro e w' ⟨rfl, rfl⟩
              go_wp2_with (first | (go_at_call 11; refine (num_any _ _).mono ?_; rintro e w' ⟨rfl, rfl⟩))
              go_roundw
              case rel => exact ⟨us, last, k + 1, rfl, by go_num, B, _, HSx.out, HU.out, HOx.out, HLx.out, by omega, by have := HN.out.1; omega⟩
              case measure => have := HN.out.1; simp [intOf]; omega
          · have hm1 : ((m : Int) == 0) = false := by simp; omega
            have hmm : wrap64 (m : Int) = (m : Int) := wrap_in (by omega) (by omega)
            have hmu : IntKind.u64.wrap (m : Int) = (m : Int) := IntWalk.u64_in _ (by omega)
            obtain ⟨q, kk, f1, f2, f3, hkm⟩ := pick_k z m (Nat.pos_of_ne_zero hm0) hm8
            have HF1 := Lib.hid f1; have HF2 := Lib.hid f2; have HF3 := Lib.hid f3; have HMM := Lib.hid hmm; have HMU := Lib.hid hmu
            clear f1 f2 f3 hmm hmu
            obtain ⟨c, hc⟩ : ∃ c, us[kk]? = some c := ⟨_, List.getElem?_eq_getElem (by omega)⟩
            have hown := HO.out
            rw [hm] at hown
            obtain ⟨r, cap', he, hmc, hcm, hcells⟩ := row_cell hown hc
            injection he with he1 _ he3
            subst he1 he3
            obtain ⟨B', hB1, hB2, hup'⟩ := HU.out.hang hc
            have hcp := HU.out.pos c (List.mem_of_getElem? hc)
            have HU' := Lib.hid hup'; have RB1 := Lib.hid hB1; have RB2 := Lib.hid hB2; clear hup' hB1 hB2
            have d0 := hcells kk c hc
            have HOW := Lib.hid hown; clear hown hcells
            have x1 : (kk : Int) < (m : Int) := by omega
            have x2 : kk ≤ ucap := by omega
            have x3 : kk < m := hkm
            have HCW := Lib.hid (wfi (x := c) (by omega) (by omega))
            have HM := Lib.hid (show m ≤ 8 ∧ kk < m ∧ m ≤ ucap ∧ ucap ≤ maxLen ∧ 1 ≤ c ∧ c ≤ last ∧ us.length = m ∧ us[kk]? = some c from ⟨hm8, hkm, hmc, hcm, hcp.1, hcp.2, hm, hc⟩)
            clear hcp hm8 hkm hmc hcm hm hm0 hc
            have f1 := HF1.out; have f2 := HF2.out
            go_wp2_with fail
            clear f1 f2
            refine (hang_to c 0 HS.out RB1.out HCW.out).mono ?_
            rintro e w3 ⟨rfl, L3, hs3, hf3⟩
            have ho3 := own_fr HL.out HOW.out hf3 HS.out.2.2.1
            have hl3 := HL.out.fr HOW.out hf3
            have d3 := (row_of ho3 HM.out.2.2.2.2.2.2.2).2.2 kk c HM.out.2.2.2.2.2.2.2
            have HS3 := Lib.hid hs3; have HO3 := Lib.hid ho3; have HL3 := Lib.hid hl3; clear hs3 hf3 ho3 hl3
            go_wp2_with (first | (go_at_call 11; refine (num_any _ _).mono ?_; rintro e w' ⟨rfl, rfl⟩))
            refine (hang_to c 2502 HS3.out RB2.out HCW.out).mono ?_
            rintro e w4 ⟨rfl, L4, hs4, hf4⟩
            have ho4 := own_fr HL3.out HO3.out hf4 HS3.out.2.2.1
            have hl4 := HL3.out.fr HO3.out hf4
            have HS4 := Lib.hid hs4; have HO4 := Lib.hid ho4; have HL4 := Lib.hid hl4; clear hs4 hf4 ho4 hl4
            have x4 : kk ≤ m := by omega
            have hcells4 := (row_of HO4.out HM.out.2.2.2.2.2.2.2).2.2
            have ht1 : (intCells (us.take kk)).length = kk := by rw [intCells_len, List.length_take]; have := HM.out; omega
            have hn1 := part_cells (w := w4) (r := r) (o := 0) hcells4 (take_part us kk)
            have h1c : ∀ u ∈ intCells (us.take kk), u.oneCell' = true := intCells_one _
            have HT1 := Lib.hid ht1; have HN1 := Lib.hid hn1; have HC1 := Lib.hid h1c; clear hcells4 ht1 hn1 h1c
            go_wp2_with (first | (go_at_call 11; refine (num_any _ _).mono ?_; rintro e w' ⟨rfl, rfl⟩) | (at_builtin; refine wpList_append_own_at _ rfl _ _ 22 rfl w4.heap.size 3 i0 _ 1 8 Try.underlying22 HI.out HZ0.out HZ1.out HZ2.out rfl (by omega) (.slice none 0 0) 0 [] rfl (World.ownsRow_nil _ _ _ _) ⟨r, 0, none⟩ kk ucap (intCells (us.take kk)) rfl (by rw [HT1.out]; omega) HN1.out HC1.out ?c1 ?c2 (Nat.le_refl _) ?_))
            case c1 => have := HM.out; unfold maxLen; omega
            case c2 => have := HM.out; omega
            intro v5 w5 hown5 hgrow5 hnil5 hblk5
            clear hnil5 hblk5
            obtain ⟨A5, cap5, rfl⟩ := own_slice hown5
            have hb5 : Below w4.heap.size w4 w5 := ⟨hgrow5.os, hgrow5.tape, hgrow5.output, hgrow5.size, fun i hi => hgrow5.block i hi (by intro e; cases e)⟩
            have ho5 := own_keep HO4.out hb5
            obtain ⟨-, -, hcells5⟩ := row_of ho5 HM.out.2.2.2.2.2.2.2
            have hj2 : kk + 1 ≤ m := x3
            have hj4 : m ≤ ucap := HM.out.2.2.1
            have hj3 : kk + 1 ≤ ucap := Nat.le_trans hj2 hj4
            have ht2 : (intCells (us.drop (kk + 1))).length = m - (kk + 1) := by rw [intCells_len, List.length_drop, HM.out.2.2.2.2.2.2.1]
            have hn2 := part_cells (w := w5) (r := r) (o := kk + 1) hcells5 (drop_part us (kk + 1))
            have h2c : ∀ u ∈ intCells (us.drop (kk + 1)), u.oneCell' = true := intCells_one _
            have HT2 := Lib.hid ht2; have HN2 := Lib.hid hn2; have HC2 := Lib.hid h2c; have HO5 := Lib.hid hown5; have HB5 := Lib.hid hb5
            clear ht2 hn2 h2c hown5 hb5 hgrow5 hcells5 ho5
            by_cases hcap : ucap = kk + 1
            · go_wp2_with (first | (go_at_call 11; refine (num_any _ _).mono ?_; rintro e w' ⟨rfl, rfl⟩) | (at_builtin; refine wpList_append_own_at _ rfl _ _ 22 rfl w4.heap.size 3 i0 _ 1 8 Try.underlying22 HI.out HZ0.out HZ1.out HZ2.out rfl (by omega) (.slice A5 kk cap5) kk (intCells (us.take kk)) rfl HO5.out ⟨r, 0, none⟩ (m - (kk + 1)) 0 (intCells (us.drop (kk + 1))) rfl (by rw [HT2.out]; omega) (fun j u hu => absurd (List.getElem?_eq_some_iff.1 hu).1 (by rw [HT2.out]; omega)) HC2.out ?c3 ?c4 HB5.out.size ?_))
              case c3 => have := HM.out; unfold maxLen; omega
              case c4 => have := HM.out; omega
              intro v6 w6 hown6 hgrow6 hnil6 hblk6
              clear hnil6 hblk6
              have hb6 := HB5.out.grown hgrow6 HB5.out.size (fun k hk => (HO5.out.lt k hk).1)
              have hst6 := HS4.out.fresh_ hb6
              have hrl6 := RowL.new (L := L4) hown6
              obtain ⟨m', hm'⟩ : ∃ m' : Nat, m' = kk + (m - (kk + 1)) := ⟨_, rfl⟩
              rw [← hm'] at hown6
              have hlen' : (us.take kk ++ us.drop (kk + 1)).length = m' := by rw [List.length_append, List.length_take, List.length_drop]; have := HM.out; omega
              obtain ⟨A6, cap6, rfl⟩ := own_slice hown6
              have hBn : B'.n = m' := by rw [HU'.out.n, hlen']
              have H6 := Lib.hid hst6; have HL6 := Lib.hid hrl6; have HO6 := Lib.hid (own_base hown6 HS4.out.2.1.size); have HLN := Lib.hid hlen'; have HBN := Lib.hid hBn
              clear hb6 hgrow6 hst6 hrl6 hown6 hlen' hBn hm'
              go_wp2_with (first | (go_at_call 11; refine (num_any _ _).mono ?_; rintro e w' ⟨rfl, rfl⟩))
              refine (busy_to 0 m' H6.out HBN.out rfl).mono ?_
              rintro e w' ⟨rfl, rfl⟩
              go_wp2_with (first | (go_at_call 11; refine (num_any _ _).mono ?_; rintro e w' ⟨rfl, rfl⟩))
              refine (busy_to 1 m' H6.out HBN.out rfl).mono ?_
              rintro e w' ⟨rfl, rfl⟩
              go_wp2_with (first | (go_at_call 11; refine (num_any _ _).mono ?_; rintro e w' ⟨rfl, rfl⟩))
              go_roundw
              case rel =>
                refine ⟨us.take kk ++ us.drop (kk + 1), last, k + 1, rfl, by go_num, B', _, H6.out.more (by omega), HU'.out, ?_, HL6.out, by omega, by have := HN.out.1; omega⟩
                rw [HLN.out]
                have hh := HO6.out
                unfold intCells at hh ⊢
                rw [List.map_append]
                exact hh
              case measure => have := HN.out.1; simp [intOf]; omega
            · go_wp2_with (first | (go_at_call 11; refine (num_any _ _).mono ?_; rintro e w' ⟨rfl, rfl⟩) | (at_builtin; refine wpList_append_own_at _ rfl _ _ 22 rfl w4.heap.size 3 i0 _ 1 8 Try.underlying22 HI.out HZ0.out HZ1.out HZ2.out rfl (by omega) (.slice A5 kk cap5) kk (intCells (us.take kk)) rfl HO5.out ⟨r, kk + 1, none⟩ (m - (kk + 1)) (ucap - (kk + 1)) (intCells (us.drop (kk + 1))) rfl (by rw [HT2.out]; omega) HN2.out HC2.out ?c3 ?c4 HB5.out.size ?_))
              case c3 => have := HM.out; unfold maxLen; omega
              case c4 => have := HM.out; omega
              intro v6 w6 hown6 hgrow6 hnil6 hblk6
              clear hnil6 hblk6
              have hb6 := HB5.out.grown hgrow6 HB5.out.size (fun k hk => (HO5.out.lt k hk).1)
              have hst6 := HS4.out.fresh_ hb6
              have hrl6 := RowL.new (L := L4) hown6
              obtain ⟨m', hm'⟩ : ∃ m' : Nat, m' = kk + (m - (kk + 1)) := ⟨_, rfl⟩
              rw [← hm'] at hown6
              have hlen' : (us.take kk ++ us.drop (kk + 1)).length = m' := by rw [List.length_append, List.length_take, List.length_drop]; have := HM.out; omega
              obtain ⟨A6, cap6, rfl⟩ := own_slice hown6
              have hBn : B'.n = m' := by rw [HU'.out.n, hlen']
              have H6 := Lib.hid hst6; have HL6 := Lib.hid hrl6; have HO6 := Lib.hid (own_base hown6 HS4.out.2.1.size); have HLN := Lib.hid hlen'; have HBN := Lib.hid hBn
              clear hb6 hgrow6 hst6 hrl6 hown6 hlen' hBn hm'
              go_wp2_with (first | (go_at_call 11; refine (num_any _ _).mono ?_; rintro e w' ⟨rfl, rfl⟩))
              refine (busy_to 0 m' H6.out HBN.out rfl).mono ?_
              rintro e w' ⟨rfl, rfl⟩
              go_wp2_with (first | (go_at_call 11; refine (num_any _ _).mono ?_; rintro e w' ⟨rfl, rfl⟩))
              refine (busy_to 1 m' H6.out HBN.out rfl).mono ?_
              rintro e w' ⟨rfl, rfl⟩
              go_wp2_with (first | (go_at_call 11; refine (num_any _ _).mono ?_; rintro e w' ⟨rfl, rfl⟩))
              go_roundw
              case rel =>
                refine ⟨us.take kk ++ us.drop (kk + 1), last, k + 1, rfl, by go_num, B', _, H6.out.more (by omega), HU'.out, ?_, HL6.out, by omega, by have := HN.out.1; omega⟩
                rw [HLN.out]
                have hh := HO6.out
                unfold intCells at hh ⊢
                rw [List.map_append]
                exact hh
              case measure => have := HN.out.1; simp [intOf]; omega
      · have y1 : (k : Int) < (n : Int) := by omega
        have y2 : ¬ (k : Int) < 100 := by omega
        go_wp2_with (first | (go_at_call 11; refine (num_any _ _).mono ?_; rintro e w' ⟨rfl, rfl⟩))
        go_ret
        exact ⟨rfl, HS.out.2.1⟩
    · have y1 : ¬ (k : Int) < (n : Int) := by omega
      go_wp2_with (first | (go_at_call 11; refine (num_any _ _).mono ?_; rintro e w' ⟨rfl, rfl⟩))
      go_ret
      exact ⟨rfl, HS.out.2.1⟩
end Go.Proofs.Ytmbnonkbflchoaa
