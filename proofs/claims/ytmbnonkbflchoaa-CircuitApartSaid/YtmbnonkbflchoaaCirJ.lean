/- The contract of package circuit's Read. No condition but sizes. -/
import Derived.Test.YtmbnonkbflchoaaCirI
import Derived.Test.YtmbnonkbflchoaaCirM
namespace Go.Proofs.Ytmbnonkbflchoaa
open Go.RowKit
set_option linter.unusedVariables false
set_option linter.unusedSimpArgs false
open Go.Maps
theorem info_u8 : (Try.prog.info? 5).map (fun i => (i.zero, i.size, i.bytes)) = some (some (.int .u8 0), 1, 1) := by kernel_rfl
theorem cat_take {ps : List Pc} {k : Nat} {p : Pc} (h : ps[k]? = some p) : cat (ps.take (k + 1)) = cat (ps.take k) ++ p.d := by
  obtain ⟨hk, e⟩ := List.getElem?_eq_some_iff.1 h
  rw [List.take_succ_eq_append_getElem hk, e, cat_app]
  have : cat [p] = p.d := by
    show p.d ++ ⟨#[]⟩ = p.d
    apply ByteArray.ext
    rw [ByteArray.data_append]
    simp
  rw [this]
theorem cat_le {ps : List Pc} (k : Nat) : (cat (ps.take k)).size ≤ (cat ps).size := by
  have h := cat_app (ps.take k) (ps.drop k)
  rw [List.take_append_drop] at h
  rw [h, ByteArray.size_append]
  omega
theorem pc_cells {w : World} {p : Pc} (h : PcAt w p) : ∀ j u, (bytesV p.d)[j]? = some u → w.cell? ((⟨p.b, 0, none⟩ : Addr).add j) = some u := by
  obtain ⟨cur, fz, h1, h2, h3, h4, h5, h6⟩ := h
  intro j u hu
  have hadd : (⟨p.b, 0, none⟩ : Addr).add j = ⟨p.b, j, none⟩ := by unfold Addr.add; split <;> simp_all
  rw [hadd, cell_of_row w p.b j cur _ fz h1]
  rw [← h6, List.getElem?_take] at hu
  split at hu
  · simpa using hu
  · cases hu
theorem bytes_one (d : ByteArray) : ∀ u ∈ bytesV d, u.oneCell' = true := by
  intro u hu
  obtain ⟨b, _, rfl⟩ := List.mem_map.1 hu
  rfl
theorem conv_d {base : Nat} {v : Value} {W : World} {d : ByteArray} (h : W.ownsRow base 5 1 v d.size (bytesV d)) : (convert 36 9 v).run Try.prog W = .ok (.string d) W := by
  rcases h.2 with ⟨rfl, h0⟩ | ⟨g, cap, cur, rfl, hg, hh, hnc, hcm, hcs, htk⟩
  · rw [run_convert_bytes_nil W 36 5 Try.underlying36 Try.underlying5 0 0 9 Try.underlying9]
    have e : d = ByteArray.empty := by
      have h1 : d.data.size = 0 := h0
      apply ByteArray.ext
      rw [Array.size_eq_zero_iff.1 h1]
      rfl
    rw [e]
  · have hr := run_convert_bytes_back (P := Try.prog) W 36 9 5 ⟨g, 0, none⟩ cap d.data.toList Try.underlying36 Try.underlying5 Try.underlying9 (fun j hj => by
      have hadd : (⟨g, 0, none⟩ : Addr).add j = ⟨g, j, none⟩ := by unfold Addr.add; split <;> simp_all
      rw [hadd, cell_of_row W g j cur _ _ hh]
      have a1 : (bytesV d)[j]? = some (.int .u8 ((d.data.toList[j]).toNat : Int)) := by unfold bytesV; rw [List.getElem?_map, List.getElem?_eq_getElem hj]; rfl
      rw [← htk, List.getElem?_take] at a1
      split at a1
      · simpa using a1
      · cases a1)
    have e2 : d.data.toList.toArray = d.data := by simp
    rw [e2] at hr
    exact hr
theorem row_at {w : World} {v : Value} {ps : List Pc} {A : Option Addr} {n cap : Nat} (h : PsAt w v ps) (hv : v = .slice A n cap) {k : Nat} {p : Pc} (hp : ps[k]? = some p) : ∃ r, A = some ⟨r, 0, none⟩ ∧ v.ownBlock = some r ∧ r < w.heap.size ∧ w.cell? ⟨r, k * 2, none⟩ = some (.slice (some ⟨p.b, 0, none⟩) p.d.size p.cap) ∧ w.cell? ⟨r, k * 2 + 1, none⟩ = some (.bool p.met) := by
  have hk := (List.getElem?_eq_some_iff.1 hp).1
  have hc := pcsC_at hp
  rcases h.1.2 with ⟨hn, h0⟩ | ⟨g, cap', cur, hvv, _, hg, _⟩
  · omega
  · have e := hv.symm.trans hvv
    injection e with e1 _ _
    have ho : v.ownBlock = some g := by rw [hvv]; rfl
    have hcell := h.1.cells ho
    refine ⟨g, e1, ho, (Array.getElem?_eq_some_iff.1 hg).1, ?_, ?_⟩
    · have := hcell _ _ hc.1
      have hadd : (⟨g, 0, none⟩ : Addr).add (k * 2) = ⟨g, k * 2, none⟩ := by unfold Addr.add; split <;> simp_all
      rw [hadd] at this
      exact this
    · have := hcell _ _ hc.2
      have hadd : (⟨g, 0, none⟩ : Addr).add (k * 2 + 1) = ⟨g, k * 2 + 1, none⟩ := by unfold Addr.add; split <;> simp_all
      rw [hadd] at this
      exact this
def RdR (ps : List Pc) (w : World) (v : Value) (k : Nat) (wr : World) : Prop := k ≤ ps.length ∧ wr.ownsRow w.heap.size 5 1 v (cat (ps.take k)).size (bytesV (cat (ps.take k))) ∧ Below w.heap.size w wr
theorem rd_step {ps : List Pc} {w wr w3 : World} {o : Obj} {v v3 : Value} {k : Nat} {p : Pc} (h : RdR ps w v k wr) (hp : ps[k]? = some p) (h3 : w3.ownsRow w.heap.size 5 1 v3 ((cat (ps.take k)).size + p.d.size) (bytesV (cat (ps.take k)) ++ bytesV p.d)) (hg : (wr.alloc o).grownBy w3 v.ownBlock) : RdR ps w v3 (k + 1) w3 := by
  obtain ⟨h1, h2, h4⟩ := h
  have hk := (List.getElem?_eq_some_iff.1 hp).1
  refine ⟨by omega, ?_, (h4.alloc h4.size _).grown hg (by have := h4.size; simp; omega) (fun k hk => (h2.lt k hk).1)⟩
  rw [cat_take hp, ByteArray.size_append, bytesV_app]
  exact h3
def ReadR (g : Nat) (s : Sw) (q n : Nat) (x : Pipe × Pipe) (ps : List Pc) (w : World) (e : Ending) (w' : World) : Prop :=
  e = .returned (.tuple #[.string (cat ps), .int .i64 0]) ∧ SwAt w' g s ∧ Blk w' q 58 (cirC (withP n ⟨.slice none 0 0, 0, (thP n x).lost⟩ x)) ∧ ChgS w w' (fun i => i = q)

theorem read_fin0 {g q : Nat} {s : Sw} {x : Pipe × Pipe} {ps : List Pc} {w wr : World} {v : Value} (h : SwAt w g s) (hb : Blk w q 58 (cirC x)) (hr : RdR ps w v ps.length wr) :
    ReadR g s q 0 x ps w (.returned (.tuple #[.string (cat ps), .int .i64 0])) ((wr.setCell ⟨q, 0, none⟩ (.slice none 0 0)).setCell ⟨q, 1, none⟩ (.int .i64 0)) ∧ ∀ W, W = (wr.setCell ⟨q, 0, none⟩ (.slice none 0 0)).setCell ⟨q, 1, none⟩ (.int .i64 0) → (convert 36 9 v).run Try.prog W = .ok (.string (cat ps)) W := by
  obtain ⟨-, h2, h3⟩ := hr
  rw [List.take_length] at h2
  have hgq := blk_ne h.1 hb (by decide)
  have hmq := map_ne h hb
  have hql := hb.lt
  have hlt := sw_lt h
  refine ⟨⟨rfl, ?_, ((hb.keep h3).set_ 0 _).set_ 1 _, ?_⟩, ?_⟩
  · refine sw_fr h ?_ ?_
    · rw [Below.heap_setCell _ _ _ _ (by exact hgq), Below.heap_setCell _ _ _ _ (by exact hgq)]
      exact h3.block _ hlt.1
    · rw [Below.heap_setCell _ _ _ _ (by exact hmq), Below.heap_setCell _ _ _ _ (by exact hmq)]
      exact h3.block _ hlt.2
  · exact ChgS.set (ChgS.set ⟨h3.os, h3.tape, h3.output, h3.size, fun i hi _ => h3.block i hi⟩ (by left; rfl) _) (by left; rfl) _
  · intro W hW
    subst hW
    refine conv_d (base := w.heap.size) (own_same h2 (fun k hk => ?_))
    have hne : k ≠ q := by have := (h2.lt k hk).1; omega
    rw [Below.heap_setCell _ _ _ _ (by exact hne), Below.heap_setCell _ _ _ _ (by exact hne)]
set_option maxRecDepth 100000 in
set_option maxHeartbeats 4000000 in
theorem read_ok0 (g : Nat) (s : Sw) (c to : Int) (q : Nat) (x : Pipe × Pipe) (ps : List Pc) (w : World) (h : SwAt w g s) (hc : (Lit.int .i64 c).wf = true) (hq : s.D.atKey (keyD c) nilD = .lit (.int .i64 (q : Int))) (hb : Blk w q 58 (cirC x)) (hps : PsAt w x.1.v ps) (hto : wrap64 (1 - to) = 0) (hsm : (cat ps).size ≤ 65536) (hlen : ps.length ≤ 1000000) : Calls Try.prog 15 #[.pointer (some ⟨g, 0, none⟩), .int .i64 c, .int .i64 to] w (ReadR g s q 0 x ps w) := by
  obtain ⟨i0, hi, hz0, hz1, hz2⟩ := info_parts info_u8
  have HZ1 := Lib.hid hz1; have HZ2 := Lib.hid hz2; have HZ0 := Lib.hid hz0; have HI := Lib.hid hi
  clear hz0 hz1 hz2 hi
  have H := Lib.hid h
  obtain ⟨A, capv, hv⟩ := own_form hps.1
  have q0 : w.cell? ⟨q, 0, none⟩ = some (.slice A ps.length capv) := by rw [← hv]; exact hb.cell 0
  have q1 : w.cell? ⟨q, 1, none⟩ = some (.int .i64 x.1.bytes) := hb.cell 1
  have HB := Lib.hid hb
  have HP := Lib.hid hps
  have HV := Lib.hid hv
  clear h hb hps hv
  go_enter Try.func15, Try.ntmps15
  go_wp2_with fail
  refine (open_ok g s c 0 q _ H.out hc hq (.inl rfl)).mono ?_
  rintro e w1 ⟨rfl, rfl⟩
  go_wp2_with fail
  go_loopw [10, 29] (fun v i wr => ∃ k : Nat, i = .int .i64 k ∧ RdR ps w v k wr) (fun _ i _ => ps.length - (intOf i).toNat)
  case atStart => exact ⟨0, rfl, Nat.zero_le _, World.ownsRow_nil _ _ _ _, Below.refl _ _⟩
  case round =>
    obtain ⟨k, rfl, hR⟩ := hrel
    have hkn := hR.1
    by_cases hlt : k < ps.length
    · obtain ⟨p, hp⟩ : ∃ p, ps[k]? = some p := ⟨_, List.getElem?_eq_getElem hlt⟩
      have hpa := HP.out.2 p (List.mem_of_getElem? hp)
      have hps2 := hpa.same (hR.2.2.block _ hpa.lt)
      obtain ⟨r, rfl, ho, hrl, k0, k1⟩ := row_at HP.out HV.out hp
      have k0 := cellK (hR.2.2.mono (Nat.le_refl _)) k0
      have k1 := cellK (hR.2.2.mono (Nat.le_refl _)) k1
      have y1 : (k : Int) < (ps.length : Int) := by omega
      have hle := cat_le (ps := ps) (k + 1)
      rw [cat_take hp, ByteArray.size_append] at hle
      have HR := Lib.hid hR
      have HPA := Lib.hid hps2
      clear hR hpa hps2
      go_wp2_with (at_builtin; refine wpList_append_own _ rfl _ _ 36 rfl w.heap.size 5 i0 _ 1 1 Try.underlying36 HI.out HZ0.out HZ1.out HZ2.out rfl (by omega) _ _ _ rfl (HR.out.2.1.alloc _) ⟨p.b, 0, none⟩ p.d.size p.cap (bytesV p.d) rfl (by rw [bytesV_len]; omega) ?c0 (bytes_one _) ?c10 ?c20 ?c30 ?_)
      case c0 => exact pc_cells (HPA.out.same (Below.heap_alloc _ _ _ HPA.out.lt))
      case c10 => unfold maxLen; omega
      case c20 => omega
      case c30 => have := HR.out.2.2.size; simp; omega
      intro v3 w3 hown3 hgrow hnil3
      clear hnil3
      have fin := rd_step HR.out hp hown3 hgrow
      have FIN := Lib.hid fin
      clear fin hown3 hgrow
      go_wp2_with fail
      go_roundw
      case rel => exact ⟨k + 1, by go_num, FIN.out⟩
      case measure => simp [intOf]; omega
    · obtain rfl : k = ps.length := by omega
      obtain ⟨fin, hconv⟩ := read_fin0 H.out HB.out hR
      have FIN := Lib.hid fin
      have z0 : wr.cell? ⟨q, 0, none⟩ = some (.slice A ps.length capv) := cellK hR.2.2 q0
      have z1 : wr.cell? ⟨q, 1, none⟩ = some (.int .i64 x.1.bytes) := cellK hR.2.2 q1
      have hfz := (HB.out.keep hR.2.2).frozen
      have hconv := hconv _ rfl
      have y1 : ¬ (ps.length : Int) < (ps.length : Int) := by omega
      clear fin hR
      go_wp2_with fail
      go_ret2
      exact FIN.out

theorem read_fin1 {g q : Nat} {s : Sw} {x : Pipe × Pipe} {ps : List Pc} {w wr : World} {v : Value} (h : SwAt w g s) (hb : Blk w q 58 (cirC x)) (hr : RdR ps w v ps.length wr) :
    ReadR g s q 1 x ps w (.returned (.tuple #[.string (cat ps), .int .i64 0])) ((wr.setCell ⟨q, 3, none⟩ (.slice none 0 0)).setCell ⟨q, 4, none⟩ (.int .i64 0)) ∧ ∀ W, W = (wr.setCell ⟨q, 3, none⟩ (.slice none 0 0)).setCell ⟨q, 4, none⟩ (.int .i64 0) → (convert 36 9 v).run Try.prog W = .ok (.string (cat ps)) W := by
  obtain ⟨-, h2, h3⟩ := hr
  rw [List.take_length] at h2
  have hgq := blk_ne h.1 hb (by decide)
  have hmq := map_ne h hb
  have hql := hb.lt
  have hlt := sw_lt h
  refine ⟨⟨rfl, ?_, ((hb.keep h3).set_ 3 _).set_ 4 _, ?_⟩, ?_⟩
  · refine sw_fr h ?_ ?_
    · rw [Below.heap_setCell _ _ _ _ (by exact hgq), Below.heap_setCell _ _ _ _ (by exact hgq)]
      exact h3.block _ hlt.1
    · rw [Below.heap_setCell _ _ _ _ (by exact hmq), Below.heap_setCell _ _ _ _ (by exact hmq)]
      exact h3.block _ hlt.2
  · exact ChgS.set (ChgS.set ⟨h3.os, h3.tape, h3.output, h3.size, fun i hi _ => h3.block i hi⟩ (by left; rfl) _) (by left; rfl) _
  · intro W hW
    subst hW
    refine conv_d (base := w.heap.size) (own_same h2 (fun k hk => ?_))
    have hne : k ≠ q := by have := (h2.lt k hk).1; omega
    rw [Below.heap_setCell _ _ _ _ (by exact hne), Below.heap_setCell _ _ _ _ (by exact hne)]
set_option maxRecDepth 100000 in
set_option maxHeartbeats 4000000 in
theorem read_ok1 (g : Nat) (s : Sw) (c to : Int) (q : Nat) (x : Pipe × Pipe) (ps : List Pc) (w : World) (h : SwAt w g s) (hc : (Lit.int .i64 c).wf = true) (hq : s.D.atKey (keyD c) nilD = .lit (.int .i64 (q : Int))) (hb : Blk w q 58 (cirC x)) (hps : PsAt w x.2.v ps) (hto : wrap64 (1 - to) = 1) (hsm : (cat ps).size ≤ 65536) (hlen : ps.length ≤ 1000000) : Calls Try.prog 15 #[.pointer (some ⟨g, 0, none⟩), .int .i64 c, .int .i64 to] w (ReadR g s q 1 x ps w) := by
  obtain ⟨i0, hi, hz0, hz1, hz2⟩ := info_parts info_u8
  have HZ1 := Lib.hid hz1; have HZ2 := Lib.hid hz2; have HZ0 := Lib.hid hz0; have HI := Lib.hid hi
  clear hz0 hz1 hz2 hi
  have H := Lib.hid h
  obtain ⟨A, capv, hv⟩ := own_form hps.1
  have q0 : w.cell? ⟨q, 3, none⟩ = some (.slice A ps.length capv) := by rw [← hv]; exact hb.cell 3
  have q1 : w.cell? ⟨q, 4, none⟩ = some (.int .i64 x.2.bytes) := hb.cell 4
  have HB := Lib.hid hb
  have HP := Lib.hid hps
  have HV := Lib.hid hv
  clear h hb hps hv
  go_enter Try.func15, Try.ntmps15
  go_wp2_with fail
  refine (open_ok g s c 1 q _ H.out hc hq (.inr rfl)).mono ?_
  rintro e w1 ⟨rfl, rfl⟩
  go_wp2_with fail
  go_loopw [10, 29] (fun v i wr => ∃ k : Nat, i = .int .i64 k ∧ RdR ps w v k wr) (fun _ i _ => ps.length - (intOf i).toNat)
  case atStart => exact ⟨0, rfl, Nat.zero_le _, World.ownsRow_nil _ _ _ _, Below.refl _ _⟩
  case round =>
    obtain ⟨k, rfl, hR⟩ := hrel
    have hkn := hR.1
    by_cases hlt : k < ps.length
    · obtain ⟨p, hp⟩ : ∃ p, ps[k]? = some p := ⟨_, List.getElem?_eq_getElem hlt⟩
      have hpa := HP.out.2 p (List.mem_of_getElem? hp)
      have hps2 := hpa.same (hR.2.2.block _ hpa.lt)
      obtain ⟨r, rfl, ho, hrl, k0, k1⟩ := row_at HP.out HV.out hp
      have k0 := cellK (hR.2.2.mono (Nat.le_refl _)) k0
      have k1 := cellK (hR.2.2.mono (Nat.le_refl _)) k1
      have y1 : (k : Int) < (ps.length : Int) := by omega
      have hle := cat_le (ps := ps) (k + 1)
      rw [cat_take hp, ByteArray.size_append] at hle
      have HR := Lib.hid hR
      have HPA := Lib.hid hps2
      clear hR hpa hps2
      go_wp2_with (at_builtin; refine wpList_append_own _ rfl _ _ 36 rfl w.heap.size 5 i0 _ 1 1 Try.underlying36 HI.out HZ0.out HZ1.out HZ2.out rfl (by omega) _ _ _ rfl (HR.out.2.1.alloc _) ⟨p.b, 0, none⟩ p.d.size p.cap (bytesV p.d) rfl (by rw [bytesV_len]; omega) ?c0 (bytes_one _) ?c10 ?c20 ?c30 ?_)
      case c0 => exact pc_cells (HPA.out.same (Below.heap_alloc _ _ _ HPA.out.lt))
      case c10 => unfold maxLen; omega
      case c20 => omega
      case c30 => have := HR.out.2.2.size; simp; omega
      intro v3 w3 hown3 hgrow hnil3
      clear hnil3
      have fin := rd_step HR.out hp hown3 hgrow
      have FIN := Lib.hid fin
      clear fin hown3 hgrow
      go_wp2_with fail
      go_roundw
      case rel => exact ⟨k + 1, by go_num, FIN.out⟩
      case measure => simp [intOf]; omega
    · obtain rfl : k = ps.length := by omega
      obtain ⟨fin, hconv⟩ := read_fin1 H.out HB.out hR
      have FIN := Lib.hid fin
      have z0 : wr.cell? ⟨q, 3, none⟩ = some (.slice A ps.length capv) := cellK hR.2.2 q0
      have z1 : wr.cell? ⟨q, 4, none⟩ = some (.int .i64 x.2.bytes) := cellK hR.2.2 q1
      have hfz := (HB.out.keep hR.2.2).frozen
      have hconv := hconv _ rfl
      have y1 : ¬ (ps.length : Int) < (ps.length : Int) := by omega
      clear fin hR
      go_wp2_with fail
      go_ret2
      exact FIN.out
end Go.Proofs.Ytmbnonkbflchoaa
