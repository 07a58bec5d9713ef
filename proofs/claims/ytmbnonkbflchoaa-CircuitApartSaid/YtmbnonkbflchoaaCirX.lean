/- What Turn does to a pipe's pieces. No condition. -/
import Derived.Test.YtmbnonkbflchoaaCirO
import Derived.Laws.OwnMore
namespace Go.Proofs.Ytmbnonkbflchoaa
open Go.RowKit
set_option linter.unusedVariables false
set_option linter.unusedSimpArgs false
open Go.Maps
def turnP (b j : Nat) (v : UInt8) (p : Pc) : Pc := if p.b = b then { p with d := ⟨p.d.data.setIfInBounds j v⟩ } else p
theorem turnP_b (b j : Nat) (v : UInt8) (p : Pc) : (turnP b j v p).b = p.b := by unfold turnP; split <;> rfl
theorem turnP_size (b j : Nat) (v : UInt8) (p : Pc) : (turnP b j v p).d.size = p.d.size := by
  unfold turnP
  split
  · show (p.d.data.setIfInBounds j v).size = p.d.data.size
    simp
  · rfl
theorem turnP_c (b j : Nat) (v : UInt8) (p : Pc) : pcC (turnP b j v p) = pcC p := by
  have h := turnP_size b j v p
  unfold pcC
  rw [h, turnP_b]
  unfold turnP
  split <;> rfl
theorem bytesV_set (d : ByteArray) (j : Nat) (v : UInt8) : bytesV ⟨d.data.setIfInBounds j v⟩ = (bytesV d).set j (.int .u8 (v.toNat : Int)) := by
  unfold bytesV
  rw [← List.map_set]
  simp
theorem PcAt.turn {w : World} {p : Pc} (h : PcAt w p) (b j : Nat) (v : UInt8) : PcAt (w.setCell ⟨b, j, none⟩ (.int .u8 (v.toNat : Int))) (turnP b j v p) := by
  unfold turnP
  split
  · rename_i e
    subst e
    obtain ⟨cur, fz, h1, h2, h3, h4, h5, h6⟩ := h
    refine ⟨cur.setIfInBounds j (.int .u8 (v.toNat : Int)), fz, ?_, by simpa using h2, ?_, h4, by simpa using h5, ?_⟩
    · show (w.setCell _ _).heap[p.b]? = _
      unfold World.setCell
      rw [Array.getElem?_modify, if_pos rfl, h1]
      rfl
    · show (p.d.data.setIfInBounds j v).size ≤ p.cap
      have : p.d.data.size ≤ p.cap := h3
      simpa using this
    · show List.take (p.d.data.setIfInBounds j v).size _ = _
      rw [bytesV_set, Array.toList_setIfInBounds, List.take_set, Array.size_setIfInBounds]
      congr 1
  · rename_i e
    exact h.same (Below.heap_setCell _ _ _ _ e)
theorem pcsC_turn (b j : Nat) (v : UInt8) (ps : List Pc) : pcsC (ps.map (turnP b j v)) = pcsC ps := by
  unfold pcsC
  rw [List.flatMap_map]
  congr 1
  funext p
  exact turnP_c b j v p
theorem ps_turn {w : World} {v : Value} {ps : List Pc} (h : PsAt w v ps) (b j : Nat) (u : UInt8) (hb : v.ownBlock ≠ some b) : PsAt (w.setCell ⟨b, j, none⟩ (.int .u8 (u.toNat : Int))) v (ps.map (turnP b j u)) := by
  refine ⟨?_, fun p hp => ?_⟩
  · rw [pcsC_turn, List.length_map]
    exact own_same h.1 (fun k hk => Below.heap_setCell _ _ _ _ (by intro e; exact hb (by rw [hk]; exact congrArg some e)))
  · obtain ⟨p0, hp0, rfl⟩ := List.mem_map.1 hp
    exact (h.2 p0 hp0).turn b j u
def metP (p : Pc) : Pc := { p with met := true }
theorem pcsC_met {ps : List Pc} {i : Nat} {p : Pc} (h : ps[i]? = some p) : pcsC (ps.set i (metP p)) = (pcsC ps).set (i * 2 + 1) (.bool true) := by
  induction ps generalizing i with
  | nil => cases h
  | cons a ps ih =>
    cases i with
    | zero =>
      obtain rfl := Option.some.inj h
      rfl
    | succ i =>
      have e : (i + 1) * 2 + 1 = (i * 2 + 1) + 1 + 1 := by omega
      rw [e]
      show pcC a ++ pcsC (ps.set i (metP p)) = _
      rw [ih h]
      rfl
theorem ps_met {w : World} {v : Value} {ps : List Pc} {i r : Nat} {p : Pc} (h : PsAt w v ps) (hp : ps[i]? = some p) (hr : v.ownBlock = some r) : PsAt (w.setCell ⟨r, i * 2 + 1, none⟩ (.bool true)) v (ps.set i (metP p)) := by
  refine ⟨?_, fun p' hp' => ?_⟩
  · rw [pcsC_met hp, List.length_set]
    have h1 := h.1
    obtain ⟨A, cap, rfl⟩ := own_form h1
    rcases h1.2 with ⟨h2, -⟩ | ⟨g, cap', cur, h2, -⟩
    · rw [h2] at hr; cases hr
    · injection h2 with e1 e2 e3
      subst e1
      have := Option.some.inj hr
      have e : g = r := this
      subst e
      exact (h1.stored _ _).1
  · have hpa : ∃ p0 ∈ ps, p'.b = p0.b ∧ PcAt w p' := by
      rcases List.mem_or_eq_of_mem_set hp' with h2 | rfl
      · exact ⟨p', h2, rfl, h.2 p' h2⟩
      · exact ⟨p, List.mem_of_getElem? hp, rfl, h.2 p (List.mem_of_getElem? hp)⟩
    obtain ⟨p0, hp0, e, ha⟩ := hpa
    have hne := pc_ne h.1 (h.2 p0 hp0) (by decide)
    refine ha.same (Below.heap_setCell _ _ _ _ ?_)
    intro e2
    exact hne (by rw [hr, ← e, e2])
theorem cat_sum (ps : List Pc) : (cat ps).size = (ps.map (fun p => p.d.size)).sum := by
  induction ps with
  | nil => rfl
  | cons p ps ih =>
    show (p.d ++ cat ps).size = _
    rw [ByteArray.size_append, ih]
    rfl
theorem cat_turn (b j : Nat) (v : UInt8) (ps : List Pc) : (cat (ps.map (turnP b j v))).size = (cat ps).size := by
  rw [cat_sum, cat_sum, List.map_map]
  congr 2
  funext p
  exact turnP_size b j v p
theorem cat_met {ps : List Pc} {i : Nat} {p : Pc} (h : ps[i]? = some p) : cat (ps.set i (metP p)) = cat ps := by
  induction ps generalizing i with
  | nil => cases h
  | cons a ps ih =>
    cases i with
    | zero =>
      obtain rfl := Option.some.inj h
      rfl
    | succ i =>
      show a.d ++ cat (ps.set i (metP p)) = a.d ++ cat ps
      rw [ih h]
theorem pc_small {ps : List Pc} {p : Pc} (h : p ∈ ps) : p.d.size ≤ (cat ps).size := by
  induction ps with
  | nil => cases h
  | cons a ps ih =>
    show p.d.size ≤ (a.d ++ cat ps).size
    rw [ByteArray.size_append]
    cases h with
    | head => omega
    | tail _ h => have := ih h; omega
/-- Behind Turn: other data of the same sizes. -/
def TurnR (g : Nat) (s : Sw) (q n : Nat) (x : Pipe × Pipe) (ps : List Pc) (w : World) (e : Ending) (w' : World) : Prop :=
  e = .returned (.int .i64 0) ∧ SwAt w' g s ∧ Blk w' q 58 (cirC x) ∧ (∃ ps', PsAt w' (thP n x).v ps' ∧ ps'.length = ps.length ∧ (cat ps').size = (cat ps).size ∧ ∀ p ∈ ps', ∃ p0 ∈ ps, p.b = p0.b) ∧ ChgS w w' (fun i => some i = (thP n x).v.ownBlock ∨ ∃ p ∈ ps, i = p.b)
theorem turn_none {g q n : Nat} {s : Sw} {x : Pipe × Pipe} {ps : List Pc} {w : World} (h : SwAt w g s) (hb : Blk w q 58 (cirC x)) (hps : PsAt w (thP n x).v ps) : TurnR g s q n x ps w (.returned (.int .i64 0)) w :=
  ⟨rfl, h, hb, ⟨ps, hps, rfl, rfl, fun p hp => ⟨p, hp, rfl⟩⟩, ChgS.refl _ _⟩
theorem turn_met {g q n r i : Nat} {s : Sw} {x : Pipe × Pipe} {ps : List Pc} {p : Pc} {w : World} (h : SwAt w g s) (hb : Blk w q 58 (cirC x)) (hps : PsAt w (thP n x).v ps) (hp : ps[i]? = some p) (hr : (thP n x).v.ownBlock = some r) : TurnR g s q n x ps w (.returned (.int .i64 0)) (w.setCell ⟨r, i * 2 + 1, none⟩ (.bool true)) := by
  have n1 : g ≠ r := by intro e; exact own_ne hps.1 h.1 (by decide) (by rw [hr, e])
  have n2 : s.mb ≠ r := by intro e; exact own_map hps.1 h (by rw [hr, e])
  have n3 : q ≠ r := by intro e; exact own_ne hps.1 hb (by decide) (by rw [hr, e])
  refine ⟨rfl, sw_fr h (Below.heap_setCell _ _ _ _ n1) (Below.heap_setCell _ _ _ _ n2), hb.far n3 _, ⟨_, ps_met hps hp hr, List.length_set, by rw [cat_met hp], fun p' hp' => ?_⟩, (ChgS.refl _ _).set (.inl (.inl hr.symm)) _⟩
  rcases List.mem_or_eq_of_mem_set hp' with h2 | rfl
  · exact ⟨p', h2, rfl⟩
  · exact ⟨p, List.mem_of_getElem? hp, rfl⟩
theorem turn_data {g q n r i j : Nat} {s : Sw} {x : Pipe × Pipe} {ps : List Pc} {p : Pc} {w W : World} (u : UInt8) (h : SwAt w g s) (hb : Blk w q 58 (cirC x)) (hps : PsAt w (thP n x).v ps) (hp : ps[i]? = some p) (hr : (thP n x).v.ownBlock = some r) (k : Nat) (hW : W = (w.setCell ⟨r, i * 2 + 1, none⟩ (.bool true)).drewN k) : TurnR g s q n x ps w (.returned (.int .i64 0)) (W.setCell ⟨p.b, j, none⟩ (.int .u8 (u.toNat : Int))) := by
  subst hW
  obtain ⟨-, h2, h3, ⟨ps2, h4, h5, h6, h7⟩, h8⟩ := turn_met h hb hps hp hr
  have hpa := hps.2 p (List.mem_of_getElem? hp)
  have n0 : (thP n x).v.ownBlock ≠ some p.b := pc_ne hps.1 hpa (by decide)
  have n1 : g ≠ p.b := (pc_blk h.1 hpa (by decide)).symm
  have n2 : s.mb ≠ p.b := by
    obtain ⟨cur, fz, h9, -⟩ := hpa
    obtain ⟨es, clock, hh, -⟩ := h.2
    intro e
    rw [← e, hh] at h9
    cases h9
  have n3 : q ≠ p.b := (pc_blk hb hpa (by decide)).symm
  have h4' : PsAt ((w.setCell ⟨r, i * 2 + 1, none⟩ (.bool true)).drewN k) (thP n x).v ps2 := h4.same (fun _ _ => rfl) (fun _ _ => rfl)
  refine ⟨rfl, ?_, ?_, ⟨_, ps_turn h4' p.b j u n0, by rw [List.length_map]; exact h5, by rw [cat_turn]; exact h6, fun p' hp' => ?_⟩, ChgS.set (ChgS.drewN h8 k) (.inl (.inr ⟨p, List.mem_of_getElem? hp, rfl⟩)) _⟩
  · exact sw_fr (w := (w.setCell ⟨r, i * 2 + 1, none⟩ (.bool true)).drewN k) (sw_fr h2 rfl rfl) (Below.heap_setCell _ _ _ _ n1) (Below.heap_setCell _ _ _ _ n2)
  · exact Blk.far (show Blk ((w.setCell ⟨r, i * 2 + 1, none⟩ (.bool true)).drewN k) q _ _ from h3) n3 _
  · obtain ⟨p1, hp1, rfl⟩ := List.mem_map.1 hp'
    obtain ⟨p0, hp0, e⟩ := h7 p1 hp1
    exact ⟨p0, hp0, by rw [turnP_b]; exact e⟩
theorem pc_cell {w : World} {p : Pc} (h : PcAt w p) {j : Nat} (hj : j < p.d.size) : (∃ u : UInt8, w.cell? ⟨p.b, j, none⟩ = some (.int .u8 (u.toNat : Int))) ∧ w.frozen? ⟨p.b, j, none⟩ = false := by
  constructor
  · have hl : j < p.d.data.toList.length := by simpa using hj
    have hu : (bytesV p.d)[j]? = some (.int .u8 ((p.d.data.toList[j]'hl).toNat : Int)) := by unfold bytesV; rw [List.getElem?_map, List.getElem?_eq_getElem hl]; rfl
    have := pc_cells h j _ hu
    have hadd : (⟨p.b, 0, none⟩ : Addr).add j = ⟨p.b, j, none⟩ := by unfold Addr.add; split <;> simp_all
    rw [hadd] at this
    exact ⟨_, this⟩
  · obtain ⟨cur, fz, h1, h2, h3, h4, h5, h6⟩ := h
    unfold World.frozen?
    rw [h1]
    simp
    omega
end Go.Proofs.Ytmbnonkbflchoaa
