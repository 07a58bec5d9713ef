/- The contract of package circuit's Send where the piece is laid. No condition but sizes. -/
import Derived.Test.YtmbnonkbflchoaaCirK
import Derived.Deep.AppendLies
namespace Go.Proofs.Ytmbnonkbflchoaa
open Go.RowKit
set_option linter.unusedVariables false
set_option linter.unusedSimpArgs false
open Go.Maps
theorem two_cells (w : World) (x0 x1 : Value) (t : TypeId) : ∀ j u, [x0, x1][j]? = some u → (w.alloc (.cells #[x0, x1] t)).cell? ((⟨w.heap.size, 0, none⟩ : Addr).add j) = some u :=
  World.news_of_block (cs := #[x0, x1]) (fr := (0, 0)) (heap_alloc_new w _)
theorem two_cells_at (w : World) (b : Nat) (hb : b = w.heap.size) (x0 x1 : Value) (t : TypeId) : ∀ j u, [x0, x1][j]? = some u → (w.alloc (.cells #[x0, x1] t)).cell? ((⟨b, 0, none⟩ : Addr).add j) = some u := by subst hb; exact two_cells w x0 x1 t
def SendR (g : Nat) (s : Sw) (q n : Nat) (x : Pipe × Pipe) (d : ByteArray) (ps : List Pc) (w : World) (e : Ending) (w' : World) : Prop :=
  e = .returned (.int .i64 0) ∧ SwAt w' g s ∧ ∃ v' cap, Blk w' q 58 (cirC (withP n ⟨v', (thP n x).bytes + (d.size : Int), (thP n x).lost⟩ x)) ∧ PsAt w' v' (ps ++ [⟨w.heap.size, cap, d, false⟩]) ∧ (∀ k, v'.ownBlock = some k → some k = (thP n x).v.ownBlock ∨ w.heap.size < k) ∧ ChgS w w' (fun i => i = q ∨ some i = (thP n x).v.ownBlock)
theorem own_ne {w : World} {base n size : Nat} {e : TypeId} {v : Value} {xs : List Value} {q : Nat} {t : TypeId} {cs : Array Value} (h : w.ownsRow base e size v n xs) (hq : Blk w q t cs) (hn : t ≠ e) : v.ownBlock ≠ some q := by
  intro hv
  rcases h.2 with ⟨rfl, _⟩ | ⟨g, cap, cur, rfl, hb, hg, _⟩
  · cases hv
  · have e : g = q := Option.some.inj hv
    subst e
    have h2 : w.heap[g]? = some (.cells cs t (0, 0)) := hq
    rw [hg] at h2
    injection h2 with h3
    injection h3 with _ h4
    exact hn h4.symm
theorem own_form {w : World} {base : Nat} {v : Value} {n : Nat} {xs : List Value} {e : TypeId} {size : Nat} (h : w.ownsRow base e size v n xs) : ∃ A cap, v = .slice A n cap := by
  rcases h.2 with ⟨rfl, rfl⟩ | ⟨g, cap, cur, rfl, _⟩
  · exact ⟨_, _, rfl⟩
  · exact ⟨_, _, rfl⟩
theorem own_map {w : World} {base n size : Nat} {e : TypeId} {v : Value} {xs : List Value} {g : Nat} {s : Sw} (h : w.ownsRow base e size v n xs) (hs : SwAt w g s) : v.ownBlock ≠ some s.mb := by
  intro hv
  obtain ⟨es, clock, hb, -⟩ := hs.2
  rcases h.2 with ⟨rfl, _⟩ | ⟨g', cap, cur, rfl, _, hg, _⟩
  · cases hv
  · have e : g' = s.mb := Option.some.inj hv
    rw [e, hb] at hg
    cases hg
theorem pc_ne {w : World} {base n size : Nat} {e : TypeId} {v : Value} {xs : List Value} {p : Pc} (h : w.ownsRow base e size v n xs) (hp : PcAt w p) (hn : 5 ≠ e) : v.ownBlock ≠ some p.b := by
  intro hv
  obtain ⟨cur', fz, h1, -⟩ := hp
  rcases h.2 with ⟨rfl, _⟩ | ⟨g, cap, cur, rfl, hb, hg, _⟩
  · cases hv
  · have e : g = p.b := Option.some.inj hv
    rw [e, h1] at hg
    injection hg with h3
    injection h3 with _ h4
    exact hn h4
theorem pc_blk {w : World} {q : Nat} {t : TypeId} {cs : Array Value} {p : Pc} (hq : Blk w q t cs) (hp : PcAt w p) (hn : 5 ≠ t) : p.b ≠ q := by
  rintro rfl
  obtain ⟨cur', fz, h1, -⟩ := hp
  have h2 : w.heap[p.b]? = some (.cells cs t (0, 0)) := hq
  rw [h1] at h2
  injection h2 with h3
  injection h3 with _ h4
  exact hn h4
theorem pc_new (W : World) (d : ByteArray) (cap : Nat) (hc : d.size ≤ cap) (hm : cap ≤ maxLen) (b : Nat) (hb : b = W.heap.size) : PcAt (W.alloc (.cells (bytesRow d cap) 5 ((bytesRow d cap).size, (bytesRow d cap).size + 1))) ⟨b, cap, d, false⟩ := by
  subst hb
  exact ⟨_, _, heap_alloc_new W _, Nat.le_refl _, hc, hm, (row_take d cap hc).1, (row_take d cap hc).2⟩
/-- The second world holds all blocks of the first. -/
def Fr2 (w W : World) : Prop := w.heap.size + 1 < W.heap.size ∧ (W.os = w.os ∧ W.tape = w.tape ∧ W.output = w.output) ∧ ∀ i, i < w.heap.size → W.heap[i]? = w.heap[i]?
theorem sw_lt {w : World} {g : Nat} {s : Sw} (h : SwAt w g s) : g < w.heap.size ∧ s.mb < w.heap.size := ⟨h.1.lt, World.ownsMap.lt h.2⟩
theorem sw_fr {w w' : World} {g : Nat} {s : Sw} (h : SwAt w g s) (h1 : w'.heap[g]? = w.heap[g]?) (h2 : w'.heap[s.mb]? = w.heap[s.mb]?) : SwAt w' g s := by
  refine ⟨h1.trans h.1, ?_⟩
  obtain ⟨es, clock, h3, r⟩ := h.2
  exact ⟨es, clock, h2.trans h3, r⟩

/-- What the walk's end says, put together. -/
theorem send_fin0 {g q nq cap : Nat} {s : Sw} {x : Pipe × Pipe} {d : ByteArray} {ps : List Pc} {w W w3 : World} {v3 : Value} (h : SwAt w g s) (hb : Blk w q 58 (cirC x)) (hps : PsAt w x.1.v ps)
    (hW : W = ((w.drewN (nq + 1)).alloc (.cells (bytesRow d cap) 5 ((bytesRow d cap).size, (bytesRow d cap).size + 1))).alloc (.cells #[.slice (some ⟨w.heap.size, 0, none⟩) d.size cap, .bool false] 63)) (hcap : d.size ≤ cap ∧ cap ≤ maxLen)
    (h3 : w3.ownsRow 0 63 2 v3 (ps.length + 1) (pcsC ps ++ [.slice (some ⟨w.heap.size, 0, none⟩) d.size cap, .bool false])) (hg : W.grownBy w3 x.1.v.ownBlock) (hblk : v3.ownBlock = x.1.v.ownBlock ∨ v3.ownBlock = some (w.heap.size + 1 + 1)) :
    Blk w3 q 58 (cirC x) ∧ SendR g s q 0 x d ps w (.returned (.int .i64 0)) ((w3.setCell ⟨q, 0, none⟩ v3).setCell ⟨q, 1, none⟩ (.int .i64 (x.1.bytes + (d.size : Int)))) := by
  have hgq := blk_ne h.1 hb (by decide)
  have hmq := map_ne h hb
  have hlt := sw_lt h
  have hql := hb.lt
  have c0 : Fr2 w W := by
    subst hW
    exact ⟨by simp [World.drewN], ⟨rfl, rfl, rfl⟩, fun i hi => (Below.heap_alloc _ _ i (by simp [World.drewN]; omega)).trans (Below.heap_alloc _ _ i (by simp [World.drewN]; omega))⟩
  have keep : ∀ i, i < w.heap.size → x.1.v.ownBlock ≠ some i → w3.heap[i]? = w.heap[i]? := fun i hi hn => (hg.block i (by have := c0.1; omega) (fun e => hn e.symm)).trans (c0.2.2 i hi)
  have hqv := own_ne hps.1 hb (by decide)
  have hb3 : Blk w3 q 58 (cirC x) := (keep q hql hqv).trans hb
  refine ⟨hb3, rfl, ?_, v3, cap, ?_, ?_, ?_, ?_⟩
  · refine sw_fr h ?_ ?_
    · rw [Below.heap_setCell _ _ _ _ (by exact hgq), Below.heap_setCell _ _ _ _ (by exact hgq)]
      exact keep g hlt.1 (own_ne hps.1 h.1 (by decide))
    · rw [Below.heap_setCell _ _ _ _ (by exact hmq), Below.heap_setCell _ _ _ _ (by exact hmq)]
      exact keep _ hlt.2 (own_map hps.1 h)
  · exact (hb3.set_ 0 v3).set_ 1 _
  · have e1 : (ps ++ [(⟨w.heap.size, cap, d, false⟩ : Pc)]).length = ps.length + 1 := by simp
    have e2 : pcsC (ps ++ [(⟨w.heap.size, cap, d, false⟩ : Pc)]) = pcsC ps ++ [.slice (some ⟨w.heap.size, 0, none⟩) d.size cap, .bool false] := by rw [pcsC_app]; rfl
    have hq3 := own_ne h3 hb3 (by decide)
    have hz3 := hg.size
    refine ⟨?_, fun p hp => ?_⟩
    · rw [e1, e2]
      refine own_same h3 (fun k hk => ?_)
      rw [Below.heap_setCell _ _ _ _ (by intro e; exact hq3 (by rw [hk]; exact congrArg some e)), Below.heap_setCell _ _ _ _ (by intro e; exact hq3 (by rw [hk]; exact congrArg some e))]
    · rcases List.mem_append.1 hp with hp | hp
      · have hpa := hps.2 p hp
        have hpq := pc_blk hb hpa (by decide)
        refine hpa.same ?_
        rw [Below.heap_setCell _ _ _ _ (by exact hpq), Below.heap_setCell _ _ _ _ (by exact hpq)]
        exact keep _ hpa.lt (pc_ne hps.1 hpa (by decide))
      · obtain rfl := List.mem_singleton.1 hp
        have hn : PcAt W ⟨w.heap.size, cap, d, false⟩ := by
          subst hW
          refine PcAt.same (pc_new (w.drewN (nq + 1)) d cap hcap.1 hcap.2 w.heap.size rfl) ?_
          exact Below.heap_alloc _ _ _ (by simp [World.drewN])
        refine hn.same ?_
        show _[w.heap.size]? = _
        have hne : w.heap.size ≠ q := by omega
        rw [Below.heap_setCell _ _ _ _ (by exact hne), Below.heap_setCell _ _ _ _ (by exact hne)]
        exact hg.block _ (by have := c0.1; show w.heap.size < _; omega) (fun e => by have := (hps.1.lt _ e.symm).2; omega)
  · intro k hk
    rcases hblk with h1 | h1
    · left; exact hk.symm.trans h1
    · right
      have e := Option.some.inj (h1.symm.trans hk)
      omega
  · refine ChgS.set (ChgS.set ?_ (by left; left; rfl) _) (by left; left; rfl) _
    exact ⟨hg.os.trans c0.2.1.1, hg.tape.trans c0.2.1.2.1, hg.output.trans c0.2.1.2.2, by have := c0.1; have := hg.size; omega, fun i hi hn => keep i hi (fun e => hn (.inr e.symm))⟩
set_option maxRecDepth 100000 in
set_option maxHeartbeats 4000000 in
theorem send_ok0 (g : Nat) (s : Sw) (c : Int) (q : Nat) (x : Pipe × Pipe) (d : ByteArray) (ps : List Pc) (w : World) (h : SwAt w g s) (hc : (Lit.int .i64 c).wf = true) (hq : s.D.atKey (keyD c) nilD = .lit (.int .i64 (q : Int))) (hb : Blk w q 58 (cirC x)) (hps : PsAt w x.1.v ps) (hw : wrap64 (s.most - x.1.bytes) = s.most - x.1.bytes) (hw2 : wrap64 (x.1.bytes + (d.size : Int)) = x.1.bytes + (d.size : Int)) (hfit : ¬ s.most - x.1.bytes < (d.size : Int)) (h0 : x.1.lost ≤ 0) (hsm : d.size ≤ 65536) (hlen : ps.length ≤ 1000000) : Calls Try.prog 14 #[.pointer (some ⟨g, 0, none⟩), .int .i64 c, .int .i64 0, .string d] w (SendR g s q 0 x d ps w) := by
  obtain ⟨i0, hi, hz0, hz1, hz2⟩ := info_parts info_piece
  have HZ1 := Lib.hid hz1; have HZ2 := Lib.hid hz2; have HZ0 := Lib.hid hz0; have HI := Lib.hid hi
  clear hz0 hz1 hz2 hi
  have c1 : w.cell? ⟨g, 1, none⟩ = some (.int .i64 s.most) := h.1.cell 1
  have H := Lib.hid h
  have q0 : w.cell? ⟨q, 0, none⟩ = some x.1.v := hb.cell 0
  have q1 : w.cell? ⟨q, 1, none⟩ = some (.int .i64 x.1.bytes) := hb.cell 1
  have q2 : w.cell? ⟨q, 2, none⟩ = some (.int .i64 x.1.lost) := hb.cell 2
  have hd : decide (s.most - x.1.bytes < (d.size : Int)) = false := decide_eq_false (by exact hfit)
  have hlo : decide (0 < x.1.lost) = false := decide_eq_false (by omega)
  have hcv := fun (W : World) => run_bytes_of_string (P := Try.prog) W 9 36 5 d Try.underlying9 Try.underlying36 Try.underlying5
  have HB := Lib.hid hb
  have HP := Lib.hid hps
  clear h hb hfit hps
  go_enter Try.func14, Try.ntmps14
  go_wp2_with fail
  refine (open_ok g s c 0 q _ H.out hc hq (.inl rfl)).mono ?_
  rintro e w1 ⟨rfl, rfl⟩
  go_wp2
  go_quiet (fail)
  have hcg := grownCap_ge (w.drewN nq) d.size 0 5
  have hcm := grownCap_le_maxLen (w.drewN nq) d.size 0 5 (by unfold maxLen; omega)
  have hcv1 := hcv (w.drewN nq)
  clear hcv
  generalize hcape : grownCap (w.drewN nq) d.size 0 5 = cap at hcv1 hcg hcm
  go_wp2_with (at_builtin; refine wpList_append_two rfl _ _ 52 rfl 0 63 i0 _ 2 32 Try.underlying52 HI.out HZ0.out HZ1.out HZ2.out rfl (by omega) x.1.v ps.length (pcsC ps) rfl (own_same HP.out.1 ?k10) ⟨w.heap.size + 1, 0, none⟩ 1 1 [.slice (some ⟨w.heap.size, 0, none⟩) d.size cap, .bool false] rfl rfl (two_cells_at _ _ (by simp [World.drewN]) _ _ _) (by simp [Value.oneCell']) (by omega) ?c10 ?c20 ?c30 ?_)
  case k10 => intro k hk; have := (HP.out.1.lt k hk).2; exact (Below.heap_alloc _ _ k (by simp [World.drewN]; omega)).trans (Below.heap_alloc _ _ k (by simp [World.drewN]; omega))
  case c10 => unfold maxLen; omega
  case c20 => omega
  case c30 => omega
  intro v3 w3 hown3 hgrow hblk
  obtain ⟨A3, cap3, rfl⟩ := own_form hown3
  obtain ⟨hb3, fin⟩ := send_fin0 H.out HB.out HP.out rfl ⟨hcg, hcm⟩ hown3 hgrow hblk
  have FIN := Lib.hid fin; clear fin hown3 hgrow hblk
  have z0 : w3.cell? ⟨q, 0, none⟩ = some x.1.v := hb3.cell 0
  have z1 : w3.cell? ⟨q, 1, none⟩ = some (.int .i64 x.1.bytes) := hb3.cell 1
  have hf3 := hb3.frozen
  clear hb3
  go_wp2
  go_ret
  exact FIN.out

/-- What the walk's end says, put together. -/
theorem send_fin1 {g q nq cap : Nat} {s : Sw} {x : Pipe × Pipe} {d : ByteArray} {ps : List Pc} {w W w3 : World} {v3 : Value} (h : SwAt w g s) (hb : Blk w q 58 (cirC x)) (hps : PsAt w x.2.v ps)
    (hW : W = ((w.drewN (nq + 1)).alloc (.cells (bytesRow d cap) 5 ((bytesRow d cap).size, (bytesRow d cap).size + 1))).alloc (.cells #[.slice (some ⟨w.heap.size, 0, none⟩) d.size cap, .bool false] 63)) (hcap : d.size ≤ cap ∧ cap ≤ maxLen)
    (h3 : w3.ownsRow 0 63 2 v3 (ps.length + 1) (pcsC ps ++ [.slice (some ⟨w.heap.size, 0, none⟩) d.size cap, .bool false])) (hg : W.grownBy w3 x.2.v.ownBlock) (hblk : v3.ownBlock = x.2.v.ownBlock ∨ v3.ownBlock = some (w.heap.size + 1 + 1)) :
    Blk w3 q 58 (cirC x) ∧ SendR g s q 1 x d ps w (.returned (.int .i64 0)) ((w3.setCell ⟨q, 3, none⟩ v3).setCell ⟨q, 4, none⟩ (.int .i64 (x.2.bytes + (d.size : Int)))) := by
  have hgq := blk_ne h.1 hb (by decide)
  have hmq := map_ne h hb
  have hlt := sw_lt h
  have hql := hb.lt
  have c0 : Fr2 w W := by
    subst hW
    exact ⟨by simp [World.drewN], ⟨rfl, rfl, rfl⟩, fun i hi => (Below.heap_alloc _ _ i (by simp [World.drewN]; omega)).trans (Below.heap_alloc _ _ i (by simp [World.drewN]; omega))⟩
  have keep : ∀ i, i < w.heap.size → x.2.v.ownBlock ≠ some i → w3.heap[i]? = w.heap[i]? := fun i hi hn => (hg.block i (by have := c0.1; omega) (fun e => hn e.symm)).trans (c0.2.2 i hi)
  have hqv := own_ne hps.1 hb (by decide)
  have hb3 : Blk w3 q 58 (cirC x) := (keep q hql hqv).trans hb
  refine ⟨hb3, rfl, ?_, v3, cap, ?_, ?_, ?_, ?_⟩
  · refine sw_fr h ?_ ?_
    · rw [Below.heap_setCell _ _ _ _ (by exact hgq), Below.heap_setCell _ _ _ _ (by exact hgq)]
      exact keep g hlt.1 (own_ne hps.1 h.1 (by decide))
    · rw [Below.heap_setCell _ _ _ _ (by exact hmq), Below.heap_setCell _ _ _ _ (by exact hmq)]
      exact keep _ hlt.2 (own_map hps.1 h)
  · exact (hb3.set_ 3 v3).set_ 4 _
  · have e1 : (ps ++ [(⟨w.heap.size, cap, d, false⟩ : Pc)]).length = ps.length + 1 := by simp
    have e2 : pcsC (ps ++ [(⟨w.heap.size, cap, d, false⟩ : Pc)]) = pcsC ps ++ [.slice (some ⟨w.heap.size, 0, none⟩) d.size cap, .bool false] := by rw [pcsC_app]; rfl
    have hq3 := own_ne h3 hb3 (by decide)
    have hz3 := hg.size
    refine ⟨?_, fun p hp => ?_⟩
    · rw [e1, e2]
      refine own_same h3 (fun k hk => ?_)
      rw [Below.heap_setCell _ _ _ _ (by intro e; exact hq3 (by rw [hk]; exact congrArg some e)), Below.heap_setCell _ _ _ _ (by intro e; exact hq3 (by rw [hk]; exact congrArg some e))]
    · rcases List.mem_append.1 hp with hp | hp
      · have hpa := hps.2 p hp
        have hpq := pc_blk hb hpa (by decide)
        refine hpa.same ?_
        rw [Below.heap_setCell _ _ _ _ (by exact hpq), Below.heap_setCell _ _ _ _ (by exact hpq)]
        exact keep _ hpa.lt (pc_ne hps.1 hpa (by decide))
      · obtain rfl := List.mem_singleton.1 hp
        have hn : PcAt W ⟨w.heap.size, cap, d, false⟩ := by
          subst hW
          refine PcAt.same (pc_new (w.drewN (nq + 1)) d cap hcap.1 hcap.2 w.heap.size rfl) ?_
          exact Below.heap_alloc _ _ _ (by simp [World.drewN])
        refine hn.same ?_
        show _[w.heap.size]? = _
        have hne : w.heap.size ≠ q := by omega
        rw [Below.heap_setCell _ _ _ _ (by exact hne), Below.heap_setCell _ _ _ _ (by exact hne)]
        exact hg.block _ (by have := c0.1; show w.heap.size < _; omega) (fun e => by have := (hps.1.lt _ e.symm).2; omega)
  · intro k hk
    rcases hblk with h1 | h1
    · left; exact hk.symm.trans h1
    · right
      have e := Option.some.inj (h1.symm.trans hk)
      omega
  · refine ChgS.set (ChgS.set ?_ (by left; left; rfl) _) (by left; left; rfl) _
    exact ⟨hg.os.trans c0.2.1.1, hg.tape.trans c0.2.1.2.1, hg.output.trans c0.2.1.2.2, by have := c0.1; have := hg.size; omega, fun i hi hn => keep i hi (fun e => hn (.inr e.symm))⟩
set_option maxRecDepth 100000 in
set_option maxHeartbeats 4000000 in
theorem send_ok1 (g : Nat) (s : Sw) (c : Int) (q : Nat) (x : Pipe × Pipe) (d : ByteArray) (ps : List Pc) (w : World) (h : SwAt w g s) (hc : (Lit.int .i64 c).wf = true) (hq : s.D.atKey (keyD c) nilD = .lit (.int .i64 (q : Int))) (hb : Blk w q 58 (cirC x)) (hps : PsAt w x.2.v ps) (hw : wrap64 (s.most - x.2.bytes) = s.most - x.2.bytes) (hw2 : wrap64 (x.2.bytes + (d.size : Int)) = x.2.bytes + (d.size : Int)) (hfit : ¬ s.most - x.2.bytes < (d.size : Int)) (h0 : x.2.lost ≤ 0) (hsm : d.size ≤ 65536) (hlen : ps.length ≤ 1000000) : Calls Try.prog 14 #[.pointer (some ⟨g, 0, none⟩), .int .i64 c, .int .i64 1, .string d] w (SendR g s q 1 x d ps w) := by
  obtain ⟨i0, hi, hz0, hz1, hz2⟩ := info_parts info_piece
  have HZ1 := Lib.hid hz1; have HZ2 := Lib.hid hz2; have HZ0 := Lib.hid hz0; have HI := Lib.hid hi
  clear hz0 hz1 hz2 hi
  have c1 : w.cell? ⟨g, 1, none⟩ = some (.int .i64 s.most) := h.1.cell 1
  have H := Lib.hid h
  have q0 : w.cell? ⟨q, 3, none⟩ = some x.2.v := hb.cell 3
  have q1 : w.cell? ⟨q, 4, none⟩ = some (.int .i64 x.2.bytes) := hb.cell 4
  have q2 : w.cell? ⟨q, 5, none⟩ = some (.int .i64 x.2.lost) := hb.cell 5
  have hd : decide (s.most - x.2.bytes < (d.size : Int)) = false := decide_eq_false (by exact hfit)
  have hlo : decide (0 < x.2.lost) = false := decide_eq_false (by omega)
  have hcv := fun (W : World) => run_bytes_of_string (P := Try.prog) W 9 36 5 d Try.underlying9 Try.underlying36 Try.underlying5
  have HB := Lib.hid hb
  have HP := Lib.hid hps
  clear h hb hfit hps
  go_enter Try.func14, Try.ntmps14
  go_wp2_with fail
  refine (open_ok g s c 1 q _ H.out hc hq (.inr rfl)).mono ?_
  rintro e w1 ⟨rfl, rfl⟩
  go_wp2
  go_quiet (fail)
  have hcg := grownCap_ge (w.drewN nq) d.size 0 5
  have hcm := grownCap_le_maxLen (w.drewN nq) d.size 0 5 (by unfold maxLen; omega)
  have hcv1 := hcv (w.drewN nq)
  clear hcv
  generalize hcape : grownCap (w.drewN nq) d.size 0 5 = cap at hcv1 hcg hcm
  go_wp2_with (at_builtin; refine wpList_append_two rfl _ _ 52 rfl 0 63 i0 _ 2 32 Try.underlying52 HI.out HZ0.out HZ1.out HZ2.out rfl (by omega) x.2.v ps.length (pcsC ps) rfl (own_same HP.out.1 ?k10) ⟨w.heap.size + 1, 0, none⟩ 1 1 [.slice (some ⟨w.heap.size, 0, none⟩) d.size cap, .bool false] rfl rfl (two_cells_at _ _ (by simp [World.drewN]) _ _ _) (by simp [Value.oneCell']) (by omega) ?c10 ?c20 ?c30 ?_)
  case k10 => intro k hk; have := (HP.out.1.lt k hk).2; exact (Below.heap_alloc _ _ k (by simp [World.drewN]; omega)).trans (Below.heap_alloc _ _ k (by simp [World.drewN]; omega))
  case c10 => unfold maxLen; omega
  case c20 => omega
  case c30 => omega
  intro v3 w3 hown3 hgrow hblk
  obtain ⟨A3, cap3, rfl⟩ := own_form hown3
  obtain ⟨hb3, fin⟩ := send_fin1 H.out HB.out HP.out rfl ⟨hcg, hcm⟩ hown3 hgrow hblk
  have FIN := Lib.hid fin; clear fin hown3 hgrow hblk
  have z0 : w3.cell? ⟨q, 3, none⟩ = some x.2.v := hb3.cell 3
  have z1 : w3.cell? ⟨q, 4, none⟩ = some (.int .i64 x.2.bytes) := hb3.cell 4
  have hf3 := hb3.frozen
  clear hb3
  go_wp2
  go_ret
  exact FIN.out
end Go.Proofs.Ytmbnonkbflchoaa
