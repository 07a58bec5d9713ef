/- The contract of the reference's Ask. No condition but memory's own limits. -/
import Derived.Test.YtckbbfdllflmjaaTalkR
import Derived.Test.YtckbbfdllflmjaaBapRs
import Derived.Deep.RegionHeld3
namespace Go.Proofs.Ytckbbfdllflmjaa
open Go.RowKit
set_option linter.unusedVariables false
set_option linter.unusedSimpArgs false
attribute [local go_sem] conv1 conv1d conv1n conv1a conv1ad conv1an conv2 conv2d conv2n conv2a conv2ad conv2an conv4 conv4d conv4n conv4a conv4ad conv4an conv5 conv5d conv5n conv5a conv5ad conv5an size_nums byt_fold
/-- Options copied behind an empty row of one's own: at the operation. -/
theorem wp_optcopy {w : World} {o : Oper} {a : Act} {K : Act → World → Prop} {Q : Exit → Act → World → Prop} (s x : Operand)
    (ho : o.op = .call { callee := .builtin .append, args := #[s, x], argTypes := #[32, 32] })
    (b : Nat) (hs : a.eval s = .slice (some ⟨b, 0, none⟩) 0 0) (base : Nat) (hown : w.ownsRow base 65 2 (.slice (some ⟨b, 0, none⟩) 0 0) 0 [])
    (A : Option Addr) (n cap : Nat) (os : List (Int × ByteArray)) (hx : a.eval x = .slice A n cap) (hv : OptsAt w A n os) (hn : n * 24 ≤ 140737488351232) (hcap : A = none → n = 0 ∧ cap = 0) (hbase : base ≤ w.heap.size)
    (h : ∀ R rc w', w'.ownsRow base 65 2 (.slice R n rc) n (optCells os) → w.grownBy w' (some b) → K (a.put o.dst (.slice R n rc)) w') : o.wp Try.prog a w K Q := by
  obtain ⟨i0, hi, hz0, hz1, hz2⟩ := info_parts info_opt2
  have hlen : (optCells os).length = n * 2 := by rw [optCells_len, hv.1]
  cases A with
  | none =>
    obtain ⟨rfl, rfl⟩ := hcap rfl
    obtain rfl : os = [] := List.eq_nil_of_length_eq_zero hv.1
    have hr := run_append_owned_none (P := Try.prog) w base 32 o.type 65 i0 2 Try.underlying32 hi _ _ _ hown
    unfold Oper.wp execOp
    simp only [ho, resolve, invoke, builtin, Sem.run_bind, Sem.run_pure, Result.andThen_ok, List.map_toArray, List.map_cons, List.map_nil, hs, hx, hr]
    exact h _ _ w hown (gr_refl w b)
  | some ad =>
    refine wp_append_own w s x 32 ho base 65 i0 _ 2 24 Try.underlying32 hi hz0 hz1 hz2 rfl (by omega) _ _ _ hs hown ad n cap (optCells os) hx hlen ?_ (optCells_one os) (by unfold maxLen; omega) (by omega) hbase ?_
    · intro j u hu
      have hpos : 0 < n := by
        rcases Nat.eq_zero_or_pos n with h | h
        · subst h
          have : os = [] := List.eq_nil_of_length_eq_zero hv.1
          subst this
          simp [optCells] at hu
        · exact h
      obtain ⟨b', off, e, hlt, _⟩ := hv.2 hpos
      injection e with e
      subst e
      exact OptsAt.news hv hpos j u hu
    · intro v' w' hown' hg _
      simp only [Nat.zero_add, List.nil_append] at hown'
      obtain ⟨A', cap', rfl⟩ := own_slice hown'
      exact h _ _ _ hown' hg
theorem and255_mod (x : Int) : bits .and .i64 x 255 = x % 256 := and255 x
theorem set_seven (v0 v1 v2 v3 v4 v5 v6 v7 v8 v9 v10 v11 v12 a8 a9 a10 a11 a12 a0 a7 : Value) : ((((((((#[v0, v1, v2, v3, v4, v5, v6, v7, v8, v9, v10, v11, v12] : Array Value).setIfInBounds 8 a8).setIfInBounds 9 a9).setIfInBounds 10 a10).setIfInBounds 11 a11).setIfInBounds 12 a12).setIfInBounds 0 a0).setIfInBounds 7 a7) = #[a0, v1, v2, v3, v4, v5, v6, a7, a8, a9, a10, a11, a12] := by apply Array.ext'; simp
theorem rtCask (s : TS) (L : Int) (A : Option Addr) (n ca : Nat) (B : Option Addr) (m cb : Nat) (c I T : Int) (R : Option Addr) (k rc : Nat) (os : List (Int × ByteArray)) (hT : 0 < T) :
    (((((((rtC s L A n ca B m cb).setIfInBounds 8 (.int .i64 I)).setIfInBounds 9 (.int .i64 c)).setIfInBounds 10 (.int .i64 I)).setIfInBounds 11 (.int .i64 0)).setIfInBounds 12 (.slice R k rc)).setIfInBounds 0 (.bool true)).setIfInBounds 7 (.int .i64 T) = rtC { s with ac := c, ai := I, aa := 0, al := os, left := T, id := I } T R k rc B m cb := by
  unfold rtC
  rw [set_seven, decide_eq_true hT]
theorem rask_err {s : TS} {c E : Int} {os : List (Int × ByteArray)} {X : Nat → Prop} {g : Nat} {w w' : World} (hE : tAskE s c os = E) (h0 : ¬ E = 0) (hp : RAt w X g s) (hb : Below w.heap.size w w') :
    RBapR (tAskR s c os).1 (tAskR s c os).2.1 (tAskR s c os).2.2.1 (tAskR s c os).2.2.2 (tAskE s c os) X g (tAsk s c os) w (.returned (.tuple #[.agg #[.int .i64 0, .int .i64 0, .int .i64 0, .slice none 0 0], .int .i64 E])) w' := by
  have e1 : tAskR s c os = (0, 0, 0, []) := by unfold tAskR; rw [if_neg (by rw [hE]; exact h0)]
  have e2 : tAsk s c os = s := by unfold tAsk; rw [if_neg (by rw [hE]; exact h0)]
  rw [e1, e2, hE]
  exact ⟨none, 0, 0, rfl, RLies.nil _ _, hp.keep hb, gr_of g hb⟩
set_option maxRecDepth 100000 in
set_option maxHeartbeats 4000000 in
theorem rask_bad (X : Nat → Prop) (g : Nat) (s : TS) (c : Int) (O : Option Addr) (k cap : Nat) (os : List (Int × ByteArray)) (w : World) (hp : RAt w X g s) (hi : 0 ≤ s.id ∧ s.id ≤ 255) (hv : OptsAt w O k os) (hk : k * 24 ≤ 140737488351232) (ho : ∀ o ∈ os, o.2.size ≤ 140737488351232)
    (hbad : tAskE s c os ≠ 0) :
    Calls Try.prog 16 #[.pointer (some ⟨g, 0, none⟩), .int .i64 c, .slice O k cap] w (RBapR (tAskR s c os).1 (tAskR s c os).2.1 (tAskR s c os).2.2.1 (tAskR s c os).2.2.2 (tAskE s c os) X g (tAsk s c os) w) := by
  have HP := Lib.hid hp
  obtain ⟨Q, hQ⟩ : ∃ Q, bE c 0 0 os = Q := ⟨_, rfl⟩
  have hid : bE c (nextI s) 0 os = Q := by rw [← hQ]; exact bE_id _ _ _ _ _ (by unfold nextI; omega) (by omega)
  obtain ⟨L, A, n, ca, B, m, cb, h, hL0, h1, h2⟩ := hp
  have c0 : w.cell? ⟨g, 0, none⟩ = some (.bool (decide (0 < s.left))) := h.cell 0
  have hlt := h.lt
  clear h h1 h2 hL0
  have HV := Lib.hid (hv.keep ((Below.refl w.heap.size w).alloc (Nat.le_refl _) (.cells #[.int .i64 0, .int .i64 0, .int .i64 0, .slice none 0 0] 34)))
  have HO := Lib.hid ho
  clear hv ho
  have hE : ((reqB c = false ∧ (c != 7) = true) ∨ (reqB c = false ∧ (c != 7) = false ∧ (Q != 0) = true) ∨ (reqB c = true ∧ (Q != 0) = true)) ∧ tAskE s c os = 2200 ∨ ((reqB c = false ∧ (c != 7) = false) ∨ reqB c = true) ∧ (Q != 0) = false ∧ 0 < s.left ∧ tAskE s c os = 2201 := by
    unfold tAskE askB at hbad ⊢
    rw [hid] at hbad ⊢
    cases hr : reqB c <;> by_cases h7 : c = 7 <;> by_cases h0 : Q = 0 <;> by_cases hl : 0 < s.left <;> simp_all
  clear hid hbad
  rcases hE with ⟨hE, hT⟩ | ⟨hE, hQ0, hl, hT⟩
  · have HT := Lib.hid hT
    clear hT
    rcases hE with ⟨e1, e2⟩ | ⟨e1, e2, e3⟩ | ⟨e1, e3⟩
    all_goals
      go_enter Try.func16, Try.ntmps16
      go_wp2_with fail
      refine (rbap_any c 0 0 O k cap os _ HV.out (by omega) HO.out).mono ?_
      rintro e w1 ⟨P, rfl, hb1⟩
      rw [hQ]
      obtain ⟨hcc, hff⟩ := bcell hb1
      have hz1 := hb1.size
      simp at hz1
      have z1 : w.heap.size < w1.heap.size := by omega
      have bel : Below w.heap.size w w1 := ((Below.refl _ _).alloc (Nat.le_refl _) _).trans (hb1.mono (by simp))
      have f0 : Free w1 w.heap.size := (by repeat' (first | (with_reducible exact hb1) | (with_reducible refine freeK hb1 ?_) | ((with_reducible refine free0 ?hb); (case hb => first | rfl | (simp; done))) | (with_reducible refine freeA ?_) | (with_reducible refine freeD ?_) | (with_reducible refine freeN ?_) | (with_reducible refine freeS ?_)))
      have f0' := f0.2
      have r0 : w1.cell? ⟨w.heap.size, 0, none⟩ = some (.int .i64 0) := (by repeat' (first | (with_reducible refine cell1 ?_) | (with_reducible exact hb1) | (with_reducible refine cellK hb1 ?_) | ((with_reducible refine cell0 ?hb ?hv); (case hb => first | rfl | (simp; done)); (case hv => rfl)) | (with_reducible refine cellA ?_) | (with_reducible refine cellD ?_) | (with_reducible refine cellN ?_) | ((with_reducible refine cellS ?hn ?_); (case hn => first | (left; omega) | (right; omega) | (left; simp; omega))) | ((with_reducible refine has0 ?hb ?hv); (case hb => first | rfl | (simp; done)); (case hv => rfl)) | (with_reducible refine hasA ?_) | (with_reducible refine hasD ?_) | (with_reducible refine hasN ?_) | (with_reducible refine hasK hb1 ?_) | (with_reducible refine hasS ?_)))
      have r1 : w1.cell? ⟨w.heap.size, 1, none⟩ = some (.int .i64 0) := (by repeat' (first | (with_reducible refine cell1 ?_) | (with_reducible exact hb1) | (with_reducible refine cellK hb1 ?_) | ((with_reducible refine cell0 ?hb ?hv); (case hb => first | rfl | (simp; done)); (case hv => rfl)) | (with_reducible refine cellA ?_) | (with_reducible refine cellD ?_) | (with_reducible refine cellN ?_) | ((with_reducible refine cellS ?hn ?_); (case hn => first | (left; omega) | (right; omega) | (left; simp; omega))) | ((with_reducible refine has0 ?hb ?hv); (case hb => first | rfl | (simp; done)); (case hv => rfl)) | (with_reducible refine hasA ?_) | (with_reducible refine hasD ?_) | (with_reducible refine hasN ?_) | (with_reducible refine hasK hb1 ?_) | (with_reducible refine hasS ?_)))
      have r2 : w1.cell? ⟨w.heap.size, 2, none⟩ = some (.int .i64 0) := (by repeat' (first | (with_reducible refine cell1 ?_) | (with_reducible exact hb1) | (with_reducible refine cellK hb1 ?_) | ((with_reducible refine cell0 ?hb ?hv); (case hb => first | rfl | (simp; done)); (case hv => rfl)) | (with_reducible refine cellA ?_) | (with_reducible refine cellD ?_) | (with_reducible refine cellN ?_) | ((with_reducible refine cellS ?hn ?_); (case hn => first | (left; omega) | (right; omega) | (left; simp; omega))) | ((with_reducible refine has0 ?hb ?hv); (case hb => first | rfl | (simp; done)); (case hv => rfl)) | (with_reducible refine hasA ?_) | (with_reducible refine hasD ?_) | (with_reducible refine hasN ?_) | (with_reducible refine hasK hb1 ?_) | (with_reducible refine hasS ?_)))
      have r3 : w1.cell? ⟨w.heap.size, 3, none⟩ = some (.slice none 0 0) := (by repeat' (first | (with_reducible refine cell1 ?_) | (with_reducible exact hb1) | (with_reducible refine cellK hb1 ?_) | ((with_reducible refine cell0 ?hb ?hv); (case hb => first | rfl | (simp; done)); (case hv => rfl)) | (with_reducible refine cellA ?_) | (with_reducible refine cellD ?_) | (with_reducible refine cellN ?_) | ((with_reducible refine cellS ?hn ?_); (case hn => first | (left; omega) | (right; omega) | (left; simp; omega))) | ((with_reducible refine has0 ?hb ?hv); (case hb => first | rfl | (simp; done)); (case hv => rfl)) | (with_reducible refine hasA ?_) | (with_reducible refine hasD ?_) | (with_reducible refine hasN ?_) | (with_reducible refine hasK hb1 ?_) | (with_reducible refine hasS ?_)))
      clear f0 hcc hff hb1
      go_wp2_with (first | (go_at_call 35; refine (rreq_any _ _).mono ?_; rintro e w' ⟨rfl, rfl⟩))
      refine bodyPost_ret (v := .tuple #[.agg #[.int .i64 0, .int .i64 0, .int .i64 0, .slice none 0 0], .int .i64 2200]) (by simp [results, Try.results16, go_sem, r0, r1, r2, r3]) rfl ?_
      exact rask_err HT.out (by decide) HP.out (by repeat' (first | (with_reducible exact bel) | (with_reducible refine Below.setCell ?_ (Nat.le_refl _) _) | (with_reducible apply Below.setCell) | (with_reducible apply Below.alloc) | (with_reducible apply Below.drew) | (with_reducible apply below_drewN) | (exact Nat.le_refl _) | omega | (simp; done) | (simp; omega)))
  · have HT := Lib.hid hT
    clear hT
    rw [decide_eq_true hl] at c0
    rcases hE with ⟨e1, e2⟩ | e1
    all_goals
      go_enter Try.func16, Try.ntmps16
      go_wp2_with fail
      refine (rbap_any c 0 0 O k cap os _ HV.out (by omega) HO.out).mono ?_
      rintro e w1 ⟨P, rfl, hb1⟩
      rw [hQ]
      obtain ⟨hcc, hff⟩ := bcell hb1
      have hz1 := hb1.size
      simp at hz1
      have z1 : w.heap.size < w1.heap.size := by omega
      have bel : Below w.heap.size w w1 := ((Below.refl _ _).alloc (Nat.le_refl _) _).trans (hb1.mono (by simp))
      have f0 : Free w1 w.heap.size := (by repeat' (first | (with_reducible exact hb1) | (with_reducible refine freeK hb1 ?_) | ((with_reducible refine free0 ?hb); (case hb => first | rfl | (simp; done))) | (with_reducible refine freeA ?_) | (with_reducible refine freeD ?_) | (with_reducible refine freeN ?_) | (with_reducible refine freeS ?_)))
      have f0' := f0.2
      have r0 : w1.cell? ⟨w.heap.size, 0, none⟩ = some (.int .i64 0) := (by repeat' (first | (with_reducible refine cell1 ?_) | (with_reducible exact hb1) | (with_reducible refine cellK hb1 ?_) | ((with_reducible refine cell0 ?hb ?hv); (case hb => first | rfl | (simp; done)); (case hv => rfl)) | (with_reducible refine cellA ?_) | (with_reducible refine cellD ?_) | (with_reducible refine cellN ?_) | ((with_reducible refine cellS ?hn ?_); (case hn => first | (left; omega) | (right; omega) | (left; simp; omega))) | ((with_reducible refine has0 ?hb ?hv); (case hb => first | rfl | (simp; done)); (case hv => rfl)) | (with_reducible refine hasA ?_) | (with_reducible refine hasD ?_) | (with_reducible refine hasN ?_) | (with_reducible refine hasK hb1 ?_) | (with_reducible refine hasS ?_)))
      have r1 : w1.cell? ⟨w.heap.size, 1, none⟩ = some (.int .i64 0) := (by repeat' (first | (with_reducible refine cell1 ?_) | (with_reducible exact hb1) | (with_reducible refine cellK hb1 ?_) | ((with_reducible refine cell0 ?hb ?hv); (case hb => first | rfl | (simp; done)); (case hv => rfl)) | (with_reducible refine cellA ?_) | (with_reducible refine cellD ?_) | (with_reducible refine cellN ?_) | ((with_reducible refine cellS ?hn ?_); (case hn => first | (left; omega) | (right; omega) | (left; simp; omega))) | ((with_reducible refine has0 ?hb ?hv); (case hb => first | rfl | (simp; done)); (case hv => rfl)) | (with_reducible refine hasA ?_) | (with_reducible refine hasD ?_) | (with_reducible refine hasN ?_) | (with_reducible refine hasK hb1 ?_) | (with_reducible refine hasS ?_)))
      have r2 : w1.cell? ⟨w.heap.size, 2, none⟩ = some (.int .i64 0) := (by repeat' (first | (with_reducible refine cell1 ?_) | (with_reducible exact hb1) | (with_reducible refine cellK hb1 ?_) | ((with_reducible refine cell0 ?hb ?hv); (case hb => first | rfl | (simp; done)); (case hv => rfl)) | (with_reducible refine cellA ?_) | (with_reducible refine cellD ?_) | (with_reducible refine cellN ?_) | ((with_reducible refine cellS ?hn ?_); (case hn => first | (left; omega) | (right; omega) | (left; simp; omega))) | ((with_reducible refine has0 ?hb ?hv); (case hb => first | rfl | (simp; done)); (case hv => rfl)) | (with_reducible refine hasA ?_) | (with_reducible refine hasD ?_) | (with_reducible refine hasN ?_) | (with_reducible refine hasK hb1 ?_) | (with_reducible refine hasS ?_)))
      have r3 : w1.cell? ⟨w.heap.size, 3, none⟩ = some (.slice none 0 0) := (by repeat' (first | (with_reducible refine cell1 ?_) | (with_reducible exact hb1) | (with_reducible refine cellK hb1 ?_) | ((with_reducible refine cell0 ?hb ?hv); (case hb => first | rfl | (simp; done)); (case hv => rfl)) | (with_reducible refine cellA ?_) | (with_reducible refine cellD ?_) | (with_reducible refine cellN ?_) | ((with_reducible refine cellS ?hn ?_); (case hn => first | (left; omega) | (right; omega) | (left; simp; omega))) | ((with_reducible refine has0 ?hb ?hv); (case hb => first | rfl | (simp; done)); (case hv => rfl)) | (with_reducible refine hasA ?_) | (with_reducible refine hasD ?_) | (with_reducible refine hasN ?_) | (with_reducible refine hasK hb1 ?_) | (with_reducible refine hasS ?_)))
      have c0' : w1.cell? ⟨g, 0, none⟩ = some (.bool true) := (bel.cell hlt).trans c0
      have hgl : g < w1.heap.size := by omega
      clear f0 hcc hff hb1
      go_wp2_with (first | (go_at_call 35; refine (rreq_any _ _).mono ?_; rintro e w' ⟨rfl, rfl⟩))
      refine bodyPost_ret (v := .tuple #[.agg #[.int .i64 0, .int .i64 0, .int .i64 0, .slice none 0 0], .int .i64 2201]) (by simp [results, Try.results16, go_sem, r0, r1, r2, r3]) rfl ?_
      exact rask_err HT.out (by decide) HP.out (by repeat' (first | (with_reducible exact bel) | (with_reducible refine Below.setCell ?_ (Nat.le_refl _) _) | (with_reducible apply Below.setCell) | (with_reducible apply Below.alloc) | (with_reducible apply Below.drew) | (with_reducible apply below_drewN) | (exact Nat.le_refl _) | omega | (simp; done) | (simp; omega)))
theorem gr_more {a w w' : World} {g : Nat} {row : Option Nat} (h : a.grownBy w (some g)) (hg : w.grownBy w' row) (hr : ∀ k, row = some k → a.heap.size ≤ k) : a.grownBy w' (some g) :=
  ⟨hg.os.trans h.os, hg.tape.trans h.tape, hg.output.trans h.output, Nat.le_trans h.size hg.size, fun i hi hne => (hg.block i (Nat.lt_of_lt_of_le hi h.size) (fun e => by have := hr i e.symm; omega)).trans (h.block i hi hne)⟩
theorem RLies.grow {w w' : World} {X : Nat → Prop} {A : Option Addr} {n : Nat} {l : List (Int × ByteArray)} {row : Option Nat} (h : RLies w X A n l) (hg : w.grownBy w' row) (hr : ∀ k, row = some k → X k) : RLies w' X A n l :=
  h.chg (P := fun k => row = some k) (Chg.row hg (fun k e => e)) (fun k e => hr k e)
theorem rask_end {w W w2 : World} {X : Nat → Prop} {g : Nat} {s : TS} {c I L : Int} {A B R : Option Addr} {n ca m cb k rc : Nat} {os : List (Int × ByteArray)} (hX : X g) (hXl : ∀ b, X b → b < w.heap.size) (hlt : g < w.heap.size) (ht : 1 ≤ s.tries) (hk : k * 24 ≤ 140737488351232) (hlen : os.length = k)
    (hgr : w.grownBy W (some g)) (hsl : w.heap.size < W.heap.size) (q2 : RLies W (UpX X w.heap.size) B m s.ll) (hb2 : Blk w2 g 55 ((rtC s L A n ca B m cb).setIfInBounds 8 (.int .i64 I))) (hown : w2.ownsRow W.heap.size 65 2 (.slice R k rc) k (optCells os)) (hgrow : (W.alloc (.cells #[] 65)).drew.grownBy w2 (some W.heap.size)) :
    RBapR c I 0 os 0 X g { s with ac := c, ai := I, aa := 0, al := os, left := s.tries, id := I } w (.returned (.tuple #[.agg #[.int .i64 c, .int .i64 I, .int .i64 0, .slice R k rc], .int .i64 0])) ((((((((((w2.setCell ⟨g, 9, none⟩ (.int .i64 c)).setCell ⟨g, 10, none⟩ (.int .i64 I)).setCell ⟨g, 11, none⟩ (.int .i64 0)).setCell ⟨g, 12, none⟩ (.slice R k rc)).setCell ⟨g, 0, none⟩ (.bool true)).setCell ⟨g, 7, none⟩ (.int .i64 s.tries)).setCell ⟨w.heap.size, 0, none⟩ (.int .i64 c)).setCell ⟨w.heap.size, 1, none⟩ (.int .i64 I)).setCell ⟨w.heap.size, 2, none⟩ (.int .i64 0)).setCell ⟨w.heap.size, 3, none⟩ (.slice R k rc)) := by
  have hz := hgr.size
  have hm : MadeO W w2 R k rc os := ⟨hown, hlen, hk⟩
  obtain ⟨WF, hWF⟩ : ∃ WF, WF = ((((((((((w2.setCell ⟨g, 9, none⟩ (.int .i64 c)).setCell ⟨g, 10, none⟩ (.int .i64 I)).setCell ⟨g, 11, none⟩ (.int .i64 0)).setCell ⟨g, 12, none⟩ (.slice R k rc)).setCell ⟨g, 0, none⟩ (.bool true)).setCell ⟨g, 7, none⟩ (.int .i64 s.tries)).setCell ⟨w.heap.size, 0, none⟩ (.int .i64 c)).setCell ⟨w.heap.size, 1, none⟩ (.int .i64 I)).setCell ⟨w.heap.size, 2, none⟩ (.int .i64 0)).setCell ⟨w.heap.size, 3, none⟩ (.slice R k rc)) := ⟨_, rfl⟩
  have hc : Chg (fun b => b = g ∨ b = w.heap.size) w2 WF := by
    rw [hWF]
    exact ((((((((((Chg.refl _ w2).set (.inl rfl) _).set (.inl rfl) _).set (.inl rfl) _).set (.inl rfl) _).set (.inl rfl) _).set (.inl rfl) _).set (.inr rfl) _).set (.inr rfl) _).set (.inr rfl) _).set (.inr rfl) _
  have hg2 : w.grownBy w2 (some g) := gr_more (gr_drew (gr_alloc hgr _)) hgrow (fun k e => by rw [← Option.some.inj e]; omega)
  have hgf : w.grownBy WF (some g) := by
    rw [hWF]
    exact (by repeat' (first | (with_reducible exact hg2) | (with_reducible exact gr_refl _ _) | (with_reducible refine gr_set ?_ (by first | (left; rfl) | (right; simp; done) | (right; simp; omega) | (left; omega)) _) | (with_reducible refine gr_alloc ?_ _) | (with_reducible refine gr_drew ?_) | (with_reducible refine gr_drewN ?_ _)))
  have hq : RLies w2 (UpX X w.heap.size) B m s.ll := (q2.keep ((Below.refl _ _).alloc (Nat.le_refl _) _).drew).grow hgrow (fun k e => by rw [← Option.some.inj e]; exact .inr (by omega))
  have hr : RLies w2 (fun b => X b ∨ b = w.heap.size) R k os := hm.r (fun b hb => by
    rcases hb with hb | hb
    · have := hXl b hb; omega
    · omega)
  have hb : Blk WF g 55 (rtC { s with ac := c, ai := I, aa := 0, al := os, left := s.tries, id := I } s.tries R k rc B m cb) := by
    rw [hWF]
    have hne : g ≠ w.heap.size := by omega
    have h := ((((Blk.set_ (Blk.set_ (Blk.set_ (Blk.set_ (Blk.set_ (Blk.set_ hb2 9 (.int .i64 c)) 10 (.int .i64 I)) 11 (.int .i64 0)) 12 (.slice R k rc)) 0 (.bool true)) 7 (.int .i64 s.tries)).far (p := ⟨w.heap.size, 0, none⟩) hne (.int .i64 c)).far (p := ⟨w.heap.size, 1, none⟩) hne (.int .i64 I)).far (p := ⟨w.heap.size, 2, none⟩) hne (.int .i64 0)).far (p := ⟨w.heap.size, 3, none⟩) hne (.slice R k rc)
    rw [rtCask s L A n ca B m cb c I s.tries R k rc os (by omega)] at h
    exact h
  rw [← hWF]
  clear hWF
  have hr2 : RLies WF X R k os := (hr.chg hc (fun b e => by
    rcases e with e | e
    · rw [e]; exact .inl hX
    · exact .inr e)).mono (fun b _ h => .inl h)
  have hq2 : RLies WF X B m s.ll := (hq.chg hc (fun b e => by
    rcases e with e | e
    · rw [e]; exact .inl hX
    · exact .inr (by omega))).mono (fun b _ h => .inl h)
  exact ⟨R, k, rc, rfl, hr2, ⟨s.tries, R, k, rc, B, m, cb, hb, fun _ => rfl, hr2, hq2⟩, hgf⟩
set_option maxRecDepth 100000 in
set_option maxHeartbeats 4000000 in
theorem rask_fine (X : Nat → Prop) (g : Nat) (s : TS) (c : Int) (O : Option Addr) (k cap : Nat) (os : List (Int × ByteArray)) (w : World) (hp : RAt w X g s) (hX : X g) (hXl : ∀ b, X b → b < w.heap.size) (hi : 0 ≤ s.id ∧ s.id ≤ 255) (ht : 1 ≤ s.tries) (hv : RLies w X O k os) (hk : k * 24 ≤ 140737488351232) (hcap : O = none → k = 0 ∧ cap = 0) (ho : ∀ o ∈ os, o.2.size ≤ 140737488351232)
    (hE0 : tAskE s c os = 0) :
    Calls Try.prog 16 #[.pointer (some ⟨g, 0, none⟩), .int .i64 c, .slice O k cap] w (RBapR (tAskR s c os).1 (tAskR s c os).2.1 (tAskR s c os).2.2.1 (tAskR s c os).2.2.2 (tAskE s c os) X g (tAsk s c os) w) := by
  obtain ⟨I, hI⟩ : ∃ I, nextI s = I := ⟨_, rfl⟩
  have hIr : 0 ≤ I ∧ I ≤ 255 := by rw [← hI]; unfold nextI; omega
  have hid : bE c (nextI s) 0 os = bE c 0 0 os := bE_id _ _ _ _ _ (by rw [hI]; exact hIr) (by omega)
  have HR := Lib.hid (show tAskR s c os = (c, I, 0, os) ∧ tAsk s c os = { s with ac := c, ai := I, aa := 0, al := os, left := s.tries, id := I } from ⟨by unfold tAskR; rw [if_pos hE0, hI], by unfold tAsk; rw [if_pos hE0, hI]⟩)
  have hE : ((reqB c = false ∧ (c != 7) = false) ∨ reqB c = true) ∧ bE c 0 0 os = 0 ∧ ¬ 0 < s.left := by
    rw [← hid]
    unfold tAskE askB at hE0
    clear HR hid
    generalize bE c (nextI s) 0 os = Q at hE0 ⊢
    by_cases hl : 0 < s.left <;> by_cases h0 : Q = 0 <;> cases hr : reqB c <;> by_cases h7 : c = 7 <;> simp_all
  obtain ⟨hE, hQ, hl⟩ := hE
  have HE := Lib.hid hE0
  clear hE0 hid
  obtain ⟨L, A, n, ca, B, m, cb, h, hL0, h1, h2⟩ := hp.up
  clear hL0
  have c0 : w.cell? ⟨g, 0, none⟩ = some (.bool false) := by have := h.cell 0; rw [this]; unfold rtC; rw [decide_eq_false hl]; rfl
  have hlt := h.lt
  have hw : IntKind.i64.wrap (s.id + 1) = s.id + 1 := IntWalk.i64_in _ (by omega)
  have hm : bits .and .i64 (s.id + 1) 255 = I := by rw [and255]; exact hI
  have HH := Lib.hid h; have H1 := Lib.hid h1; have H2 := Lib.hid h2
  clear h h1 h2 hI
  have HVR := Lib.hid hv
  have HV := Lib.hid (hv.1.keep ((Below.refl w.heap.size w).alloc (Nat.le_refl _) (.cells #[.int .i64 0, .int .i64 0, .int .i64 0, .slice none 0 0] 34)))
  have HO := Lib.hid ho
  clear hv ho
  rcases hE with ⟨e1, e2⟩ | e1
  · go_enter Try.func16, Try.ntmps16
    go_wp2_with fail
    refine (rbap_any c 0 0 O k cap os _ HV.out (by omega) HO.out).mono ?_
    rintro e w1 ⟨P, rfl, hb1⟩
    rw [hQ]
    obtain ⟨hcc, hff⟩ := bcell hb1
    have hz1 := hb1.size
    simp at hz1
    have z1 : w.heap.size < w1.heap.size := by omega
    have bel : Below w.heap.size w w1 := ((Below.refl _ _).alloc (Nat.le_refl _) _).trans (hb1.mono (by simp))
    have hrb : Blk w1 w.heap.size 34 #[.int .i64 0, .int .i64 0, .int .i64 0, .slice none 0 0] := Blk.keep (Blk.new w _ _) hb1
    have r0 : w1.cell? ⟨w.heap.size, 0, none⟩ = some (.int .i64 0) := hrb.cell 0
    have r1 : w1.cell? ⟨w.heap.size, 1, none⟩ = some (.int .i64 0) := hrb.cell 1
    have r2 : w1.cell? ⟨w.heap.size, 2, none⟩ = some (.int .i64 0) := hrb.cell 2
    have r3 : w1.cell? ⟨w.heap.size, 3, none⟩ = some (.slice none 0 0) := hrb.cell 3
    have f0' := hrb.frozen
    have hgb : Blk w1 g 55 (rtC s L A n ca B m cb) := HH.out.below bel hlt
    have c0' : w1.cell? ⟨g, 0, none⟩ = some (.bool false) := (bel.cell hlt).trans c0
    have c8' : w1.cell? ⟨g, 8, none⟩ = some (.int .i64 s.id) := hgb.cell 8
    have hgf := hgb.frozen
    have hgl : g < w1.heap.size := by omega
    have HGB := Lib.hid hgb; have HRB := Lib.hid hrb
    clear hcc hff hb1 hgb hrb
    go_wp2_with (first | (go_at_call 35; refine (rreq_any _ _).mono ?_; rintro e w' ⟨rfl, rfl⟩))
    have hgr1 : w.grownBy (w1.setCell ⟨g, 8, none⟩ (.int .i64 I)) (some g) := gr_set (gr_of g bel) (.inl rfl) _
    have hb8 := Blk.set_ HGB.out 8 (.int .i64 I)
    have hq1 := H1.out.own hgr1 (.inl hX)
    have hq2 := H2.out.own hgr1 (.inl hX)
    have hqv := (HVR.out.own hgr1 hX).1
    have hsb : Blk (w1.setCell ⟨g, 8, none⟩ (.int .i64 I)) w.heap.size 34 #[.int .i64 0, .int .i64 0, .int .i64 0, .slice none 0 0] := HRB.out.far (by show w.heap.size ≠ g; omega) _
    generalize w1.setCell ⟨g, 8, none⟩ (.int .i64 I) = W at hgr1 hb8 hq1 hq2 hqv hsb ⊢
    clear r0 r1 r2 r3 f0' c0' c8' hgf hgl HGB HRB bel hz1 z1
    have c8 : W.cell? ⟨g, 8, none⟩ = some (.int .i64 I) := hb8.cell 8
    have hgl := hb8.lt
    have hsl := hsb.lt
    have HSB := Lib.hid hsb; have HGR := Lib.hid hgr1; have HB := Lib.hid hb8; have Q1 := Lib.hid hq1; have Q2 := Lib.hid hq2; have QV := Lib.hid hqv
    clear hgr1 hb8 hq1 hq2 hqv hsb
    refine wp_region_held_drew (S := fun V => V.cell? ⟨g, 8, none⟩ = some (.int .i64 I)) (by kernel_rfl) c8 (fun hHeld => ?_)
    (refine wpAnyH_take (i := 0) (oi := _) (v := ?v0) rfl (by kernel_rfl) (by kernel_rfl) (by kernel_rfl) (fun _ _ _ h => h) (Or.inl ⟨by kernel_rfl, ?y0⟩) (by assumption) ?_; rotate_left; (· (intro w hSw; skip; go_simp; try with_reducible rfl)); simp only [Act.put, List.setIfInBounds_toArray, List.set_cons_zero, List.set_cons_succ, List.getElem_toArray, List.getElem_cons_succ, List.getElem_cons_zero])
    (refine wpAnyH_take (i := 1) (oi := _) (v := ?v1) rfl (by kernel_rfl) (by kernel_rfl) (by kernel_rfl) (fun _ _ _ h => h) (Or.inl ⟨by kernel_rfl, ?y1⟩) (by assumption) ?_; rotate_left; (· (intro w hSw; skip; go_simp; try with_reducible rfl)); simp only [Act.put, List.setIfInBounds_toArray, List.set_cons_zero, List.set_cons_succ, List.getElem_toArray, List.getElem_cons_succ, List.getElem_cons_zero])
    (refine wpAnyH_take (i := 2) (oi := _) (v := ?v2) rfl (by kernel_rfl) (by kernel_rfl) (by kernel_rfl) (fun _ _ _ h => h) (Or.inl ⟨by kernel_rfl, ?y2⟩) (by assumption) ?_; rotate_left; (· (intro w hSw; skip; go_simp; try with_reducible rfl)); simp only [Act.put, List.setIfInBounds_toArray, List.set_cons_zero, List.set_cons_succ, List.getElem_toArray, List.getElem_cons_succ, List.getElem_cons_zero])
    (refine wpAnyH_take (i := 3) (oi := _) (v := ?v3) rfl (by kernel_rfl) (by kernel_rfl) (by kernel_rfl) (fun _ _ _ h => h) (Or.inl ⟨by kernel_rfl, ?y3⟩) (by assumption) ?_; rotate_left; (· (intro w hSw; skip; go_simp; try with_reducible rfl)); simp only [Act.put, List.setIfInBounds_toArray, List.set_cons_zero, List.set_cons_succ, List.getElem_toArray, List.getElem_cons_succ, List.getElem_cons_zero])
    (refine wpAnyH_take (i := 4) (oi := _) (v := ?v4) rfl (by kernel_rfl) (by kernel_rfl) (by kernel_rfl) (fun _ _ _ h => h) (Or.inl ⟨by kernel_rfl, ?y4⟩) (by assumption) ?_; rotate_left; (· (intro w hSw; skip; go_simp; try with_reducible rfl)); simp only [Act.put, List.setIfInBounds_toArray, List.set_cons_zero, List.set_cons_succ, List.getElem_toArray, List.getElem_cons_succ, List.getElem_cons_zero])
    (refine wpAnyH_take (i := 5) (oi := _) (v := ?v5) rfl (by kernel_rfl) (by kernel_rfl) (by kernel_rfl) (fun _ _ _ h => h) (Or.inl ⟨by kernel_rfl, ?y5⟩) (by assumption) ?_; rotate_left; (· (intro w hSw; skip; go_simp; try with_reducible rfl)); simp only [Act.put, List.setIfInBounds_toArray, List.set_cons_zero, List.set_cons_succ, List.getElem_toArray, List.getElem_cons_succ, List.getElem_cons_zero])
    (refine wpAnyH_take (i := 7) (oi := _) (v := ?v7) rfl (by kernel_rfl) (by kernel_rfl) (by kernel_rfl) (fun _ _ _ h => h) (Or.inl ⟨by kernel_rfl, ?y7⟩) (by assumption) ?_; rotate_left; (· (intro w hSw; skip; go_simp; try with_reducible rfl)); simp only [Act.put, List.setIfInBounds_toArray, List.set_cons_zero, List.set_cons_succ, List.getElem_toArray, List.getElem_cons_succ, List.getElem_cons_zero])
    (refine wpAnyH_ready (rs := [6]) (by kernel_rfl) (by simp) ?_; refine AllReadyH.cons (o := _) rfl (fun K hK => ?_) AllReadyH.nil; rw [if_pos (by kernel_rfl)])
    go_simp
    (refine hK.out _ _ ?_ (fun hHeld => ?_))
    · exact cellA c8
    clear hK
    (refine wpAnyH_ready (rs := [8]) (by kernel_rfl) (by simp) ?_; refine AllReadyH.cons (o := _) rfl (fun K hK => ?_) AllReadyH.nil; rw [if_pos (by kernel_rfl)])
    refine wp_optcopy _ _ (by rfl) W.heap.size (by rfl) W.heap.size (own_zero W) O k cap os (by rfl) (QV.out.keep ((Below.refl _ _).alloc (Nat.le_refl _) _).drew) hk hcap (by simp) ?_
    intro R rc w2 hown hgrow
    have hgz := hgrow.size
    simp at hgz
    have hb2 : Blk w2 g 55 ((rtC s L A n ca B m cb).setIfInBounds 8 (.int .i64 I)) := ((HB.out.alloc (.cells #[] 65)).drew).grown hgrow (by intro e; have := Option.some.inj e; omega)
    have hs2 : Blk w2 w.heap.size 34 #[.int .i64 0, .int .i64 0, .int .i64 0, .slice none 0 0] := ((HSB.out.alloc (.cells #[] 65)).drew).grown hgrow (by intro e; have := Option.some.inj e; omega)
    have c8 : w2.cell? ⟨g, 8, none⟩ = some (.int .i64 I) := hb2.cell 8
    (refine hK.out _ _ ?_ (fun hHeld => ?_))
    · exact c8
    clear hK
    (refine wpAnyH_take (i := 9) (oi := _) (v := ?v9) rfl (by kernel_rfl) (by kernel_rfl) (by kernel_rfl) (fun _ _ _ h => h) (Or.inl ⟨by kernel_rfl, ?y9⟩) (by assumption) ?_; rotate_left; (· (intro w hSw; skip; go_simp; try with_reducible rfl)); simp only [Act.put, List.setIfInBounds_toArray, List.set_cons_zero, List.set_cons_succ, List.getElem_toArray, List.getElem_cons_succ, List.getElem_cons_zero])
    (refine wpAnyH_take (i := 10) (oi := _) (v := ?v10) rfl (by kernel_rfl) (by kernel_rfl) (by kernel_rfl) (fun _ _ _ h => h) (Or.inl ⟨by kernel_rfl, ?y10⟩) (by assumption) ?_; rotate_left; (· (intro w hSw; skip; go_simp; try with_reducible rfl)); simp only [Act.put, List.setIfInBounds_toArray, List.set_cons_zero, List.set_cons_succ, List.getElem_toArray, List.getElem_cons_succ, List.getElem_cons_zero])
    (refine wpAnyH_take (i := 11) (oi := _) (v := ?v11) rfl (by kernel_rfl) (by kernel_rfl) (by kernel_rfl) (fun _ _ _ h => h) (Or.inl ⟨by kernel_rfl, ?y11⟩) (by assumption) ?_; rotate_left; (· (intro w hSw; skip; go_simp; try with_reducible rfl)); simp only [Act.put, List.setIfInBounds_toArray, List.set_cons_zero, List.set_cons_succ, List.getElem_toArray, List.getElem_cons_succ, List.getElem_cons_zero])
    have d0 : w2.cell? ⟨g, 0, none⟩ = some (.bool (decide (0 < s.left))) := hb2.cell 0
    have d6 : w2.cell? ⟨g, 6, none⟩ = some (.int .i64 s.tries) := hb2.cell 6
    have d7 : w2.cell? ⟨g, 7, none⟩ = some (.int .i64 L) := hb2.cell 7
    have d9 : w2.cell? ⟨g, 9, none⟩ = some (.int .i64 s.ac) := hb2.cell 9
    have d10 : w2.cell? ⟨g, 10, none⟩ = some (.int .i64 s.ai) := hb2.cell 10
    have d11 : w2.cell? ⟨g, 11, none⟩ = some (.int .i64 s.aa) := hb2.cell 11
    have d12 : w2.cell? ⟨g, 12, none⟩ = some (.slice A n ca) := hb2.cell 12
    have df := hb2.frozen
    have r0 : w2.cell? ⟨w.heap.size, 0, none⟩ = some (.int .i64 0) := hs2.cell 0
    have r1 : w2.cell? ⟨w.heap.size, 1, none⟩ = some (.int .i64 0) := hs2.cell 1
    have r2 : w2.cell? ⟨w.heap.size, 2, none⟩ = some (.int .i64 0) := hs2.cell 2
    have r3 : w2.cell? ⟨w.heap.size, 3, none⟩ = some (.slice none 0 0) := hs2.cell 3
    have rf := hs2.frozen
    have HB2 := Lib.hid hb2; have HOWN := Lib.hid hown; have HGROW := Lib.hid hgrow
    clear hb2 hs2 hown hgrow
    have hne : g ≠ w.heap.size := by omega
    have hgl2 : g < w2.heap.size := by omega
    have hsl2 : w.heap.size < w2.heap.size := by omega
    (refine wpAnyH_ready (rs := [12]) (by kernel_rfl) (by simp) ?_; refine AllReadyH.cons (o := _) rfl (fun K hK => ?_) AllReadyH.nil; rw [if_pos (by kernel_rfl)])
    go_simp
    (refine hK.out _ _ ?_ (fun hHeld => ?_))
    · exact cellS (.inr (by decide)) (cellS (.inr (by decide)) (cellS (.inr (by decide)) (cellS (.inr (by decide)) c8)))
    clear hK
    (refine wpAnyH_done (by kernel_rfl) ?_ _)
    go_wp2_with fail
    refine bodyPost_ret (v := .tuple #[.agg #[.int .i64 c, .int .i64 I, .int .i64 0, .slice R k rc], .int .i64 0]) (by simp [results, Try.results16, go_sem, r0, r1, r2, r3]) rfl ?_
    rw [HR.out.1, HR.out.2, HE.out]
    exact rask_end hX hXl hlt ht hk HVR.out.1.1 HGR.out hsl Q2.out HB2.out HOWN.out HGROW.out
  · go_enter Try.func16, Try.ntmps16
    go_wp2_with fail
    refine (rbap_any c 0 0 O k cap os _ HV.out (by omega) HO.out).mono ?_
    rintro e w1 ⟨P, rfl, hb1⟩
    rw [hQ]
    obtain ⟨hcc, hff⟩ := bcell hb1
    have hz1 := hb1.size
    simp at hz1
    have z1 : w.heap.size < w1.heap.size := by omega
    have bel : Below w.heap.size w w1 := ((Below.refl _ _).alloc (Nat.le_refl _) _).trans (hb1.mono (by simp))
    have hrb : Blk w1 w.heap.size 34 #[.int .i64 0, .int .i64 0, .int .i64 0, .slice none 0 0] := Blk.keep (Blk.new w _ _) hb1
    have r0 : w1.cell? ⟨w.heap.size, 0, none⟩ = some (.int .i64 0) := hrb.cell 0
    have r1 : w1.cell? ⟨w.heap.size, 1, none⟩ = some (.int .i64 0) := hrb.cell 1
    have r2 : w1.cell? ⟨w.heap.size, 2, none⟩ = some (.int .i64 0) := hrb.cell 2
    have r3 : w1.cell? ⟨w.heap.size, 3, none⟩ = some (.slice none 0 0) := hrb.cell 3
    have f0' := hrb.frozen
    have hgb : Blk w1 g 55 (rtC s L A n ca B m cb) := HH.out.below bel hlt
    have c0' : w1.cell? ⟨g, 0, none⟩ = some (.bool false) := (bel.cell hlt).trans c0
    have c8' : w1.cell? ⟨g, 8, none⟩ = some (.int .i64 s.id) := hgb.cell 8
    have hgf := hgb.frozen
    have hgl : g < w1.heap.size := by omega
    have HGB := Lib.hid hgb; have HRB := Lib.hid hrb
    clear hcc hff hb1 hgb hrb
    go_wp2_with (first | (go_at_call 35; refine (rreq_any _ _).mono ?_; rintro e w' ⟨rfl, rfl⟩))
    have hgr1 : w.grownBy (w1.setCell ⟨g, 8, none⟩ (.int .i64 I)) (some g) := gr_set (gr_of g bel) (.inl rfl) _
    have hb8 := Blk.set_ HGB.out 8 (.int .i64 I)
    have hq1 := H1.out.own hgr1 (.inl hX)
    have hq2 := H2.out.own hgr1 (.inl hX)
    have hqv := (HVR.out.own hgr1 hX).1
    have hsb : Blk (w1.setCell ⟨g, 8, none⟩ (.int .i64 I)) w.heap.size 34 #[.int .i64 0, .int .i64 0, .int .i64 0, .slice none 0 0] := HRB.out.far (by show w.heap.size ≠ g; omega) _
    generalize w1.setCell ⟨g, 8, none⟩ (.int .i64 I) = W at hgr1 hb8 hq1 hq2 hqv hsb ⊢
    clear r0 r1 r2 r3 f0' c0' c8' hgf hgl HGB HRB bel hz1 z1
    have c8 : W.cell? ⟨g, 8, none⟩ = some (.int .i64 I) := hb8.cell 8
    have hgl := hb8.lt
    have hsl := hsb.lt
    have HSB := Lib.hid hsb; have HGR := Lib.hid hgr1; have HB := Lib.hid hb8; have Q1 := Lib.hid hq1; have Q2 := Lib.hid hq2; have QV := Lib.hid hqv
    clear hgr1 hb8 hq1 hq2 hqv hsb
    refine wp_region_held_drew (S := fun V => V.cell? ⟨g, 8, none⟩ = some (.int .i64 I)) (by kernel_rfl) c8 (fun hHeld => ?_)
    (refine wpAnyH_take (i := 0) (oi := _) (v := ?vB0) rfl (by kernel_rfl) (by kernel_rfl) (by kernel_rfl) (fun _ _ _ h => h) (Or.inl ⟨by kernel_rfl, ?yB0⟩) (by assumption) ?_; rotate_left; (· (intro w hSw; skip; go_simp; try with_reducible rfl)); simp only [Act.put, List.setIfInBounds_toArray, List.set_cons_zero, List.set_cons_succ, List.getElem_toArray, List.getElem_cons_succ, List.getElem_cons_zero])
    (refine wpAnyH_take (i := 1) (oi := _) (v := ?vB1) rfl (by kernel_rfl) (by kernel_rfl) (by kernel_rfl) (fun _ _ _ h => h) (Or.inl ⟨by kernel_rfl, ?yB1⟩) (by assumption) ?_; rotate_left; (· (intro w hSw; skip; go_simp; try with_reducible rfl)); simp only [Act.put, List.setIfInBounds_toArray, List.set_cons_zero, List.set_cons_succ, List.getElem_toArray, List.getElem_cons_succ, List.getElem_cons_zero])
    (refine wpAnyH_take (i := 2) (oi := _) (v := ?vB2) rfl (by kernel_rfl) (by kernel_rfl) (by kernel_rfl) (fun _ _ _ h => h) (Or.inl ⟨by kernel_rfl, ?yB2⟩) (by assumption) ?_; rotate_left; (· (intro w hSw; skip; go_simp; try with_reducible rfl)); simp only [Act.put, List.setIfInBounds_toArray, List.set_cons_zero, List.set_cons_succ, List.getElem_toArray, List.getElem_cons_succ, List.getElem_cons_zero])
    (refine wpAnyH_take (i := 3) (oi := _) (v := ?vB3) rfl (by kernel_rfl) (by kernel_rfl) (by kernel_rfl) (fun _ _ _ h => h) (Or.inl ⟨by kernel_rfl, ?yB3⟩) (by assumption) ?_; rotate_left; (· (intro w hSw; skip; go_simp; try with_reducible rfl)); simp only [Act.put, List.setIfInBounds_toArray, List.set_cons_zero, List.set_cons_succ, List.getElem_toArray, List.getElem_cons_succ, List.getElem_cons_zero])
    (refine wpAnyH_take (i := 4) (oi := _) (v := ?vB4) rfl (by kernel_rfl) (by kernel_rfl) (by kernel_rfl) (fun _ _ _ h => h) (Or.inl ⟨by kernel_rfl, ?yB4⟩) (by assumption) ?_; rotate_left; (· (intro w hSw; skip; go_simp; try with_reducible rfl)); simp only [Act.put, List.setIfInBounds_toArray, List.set_cons_zero, List.set_cons_succ, List.getElem_toArray, List.getElem_cons_succ, List.getElem_cons_zero])
    (refine wpAnyH_take (i := 5) (oi := _) (v := ?vB5) rfl (by kernel_rfl) (by kernel_rfl) (by kernel_rfl) (fun _ _ _ h => h) (Or.inl ⟨by kernel_rfl, ?yB5⟩) (by assumption) ?_; rotate_left; (· (intro w hSw; skip; go_simp; try with_reducible rfl)); simp only [Act.put, List.setIfInBounds_toArray, List.set_cons_zero, List.set_cons_succ, List.getElem_toArray, List.getElem_cons_succ, List.getElem_cons_zero])
    (refine wpAnyH_take (i := 7) (oi := _) (v := ?vB7) rfl (by kernel_rfl) (by kernel_rfl) (by kernel_rfl) (fun _ _ _ h => h) (Or.inl ⟨by kernel_rfl, ?yB7⟩) (by assumption) ?_; rotate_left; (· (intro w hSw; skip; go_simp; try with_reducible rfl)); simp only [Act.put, List.setIfInBounds_toArray, List.set_cons_zero, List.set_cons_succ, List.getElem_toArray, List.getElem_cons_succ, List.getElem_cons_zero])
    (refine wpAnyH_ready (rs := [6]) (by kernel_rfl) (by simp) ?_; refine AllReadyH.cons (o := _) rfl (fun K hK => ?_) AllReadyH.nil; rw [if_pos (by kernel_rfl)])
    go_simp
    (refine hK.out _ _ ?_ (fun hHeld => ?_))
    · exact cellA c8
    clear hK
    (refine wpAnyH_ready (rs := [8]) (by kernel_rfl) (by simp) ?_; refine AllReadyH.cons (o := _) rfl (fun K hK => ?_) AllReadyH.nil; rw [if_pos (by kernel_rfl)])
    refine wp_optcopy _ _ (by rfl) W.heap.size (by rfl) W.heap.size (own_zero W) O k cap os (by rfl) (QV.out.keep ((Below.refl _ _).alloc (Nat.le_refl _) _).drew) hk hcap (by simp) ?_
    intro R rc w2 hown hgrow
    have hgz := hgrow.size
    simp at hgz
    have hb2 : Blk w2 g 55 ((rtC s L A n ca B m cb).setIfInBounds 8 (.int .i64 I)) := ((HB.out.alloc (.cells #[] 65)).drew).grown hgrow (by intro e; have := Option.some.inj e; omega)
    have hs2 : Blk w2 w.heap.size 34 #[.int .i64 0, .int .i64 0, .int .i64 0, .slice none 0 0] := ((HSB.out.alloc (.cells #[] 65)).drew).grown hgrow (by intro e; have := Option.some.inj e; omega)
    have c8 : w2.cell? ⟨g, 8, none⟩ = some (.int .i64 I) := hb2.cell 8
    (refine hK.out _ _ ?_ (fun hHeld => ?_))
    · exact c8
    clear hK
    (refine wpAnyH_take (i := 9) (oi := _) (v := ?vB9) rfl (by kernel_rfl) (by kernel_rfl) (by kernel_rfl) (fun _ _ _ h => h) (Or.inl ⟨by kernel_rfl, ?yB9⟩) (by assumption) ?_; rotate_left; (· (intro w hSw; skip; go_simp; try with_reducible rfl)); simp only [Act.put, List.setIfInBounds_toArray, List.set_cons_zero, List.set_cons_succ, List.getElem_toArray, List.getElem_cons_succ, List.getElem_cons_zero])
    (refine wpAnyH_take (i := 10) (oi := _) (v := ?vB10) rfl (by kernel_rfl) (by kernel_rfl) (by kernel_rfl) (fun _ _ _ h => h) (Or.inl ⟨by kernel_rfl, ?yB10⟩) (by assumption) ?_; rotate_left; (· (intro w hSw; skip; go_simp; try with_reducible rfl)); simp only [Act.put, List.setIfInBounds_toArray, List.set_cons_zero, List.set_cons_succ, List.getElem_toArray, List.getElem_cons_succ, List.getElem_cons_zero])
    (refine wpAnyH_take (i := 11) (oi := _) (v := ?vB11) rfl (by kernel_rfl) (by kernel_rfl) (by kernel_rfl) (fun _ _ _ h => h) (Or.inl ⟨by kernel_rfl, ?yB11⟩) (by assumption) ?_; rotate_left; (· (intro w hSw; skip; go_simp; try with_reducible rfl)); simp only [Act.put, List.setIfInBounds_toArray, List.set_cons_zero, List.set_cons_succ, List.getElem_toArray, List.getElem_cons_succ, List.getElem_cons_zero])
    have d0 : w2.cell? ⟨g, 0, none⟩ = some (.bool (decide (0 < s.left))) := hb2.cell 0
    have d6 : w2.cell? ⟨g, 6, none⟩ = some (.int .i64 s.tries) := hb2.cell 6
    have d7 : w2.cell? ⟨g, 7, none⟩ = some (.int .i64 L) := hb2.cell 7
    have d9 : w2.cell? ⟨g, 9, none⟩ = some (.int .i64 s.ac) := hb2.cell 9
    have d10 : w2.cell? ⟨g, 10, none⟩ = some (.int .i64 s.ai) := hb2.cell 10
    have d11 : w2.cell? ⟨g, 11, none⟩ = some (.int .i64 s.aa) := hb2.cell 11
    have d12 : w2.cell? ⟨g, 12, none⟩ = some (.slice A n ca) := hb2.cell 12
    have df := hb2.frozen
    have r0 : w2.cell? ⟨w.heap.size, 0, none⟩ = some (.int .i64 0) := hs2.cell 0
    have r1 : w2.cell? ⟨w.heap.size, 1, none⟩ = some (.int .i64 0) := hs2.cell 1
    have r2 : w2.cell? ⟨w.heap.size, 2, none⟩ = some (.int .i64 0) := hs2.cell 2
    have r3 : w2.cell? ⟨w.heap.size, 3, none⟩ = some (.slice none 0 0) := hs2.cell 3
    have rf := hs2.frozen
    have HB2 := Lib.hid hb2; have HOWN := Lib.hid hown; have HGROW := Lib.hid hgrow
    clear hb2 hs2 hown hgrow
    have hne : g ≠ w.heap.size := by omega
    have hgl2 : g < w2.heap.size := by omega
    have hsl2 : w.heap.size < w2.heap.size := by omega
    (refine wpAnyH_ready (rs := [12]) (by kernel_rfl) (by simp) ?_; refine AllReadyH.cons (o := _) rfl (fun K hK => ?_) AllReadyH.nil; rw [if_pos (by kernel_rfl)])
    go_simp
    (refine hK.out _ _ ?_ (fun hHeld => ?_))
    · exact cellS (.inr (by decide)) (cellS (.inr (by decide)) (cellS (.inr (by decide)) (cellS (.inr (by decide)) c8)))
    clear hK
    (refine wpAnyH_done (by kernel_rfl) ?_ _)
    go_wp2_with fail
    refine bodyPost_ret (v := .tuple #[.agg #[.int .i64 c, .int .i64 I, .int .i64 0, .slice R k rc], .int .i64 0]) (by simp [results, Try.results16, go_sem, r0, r1, r2, r3]) rfl ?_
    rw [HR.out.1, HR.out.2, HE.out]
    exact rask_end hX hXl hlt ht hk HVR.out.1.1 HGR.out hsl Q2.out HB2.out HOWN.out HGROW.out
theorem rask_any (X : Nat → Prop) (g : Nat) (s : TS) (c : Int) (O : Option Addr) (k cap : Nat) (os : List (Int × ByteArray)) (w : World) (hp : RAt w X g s) (hX : X g) (hXl : ∀ b, X b → b < w.heap.size) (hi : 0 ≤ s.id ∧ s.id ≤ 255) (ht : 1 ≤ s.tries) (hv : RLies w X O k os) (hk : k * 24 ≤ 140737488351232) (hcap : O = none → k = 0 ∧ cap = 0) (ho : ∀ o ∈ os, o.2.size ≤ 140737488351232) :
    Calls Try.prog 16 #[.pointer (some ⟨g, 0, none⟩), .int .i64 c, .slice O k cap] w (RBapR (tAskR s c os).1 (tAskR s c os).2.1 (tAskR s c os).2.2.1 (tAskR s c os).2.2.2 (tAskE s c os) X g (tAsk s c os) w) := by
  by_cases h : tAskE s c os = 0
  · exact rask_fine X g s c O k cap os w hp hX hXl hi ht hv hk hcap ho h
  · exact rask_bad X g s c O k cap os w hp hi hv.1 hk ho h
end Go.Proofs.Ytckbbfdllflmjaa
