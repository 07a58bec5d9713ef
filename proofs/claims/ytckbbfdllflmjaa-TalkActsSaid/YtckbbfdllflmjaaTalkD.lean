/- The contract of package bap's Ask. No condition but memory's own limits. -/
import Derived.Test.YtckbbfdllflmjaaTalkB
import Derived.Test.YtckbbfdllflmjaaQReg
import Derived.Test.YtckbbfdllflmjaaStill
import Derived.Deep.RegionHeld3
namespace Go.Proofs.Ytckbbfdllflmjaa
open Go.RowKit
set_option linter.unusedVariables false
set_option linter.unusedSimpArgs false
attribute [local go_sem] conv1 conv1d conv1n conv1a conv1ad conv1an conv2 conv2d conv2n conv2a conv2ad conv2an conv4 conv4d conv4n conv4a conv4ad conv4an conv5 conv5d conv5n conv5a conv5ad conv5an size_nums byt_fold
def nextI (s : TS) : Int := (s.id + 1) % 256
def askB (c : Int) : Bool := reqB c || (c == 7)
def tAskE (s : TS) (c : Int) (os : List (Int × ByteArray)) : Int := if askB c = true ∧ bE c (nextI s) 0 os = 0 then (if 0 < s.left then 2201 else 0) else 2200
def tAsk (s : TS) (c : Int) (os : List (Int × ByteArray)) : TS := if tAskE s c os = 0 then { s with ac := c, ai := nextI s, aa := 0, al := os, left := s.tries, id := nextI s } else s
def tAskR (s : TS) (c : Int) (os : List (Int × ByteArray)) : Int × Int × Int × List (Int × ByteArray) := if tAskE s c os = 0 then (c, nextI s, 0, os) else (0, 0, 0, [])
theorem Lies.far {w : World} {Y : Nat → Prop} {A : Option Addr} {n cap : Nat} {l : List (Int × ByteArray)} (h : Lies w Y A n cap l) {p : Addr} (hp : Y p.block) (u : Value) : Lies (w.setCell p u) Y A n cap l :=
  h.grown (gr_set (gr_refl w p.block) (.inl rfl) u) hp
theorem Lies.alloc {w : World} {Y : Nat → Prop} {A : Option Addr} {n cap : Nat} {l : List (Int × ByteArray)} (h : Lies w Y A n cap l) (o : Obj) : Lies (w.alloc o) Y A n cap l := h.keep ((Below.refl _ _).alloc (Nat.le_refl _) _)
theorem Lies.drew {w : World} {Y : Nat → Prop} {A : Option Addr} {n cap : Nat} {l : List (Int × ByteArray)} (h : Lies w Y A n cap l) : Lies w.drew Y A n cap l := h
theorem Lies.drewN {w : World} {Y : Nat → Prop} {A : Option Addr} {n cap : Nat} {l : List (Int × ByteArray)} (h : Lies w Y A n cap l) (k : Nat) : Lies (w.drewN k) Y A n cap l := h
/-- The options that were asked: a slice that the call made lies apart from X and from a newer one. -/
theorem MadeO.apart {w wc w3 w' : World} {X : Nat → Prop} {R R2 : Option Addr} {n cap n2 c2 : Nat} {l l2 : List (Int × ByteArray)} (hm : MadeO wc w' R n cap l) (hX : ∀ b, X b → b < w.heap.size) (hc : w.heap.size ≤ wc.heap.size) (h3 : ∀ a, R = some a → a.block < w3.heap.size) (hm2 : MadeO w3 w' R2 n2 c2 l2) : Lies w' (OwnX X R2) R n cap l :=
  ⟨hm.optsAt, hm.2.2, hm.cap0, fun a ha => ⟨(hm.new a ha).2, fun hx => by
    rcases hx with hx | ⟨r, hr, e⟩
    · have := hX _ hx; have := (hm.new a ha).1; omega
    · have := h3 a ha; have := (hm2.new r hr).1; omega⟩⟩
theorem Lies.own {w w' : World} {X : Nat → Prop} {A R : Option Addr} {n cap rn rc : Nat} {l rl : List (Int × ByteArray)} (h : Lies w' (UpX X w.heap.size) A n cap l) (hm : MadeO w w' R rn rc rl) : Lies w' (OwnX X R) A n cap l := h.mono fun b _ hx => by
  rcases hx with hx | ⟨r, hr, e⟩
  · exact .inl hx
  · have := (hm.new r hr).1; right; omega
theorem tsCask (s : TS) (A : Option Addr) (n ca : Nat) (B : Option Addr) (m cb : Nat) (c I T : Int) (R : Option Addr) (k rc : Nat) (os : List (Int × ByteArray)) : ((((((tsC s A n ca B m cb).setIfInBounds 7 (.int .i64 I)).setIfInBounds 0 (.int .i64 c)).setIfInBounds 1 (.int .i64 I)).setIfInBounds 2 (.int .i64 0)).setIfInBounds 3 (.slice R k rc)).setIfInBounds 4 (.int .i64 T) = tsC { s with ac := c, ai := I, aa := 0, al := os, left := T, id := I } R k rc B m cb := rfl
theorem box_of {w u : World} {o : Obj} (hb : Below ((w.alloc o).alloc (.cells #[.int .i64 0, .int .i64 0, .int .i64 0, .slice none 0 0] 34)).drew.heap.size ((w.alloc o).alloc (.cells #[.int .i64 0, .int .i64 0, .int .i64 0, .slice none 0 0] 34)).drew u) :
    u.cell? ⟨w.heap.size + 1, 0, none⟩ = some (.int .i64 0) ∧ u.cell? ⟨w.heap.size + 1, 1, none⟩ = some (.int .i64 0) ∧ u.cell? ⟨w.heap.size + 1, 2, none⟩ = some (.int .i64 0) ∧ u.cell? ⟨w.heap.size + 1, 3, none⟩ = some (.slice none 0 0) := by
  have e : (w.alloc o).heap.size = w.heap.size + 1 := by simp
  have hb2 : Blk u (w.heap.size + 1) 34 #[.int .i64 0, .int .i64 0, .int .i64 0, .slice none 0 0] := by
    rw [← e]
    exact Blk.keep (Blk.drew (Blk.new (w.alloc o) _ _)) hb
  exact ⟨hb2.cell 0, hb2.cell 1, hb2.cell 2, hb2.cell 3⟩
theorem keepS {w W : World} {g o : Nat} {v : Value} (hlt : g < w.heap.size) (hc : w.cell? ⟨g, o, none⟩ = some v) (hB : Below w.heap.size w W) : Below w.heap.size w W ∧ W.cell? ⟨g, o, none⟩ = some v := ⟨hB, (hB.cell hlt).trans hc⟩
set_option maxRecDepth 100000 in
set_option maxHeartbeats 4000000 in
theorem task_any (X : Nat → Prop) (g : Nat) (s : TS) (c : Int) (O : Option Addr) (k cap : Nat) (os : List (Int × ByteArray)) (w : World) (hp : TAt w X g s) (hX : X g) (hXl : ∀ b, X b → b < w.heap.size) (hi : 0 ≤ s.id ∧ s.id ≤ 255) (hv : OptsAt w O k os) (hk : k * 24 ≤ 140737488351232) (hcap : O = none → k = 0 ∧ cap = 0) :
    Calls Try.prog 15 #[.pointer (some ⟨g, 0, none⟩), .int .i64 c, .slice O k cap] w (BapR (tAskR s c os).1 (tAskR s c os).2.1 (tAskR s c os).2.2.1 (tAskR s c os).2.2.2 (tAskE s c os) X g (tAsk s c os) w) := by
  have hY : UpX X w.heap.size g := .inl hX
  obtain ⟨A, n, ca, B, m, cb, h, h1, h2⟩ := hp.up
  have c4 : w.cell? ⟨g, 4, none⟩ = some (.int .i64 s.left) := h.cell 4
  have c6 : w.cell? ⟨g, 6, none⟩ = some (.int .i64 s.tries) := h.cell 6
  have c7 : w.cell? ⟨g, 7, none⟩ = some (.int .i64 s.id) := h.cell 7
  have hlt := h.lt
  have hfr := h.frozen
  have HH := Lib.hid h; have H1 := Lib.hid h1; have H2 := Lib.hid h2; have HV := Lib.hid hv; have HC := Lib.hid hcap
  clear h h1 h2 hv hcap
  obtain ⟨I, hI⟩ : ∃ I, nextI s = I := ⟨_, rfl⟩
  have hw : IntKind.i64.wrap (s.id + 1) = s.id + 1 := IntWalk.i64_in _ (by omega)
  have hm : (s.id + 1).tmod 256 = I := by rw [Int.tmod_eq_emod_of_nonneg (by omega)]; exact hI
  go_enter Try.func15, Try.ntmps15
  go_wp2_with fail
  go_region_held3 (fun W => Below w.heap.size w W ∧ W.cell? ⟨g, 7, none⟩ = some (.int .i64 s.id))
    (first | (refine keepS hlt c7 ?_; repeat' (first | (with_reducible exact Below.refl _ _) | (with_reducible apply Below.drew) | (with_reducible refine Below.setCell ?_ ?_ _) | (with_reducible refine Below.alloc ?_ ?_ _) | (with_reducible refine below_step ?_ hbu ?_) | omega | (simp; done) | (simp; omega))))
    (first | (go_at_call 30; refine (sclone_any O k cap os _ (HV.out.keep (by repeat' (first | (with_reducible exact Below.refl _ _) | (with_reducible apply Below.drew) | (with_reducible refine Below.alloc ?_ ?_ _) | omega | (simp; done) | (simp; omega)))) hk HC.out).mono ?_; rintro e u ⟨R, rc, rfl, hmade, hbu⟩; obtain ⟨hcu, hfu⟩ := bcell hbu; have hzu := hbu.size; simp at hzu; (first | (have hq := box_of hbu; obtain ⟨b0, b1, b2, b3⟩ := hq) | skip)))
  · rename_i hHeld
    have hbw := hHeld.1
    clear hHeld
    have hu0 : Below w.heap.size w u := below_step (((Below.refl _ w).alloc (Nat.le_refl _) _).drew) hbu (by simp)
    have hz0 : w.heap.size + 1 ≤ u.heap.size := by omega
    have hr : Blk u w.heap.size 34 #[.int .i64 0, .int .i64 0, .int .i64 0, .slice none 0 0] := Blk.keep (Blk.drew (Blk.new w _ _)) hbu
    have hbx : Blk (u.alloc (.cells #[.int .i64 c, .int .i64 I, .int .i64 0, .slice R k rc] 34)) u.heap.size 34 #[.int .i64 c, .int .i64 I, .int .i64 0, .slice R k rc] := Blk.new u _ _
    have hrw := hr.alloc (.cells #[.int .i64 c, .int .i64 I, .int .i64 0, .slice R k rc] 34)
    have hmw := hmade.alloc (.cells #[.int .i64 c, .int .i64 I, .int .i64 0, .slice R k rc] 34)
    have hWc : w.heap.size + 1 ≤ (w.alloc (.cells #[.int .i64 0, .int .i64 0, .int .i64 0, .slice none 0 0] 34)).drew.heap.size := by simp
    have hWl : u.heap.size < (u.alloc (.cells #[.int .i64 c, .int .i64 I, .int .i64 0, .slice R k rc] 34)).heap.size := by simp
    have hl1 : Lies (u.alloc (.cells #[.int .i64 c, .int .i64 I, .int .i64 0, .slice R k rc] 34)) (UpX X w.heap.size) A n ca s.al := (H1.out.keep (hu0.mono (Nat.le_refl _))).alloc _
    have hl2 : Lies (u.alloc (.cells #[.int .i64 c, .int .i64 I, .int .i64 0, .slice R k rc] 34)) (UpX X w.heap.size) B m cb s.ll := (H2.out.keep (hu0.mono (Nat.le_refl _))).alloc _
    generalize (w.alloc (.cells #[.int .i64 0, .int .i64 0, .int .i64 0, .slice none 0 0] 34)).drew = Wc at hmw hWc
    generalize hWe : (u.alloc (.cells #[.int .i64 c, .int .i64 I, .int .i64 0, .slice R k rc] 34)) = W at hbw hbx hrw hmw hWl hl1 hl2 ⊢
    clear hWe hmade hbu hcu hfu hr hu0
    generalize hke : u.heap.size = kb at hbx hWl hz0 ⊢
    clear hke hzu
    have hgw : Blk W g 73 (tsC s A n ca B m cb) := Blk.below HH.out hbw hlt
    have b0 : W.cell? ⟨kb, 0, none⟩ = some (.int .i64 c) := hbx.cell 0
    have b1 : W.cell? ⟨kb, 1, none⟩ = some (.int .i64 I) := hbx.cell 1
    have b2 : W.cell? ⟨kb, 2, none⟩ = some (.int .i64 0) := hbx.cell 2
    have b3 : W.cell? ⟨kb, 3, none⟩ = some (.slice R k rc) := hbx.cell 3
    have HGW := Lib.hid hgw; have HBX := Lib.hid hbx; have HRW := Lib.hid hrw; have HMW := Lib.hid hmw; have HL1 := Lib.hid hl1; have HL2 := Lib.hid hl2
    clear hgw hbx hrw hmw hl1 hl2
    go_wp2_with fail
    refine (bapput_any c I 0 R k rc os _ HMW.out.optsAt (by omega)).mono ?_
    rintro e w2 ⟨rfl, hb2⟩
    clear b0 b1 b2 b3 c4 c6 c7 hfr
    obtain ⟨P, hP⟩ : ∃ P, bS c I 0 os = P := ⟨_, rfl⟩
    obtain ⟨Q, hQ⟩ : ∃ Q, bE c I 0 os = Q := ⟨_, rfl⟩
    rw [hP, hQ]
    have hz2 := hb2.size
    have hbel2 : Below w.heap.size w w2 := below_step hbw hb2 hbw.size
    have hg2 := HGW.out.keep hb2
    have hbx2 := HBX.out.keep hb2
    have hr2 := HRW.out.keep hb2
    have hgr2 := gr_of g hbel2
    have hq1 := HL1.out.keep hb2
    have hq2 := HL2.out.keep hb2
    have hm2 := HMW.out.keep hb2
    have hsz2 : w.heap.size + 1 < w2.heap.size := by omega
    have hkl2 : kb < w2.heap.size := by omega
    have hgl2 : g < w2.heap.size := by omega
    have hsz3 : w.heap.size < w2.heap.size := by omega
    have r0 : w2.cell? ⟨w.heap.size, 0, none⟩ = some (.int .i64 0) := hr2.cell 0
    have r1 : w2.cell? ⟨w.heap.size, 1, none⟩ = some (.int .i64 0) := hr2.cell 1
    have r2 : w2.cell? ⟨w.heap.size, 2, none⟩ = some (.int .i64 0) := hr2.cell 2
    have r3 : w2.cell? ⟨w.heap.size, 3, none⟩ = some (.slice none 0 0) := hr2.cell 3
    have fr := hr2.frozen
    have c4 : w2.cell? ⟨g, 4, none⟩ = some (.int .i64 s.left) := hg2.cell 4
    have HG2 := Lib.hid hg2; have HBX2 := Lib.hid hbx2; have HR2 := Lib.hid hr2; have HM2 := Lib.hid hm2; have HQ1 := Lib.hid hq1; have HQ2 := Lib.hid hq2; have HGR2 := Lib.hid hgr2
    clear hg2 hbx2 hr2 hm2 hq1 hq2 hgr2
    have HT2 := Lib.hid (show TAt w2 (UpX X w.heap.size) g s from ⟨A, n, ca, B, m, cb, HG2.out, HQ1.out, HQ2.out⟩)
    by_cases hask : askB c = true ∧ Q = 0
    case neg =>
      have hE : tAskE s c os = 2200 := by unfold tAskE; rw [if_neg (by rw [hI, hQ]; exact hask)]
      have HX := Lib.hid (show tAskR s c os = (0, 0, 0, []) ∧ tAskE s c os = 2200 ∧ tAsk s c os = s from ⟨by unfold tAskR; rw [if_neg (by rw [hE]; decide)], hE, by unfold tAsk; rw [if_neg (by rw [hE]; decide)]⟩)
      have hc3 : (reqB c = false ∧ (c != 7) = true) ∨ (reqB c = false ∧ (c != 7) = false ∧ (Q != 0) = true) ∨ (reqB c = true ∧ (Q != 0) = true) := by
        unfold askB at hask
        cases hr : reqB c
        · by_cases h7 : c = 7
          · right; left; refine ⟨rfl, by simp [h7], ?_⟩
            simp [hr, h7] at hask; simp [hask]
          · left; exact ⟨rfl, by simp [h7]⟩
        · right; right; refine ⟨rfl, ?_⟩
          simp [hr] at hask; simp [hask]
      clear hask hE
      rcases hc3 with ⟨hr, h7⟩ | ⟨hr, h7, hq⟩ | ⟨hr, hq⟩
      all_goals
        go_wp2_with (first | (go_at_call 32; refine (req_any _ _).mono ?_; rintro e w' ⟨rfl, rfl⟩))
        refine bodyPost_ret (v := .tuple #[.agg #[.int .i64 0, .int .i64 0, .int .i64 0, .slice none 0 0], .int .i64 2200]) (by simp [results, Try.results15, go_sem, r0, r1, r2, r3]) rfl ?_
        rw [HX.out.1, HX.out.2.1, HX.out.2.2]
        have ht : TAt ((((w2.setCell ⟨w.heap.size, 0, none⟩ (.int .i64 0)).setCell ⟨w.heap.size, 1, none⟩ (.int .i64 0)).setCell ⟨w.heap.size, 2, none⟩ (.int .i64 0)).setCell ⟨w.heap.size, 3, none⟩ (.slice none 0 0)) (UpX X w.heap.size) g s := (by repeat' (first | (with_reducible exact HT2.out) | (with_reducible refine TAt.far ?_ (upX_new (by first | exact Nat.le_refl _ | omega | (simp; done) | (simp; omega))) (by first | omega | (simp; done) | (simp; omega)) _) | (with_reducible refine TAt.alloc ?_ _) | (with_reducible refine TAt.drew ?_) | (with_reducible refine TAt.drewN ?_ _)))
        exact ⟨none, 0, 0, rfl, MadeO.nil _ _, ht.mono (fun b _ hb => .inl (OwnX.none hb)), (by repeat' (first | (with_reducible exact HGR2.out) | (with_reducible exact gr_refl _ _) | (with_reducible refine gr_set ?_ (by first | (left; rfl) | (right; simp; done) | (right; simp; omega) | (left; omega)) _) | (with_reducible refine gr_alloc ?_ _) | (with_reducible refine gr_drew ?_) | (with_reducible refine gr_drewN ?_ _)))⟩
    obtain ⟨ha1, rfl⟩ := hask
    have hc3 : reqB c = true ∨ (reqB c = false ∧ (c != 7) = false) := by
      unfold askB at ha1
      cases hr : reqB c
      · right; refine ⟨rfl, ?_⟩
        simp [hr] at ha1; simp [ha1]
      · left; rfl
    by_cases hl : 0 < s.left
    · have hE : tAskE s c os = 2201 := by unfold tAskE; rw [if_pos ⟨ha1, by rw [hI, hQ]⟩, if_pos hl]
      have HX := Lib.hid (show tAskR s c os = (0, 0, 0, []) ∧ tAskE s c os = 2201 ∧ tAsk s c os = s from ⟨by unfold tAskR; rw [if_neg (by rw [hE]; decide)], hE, by unfold tAsk; rw [if_neg (by rw [hE]; decide)]⟩)
      clear hE
      rcases hc3 with hr | ⟨hr, h7⟩
      all_goals
        go_wp2_with (first | (go_at_call 32; refine (req_any _ _).mono ?_; rintro e w' ⟨rfl, rfl⟩))
        refine bodyPost_ret (v := .tuple #[.agg #[.int .i64 0, .int .i64 0, .int .i64 0, .slice none 0 0], .int .i64 2201]) (by simp [results, Try.results15, go_sem, r0, r1, r2, r3]) rfl ?_
        rw [HX.out.1, HX.out.2.1, HX.out.2.2]
        have ht : TAt ((((w2.setCell ⟨w.heap.size, 0, none⟩ (.int .i64 0)).setCell ⟨w.heap.size, 1, none⟩ (.int .i64 0)).setCell ⟨w.heap.size, 2, none⟩ (.int .i64 0)).setCell ⟨w.heap.size, 3, none⟩ (.slice none 0 0)) (UpX X w.heap.size) g s := (by repeat' (first | (with_reducible exact HT2.out) | (with_reducible refine TAt.far ?_ (upX_new (by first | exact Nat.le_refl _ | omega | (simp; done) | (simp; omega))) (by first | omega | (simp; done) | (simp; omega)) _) | (with_reducible refine TAt.alloc ?_ _) | (with_reducible refine TAt.drew ?_) | (with_reducible refine TAt.drewN ?_ _)))
        exact ⟨none, 0, 0, rfl, MadeO.nil _ _, ht.mono (fun b _ hb => .inl (OwnX.none hb)), (by repeat' (first | (with_reducible exact HGR2.out) | (with_reducible exact gr_refl _ _) | (with_reducible refine gr_set ?_ (by first | (left; rfl) | (right; simp; done) | (right; simp; omega) | (left; omega)) _) | (with_reducible refine gr_alloc ?_ _) | (with_reducible refine gr_drew ?_) | (with_reducible refine gr_drewN ?_ _)))⟩
    have hE : tAskE s c os = 0 := by unfold tAskE; rw [if_pos ⟨ha1, by rw [hI, hQ]⟩, if_neg hl]
    have HX := Lib.hid (show tAskR s c os = (c, I, 0, os) ∧ tAskE s c os = 0 ∧ tAsk s c os = { s with ac := c, ai := I, aa := 0, al := os, left := s.tries, id := I } from ⟨by unfold tAskR; rw [if_pos hE, hI], hE, by unfold tAsk; rw [if_pos hE, hI]⟩)
    clear hE
    have c6 : w2.cell? ⟨g, 6, none⟩ = some (.int .i64 s.tries) := HG2.out.cell 6
    have c7 : w2.cell? ⟨g, 7, none⟩ = some (.int .i64 s.id) := HG2.out.cell 7
    have c0 : w2.cell? ⟨g, 0, none⟩ = some (.int .i64 s.ac) := HG2.out.cell 0
    have c1 : w2.cell? ⟨g, 1, none⟩ = some (.int .i64 s.ai) := HG2.out.cell 1
    have c2 : w2.cell? ⟨g, 2, none⟩ = some (.int .i64 s.aa) := HG2.out.cell 2
    have c3 : w2.cell? ⟨g, 3, none⟩ = some (.slice A n ca) := HG2.out.cell 3
    have b0 : w2.cell? ⟨kb, 0, none⟩ = some (.int .i64 c) := HBX2.out.cell 0
    have b1 : w2.cell? ⟨kb, 1, none⟩ = some (.int .i64 I) := HBX2.out.cell 1
    have b2 : w2.cell? ⟨kb, 2, none⟩ = some (.int .i64 0) := HBX2.out.cell 2
    have b3 : w2.cell? ⟨kb, 3, none⟩ = some (.slice R k rc) := HBX2.out.cell 3
    have fg := HG2.out.frozen
    have hgk : g ≠ kb := by omega
    have hgr : g ≠ w.heap.size := by omega
    rcases hc3 with hr | ⟨hr, h7⟩
    all_goals
      go_wp2_with (first | (go_at_call 32; refine (req_any _ _).mono ?_; rintro e w' ⟨rfl, rfl⟩))
      (refine region_tail 9 (by kernel_rfl) (by kernel_rfl) ?_; simp only [List.take_succ_cons, List.take_zero, List.drop_succ_cons, List.drop_zero]; (repeat (first | (refine wpStill_step (fun K hK => ?_); go_simp; refine hK _ ?_; clear hK K) | (refine wpStill_step (fun K hK => ?_); go_simp; refine ⟨_, rfl, hK _ ?_⟩; clear hK K))); refine wpStill_nil ?_)
      go_wp2_with fail
      have hgc : g < Wc.heap.size := by omega
      have hg5 : Blk (((((((w2.setCell ⟨g, 7, none⟩ (.int .i64 I)).setCell ⟨g, 0, none⟩ (.int .i64 c)).setCell ⟨g, 1, none⟩ (.int .i64 I)).setCell ⟨g, 2, none⟩ (.int .i64 0)).setCell ⟨g, 3, none⟩ (.slice R k rc)).setCell ⟨g, 4, none⟩ (.int .i64 s.tries)).drew) g 73 (tsC { s with ac := c, ai := I, aa := 0, al := os, left := s.tries, id := I } R k rc B m cb) := by
        have h := Blk.set_ (Blk.set_ (Blk.set_ (Blk.set_ (Blk.set_ (Blk.set_ HG2.out 7 (.int .i64 I)) 0 (.int .i64 c)) 1 (.int .i64 I)) 2 (.int .i64 0)) 3 (.slice R k rc)) 4 (.int .i64 s.tries)
        rw [tsCask s A n ca B m cb c I s.tries R k rc os] at h
        exact h.drew
      have hr5 : Blk (((((((w2.setCell ⟨g, 7, none⟩ (.int .i64 I)).setCell ⟨g, 0, none⟩ (.int .i64 c)).setCell ⟨g, 1, none⟩ (.int .i64 I)).setCell ⟨g, 2, none⟩ (.int .i64 0)).setCell ⟨g, 3, none⟩ (.slice R k rc)).setCell ⟨g, 4, none⟩ (.int .i64 s.tries)).drew) w.heap.size 34 #[.int .i64 0, .int .i64 0, .int .i64 0, .slice none 0 0] := (by repeat' (first | (with_reducible exact HR2.out) | (with_reducible refine Blk.far ?_ (by first | omega | (simp; done) | (simp; omega)) _) | (with_reducible refine Blk.alloc ?_ _) | (with_reducible refine Blk.drew ?_) | (with_reducible refine Blk.drewN ?_ _)))
      have hm5 : MadeO Wc (((((((w2.setCell ⟨g, 7, none⟩ (.int .i64 I)).setCell ⟨g, 0, none⟩ (.int .i64 c)).setCell ⟨g, 1, none⟩ (.int .i64 I)).setCell ⟨g, 2, none⟩ (.int .i64 0)).setCell ⟨g, 3, none⟩ (.slice R k rc)).setCell ⟨g, 4, none⟩ (.int .i64 s.tries)).drew) R k rc os := (by repeat' (first | (with_reducible exact HM2.out) | (with_reducible refine MadeO.far ?_ (by first | omega | (simp; done) | (simp; omega)) _) | (with_reducible refine MadeO.alloc ?_ _) | (with_reducible refine MadeO.drew ?_) | (with_reducible refine MadeO.drewN ?_ _)))
      have hl5 : Lies (((((((w2.setCell ⟨g, 7, none⟩ (.int .i64 I)).setCell ⟨g, 0, none⟩ (.int .i64 c)).setCell ⟨g, 1, none⟩ (.int .i64 I)).setCell ⟨g, 2, none⟩ (.int .i64 0)).setCell ⟨g, 3, none⟩ (.slice R k rc)).setCell ⟨g, 4, none⟩ (.int .i64 s.tries)).drew) (UpX X w.heap.size) B m cb s.ll := (by repeat' (first | (with_reducible exact HQ2.out) | (with_reducible refine Lies.far ?_ (by first | exact hY | exact upX_new (Nat.le_refl _) | exact upX_new (by first | omega | (simp; done) | (simp; omega))) _) | (with_reducible refine Lies.alloc ?_ _) | (with_reducible refine Lies.drew ?_) | (with_reducible refine Lies.drewN ?_ _)))
      have hgr5 : w.grownBy (((((((w2.setCell ⟨g, 7, none⟩ (.int .i64 I)).setCell ⟨g, 0, none⟩ (.int .i64 c)).setCell ⟨g, 1, none⟩ (.int .i64 I)).setCell ⟨g, 2, none⟩ (.int .i64 0)).setCell ⟨g, 3, none⟩ (.slice R k rc)).setCell ⟨g, 4, none⟩ (.int .i64 s.tries)).drew) (some g) := (by repeat' (first | (with_reducible exact HGR2.out) | (with_reducible exact gr_refl _ _) | (with_reducible refine gr_set ?_ (by first | (left; rfl) | (right; simp; done) | (right; simp; omega) | (left; omega)) _) | (with_reducible refine gr_alloc ?_ _) | (with_reducible refine gr_drew ?_) | (with_reducible refine gr_drewN ?_ _)))
      have hz5 : (((((((w2.setCell ⟨g, 7, none⟩ (.int .i64 I)).setCell ⟨g, 0, none⟩ (.int .i64 c)).setCell ⟨g, 1, none⟩ (.int .i64 I)).setCell ⟨g, 2, none⟩ (.int .i64 0)).setCell ⟨g, 3, none⟩ (.slice R k rc)).setCell ⟨g, 4, none⟩ (.int .i64 s.tries)).drew).heap.size = w2.heap.size := by simp
      generalize (((((((w2.setCell ⟨g, 7, none⟩ (.int .i64 I)).setCell ⟨g, 0, none⟩ (.int .i64 c)).setCell ⟨g, 1, none⟩ (.int .i64 I)).setCell ⟨g, 2, none⟩ (.int .i64 0)).setCell ⟨g, 3, none⟩ (.slice R k rc)).setCell ⟨g, 4, none⟩ (.int .i64 s.tries)).drew) = w5 at hg5 hr5 hm5 hl5 hgr5 hz5 ⊢
      refine (clone_any c I 0 R k rc os w5 hm5.optsAt (by omega) hm5.cap0).mono ?_
      rintro e w6 ⟨R2, rc2, rfl, hm6, hb6⟩
      have hz6 := hb6.size
      have hr6 := hr5.keep hb6
      have hg6 := hg5.keep hb6
      have hR6 := hm5.keep hb6
      have hl6 := hl5.keep hb6
      have hgr6 := gr_below hgr5 hb6
      have r0 : w6.cell? ⟨w.heap.size, 0, none⟩ = some (.int .i64 0) := hr6.cell 0
      have r1 : w6.cell? ⟨w.heap.size, 1, none⟩ = some (.int .i64 0) := hr6.cell 1
      have r2 : w6.cell? ⟨w.heap.size, 2, none⟩ = some (.int .i64 0) := hr6.cell 2
      have r3 : w6.cell? ⟨w.heap.size, 3, none⟩ = some (.slice none 0 0) := hr6.cell 3
      have fr6 := hr6.frozen
      have hs6 : w.heap.size < w6.heap.size := by omega
      have hs5 : w.heap.size < w5.heap.size := by omega
      have h3 : ∀ a, R = some a → a.block < w5.heap.size := fun a ha => (hm5.new a ha).2
      have HG6 := Lib.hid hg6; have HR6 := Lib.hid hR6; have HL6 := Lib.hid hl6; have HGR6 := Lib.hid hgr6; have HM6 := Lib.hid hm6; have H3 := Lib.hid h3
      clear hg6 hR6 hl6 hgr6 hm6 h3 hr6 hg5 hr5 hm5 hl5 hgr5
      go_wp2_with fail
      refine bodyPost_ret (v := .tuple #[.agg #[.int .i64 c, .int .i64 I, .int .i64 0, .slice R2 k rc2], .int .i64 0]) (by simp [results, Try.results15, go_sem, r0, r1, r2, r3]) rfl ?_
      rw [HX.out.1, HX.out.2.1, HX.out.2.2]
      have hmo : MadeO w5 ((((w6.setCell ⟨w.heap.size, 0, none⟩ (.int .i64 c)).setCell ⟨w.heap.size, 1, none⟩ (.int .i64 I)).setCell ⟨w.heap.size, 2, none⟩ (.int .i64 0)).setCell ⟨w.heap.size, 3, none⟩ (.slice R2 k rc2)) R2 k rc2 os := (by repeat' (first | (with_reducible exact HM6.out) | (with_reducible refine MadeO.far ?_ (by first | omega | (simp; done) | (simp; omega)) _) | (with_reducible refine MadeO.alloc ?_ _) | (with_reducible refine MadeO.drew ?_) | (with_reducible refine MadeO.drewN ?_ _)))
      have hmo2 : MadeO w ((((w6.setCell ⟨w.heap.size, 0, none⟩ (.int .i64 c)).setCell ⟨w.heap.size, 1, none⟩ (.int .i64 I)).setCell ⟨w.heap.size, 2, none⟩ (.int .i64 0)).setCell ⟨w.heap.size, 3, none⟩ (.slice R2 k rc2)) R2 k rc2 os := hmo.mono (by omega)
      have hR7 : MadeO Wc ((((w6.setCell ⟨w.heap.size, 0, none⟩ (.int .i64 c)).setCell ⟨w.heap.size, 1, none⟩ (.int .i64 I)).setCell ⟨w.heap.size, 2, none⟩ (.int .i64 0)).setCell ⟨w.heap.size, 3, none⟩ (.slice R2 k rc2)) R k rc os := (by repeat' (first | (with_reducible exact HR6.out) | (with_reducible refine MadeO.far ?_ (by first | omega | (simp; done) | (simp; omega)) _) | (with_reducible refine MadeO.alloc ?_ _) | (with_reducible refine MadeO.drew ?_) | (with_reducible refine MadeO.drewN ?_ _)))
      have hl7 : Lies ((((w6.setCell ⟨w.heap.size, 0, none⟩ (.int .i64 c)).setCell ⟨w.heap.size, 1, none⟩ (.int .i64 I)).setCell ⟨w.heap.size, 2, none⟩ (.int .i64 0)).setCell ⟨w.heap.size, 3, none⟩ (.slice R2 k rc2)) (UpX X w.heap.size) B m cb s.ll := (by repeat' (first | (with_reducible exact HL6.out) | (with_reducible refine Lies.far ?_ (by first | exact hY | exact upX_new (Nat.le_refl _) | exact upX_new (by first | omega | (simp; done) | (simp; omega))) _) | (with_reducible refine Lies.alloc ?_ _) | (with_reducible refine Lies.drew ?_) | (with_reducible refine Lies.drewN ?_ _)))
      exact ⟨R2, k, rc2, rfl, hmo2, ⟨R, k, rc, B, m, cb, (by repeat' (first | (with_reducible exact HG6.out) | (with_reducible refine Blk.far ?_ (by first | omega | (simp; done) | (simp; omega)) _) | (with_reducible refine Blk.alloc ?_ _) | (with_reducible refine Blk.drew ?_) | (with_reducible refine Blk.drewN ?_ _))), hR7.apart hXl (by omega) H3.out hmo, hl7.own hmo2⟩, (by repeat' (first | (with_reducible exact HGR6.out) | (with_reducible exact gr_refl _ _) | (with_reducible refine gr_set ?_ (by first | (left; rfl) | (right; simp; done) | (right; simp; omega) | (left; omega)) _) | (with_reducible refine gr_alloc ?_ _) | (with_reducible refine gr_drew ?_) | (with_reducible refine gr_drewN ?_ _)))⟩
  · rename_i hHeld
    have hbw := hHeld.1
    clear hHeld b0 b1 b2 b3
    have e1 : (w.alloc (.cells #[.int .i64 0, .int .i64 0, .int .i64 0, .slice none 0 0] 34)).heap.size = w.heap.size + 1 := by simp
    have hu0 : Below w.heap.size w u := below_step ((((Below.refl _ w).alloc (Nat.le_refl _) _).alloc (by simp) _).drew) hbu (by simp; omega)
    have hr : Blk u w.heap.size 34 #[.int .i64 0, .int .i64 0, .int .i64 0, .slice none 0 0] := Blk.keep (Blk.drew (Blk.alloc (Blk.new w _ _) _)) hbu
    have hbu2 : Blk u (w.heap.size + 1) 34 #[.int .i64 0, .int .i64 0, .int .i64 0, .slice none 0 0] := by
      rw [← e1]; exact Blk.keep (Blk.drew (Blk.new _ _ _)) hbu
    have hbx : Blk ((((u.setCell ⟨w.heap.size + 1, 0, none⟩ (.int .i64 c)).setCell ⟨w.heap.size + 1, 1, none⟩ (.int .i64 I)).setCell ⟨w.heap.size + 1, 2, none⟩ (.int .i64 0)).setCell ⟨w.heap.size + 1, 3, none⟩ (.slice R k rc)) (w.heap.size + 1) 34 #[.int .i64 c, .int .i64 I, .int .i64 0, .slice R k rc] := Blk.set_ (Blk.set_ (Blk.set_ (Blk.set_ hbu2 0 (.int .i64 c)) 1 (.int .i64 I)) 2 (.int .i64 0)) 3 (.slice R k rc)
    have hrw : Blk ((((u.setCell ⟨w.heap.size + 1, 0, none⟩ (.int .i64 c)).setCell ⟨w.heap.size + 1, 1, none⟩ (.int .i64 I)).setCell ⟨w.heap.size + 1, 2, none⟩ (.int .i64 0)).setCell ⟨w.heap.size + 1, 3, none⟩ (.slice R k rc)) w.heap.size 34 #[.int .i64 0, .int .i64 0, .int .i64 0, .slice none 0 0] := (by repeat' (first | (with_reducible exact hr) | (with_reducible refine Blk.far ?_ (by first | omega | (simp; done) | (simp; omega)) _) | (with_reducible refine Blk.alloc ?_ _) | (with_reducible refine Blk.drew ?_) | (with_reducible refine Blk.drewN ?_ _)))
    have hWc : w.heap.size + 2 ≤ ((w.alloc (.cells #[.int .i64 0, .int .i64 0, .int .i64 0, .slice none 0 0] 34)).alloc (.cells #[.int .i64 0, .int .i64 0, .int .i64 0, .slice none 0 0] 34)).drew.heap.size := by simp
    have hmw : MadeO ((w.alloc (.cells #[.int .i64 0, .int .i64 0, .int .i64 0, .slice none 0 0] 34)).alloc (.cells #[.int .i64 0, .int .i64 0, .int .i64 0, .slice none 0 0] 34)).drew ((((u.setCell ⟨w.heap.size + 1, 0, none⟩ (.int .i64 c)).setCell ⟨w.heap.size + 1, 1, none⟩ (.int .i64 I)).setCell ⟨w.heap.size + 1, 2, none⟩ (.int .i64 0)).setCell ⟨w.heap.size + 1, 3, none⟩ (.slice R k rc)) R k rc os := (by repeat' (first | (with_reducible exact hmade) | (with_reducible refine MadeO.far ?_ (by first | omega | (simp; done) | (simp; omega)) _) | (with_reducible refine MadeO.alloc ?_ _) | (with_reducible refine MadeO.drew ?_) | (with_reducible refine MadeO.drewN ?_ _)))
    have hWc : w.heap.size + 1 ≤ ((w.alloc (.cells #[.int .i64 0, .int .i64 0, .int .i64 0, .slice none 0 0] 34)).alloc (.cells #[.int .i64 0, .int .i64 0, .int .i64 0, .slice none 0 0] 34)).drew.heap.size := by omega
    have hWl : w.heap.size + 1 < ((((u.setCell ⟨w.heap.size + 1, 0, none⟩ (.int .i64 c)).setCell ⟨w.heap.size + 1, 1, none⟩ (.int .i64 I)).setCell ⟨w.heap.size + 1, 2, none⟩ (.int .i64 0)).setCell ⟨w.heap.size + 1, 3, none⟩ (.slice R k rc)).heap.size := by simp; omega
    have hY1 : UpX X w.heap.size (w.heap.size + 1) := upX_new (by omega)
    have hk1 := H1.out.keep (hu0.mono (Nat.le_refl _))
    have hk2 := H2.out.keep (hu0.mono (Nat.le_refl _))
    have hl1 : Lies ((((u.setCell ⟨w.heap.size + 1, 0, none⟩ (.int .i64 c)).setCell ⟨w.heap.size + 1, 1, none⟩ (.int .i64 I)).setCell ⟨w.heap.size + 1, 2, none⟩ (.int .i64 0)).setCell ⟨w.heap.size + 1, 3, none⟩ (.slice R k rc)) (UpX X w.heap.size) A n ca s.al := (((hk1.far hY1 _).far hY1 _).far hY1 _).far hY1 _
    have hl2 : Lies ((((u.setCell ⟨w.heap.size + 1, 0, none⟩ (.int .i64 c)).setCell ⟨w.heap.size + 1, 1, none⟩ (.int .i64 I)).setCell ⟨w.heap.size + 1, 2, none⟩ (.int .i64 0)).setCell ⟨w.heap.size + 1, 3, none⟩ (.slice R k rc)) (UpX X w.heap.size) B m cb s.ll := (((hk2.far hY1 _).far hY1 _).far hY1 _).far hY1 _
    generalize ((w.alloc (.cells #[.int .i64 0, .int .i64 0, .int .i64 0, .slice none 0 0] 34)).alloc (.cells #[.int .i64 0, .int .i64 0, .int .i64 0, .slice none 0 0] 34)).drew = Wc at hmw hWc
    generalize hWe : ((((u.setCell ⟨w.heap.size + 1, 0, none⟩ (.int .i64 c)).setCell ⟨w.heap.size + 1, 1, none⟩ (.int .i64 I)).setCell ⟨w.heap.size + 1, 2, none⟩ (.int .i64 0)).setCell ⟨w.heap.size + 1, 3, none⟩ (.slice R k rc)) = W at hbw hbx hrw hmw hWl hl1 hl2 ⊢
    have hz0 : w.heap.size + 1 ≤ w.heap.size + 1 := Nat.le_refl _
    generalize hke : w.heap.size + 1 = kb at hbx hWl ⊢
    rw [hke] at hz0
    have hz0 : w.heap.size + 1 ≤ kb := by omega
    clear hWe hmade hbu hcu hfu hr hu0 hbu2 e1 hY1 hk1 hk2 hke hzu
    have hgw : Blk W g 73 (tsC s A n ca B m cb) := Blk.below HH.out hbw hlt
    have b0 : W.cell? ⟨kb, 0, none⟩ = some (.int .i64 c) := hbx.cell 0
    have b1 : W.cell? ⟨kb, 1, none⟩ = some (.int .i64 I) := hbx.cell 1
    have b2 : W.cell? ⟨kb, 2, none⟩ = some (.int .i64 0) := hbx.cell 2
    have b3 : W.cell? ⟨kb, 3, none⟩ = some (.slice R k rc) := hbx.cell 3
    have HGW := Lib.hid hgw; have HBX := Lib.hid hbx; have HRW := Lib.hid hrw; have HMW := Lib.hid hmw; have HL1 := Lib.hid hl1; have HL2 := Lib.hid hl2
    clear hgw hbx hrw hmw hl1 hl2
    go_wp2_with fail
    refine (bapput_any c I 0 R k rc os _ HMW.out.optsAt (by omega)).mono ?_
    rintro e w2 ⟨rfl, hb2⟩
    clear b0 b1 b2 b3 c4 c6 c7 hfr
    obtain ⟨P, hP⟩ : ∃ P, bS c I 0 os = P := ⟨_, rfl⟩
    obtain ⟨Q, hQ⟩ : ∃ Q, bE c I 0 os = Q := ⟨_, rfl⟩
    rw [hP, hQ]
    have hz2 := hb2.size
    have hbel2 : Below w.heap.size w w2 := below_step hbw hb2 hbw.size
    have hg2 := HGW.out.keep hb2
    have hbx2 := HBX.out.keep hb2
    have hr2 := HRW.out.keep hb2
    have hgr2 := gr_of g hbel2
    have hq1 := HL1.out.keep hb2
    have hq2 := HL2.out.keep hb2
    have hm2 := HMW.out.keep hb2
    have hsz2 : w.heap.size + 1 < w2.heap.size := by omega
    have hkl2 : kb < w2.heap.size := by omega
    have hgl2 : g < w2.heap.size := by omega
    have hsz3 : w.heap.size < w2.heap.size := by omega
    have r0 : w2.cell? ⟨w.heap.size, 0, none⟩ = some (.int .i64 0) := hr2.cell 0
    have r1 : w2.cell? ⟨w.heap.size, 1, none⟩ = some (.int .i64 0) := hr2.cell 1
    have r2 : w2.cell? ⟨w.heap.size, 2, none⟩ = some (.int .i64 0) := hr2.cell 2
    have r3 : w2.cell? ⟨w.heap.size, 3, none⟩ = some (.slice none 0 0) := hr2.cell 3
    have fr := hr2.frozen
    have c4 : w2.cell? ⟨g, 4, none⟩ = some (.int .i64 s.left) := hg2.cell 4
    have HG2 := Lib.hid hg2; have HBX2 := Lib.hid hbx2; have HR2 := Lib.hid hr2; have HM2 := Lib.hid hm2; have HQ1 := Lib.hid hq1; have HQ2 := Lib.hid hq2; have HGR2 := Lib.hid hgr2
    clear hg2 hbx2 hr2 hm2 hq1 hq2 hgr2
    have HT2 := Lib.hid (show TAt w2 (UpX X w.heap.size) g s from ⟨A, n, ca, B, m, cb, HG2.out, HQ1.out, HQ2.out⟩)
    by_cases hask : askB c = true ∧ Q = 0
    case neg =>
      have hE : tAskE s c os = 2200 := by unfold tAskE; rw [if_neg (by rw [hI, hQ]; exact hask)]
      have HX := Lib.hid (show tAskR s c os = (0, 0, 0, []) ∧ tAskE s c os = 2200 ∧ tAsk s c os = s from ⟨by unfold tAskR; rw [if_neg (by rw [hE]; decide)], hE, by unfold tAsk; rw [if_neg (by rw [hE]; decide)]⟩)
      have hc3 : (reqB c = false ∧ (c != 7) = true) ∨ (reqB c = false ∧ (c != 7) = false ∧ (Q != 0) = true) ∨ (reqB c = true ∧ (Q != 0) = true) := by
        unfold askB at hask
        cases hr : reqB c
        · by_cases h7 : c = 7
          · right; left; refine ⟨rfl, by simp [h7], ?_⟩
            simp [hr, h7] at hask; simp [hask]
          · left; exact ⟨rfl, by simp [h7]⟩
        · right; right; refine ⟨rfl, ?_⟩
          simp [hr] at hask; simp [hask]
      clear hask hE
      rcases hc3 with ⟨hr, h7⟩ | ⟨hr, h7, hq⟩ | ⟨hr, hq⟩
      all_goals
        go_wp2_with (first | (go_at_call 32; refine (req_any _ _).mono ?_; rintro e w' ⟨rfl, rfl⟩))
        refine bodyPost_ret (v := .tuple #[.agg #[.int .i64 0, .int .i64 0, .int .i64 0, .slice none 0 0], .int .i64 2200]) (by simp [results, Try.results15, go_sem, r0, r1, r2, r3]) rfl ?_
        rw [HX.out.1, HX.out.2.1, HX.out.2.2]
        have ht : TAt ((((w2.setCell ⟨w.heap.size, 0, none⟩ (.int .i64 0)).setCell ⟨w.heap.size, 1, none⟩ (.int .i64 0)).setCell ⟨w.heap.size, 2, none⟩ (.int .i64 0)).setCell ⟨w.heap.size, 3, none⟩ (.slice none 0 0)) (UpX X w.heap.size) g s := (by repeat' (first | (with_reducible exact HT2.out) | (with_reducible refine TAt.far ?_ (upX_new (by first | exact Nat.le_refl _ | omega | (simp; done) | (simp; omega))) (by first | omega | (simp; done) | (simp; omega)) _) | (with_reducible refine TAt.alloc ?_ _) | (with_reducible refine TAt.drew ?_) | (with_reducible refine TAt.drewN ?_ _)))
        exact ⟨none, 0, 0, rfl, MadeO.nil _ _, ht.mono (fun b _ hb => .inl (OwnX.none hb)), (by repeat' (first | (with_reducible exact HGR2.out) | (with_reducible exact gr_refl _ _) | (with_reducible refine gr_set ?_ (by first | (left; rfl) | (right; simp; done) | (right; simp; omega) | (left; omega)) _) | (with_reducible refine gr_alloc ?_ _) | (with_reducible refine gr_drew ?_) | (with_reducible refine gr_drewN ?_ _)))⟩
    obtain ⟨ha1, rfl⟩ := hask
    have hc3 : reqB c = true ∨ (reqB c = false ∧ (c != 7) = false) := by
      unfold askB at ha1
      cases hr : reqB c
      · right; refine ⟨rfl, ?_⟩
        simp [hr] at ha1; simp [ha1]
      · left; rfl
    by_cases hl : 0 < s.left
    · have hE : tAskE s c os = 2201 := by unfold tAskE; rw [if_pos ⟨ha1, by rw [hI, hQ]⟩, if_pos hl]
      have HX := Lib.hid (show tAskR s c os = (0, 0, 0, []) ∧ tAskE s c os = 2201 ∧ tAsk s c os = s from ⟨by unfold tAskR; rw [if_neg (by rw [hE]; decide)], hE, by unfold tAsk; rw [if_neg (by rw [hE]; decide)]⟩)
      clear hE
      rcases hc3 with hr | ⟨hr, h7⟩
      all_goals
        go_wp2_with (first | (go_at_call 32; refine (req_any _ _).mono ?_; rintro e w' ⟨rfl, rfl⟩))
        refine bodyPost_ret (v := .tuple #[.agg #[.int .i64 0, .int .i64 0, .int .i64 0, .slice none 0 0], .int .i64 2201]) (by simp [results, Try.results15, go_sem, r0, r1, r2, r3]) rfl ?_
        rw [HX.out.1, HX.out.2.1, HX.out.2.2]
        have ht : TAt ((((w2.setCell ⟨w.heap.size, 0, none⟩ (.int .i64 0)).setCell ⟨w.heap.size, 1, none⟩ (.int .i64 0)).setCell ⟨w.heap.size, 2, none⟩ (.int .i64 0)).setCell ⟨w.heap.size, 3, none⟩ (.slice none 0 0)) (UpX X w.heap.size) g s := (by repeat' (first | (with_reducible exact HT2.out) | (with_reducible refine TAt.far ?_ (upX_new (by first | exact Nat.le_refl _ | omega | (simp; done) | (simp; omega))) (by first | omega | (simp; done) | (simp; omega)) _) | (with_reducible refine TAt.alloc ?_ _) | (with_reducible refine TAt.drew ?_) | (with_reducible refine TAt.drewN ?_ _)))
        exact ⟨none, 0, 0, rfl, MadeO.nil _ _, ht.mono (fun b _ hb => .inl (OwnX.none hb)), (by repeat' (first | (with_reducible exact HGR2.out) | (with_reducible exact gr_refl _ _) | (with_reducible refine gr_set ?_ (by first | (left; rfl) | (right; simp; done) | (right; simp; omega) | (left; omega)) _) | (with_reducible refine gr_alloc ?_ _) | (with_reducible refine gr_drew ?_) | (with_reducible refine gr_drewN ?_ _)))⟩
    have hE : tAskE s c os = 0 := by unfold tAskE; rw [if_pos ⟨ha1, by rw [hI, hQ]⟩, if_neg hl]
    have HX := Lib.hid (show tAskR s c os = (c, I, 0, os) ∧ tAskE s c os = 0 ∧ tAsk s c os = { s with ac := c, ai := I, aa := 0, al := os, left := s.tries, id := I } from ⟨by unfold tAskR; rw [if_pos hE, hI], hE, by unfold tAsk; rw [if_pos hE, hI]⟩)
    clear hE
    have c6 : w2.cell? ⟨g, 6, none⟩ = some (.int .i64 s.tries) := HG2.out.cell 6
    have c7 : w2.cell? ⟨g, 7, none⟩ = some (.int .i64 s.id) := HG2.out.cell 7
    have c0 : w2.cell? ⟨g, 0, none⟩ = some (.int .i64 s.ac) := HG2.out.cell 0
    have c1 : w2.cell? ⟨g, 1, none⟩ = some (.int .i64 s.ai) := HG2.out.cell 1
    have c2 : w2.cell? ⟨g, 2, none⟩ = some (.int .i64 s.aa) := HG2.out.cell 2
    have c3 : w2.cell? ⟨g, 3, none⟩ = some (.slice A n ca) := HG2.out.cell 3
    have b0 : w2.cell? ⟨kb, 0, none⟩ = some (.int .i64 c) := HBX2.out.cell 0
    have b1 : w2.cell? ⟨kb, 1, none⟩ = some (.int .i64 I) := HBX2.out.cell 1
    have b2 : w2.cell? ⟨kb, 2, none⟩ = some (.int .i64 0) := HBX2.out.cell 2
    have b3 : w2.cell? ⟨kb, 3, none⟩ = some (.slice R k rc) := HBX2.out.cell 3
    have fg := HG2.out.frozen
    have hgk : g ≠ kb := by omega
    have hgr : g ≠ w.heap.size := by omega
    rcases hc3 with hr | ⟨hr, h7⟩
    all_goals
      go_wp2_with (first | (go_at_call 32; refine (req_any _ _).mono ?_; rintro e w' ⟨rfl, rfl⟩))
      (refine region_tail 9 (by kernel_rfl) (by kernel_rfl) ?_; simp only [List.take_succ_cons, List.take_zero, List.drop_succ_cons, List.drop_zero]; (repeat (first | (refine wpStill_step (fun K hK => ?_); go_simp; refine hK _ ?_; clear hK K) | (refine wpStill_step (fun K hK => ?_); go_simp; refine ⟨_, rfl, hK _ ?_⟩; clear hK K))); refine wpStill_nil ?_)
      go_wp2_with fail
      have hgc : g < Wc.heap.size := by omega
      have hg5 : Blk (((((((w2.setCell ⟨g, 7, none⟩ (.int .i64 I)).setCell ⟨g, 0, none⟩ (.int .i64 c)).setCell ⟨g, 1, none⟩ (.int .i64 I)).setCell ⟨g, 2, none⟩ (.int .i64 0)).setCell ⟨g, 3, none⟩ (.slice R k rc)).setCell ⟨g, 4, none⟩ (.int .i64 s.tries)).drew) g 73 (tsC { s with ac := c, ai := I, aa := 0, al := os, left := s.tries, id := I } R k rc B m cb) := by
        have h := Blk.set_ (Blk.set_ (Blk.set_ (Blk.set_ (Blk.set_ (Blk.set_ HG2.out 7 (.int .i64 I)) 0 (.int .i64 c)) 1 (.int .i64 I)) 2 (.int .i64 0)) 3 (.slice R k rc)) 4 (.int .i64 s.tries)
        rw [tsCask s A n ca B m cb c I s.tries R k rc os] at h
        exact h.drew
      have hr5 : Blk (((((((w2.setCell ⟨g, 7, none⟩ (.int .i64 I)).setCell ⟨g, 0, none⟩ (.int .i64 c)).setCell ⟨g, 1, none⟩ (.int .i64 I)).setCell ⟨g, 2, none⟩ (.int .i64 0)).setCell ⟨g, 3, none⟩ (.slice R k rc)).setCell ⟨g, 4, none⟩ (.int .i64 s.tries)).drew) w.heap.size 34 #[.int .i64 0, .int .i64 0, .int .i64 0, .slice none 0 0] := (by repeat' (first | (with_reducible exact HR2.out) | (with_reducible refine Blk.far ?_ (by first | omega | (simp; done) | (simp; omega)) _) | (with_reducible refine Blk.alloc ?_ _) | (with_reducible refine Blk.drew ?_) | (with_reducible refine Blk.drewN ?_ _)))
      have hm5 : MadeO Wc (((((((w2.setCell ⟨g, 7, none⟩ (.int .i64 I)).setCell ⟨g, 0, none⟩ (.int .i64 c)).setCell ⟨g, 1, none⟩ (.int .i64 I)).setCell ⟨g, 2, none⟩ (.int .i64 0)).setCell ⟨g, 3, none⟩ (.slice R k rc)).setCell ⟨g, 4, none⟩ (.int .i64 s.tries)).drew) R k rc os := (by repeat' (first | (with_reducible exact HM2.out) | (with_reducible refine MadeO.far ?_ (by first | omega | (simp; done) | (simp; omega)) _) | (with_reducible refine MadeO.alloc ?_ _) | (with_reducible refine MadeO.drew ?_) | (with_reducible refine MadeO.drewN ?_ _)))
      have hl5 : Lies (((((((w2.setCell ⟨g, 7, none⟩ (.int .i64 I)).setCell ⟨g, 0, none⟩ (.int .i64 c)).setCell ⟨g, 1, none⟩ (.int .i64 I)).setCell ⟨g, 2, none⟩ (.int .i64 0)).setCell ⟨g, 3, none⟩ (.slice R k rc)).setCell ⟨g, 4, none⟩ (.int .i64 s.tries)).drew) (UpX X w.heap.size) B m cb s.ll := (by repeat' (first | (with_reducible exact HQ2.out) | (with_reducible refine Lies.far ?_ (by first | exact hY | exact upX_new (Nat.le_refl _) | exact upX_new (by first | omega | (simp; done) | (simp; omega))) _) | (with_reducible refine Lies.alloc ?_ _) | (with_reducible refine Lies.drew ?_) | (with_reducible refine Lies.drewN ?_ _)))
      have hgr5 : w.grownBy (((((((w2.setCell ⟨g, 7, none⟩ (.int .i64 I)).setCell ⟨g, 0, none⟩ (.int .i64 c)).setCell ⟨g, 1, none⟩ (.int .i64 I)).setCell ⟨g, 2, none⟩ (.int .i64 0)).setCell ⟨g, 3, none⟩ (.slice R k rc)).setCell ⟨g, 4, none⟩ (.int .i64 s.tries)).drew) (some g) := (by repeat' (first | (with_reducible exact HGR2.out) | (with_reducible exact gr_refl _ _) | (with_reducible refine gr_set ?_ (by first | (left; rfl) | (right; simp; done) | (right; simp; omega) | (left; omega)) _) | (with_reducible refine gr_alloc ?_ _) | (with_reducible refine gr_drew ?_) | (with_reducible refine gr_drewN ?_ _)))
      have hz5 : (((((((w2.setCell ⟨g, 7, none⟩ (.int .i64 I)).setCell ⟨g, 0, none⟩ (.int .i64 c)).setCell ⟨g, 1, none⟩ (.int .i64 I)).setCell ⟨g, 2, none⟩ (.int .i64 0)).setCell ⟨g, 3, none⟩ (.slice R k rc)).setCell ⟨g, 4, none⟩ (.int .i64 s.tries)).drew).heap.size = w2.heap.size := by simp
      generalize (((((((w2.setCell ⟨g, 7, none⟩ (.int .i64 I)).setCell ⟨g, 0, none⟩ (.int .i64 c)).setCell ⟨g, 1, none⟩ (.int .i64 I)).setCell ⟨g, 2, none⟩ (.int .i64 0)).setCell ⟨g, 3, none⟩ (.slice R k rc)).setCell ⟨g, 4, none⟩ (.int .i64 s.tries)).drew) = w5 at hg5 hr5 hm5 hl5 hgr5 hz5 ⊢
      refine (clone_any c I 0 R k rc os w5 hm5.optsAt (by omega) hm5.cap0).mono ?_
      rintro e w6 ⟨R2, rc2, rfl, hm6, hb6⟩
      have hz6 := hb6.size
      have hr6 := hr5.keep hb6
      have hg6 := hg5.keep hb6
      have hR6 := hm5.keep hb6
      have hl6 := hl5.keep hb6
      have hgr6 := gr_below hgr5 hb6
      have r0 : w6.cell? ⟨w.heap.size, 0, none⟩ = some (.int .i64 0) := hr6.cell 0
      have r1 : w6.cell? ⟨w.heap.size, 1, none⟩ = some (.int .i64 0) := hr6.cell 1
      have r2 : w6.cell? ⟨w.heap.size, 2, none⟩ = some (.int .i64 0) := hr6.cell 2
      have r3 : w6.cell? ⟨w.heap.size, 3, none⟩ = some (.slice none 0 0) := hr6.cell 3
      have fr6 := hr6.frozen
      have hs6 : w.heap.size < w6.heap.size := by omega
      have hs5 : w.heap.size < w5.heap.size := by omega
      have h3 : ∀ a, R = some a → a.block < w5.heap.size := fun a ha => (hm5.new a ha).2
      have HG6 := Lib.hid hg6; have HR6 := Lib.hid hR6; have HL6 := Lib.hid hl6; have HGR6 := Lib.hid hgr6; have HM6 := Lib.hid hm6; have H3 := Lib.hid h3
      clear hg6 hR6 hl6 hgr6 hm6 h3 hr6 hg5 hr5 hm5 hl5 hgr5
      go_wp2_with fail
      refine bodyPost_ret (v := .tuple #[.agg #[.int .i64 c, .int .i64 I, .int .i64 0, .slice R2 k rc2], .int .i64 0]) (by simp [results, Try.results15, go_sem, r0, r1, r2, r3]) rfl ?_
      rw [HX.out.1, HX.out.2.1, HX.out.2.2]
      have hmo : MadeO w5 ((((w6.setCell ⟨w.heap.size, 0, none⟩ (.int .i64 c)).setCell ⟨w.heap.size, 1, none⟩ (.int .i64 I)).setCell ⟨w.heap.size, 2, none⟩ (.int .i64 0)).setCell ⟨w.heap.size, 3, none⟩ (.slice R2 k rc2)) R2 k rc2 os := (by repeat' (first | (with_reducible exact HM6.out) | (with_reducible refine MadeO.far ?_ (by first | omega | (simp; done) | (simp; omega)) _) | (with_reducible refine MadeO.alloc ?_ _) | (with_reducible refine MadeO.drew ?_) | (with_reducible refine MadeO.drewN ?_ _)))
      have hmo2 : MadeO w ((((w6.setCell ⟨w.heap.size, 0, none⟩ (.int .i64 c)).setCell ⟨w.heap.size, 1, none⟩ (.int .i64 I)).setCell ⟨w.heap.size, 2, none⟩ (.int .i64 0)).setCell ⟨w.heap.size, 3, none⟩ (.slice R2 k rc2)) R2 k rc2 os := hmo.mono (by omega)
      have hR7 : MadeO Wc ((((w6.setCell ⟨w.heap.size, 0, none⟩ (.int .i64 c)).setCell ⟨w.heap.size, 1, none⟩ (.int .i64 I)).setCell ⟨w.heap.size, 2, none⟩ (.int .i64 0)).setCell ⟨w.heap.size, 3, none⟩ (.slice R2 k rc2)) R k rc os := (by repeat' (first | (with_reducible exact HR6.out) | (with_reducible refine MadeO.far ?_ (by first | omega | (simp; done) | (simp; omega)) _) | (with_reducible refine MadeO.alloc ?_ _) | (with_reducible refine MadeO.drew ?_) | (with_reducible refine MadeO.drewN ?_ _)))
      have hl7 : Lies ((((w6.setCell ⟨w.heap.size, 0, none⟩ (.int .i64 c)).setCell ⟨w.heap.size, 1, none⟩ (.int .i64 I)).setCell ⟨w.heap.size, 2, none⟩ (.int .i64 0)).setCell ⟨w.heap.size, 3, none⟩ (.slice R2 k rc2)) (UpX X w.heap.size) B m cb s.ll := (by repeat' (first | (with_reducible exact HL6.out) | (with_reducible refine Lies.far ?_ (by first | exact hY | exact upX_new (Nat.le_refl _) | exact upX_new (by first | omega | (simp; done) | (simp; omega))) _) | (with_reducible refine Lies.alloc ?_ _) | (with_reducible refine Lies.drew ?_) | (with_reducible refine Lies.drewN ?_ _)))
      exact ⟨R2, k, rc2, rfl, hmo2, ⟨R, k, rc, B, m, cb, (by repeat' (first | (with_reducible exact HG6.out) | (with_reducible refine Blk.far ?_ (by first | omega | (simp; done) | (simp; omega)) _) | (with_reducible refine Blk.alloc ?_ _) | (with_reducible refine Blk.drew ?_) | (with_reducible refine Blk.drewN ?_ _))), hR7.apart hXl (by omega) H3.out hmo, hl7.own hmo2⟩, (by repeat' (first | (with_reducible exact HGR6.out) | (with_reducible exact gr_refl _ _) | (with_reducible refine gr_set ?_ (by first | (left; rfl) | (right; simp; done) | (right; simp; omega) | (left; omega)) _) | (with_reducible refine gr_alloc ?_ _) | (with_reducible refine gr_drew ?_) | (with_reducible refine gr_drewN ?_ _)))⟩
end Go.Proofs.Ytckbbfdllflmjaa
