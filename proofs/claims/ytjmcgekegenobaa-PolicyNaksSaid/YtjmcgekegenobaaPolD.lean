/- What package policy's Ask says, in plain words; its contract. No condition but memory's own limits. -/
import Derived.Test.YtjmcgekegenobaaPolA
import Derived.Deep.RegionWith
namespace Go.Proofs.Ytjmcgekegenobaa
open Go.RowKit
set_option linter.unusedVariables false
set_option linter.unusedSimpArgs false
attribute [local go_sem] conv1 conv1d conv1n conv1a conv1ad conv1an conv2 conv2d conv2n conv2a conv2ad conv2an conv4 conv4d conv4n conv4a conv4ad conv4an conv5 conv5d conv5n conv5a conv5ad conv5an size_nums byt_fold
theorem two_cells (w : World) (x0 x1 : Value) (t : TypeId) : ∀ j u, [x0, x1][j]? = some u → (w.alloc (.cells #[x0, x1] t)).cell? ((⟨w.heap.size, 0, none⟩ : Addr).add j) = some u :=
  World.news_of_block (cs := #[x0, x1]) (fr := (0, 0)) (heap_alloc_new w _)
theorem Blk.new_at (w : World) (b : Nat) (hb : b = w.heap.size) (t : TypeId) (cs : Array Value) : Blk (w.alloc (.cells cs t)) b t cs := by subst hb; exact Blk.new w t cs
def kindAt : Nat → Int
  | 0 => 1
  | 1 => 5
  | 2 => 17
  | 3 => 18
  | 4 => 19
  | _ => 23
def dataAt (l : Lk) : Nat → ByteArray
  | 0 => be2 l.mru
  | 1 => be4 l.magic
  | 2 => be2 l.mrru
  | 3 => ⟨#[]⟩
  | 4 => l.disc
  | _ => be2 l.num
def askK (l : Lk) : Nat → List (Int × ByteArray)
  | 0 => []
  | k + 1 => askK l k ++ (if asksB l (kindAt k) then [(kindAt k, dataAt l k)] else [])
def askL (l : Lk) : List (Int × ByteArray) := askK l 6
theorem askK_len (l : Lk) : ∀ k, (askK l k).length ≤ k
  | 0 => Nat.le_refl _
  | k + 1 => by
    have := askK_len l k
    rw [askK, List.length_append]
    split <;> simp <;> omega
/-- A slice of options that was answered: it reads as a list, within memory's limits. -/
def Res (w : World) (A : Option Addr) (n cap : Nat) (os : List (Int × ByteArray)) : Prop := OptsAt w A n os ∧ n * 24 ≤ 140737488351232 ∧ (A = none → n = 0 ∧ cap = 0) ∧ n ≤ cap
def AskB (l : Lk) (w : World) (e : Ending) (w' : World) : Prop :=
  (mayB l = true ∧ ∃ A n cap, e = .returned (.tuple #[.slice A n cap, .int .i64 0]) ∧ Res w' A n cap (askL l) ∧ Below w.heap.size w w') ∨ (mayB l = false ∧ e = .returned (.tuple #[.slice none 0 0, .int .i64 1400]) ∧ Below w.heap.size w w')
theorem may_range {l : Lk} (h : mayB l = true) : (0 ≤ l.mru ∧ l.mru < 65536) ∧ (0 ≤ l.magic ∧ l.magic < 4294967296) ∧ (0 ≤ l.mrru ∧ l.mrru < 65536) ∧ l.disc.size ≤ 20 ∧ (0 ≤ l.num ∧ l.num < 65536) := by
  unfold mayB unitB at h
  simp only [Bool.and_eq_true, Bool.or_eq_true, decide_eq_true_eq] at h
  omega
theorem Res.own {w : World} {base n : Nat} {v : Value} {os : List (Int × ByteArray)} (h : w.ownsRow base 36 2 v n (optCells os)) (hl : os.length = n) (hn : n * 24 ≤ 140737488351232) : ∃ A cap, v = .slice A n cap ∧ Res w A n cap os := by
  subst hl
  rcases h.2 with ⟨hv, h0⟩ | ⟨g, cap, cur, hv, hg, hh, hnc, r⟩
  · have e : os = [] := List.eq_nil_of_length_eq_zero (by omega)
    subst e
    exact ⟨none, 0, hv, OptsAt.nil _ _, hn, fun _ => ⟨rfl, rfl⟩, Nat.le_refl _⟩
  · subst hv
    exact ⟨_, _, rfl, OptsAt.own h, hn, fun h => (by cases h), hnc⟩
def AskR (l : Lk) (g kb B : Nat) (w : World) (v : Value) (k : Nat) (wr : World) : Prop :=
  k ≤ 6 ∧ B ≤ wr.heap.size ∧ wr.ownsRow B 36 2 v (askK l k).length (optCells (askK l k)) ∧ Blk wr g 48 (lkC l) ∧ Blk wr kb 3 #[.int .i64 1, .int .i64 5, .int .i64 17, .int .i64 18, .int .i64 19, .int .i64 23] ∧ Blk wr w.heap.size 23 (lkC l) ∧ Below w.heap.size w wr
theorem kind_cell {w : World} {b q : Nat} (h : Blk w b 3 #[.int .i64 1, .int .i64 5, .int .i64 17, .int .i64 18, .int .i64 19, .int .i64 23]) (hq : q < 6) : w.cell? ⟨b, q, none⟩ = some (.int .i64 (kindAt q)) := by
  refine (h.cell q).trans ?_
  have : q = 0 ∨ q = 1 ∨ q = 2 ∨ q = 3 ∨ q = 4 ∨ q = 5 := by omega
  rcases this with rfl | rfl | rfl | rfl | rfl | rfl <;> rfl
theorem optCells_app (a b : List (Int × ByteArray)) : optCells (a ++ b) = optCells a ++ optCells b := by unfold optCells; rw [List.flatMap_append]
theorem two_cells_at (w : World) (b : Nat) (hb : b = w.heap.size) (x0 x1 : Value) (t : TypeId) : ∀ j u, [x0, x1][j]? = some u → (w.alloc (.cells #[x0, x1] t)).cell? ((⟨b, 0, none⟩ : Addr).add j) = some u := by subst hb; exact two_cells w x0 x1 t
theorem own_gr {w W : World} {base n size : Nat} {e : TypeId} {v : Value} {xs : List Value} (h : w.ownsRow base e size v n xs) (hg : w.grownBy W (some w.heap.size)) : W.ownsRow base e size v n xs := by
  refine h.kept hg ?_
  cases hv : v.ownBlock with
  | none => left; rfl
  | some k => right; intro e; have := (h.lt k hv).2; have e := Option.some.inj e; omega
theorem ask_step {l : Lk} {g kb B k : Nat} {w wr W w4 : World} {v v4 x0 x1 : Value} {o : Int × ByteArray} (hgr : wr.grownBy W (some wr.heap.size)) (hs : Blk wr g 48 (lkC l)) (hk : Blk wr kb 3 #[.int .i64 1, .int .i64 5, .int .i64 17, .int .i64 18, .int .i64 19, .int .i64 23]) (hl : Blk wr w.heap.size 23 (lkC l)) (hbel : Below w.heap.size w wr) (hB : B ≤ wr.heap.size) (z1 : g < B) (z2 : kb < B) (z3 : w.heap.size < B) (ho : wr.ownsRow B 36 2 v (askK l k).length (optCells (askK l k)))
    (h4 : w4.ownsRow B 36 2 v4 ((askK l k).length + 1) (optCells (askK l k) ++ [x0, x1])) (hgrow : (W.alloc (.cells #[x0, x1] 36)).grownBy w4 v.ownBlock) (hap : askK l (k + 1) = askK l k ++ [o]) (hx : optCells [o] = [x0, x1]) (hk6 : k + 1 ≤ 6) : AskR l g kb B w v4 (k + 1) w4 := by
  have h1 : wr.grownBy (W.alloc (.cells #[x0, x1] 36)) (some wr.heap.size) := gr_alloc hgr _
  have blk : ∀ {b : Nat} {t : TypeId} {cs : Array Value}, b < B → Blk wr b t cs → Blk w4 b t cs := fun {b t cs} hb h =>
    (h.grown h1 (by intro e; have := h.lt; have e := Option.some.inj e; omega)).grown hgrow (fun e => by have := (ho.lt b e.symm).1; omega)
  refine ⟨hk6, ?_, ?_, blk z1 hs, blk z2 hk, blk z3 hl, ?_⟩
  · have := h1.size; have := hgrow.size; omega
  · rw [hap, optCells_app, hx, List.length_append]
    exact h4
  · exact (below_gr hbel h1 hbel.size hbel.size).grown hgrow (by have := h1.size; have := hbel.size; omega) (fun c hc => by have := (ho.lt c hc).1; omega)
theorem kinds_any (w : World) : Calls Try.prog 18 #[] w fun e w' => e = .returned (.slice (some ⟨w.heap.size, 0, none⟩) 6 6) ∧ w.alloc (.cells #[.int .i64 1, .int .i64 5, .int .i64 17, .int .i64 18, .int .i64 19, .int .i64 23] 3) = w' := by
  go_enter Try.func18, Try.ntmps18
  go_wp2
  go_ret
  exact ⟨rfl, rfl⟩
set_option maxRecDepth 100000 in
set_option maxHeartbeats 8000000 in
theorem ask_any (l : Lk) (w : World) : Calls Try.prog 10 #[lkV l] w (AskB l w) := by
  obtain ⟨i0, hi, hz0, hz1, hz2⟩ := info_parts info_opt2
  have HZ1 := Lib.hid hz1; have HZ2 := Lib.hid hz2; have HZ0 := Lib.hid hz0; have HI := Lib.hid hi
  clear hz0 hz1 hz2 hi
  have hbl := Blk.new w 23 (lkC l)
  have HBL := Lib.hid hbl; clear hbl
  show Calls _ _ #[.agg #[.int .i64 l.mru, .int .i64 l.magic, .int .i64 l.mrru, .bool l.short, .string l.disc, .int .i64 l.num]] _ _
  cases hmay : mayB l
  · go_enter Try.func10, Try.ntmps10
    go_wp2_with fail
    refine (may_any l _).mono ?_
    rintro e w1 ⟨rfl, hb1⟩
    rw [hmay]
    have bel1 := below_step ((Below.refl _ w).alloc (Nat.le_refl _) _) hb1 (by simp)
    go_wp2_with fail
    go_ret2
    exact .inr ⟨hmay, rfl, bel1⟩
  · have HR := Lib.hid (may_range hmay)
    go_enter Try.func10, Try.ntmps10
    go_wp2_with fail
    refine (may_any l _).mono ?_
    rintro e w1 ⟨rfl, hb1⟩
    rw [hmay]
    have bel1 := below_step ((Below.refl _ w).alloc (Nat.le_refl _) _) hb1 (by simp)
    have hz1 := hb1.size
    simp at hz1
    have hl1 : Blk w1 w.heap.size 23 (lkC l) := HBL.out.keep hb1
    have k0 : w1.cell? ⟨w.heap.size, 0, none⟩ = some (.int .i64 l.mru) := hl1.cell 0
    have k1 : w1.cell? ⟨w.heap.size, 1, none⟩ = some (.int .i64 l.magic) := hl1.cell 1
    have k2 : w1.cell? ⟨w.heap.size, 2, none⟩ = some (.int .i64 l.mrru) := hl1.cell 2
    have k3 : w1.cell? ⟨w.heap.size, 3, none⟩ = some (.bool l.short) := hl1.cell 3
    have k4 : w1.cell? ⟨w.heap.size, 4, none⟩ = some (.string l.disc) := hl1.cell 4
    have k5 : w1.cell? ⟨w.heap.size, 5, none⟩ = some (.int .i64 l.num) := hl1.cell 5
    have HL1 := Lib.hid hl1; clear hl1
    have hzl : w.heap.size < w1.heap.size := by omega
    go_wp2_with (first | (go_at_call 18; refine (kinds_any _).mono ?_; rintro e w2 ⟨rfl, rfl⟩))
    go_loopw [5, 18] (fun v i wr => ∃ k : Nat, i = .int .i64 k ∧ AskR l w1.heap.size (w1.heap.size + 1) (w1.heap.size + 2) w v k wr) (fun _ i _ => 6 - (intOf i).toNat)
    case atStart =>
      refine ⟨0, rfl, by omega, by simp, World.ownsRow_nil _ _ _ _, (Blk.new w1 _ (lkC l)).alloc _, Blk.new_at _ _ (by simp) _ _, (HL1.out.alloc _).alloc _, (by repeat' (first | (with_reducible exact bel1) | (with_reducible refine Below.setCell ?_ (Nat.le_refl _) _) | (with_reducible apply Below.setCell) | (with_reducible apply Below.alloc) | (with_reducible apply Below.drew) | (with_reducible apply below_drewN) | (exact Nat.le_refl _) | omega | (simp; done) | (simp; omega)))⟩
    case round =>
      obtain ⟨k, rfl, hk, hB, hown, hside, hkb, hlb, hbel⟩ := hrel
      have hn6 := askK_len l k
      have HO := Lib.hid hown; have HS := Lib.hid hside; have HK := Lib.hid hkb; have HLB := Lib.hid hlb
      have s0 : wr.cell? ⟨w1.heap.size, 0, none⟩ = some (.int .i64 l.mru) := hside.cell 0
      have s1 : wr.cell? ⟨w1.heap.size, 1, none⟩ = some (.int .i64 l.magic) := hside.cell 1
      have s2 : wr.cell? ⟨w1.heap.size, 2, none⟩ = some (.int .i64 l.mrru) := hside.cell 2
      have s5 : wr.cell? ⟨w1.heap.size, 5, none⟩ = some (.int .i64 l.num) := hside.cell 5
      have t4 : wr.cell? ⟨w.heap.size, 4, none⟩ = some (.string l.disc) := hlb.cell 4
      have z1 := hside.lt
      have z2 := hkb.lt
      have z3 := hlb.lt
      by_cases hlt : k < 6
      · have kc : wr.cell? ⟨w1.heap.size + 1, k, none⟩ = some (.int .i64 (kindAt k)) := kind_cell hkb hlt
        clear hown hside hkb hlb
        have y1 : (k : Int) < 6 := by omega
        rcases (by omega : k = 0 ∨ k = 1 ∨ k = 2 ∨ k = 3 ∨ k = 4 ∨ k = 5) with rfl | rfl | rfl | rfl | rfl | rfl
        · have kc' : wr.cell? ⟨w1.heap.size + 1, 0, none⟩ = some (.int .i64 1) := kc
          clear kc
          cases ha : asksB l 1
          · go_wp2_with fail
            refine (asks_any _ _ l _ HS.out).mono ?_
            rintro e w' ⟨rfl, rfl⟩
            rw [ha]
            go_wp2_with fail
            go_roundw
            case rel => exact ⟨1, rfl, by omega, hB, by rw [askK, show kindAt 0 = 1 from rfl, ha, if_neg (by decide), List.append_nil]; exact HO.out, HS.out, HK.out, HLB.out, hbel⟩
            case measure => simp [intOf]
          · go_wp2_with fail
            refine (asks_any _ _ l _ HS.out).mono ?_
            rintro e w' ⟨rfl, rfl⟩
            rw [ha]
            go_wp2_with fail
            refine (field_any _ _ l _ (HS.out.alloc _)).mono ?_
            rintro e w' ⟨rfl, rfl⟩
            simp only [fldP, fldO]
            go_wp2_with fail
            go_region_with (first | (go_at_call 22; refine (size_any _ _).mono ?_; rintro e w' ⟨rfl, rfl⟩; rw [show sizeK 1 = 2 from rfl]) | (go_at_call 21; refine (number2_any _ _ HR.out.1.1 HR.out.1.2).mono ?_; rintro e u ⟨rfl, hbu⟩; have hxu := Blk.keep (Blk.drew (Blk.new wr 36 #[.int .i64 1, .string ⟨#[]⟩])) hbu; have r0 := hxu.cell 0; have r1 := hxu.cell 1; have rf := hxu.frozen; have hlu := hxu.lt))
            all_goals
              have hgr : wr.grownBy (u.setCell ⟨wr.heap.size, 1, none⟩ (.string (be2 l.mru))) (some wr.heap.size) := gr_set (gr_below (gr_drew (gr_alloc (gr_refl _ _) _)) hbu) (.inl rfl) _
              have HGR := Lib.hid hgr
              have hob := own_gr HO.out hgr
              have HOB := Lib.hid hob; clear hgr hob
              go_wp2_with (at_builtin; refine wpList_append_own _ rfl _ _ 25 rfl (w1.heap.size + 2) 36 i0 _ 2 24 Try.underlying25 HI.out HZ0.out HZ1.out HZ2.out rfl (by omega) _ _ _ rfl (HOB.out.alloc _) ⟨u.heap.size, 0, none⟩ 1 1 [.int .i64 1, .string (be2 l.mru)] rfl rfl (two_cells_at _ _ (by simp [World.setCell]) _ _ _) (by simp [Value.oneCell']) ?c10 ?c20 ?c30 ?_)
              case c10 => unfold maxLen; omega
              case c20 => omega
              case c30 => have := HGR.out.size; simp [World.setCell] at this ⊢; omega
              intro v4 w4 hown4 hgrow hnil
              clear hnil
              have fin := ask_step (k := 0) (x0 := .int .i64 1) (x1 := .string (be2 l.mru)) HGR.out HS.out HK.out HLB.out hbel hB (by omega) (by omega) (by omega) HO.out hown4 hgrow (by show askK l 0 ++ (if asksB l 1 then [(1, be2 l.mru)] else []) = _; rw [ha]; rfl) (by simp [optCells]) (by omega)
              have FIN := Lib.hid fin; clear fin hown4 hgrow
              go_wp2_with fail
              go_roundw
              case rel => exact ⟨1, rfl, FIN.out⟩
              case measure => simp [intOf]
        · have kc' : wr.cell? ⟨w1.heap.size + 1, 1, none⟩ = some (.int .i64 5) := kc
          clear kc
          cases ha : asksB l 5
          · go_wp2_with fail
            refine (asks_any _ _ l _ HS.out).mono ?_
            rintro e w' ⟨rfl, rfl⟩
            rw [ha]
            go_wp2_with fail
            go_roundw
            case rel => exact ⟨2, rfl, by omega, hB, by rw [askK, show kindAt 1 = 5 from rfl, ha, if_neg (by decide), List.append_nil]; exact HO.out, HS.out, HK.out, HLB.out, hbel⟩
            case measure => simp [intOf]
          · go_wp2_with fail
            refine (asks_any _ _ l _ HS.out).mono ?_
            rintro e w' ⟨rfl, rfl⟩
            rw [ha]
            go_wp2_with fail
            refine (field_any _ _ l _ (HS.out.alloc _)).mono ?_
            rintro e w' ⟨rfl, rfl⟩
            simp only [fldP, fldO]
            go_wp2_with fail
            go_region_with (first | (go_at_call 22; refine (size_any _ _).mono ?_; rintro e w' ⟨rfl, rfl⟩; rw [show sizeK 5 = 4 from rfl]) | (go_at_call 21; refine (number4_any _ _ HR.out.2.1.1 HR.out.2.1.2).mono ?_; rintro e u ⟨rfl, hbu⟩; have hxu := Blk.keep (Blk.drew (Blk.new wr 36 #[.int .i64 5, .string ⟨#[]⟩])) hbu; have r0 := hxu.cell 0; have r1 := hxu.cell 1; have rf := hxu.frozen; have hlu := hxu.lt))
            all_goals
              have hgr : wr.grownBy (u.setCell ⟨wr.heap.size, 1, none⟩ (.string (be4 l.magic))) (some wr.heap.size) := gr_set (gr_below (gr_drew (gr_alloc (gr_refl _ _) _)) hbu) (.inl rfl) _
              have HGR := Lib.hid hgr
              have hob := own_gr HO.out hgr
              have HOB := Lib.hid hob; clear hgr hob
              go_wp2_with (at_builtin; refine wpList_append_own _ rfl _ _ 25 rfl (w1.heap.size + 2) 36 i0 _ 2 24 Try.underlying25 HI.out HZ0.out HZ1.out HZ2.out rfl (by omega) _ _ _ rfl (HOB.out.alloc _) ⟨u.heap.size, 0, none⟩ 1 1 [.int .i64 5, .string (be4 l.magic)] rfl rfl (two_cells_at _ _ (by simp [World.setCell]) _ _ _) (by simp [Value.oneCell']) ?c11 ?c21 ?c31 ?_)
              case c11 => unfold maxLen; omega
              case c21 => omega
              case c31 => have := HGR.out.size; simp [World.setCell] at this ⊢; omega
              intro v4 w4 hown4 hgrow hnil
              clear hnil
              have fin := ask_step (k := 1) (x0 := .int .i64 5) (x1 := .string (be4 l.magic)) HGR.out HS.out HK.out HLB.out hbel hB (by omega) (by omega) (by omega) HO.out hown4 hgrow (by show askK l 1 ++ (if asksB l 5 then [(5, be4 l.magic)] else []) = _; rw [ha]; rfl) (by simp [optCells]) (by omega)
              have FIN := Lib.hid fin; clear fin hown4 hgrow
              go_wp2_with fail
              go_roundw
              case rel => exact ⟨2, rfl, FIN.out⟩
              case measure => simp [intOf]
        · have kc' : wr.cell? ⟨w1.heap.size + 1, 2, none⟩ = some (.int .i64 17) := kc
          clear kc
          cases ha : asksB l 17
          · go_wp2_with fail
            refine (asks_any _ _ l _ HS.out).mono ?_
            rintro e w' ⟨rfl, rfl⟩
            rw [ha]
            go_wp2_with fail
            go_roundw
            case rel => exact ⟨3, rfl, by omega, hB, by rw [askK, show kindAt 2 = 17 from rfl, ha, if_neg (by decide), List.append_nil]; exact HO.out, HS.out, HK.out, HLB.out, hbel⟩
            case measure => simp [intOf]
          · go_wp2_with fail
            refine (asks_any _ _ l _ HS.out).mono ?_
            rintro e w' ⟨rfl, rfl⟩
            rw [ha]
            go_wp2_with fail
            refine (field_any _ _ l _ (HS.out.alloc _)).mono ?_
            rintro e w' ⟨rfl, rfl⟩
            simp only [fldP, fldO]
            go_wp2_with fail
            go_region_with (first | (go_at_call 22; refine (size_any _ _).mono ?_; rintro e w' ⟨rfl, rfl⟩; rw [show sizeK 17 = 2 from rfl]) | (go_at_call 21; refine (number2_any _ _ HR.out.2.2.1.1 HR.out.2.2.1.2).mono ?_; rintro e u ⟨rfl, hbu⟩; have hxu := Blk.keep (Blk.drew (Blk.new wr 36 #[.int .i64 17, .string ⟨#[]⟩])) hbu; have r0 := hxu.cell 0; have r1 := hxu.cell 1; have rf := hxu.frozen; have hlu := hxu.lt))
            all_goals
              have hgr : wr.grownBy (u.setCell ⟨wr.heap.size, 1, none⟩ (.string (be2 l.mrru))) (some wr.heap.size) := gr_set (gr_below (gr_drew (gr_alloc (gr_refl _ _) _)) hbu) (.inl rfl) _
              have HGR := Lib.hid hgr
              have hob := own_gr HO.out hgr
              have HOB := Lib.hid hob; clear hgr hob
              go_wp2_with (at_builtin; refine wpList_append_own _ rfl _ _ 25 rfl (w1.heap.size + 2) 36 i0 _ 2 24 Try.underlying25 HI.out HZ0.out HZ1.out HZ2.out rfl (by omega) _ _ _ rfl (HOB.out.alloc _) ⟨u.heap.size, 0, none⟩ 1 1 [.int .i64 17, .string (be2 l.mrru)] rfl rfl (two_cells_at _ _ (by simp [World.setCell]) _ _ _) (by simp [Value.oneCell']) ?c12 ?c22 ?c32 ?_)
              case c12 => unfold maxLen; omega
              case c22 => omega
              case c32 => have := HGR.out.size; simp [World.setCell] at this ⊢; omega
              intro v4 w4 hown4 hgrow hnil
              clear hnil
              have fin := ask_step (k := 2) (x0 := .int .i64 17) (x1 := .string (be2 l.mrru)) HGR.out HS.out HK.out HLB.out hbel hB (by omega) (by omega) (by omega) HO.out hown4 hgrow (by show askK l 2 ++ (if asksB l 17 then [(17, be2 l.mrru)] else []) = _; rw [ha]; rfl) (by simp [optCells]) (by omega)
              have FIN := Lib.hid fin; clear fin hown4 hgrow
              go_wp2_with fail
              go_roundw
              case rel => exact ⟨3, rfl, FIN.out⟩
              case measure => simp [intOf]
        · have kc' : wr.cell? ⟨w1.heap.size + 1, 3, none⟩ = some (.int .i64 18) := kc
          clear kc
          cases ha : asksB l 18
          · go_wp2_with fail
            refine (asks_any _ _ l _ HS.out).mono ?_
            rintro e w' ⟨rfl, rfl⟩
            rw [ha]
            go_wp2_with fail
            go_roundw
            case rel => exact ⟨4, rfl, by omega, hB, by rw [askK, show kindAt 3 = 18 from rfl, ha, if_neg (by decide), List.append_nil]; exact HO.out, HS.out, HK.out, HLB.out, hbel⟩
            case measure => simp [intOf]
          · go_wp2_with fail
            refine (asks_any _ _ l _ HS.out).mono ?_
            rintro e w' ⟨rfl, rfl⟩
            rw [ha]
            go_wp2_with fail
            refine (field_any _ _ l _ (HS.out.alloc _)).mono ?_
            rintro e w' ⟨rfl, rfl⟩
            simp only [fldP, fldO]
            have hgr : wr.grownBy (wr.alloc (.cells #[.int .i64 18, .string (⟨#[]⟩)] 36)) (some wr.heap.size) := gr_alloc (gr_refl _ _) _
            have HGR := Lib.hid hgr
            have hob := own_gr HO.out hgr
            have HOB := Lib.hid hob; clear hgr hob
            go_wp2_with (at_builtin; refine wpList_append_own _ rfl _ _ 25 rfl (w1.heap.size + 2) 36 i0 _ 2 24 Try.underlying25 HI.out HZ0.out HZ1.out HZ2.out rfl (by omega) _ _ _ rfl (HOB.out.alloc _) ⟨wr.heap.size + 1, 0, none⟩ 1 1 [.int .i64 18, .string (⟨#[]⟩)] rfl rfl (two_cells_at _ _ (by simp) _ _ _) (by simp [Value.oneCell']) ?c13 ?c23 ?c33 ?_)
            case c13 => unfold maxLen; omega
            case c23 => omega
            case c33 => simp; omega
            intro v4 w4 hown4 hgrow hnil
            clear hnil
            have fin := ask_step (k := 3) (x0 := .int .i64 18) (x1 := .string (⟨#[]⟩)) HGR.out HS.out HK.out HLB.out hbel hB (by omega) (by omega) (by omega) HO.out hown4 hgrow (by show askK l 3 ++ (if asksB l 18 then [(18, ⟨#[]⟩)] else []) = _; rw [ha]; rfl) (by simp [optCells]) (by omega)
            have FIN := Lib.hid fin; clear fin hown4 hgrow
            go_wp2_with fail
            go_roundw
            case rel => exact ⟨4, rfl, FIN.out⟩
            case measure => simp [intOf]
        · have kc' : wr.cell? ⟨w1.heap.size + 1, 4, none⟩ = some (.int .i64 19) := kc
          clear kc
          cases ha : asksB l 19
          · go_wp2_with fail
            refine (asks_any _ _ l _ HS.out).mono ?_
            rintro e w' ⟨rfl, rfl⟩
            rw [ha]
            go_wp2_with fail
            go_roundw
            case rel => exact ⟨5, rfl, by omega, hB, by rw [askK, show kindAt 4 = 19 from rfl, ha, if_neg (by decide), List.append_nil]; exact HO.out, HS.out, HK.out, HLB.out, hbel⟩
            case measure => simp [intOf]
          · go_wp2_with fail
            refine (asks_any _ _ l _ HS.out).mono ?_
            rintro e w' ⟨rfl, rfl⟩
            rw [ha]
            go_wp2_with fail
            refine (field_any _ _ l _ (HS.out.alloc _)).mono ?_
            rintro e w' ⟨rfl, rfl⟩
            simp only [fldP, fldO]
            have hgr : wr.grownBy (wr.alloc (.cells #[.int .i64 19, .string (l.disc)] 36)) (some wr.heap.size) := gr_alloc (gr_refl _ _) _
            have HGR := Lib.hid hgr
            have hob := own_gr HO.out hgr
            have HOB := Lib.hid hob; clear hgr hob
            go_wp2_with (at_builtin; refine wpList_append_own _ rfl _ _ 25 rfl (w1.heap.size + 2) 36 i0 _ 2 24 Try.underlying25 HI.out HZ0.out HZ1.out HZ2.out rfl (by omega) _ _ _ rfl (HOB.out.alloc _) ⟨wr.heap.size + 1, 0, none⟩ 1 1 [.int .i64 19, .string (l.disc)] rfl rfl (two_cells_at _ _ (by simp) _ _ _) (by simp [Value.oneCell']) ?c14 ?c24 ?c34 ?_)
            case c14 => unfold maxLen; omega
            case c24 => omega
            case c34 => simp; omega
            intro v4 w4 hown4 hgrow hnil
            clear hnil
            have fin := ask_step (k := 4) (x0 := .int .i64 19) (x1 := .string (l.disc)) HGR.out HS.out HK.out HLB.out hbel hB (by omega) (by omega) (by omega) HO.out hown4 hgrow (by show askK l 4 ++ (if asksB l 19 then [(19, l.disc)] else []) = _; rw [ha]; rfl) (by simp [optCells]) (by omega)
            have FIN := Lib.hid fin; clear fin hown4 hgrow
            go_wp2_with fail
            go_roundw
            case rel => exact ⟨5, rfl, FIN.out⟩
            case measure => simp [intOf]
        · have kc' : wr.cell? ⟨w1.heap.size + 1, 5, none⟩ = some (.int .i64 23) := kc
          clear kc
          cases ha : asksB l 23
          · go_wp2_with fail
            refine (asks_any _ _ l _ HS.out).mono ?_
            rintro e w' ⟨rfl, rfl⟩
            rw [ha]
            go_wp2_with fail
            go_roundw
            case rel => exact ⟨6, rfl, by omega, hB, by rw [askK, show kindAt 5 = 23 from rfl, ha, if_neg (by decide), List.append_nil]; exact HO.out, HS.out, HK.out, HLB.out, hbel⟩
            case measure => simp [intOf]
          · go_wp2_with fail
            refine (asks_any _ _ l _ HS.out).mono ?_
            rintro e w' ⟨rfl, rfl⟩
            rw [ha]
            go_wp2_with fail
            refine (field_any _ _ l _ (HS.out.alloc _)).mono ?_
            rintro e w' ⟨rfl, rfl⟩
            simp only [fldP, fldO]
            go_wp2_with fail
            go_region_with (first | (go_at_call 22; refine (size_any _ _).mono ?_; rintro e w' ⟨rfl, rfl⟩; rw [show sizeK 23 = 2 from rfl]) | (go_at_call 21; refine (number2_any _ _ HR.out.2.2.2.2.1 HR.out.2.2.2.2.2).mono ?_; rintro e u ⟨rfl, hbu⟩; have hxu := Blk.keep (Blk.drew (Blk.new wr 36 #[.int .i64 23, .string ⟨#[]⟩])) hbu; have r0 := hxu.cell 0; have r1 := hxu.cell 1; have rf := hxu.frozen; have hlu := hxu.lt))
            all_goals
              have hgr : wr.grownBy (u.setCell ⟨wr.heap.size, 1, none⟩ (.string (be2 l.num))) (some wr.heap.size) := gr_set (gr_below (gr_drew (gr_alloc (gr_refl _ _) _)) hbu) (.inl rfl) _
              have HGR := Lib.hid hgr
              have hob := own_gr HO.out hgr
              have HOB := Lib.hid hob; clear hgr hob
              go_wp2_with (at_builtin; refine wpList_append_own _ rfl _ _ 25 rfl (w1.heap.size + 2) 36 i0 _ 2 24 Try.underlying25 HI.out HZ0.out HZ1.out HZ2.out rfl (by omega) _ _ _ rfl (HOB.out.alloc _) ⟨u.heap.size, 0, none⟩ 1 1 [.int .i64 23, .string (be2 l.num)] rfl rfl (two_cells_at _ _ (by simp [World.setCell]) _ _ _) (by simp [Value.oneCell']) ?c15 ?c25 ?c35 ?_)
              case c15 => unfold maxLen; omega
              case c25 => omega
              case c35 => have := HGR.out.size; simp [World.setCell] at this ⊢; omega
              intro v4 w4 hown4 hgrow hnil
              clear hnil
              have fin := ask_step (k := 5) (x0 := .int .i64 23) (x1 := .string (be2 l.num)) HGR.out HS.out HK.out HLB.out hbel hB (by omega) (by omega) (by omega) HO.out hown4 hgrow (by show askK l 5 ++ (if asksB l 23 then [(23, be2 l.num)] else []) = _; rw [ha]; rfl) (by simp [optCells]) (by omega)
              have FIN := Lib.hid fin; clear fin hown4 hgrow
              go_wp2_with fail
              go_roundw
              case rel => exact ⟨6, rfl, FIN.out⟩
              case measure => simp [intOf]
      · obtain rfl : k = 6 := by omega
        obtain ⟨A, cap, rfl, hres⟩ := Res.own hown rfl (by omega)
        have HRES := Lib.hid hres
        clear hown hside hkb hlb hres
        go_wp2_with fail
        go_ret2
        exact .inl ⟨hmay, A, _, cap, rfl, HRES.out, hbel⟩
end Go.Proofs.Ytjmcgekegenobaa
