/- Statement PolicyRejects: the walk. No condition. -/
import Derived.Test.YtjmcgekegenobaaPolRj
import Derived.Test.YtjmcgekegenobaaPolT
import Derived.Laws.AppendOwnNone
namespace Go.Proofs.Ytjmcgekegenobaa
open Go.RowKit
set_option linter.unusedVariables false
set_option linter.unusedSimpArgs false
theorem wraps (n : Nat) (h : n ≤ 6) : wrap64 ((n : Int) + 1) = (n : Int) + 1 ∧ IntKind.u64.wrap ((n : Int) + 1) = (n : Int) + 1 := ⟨IntWalk.wrap64_in _ (by omega), IntWalk.u64_in _ (by omega)⟩
theorem wrapk (k : Int) (h : 0 ≤ k ∧ k < 64) : wrap64 (100 + k) = 100 + k := IntWalk.wrap64_in _ (by omega)
theorem wrapi (i : Nat) (h : i ≤ 6) : wrap64 (i : Int) = (i : Int) := IntWalk.wrap64_in _ (by omega)
theorem rejects_no (a : Lk) (kind at_ : Int) (w : World) (hma : mayB a = false) : Calls Try.prog 6 #[lkV a, .int .i64 kind, .int .i64 at_] w fun e w' => e = .returned (.bool true) ∧ Below w.heap.size w w' := by
  have ha0 : Blk (w.alloc (.cells (lkC a) 23)) w.heap.size 23 (lkC a) := Blk.new w _ _
  have HA0 := Lib.hid ha0; clear ha0
  show Calls _ _ #[.agg #[.int .i64 a.mru, .int .i64 a.magic, .int .i64 a.mrru, .bool a.short, .string a.disc, .int .i64 a.num], _, _] _ _
  go_enter Try.func6, Try.ntmps6
  go_wp2_with fail
  refine (awake_any _).mono ?_
  rintro e w1 ⟨rfl, hb1⟩
  have bel1 : Below w.heap.size w w1 := below_step ((Below.refl _ w).alloc (Nat.le_refl _) _) hb1 (by simp)
  have ha1' : Blk w1 w.heap.size 23 (lkC a) := HA0.out.keep hb1
  have a10 : w1.cell? ⟨w.heap.size, 0, none⟩ = some (.int .i64 a.mru) := ha1'.cell 0
  have a11 : w1.cell? ⟨w.heap.size, 1, none⟩ = some (.int .i64 a.magic) := ha1'.cell 1
  have a12 : w1.cell? ⟨w.heap.size, 2, none⟩ = some (.int .i64 a.mrru) := ha1'.cell 2
  have a13 : w1.cell? ⟨w.heap.size, 3, none⟩ = some (.bool a.short) := ha1'.cell 3
  have a14 : w1.cell? ⟨w.heap.size, 4, none⟩ = some (.string a.disc) := ha1'.cell 4
  have a15 : w1.cell? ⟨w.heap.size, 5, none⟩ = some (.int .i64 a.num) := ha1'.cell 5
  clear ha1'
  go_wp2_with fail
  refine (ask_any a _).mono ?_
  rintro e w2 h2
  obtain ⟨rfl, hb2⟩ := ask_no hma h2
  clear h2
  have bel2 := below_step bel1 hb2 bel1.size
  go_wp2_with (first | (go_at_call 11; refine (num_any _ _).mono ?_; rintro e w' ⟨rfl, rfl⟩))
  go_ret
  exact ⟨rfl, bel2⟩
set_option maxRecDepth 100000 in
set_option maxHeartbeats 8000000 in
theorem rejects_yes (a : Lk) (kind at_ : Int) (w : World) (hma : mayB a = true) (k : Int) (hk : bits .and .i64 kind 63 = k) (hk1 : 0 ≤ k ∧ k < 64) (i : Nat) (hi : wrap64 ((IntKind.u64.wrap at_).tmod (((askL a).length : Int) + 1)) = (i : Int)) (hin : i ≤ (askL a).length) (hn6 : (askL a).length ≤ 6) (hn0 : 0 < (askL a).length) : Calls Try.prog 6 #[lkV a, .int .i64 kind, .int .i64 at_] w fun e w' => e = .returned (.bool true) ∧ Below w.heap.size w w' := by
  obtain ⟨i0, hi0, hz0, hz1, hz2⟩ := info_parts info_opt2
  have HZ1 := Lib.hid hz1; have HZ2 := Lib.hid hz2; have HZ0 := Lib.hid hz0; have HI := Lib.hid hi0
  clear hz0 hz1 hz2 hi0
  have ha0 : Blk (w.alloc (.cells (lkC a) 23)) w.heap.size 23 (lkC a) := Blk.new w _ _
  have HA0 := Lib.hid ha0; clear ha0
  show Calls _ _ #[.agg #[.int .i64 a.mru, .int .i64 a.magic, .int .i64 a.mrru, .bool a.short, .string a.disc, .int .i64 a.num], _, _] _ _
  go_enter Try.func6, Try.ntmps6
  go_wp2_with fail
  refine (awake_any _).mono ?_
  rintro e w1 ⟨rfl, hb1⟩
  have bel1 : Below w.heap.size w w1 := below_step ((Below.refl _ w).alloc (Nat.le_refl _) _) hb1 (by simp)
  have ha1' : Blk w1 w.heap.size 23 (lkC a) := HA0.out.keep hb1
  have a10 : w1.cell? ⟨w.heap.size, 0, none⟩ = some (.int .i64 a.mru) := ha1'.cell 0
  have a11 : w1.cell? ⟨w.heap.size, 1, none⟩ = some (.int .i64 a.magic) := ha1'.cell 1
  have a12 : w1.cell? ⟨w.heap.size, 2, none⟩ = some (.int .i64 a.mrru) := ha1'.cell 2
  have a13 : w1.cell? ⟨w.heap.size, 3, none⟩ = some (.bool a.short) := ha1'.cell 3
  have a14 : w1.cell? ⟨w.heap.size, 4, none⟩ = some (.string a.disc) := ha1'.cell 4
  have a15 : w1.cell? ⟨w.heap.size, 5, none⟩ = some (.int .i64 a.num) := ha1'.cell 5
  clear ha1'
  go_wp2_with fail
  refine (ask_any a _).mono ?_
  rintro e w2 h2
  obtain ⟨A2, n, cap, rfl, hr2, hb2⟩ := ask_ok hma h2
  clear h2
  have bel2 := below_step bel1 hb2 bel1.size
  have hln := hr2.1.1
  rw [hln] at hi hin hn6 hn0
  obtain ⟨b, off, rfl, hlt, -⟩ := hr2.1.2 hn0
  have HR2 := Lib.hid hr2
  have HII := Lib.hid hi; clear hi
  have hnc : (i : Int) ≤ (cap : Int) := by have := hr2.2.2.2; omega
  have hnc1 : (n : Int) ≤ (cap : Int) := by have := hr2.2.2.2; omega
  have hni : (i : Int) ≤ (n : Int) := by omega
  have hi00 : (0 : Int) ≤ (i : Int) := by omega
  have hkw := wrapk k hk1
  clear hr2
  have hi := HII.out; clear HII
  go_wp2_with (first | (go_at_call 11; refine (num_any _ _).mono ?_; rintro e w' ⟨rfl, rfl⟩) | (at_builtin; refine wpList_append_own _ rfl _ _ 25 rfl w2.heap.size 36 i0 _ 2 24 Try.underlying25 HI.out HZ0.out HZ1.out HZ2.out rfl (by omega) _ _ _ rfl (World.ownsRow_nil _ _ _ _) ⟨b, off, none⟩ i cap (optCells ((askL a).take i)) rfl ?ca0 ?ca1 (optCells_one _) ?ca2 ?ca3 (Nat.le_refl _) ?_))
  case ca0 => rw [optCells_len, List.length_take]; omega
  case ca1 =>
    intro j u hj
    by_cases hi0 : 0 < i
    · exact OptsAt.news (HR2.out.1.take i hin) hi0 j u hj
    · have : i = 0 := by omega
      subst this
      cases hj
  case ca2 => unfold maxLen; omega
  case ca3 => omega
  intro v3 w3 hown3 hgrow3 hnil3
  clear hnil3
  have st3 : Below w2.heap.size w2 w3 := (Below.refl _ w2).grown hgrow3 (Nat.le_refl _) (fun c hc => by cases hc)
  have HO3 := Lib.hid hown3; clear hown3 hgrow3
  go_wp2_with (first | (go_at_call 11; refine (num_any _ _).mono ?_; rintro e w' ⟨rfl, rfl⟩) | (at_builtin; refine wpList_append_own _ rfl _ _ 25 rfl w2.heap.size 36 i0 _ 2 24 Try.underlying25 HI.out HZ0.out HZ1.out HZ2.out rfl (by omega) _ _ _ rfl (HO3.out.alloc _) ⟨w3.heap.size, 0, none⟩ 1 1 [.int .i64 (100 + k), .string ⟨#[122, 122]⟩] rfl rfl ?cb1 (by simp [Value.oneCell']) ?cb2 ?cb3 ?cb4 ?_))
  case cb1 => exact two_cells_at _ _ (by simp) _ _ _
  case cb2 => unfold maxLen; omega
  case cb3 => omega
  case cb4 => have := st3.size; simp; omega
  intro v4 w4 hown4 hgrow4 hnil4
  clear hnil4
  have st4 : Below w2.heap.size w2 w4 := (st3.alloc st3.size _).grown hgrow4 (by have := st3.size; simp; omega) (fun c hc => (HO3.out.lt c hc).1)
  have HO4 := Lib.hid hown4; clear hown4 hgrow4
  by_cases hci : cap = i
  · go_wp2_with (first | (go_at_call 11; refine (num_any _ _).mono ?_; rintro e w' ⟨rfl, rfl⟩) | (at_builtin; refine wpList_append_own _ rfl _ _ 25 rfl w2.heap.size 36 i0 _ 2 24 Try.underlying25 HI.out HZ0.out HZ1.out HZ2.out rfl (by omega) _ _ _ rfl HO4.out _ (n - i) _ (optCells ((askL a).drop i)) rfl ?cpc0 ?cpc1 (optCells_one _) ?cpc2 ?cpc3 st4.size ?_))
    case cpc0 => rw [optCells_len, List.length_drop]; omega
    case cpc1 => intro j u hj; rw [List.drop_of_length_le (by omega)] at hj; cases hj
    case cpc2 => unfold maxLen; omega
    case cpc3 => omega
    intro v5 w5 hown5 hgrow5 hnil5
    clear hnil5
    have st5 : Below w2.heap.size w2 w5 := st4.grown hgrow5 st4.size (fun c hc => (HO4.out.lt c hc).1)
    have hall : w5.ownsRow w2.heap.size 36 2 v5 (allR a (100 + k) i).length (optCells (allR a (100 + k) i)) := by
      have e1 : optCells (allR a (100 + k) i) = optCells ((askL a).take i) ++ [.int .i64 (100 + k), .string ⟨#[122, 122]⟩] ++ optCells ((askL a).drop i) := by
        unfold allR
        rw [optCells_app, optCells_app]
        rfl
      have e2 : (allR a (100 + k) i).length = i + 1 + (n - i) := by
        unfold allR
        rw [List.length_append, List.length_append, List.length_take, List.length_drop, Nat.min_eq_left (by omega)]
        show i + 1 + _ = _
        omega
      rw [e1, e2]
      first | exact hown5 | simpa using hown5
    have hl5 : (allR a (100 + k) i).length = n + 1 := by
      unfold allR
      rw [List.length_append, List.length_append, List.length_take, List.length_drop, Nat.min_eq_left (by omega)]
      show i + 1 + _ = _
      omega
    rw [hl5] at hall
    obtain ⟨A5, cap5, rfl, hres5⟩ := Res.own hall hl5 (by omega)
    have HR5 := Lib.hid hres5; clear hall hown5 hgrow5 hres5 hl5
    go_wp2_with (first | (go_at_call 11; refine (num_any _ _).mono ?_; rintro e w' ⟨rfl, rfl⟩))
    refine (judge_any ownR A5 (n + 1) cap5 (allR a (100 + k) i) _ (HR5.out.keep ((Below.refl _ _).alloc (Nat.le_refl _) _)).1 HR5.out.2.1 HR5.out.2.2.1 HR5.out.2.2.2 (all_fits hma (by omega) (by omega) i)).mono ?_
    rintro e w6 h6
    obtain ⟨A6, n6, cap6, rfl, hr6, hb6⟩ := judge_ok rfl h6
    clear h6
    obtain ⟨jv, jl⟩ := judge_all hma (show 100 ≤ 100 + k by omega) i
    rw [jv]
    rw [jl] at hr6
    have hn6' : n6 = 1 := hr6.1.1.symm
    subst hn6'
    have HR6 := Lib.hid hr6; clear hr6 jv jl
    have hob : Blk (w5.alloc (.cells (lkC ownR) 23)) w5.heap.size 23 (lkC ownR) := Blk.new _ _ _
    have hob6 := hob.keep hb6
    have HOB6 := Lib.hid hob6; clear hob hob6
    have st6 : Below w2.heap.size w2 w6 := below_step (st5.alloc st5.size _) hb6 (by have := st5.size; simp; omega)
    go_wp2_with (first | (go_at_call 11; refine (num_any _ _).mono ?_; rintro e w' ⟨rfl, rfl⟩))
    refine (same_any A6 (some ⟨w6.heap.size, 0, none⟩) 1 1 cap6 1 [(100 + k, zz)] [(100 + k, zz)] _ (HR6.out.keep ((Below.refl _ _).alloc (Nat.le_refl _) _)).1 (OptsAt.made_at w6 _ rfl _ _ _ 1 rfl rfl) (by omega)).mono ?_
    rintro e w7 ⟨rfl, hb7⟩
    rw [same_refl]
    have st7 : Below w2.heap.size w2 w7 := below_step (st6.alloc st6.size _) hb7 (by have := st6.size; simp; omega)
    have HOB7 := Lib.hid ((HOB6.out.alloc _).keep hb7)
    have HR7 := Lib.hid (HR2.out.keep st7)
    obtain ⟨b', off', kd, dt, eb, hlt7, hx0, x0, x1⟩ := HR7.out.1.at_ 0 hn0
    obtain ⟨rfl, rfl, -⟩ := Addr.mk.inj (Option.some.inj eb)
    have HX := Lib.hid hx0; clear hx0 eb
    have hq2 : (1 : Int) ≤ (i : Int) := by omega
    clear hi hk hkw hci hnc hni hi00
    have hb0 : ¬ (n : Int) = 0 := by omega
    have hz0 : ((n : Int) == 0) = false := decide_eq_false hb0
    have hpos : (0 : Int) < (n : Int) := by omega
    go_wp2_with (first | (go_at_call 11; refine (num_any _ _).mono ?_; rintro e w' ⟨rfl, rfl⟩) | (at_builtin; refine wpList_append_own _ rfl _ _ 25 rfl w7.heap.size 36 i0 _ 2 24 Try.underlying25 HI.out HZ0.out HZ1.out HZ2.out rfl (by omega) _ _ _ rfl (own_zero w7) ⟨b, off, none⟩ n _ (optCells (askL a)) rfl ?cpd0 ?cpd1 (optCells_one _) ?cpd2 ?cpd3 ?cpd4 ?_))
    case cpd0 => rw [optCells_len, hln]
    case cpd1 => intro j u hj; have hh := OptsAt.news HR7.out.1 hn0 j u hj; exact (World.cell?_alloc_lt w7 _ _ (World.block_lt_of_cell? w7 _ hh)).trans hh
    case cpd2 => unfold maxLen; omega
    case cpd3 => omega
    case cpd4 => simp
    intro v8 w8 hown8 hgrow8 hnil8
    clear hnil8
    have st8 : Below w7.heap.size w7 w8 := ((Below.refl _ w7).alloc (Nat.le_refl _) _).grown hgrow8 (by simp) (fun c hc => by cases hc; exact Nat.le_refl _)
    have HO8 := Lib.hid hown8; clear hown8 hgrow8
    have y0 : w8.cell? ⟨b, off, none⟩ = some (.int .i64 kd) := by have := cellK st8 x0; simpa using this
    have y1 : w8.cell? ⟨b, off + 1, none⟩ = some (.string dt) := by have := cellK st8 x1; simpa using this
    go_wp2_with (first | (go_at_call 11; refine (num_any _ _).mono ?_; rintro e w' ⟨rfl, rfl⟩) | (at_builtin; refine wpList_append_own _ rfl _ _ 25 rfl w7.heap.size 36 i0 _ 2 24 Try.underlying25 HI.out HZ0.out HZ1.out HZ2.out rfl (by omega) _ _ _ rfl (HO8.out.alloc _) ⟨w8.heap.size, 0, none⟩ 1 1 [.int .i64 kd, .string dt] rfl rfl ?cpe1 (by simp [Value.oneCell']) ?cpe2 ?cpe3 ?cpe4 ?_))
    case cpe1 => exact two_cells_at _ _ (by simp) _ _ _
    case cpe2 => unfold maxLen; omega
    case cpe3 => omega
    case cpe4 => have := st8.size; simp; omega
    intro v9 w9 hown9 hgrow9 hnil9
    clear hnil9
    have st9 : Below w7.heap.size w7 w9 := (st8.alloc st8.size _).grown hgrow9 (by have := st8.size; simp; omega) (fun c hc => (HO8.out.lt c hc).1)
    have hl9 : (askL a ++ [(kd, dt)]).length = n + 1 := by rw [List.length_append, hln]; rfl
    have htw : w9.ownsRow w7.heap.size 36 2 v9 (n + 1) (optCells (askL a ++ [(kd, dt)])) := by
      rw [optCells_app]
      first | exact hown9 | simpa [optCells] using hown9
    obtain ⟨A9, cap9, rfl, hres9⟩ := Res.own htw hl9 (by omega)
    have HR9 := Lib.hid hres9; clear htw hown9 hgrow9 hres9 hl9
    have hob9 := HOB7.out.keep st9
    have o90 : w9.cell? ⟨w5.heap.size, 0, none⟩ = some (.int .i64 0) := hob9.cell 0
    have o91 : w9.cell? ⟨w5.heap.size, 1, none⟩ = some (.int .i64 0) := hob9.cell 1
    have o92 : w9.cell? ⟨w5.heap.size, 2, none⟩ = some (.int .i64 0) := hob9.cell 2
    have o93 : w9.cell? ⟨w5.heap.size, 3, none⟩ = some (.bool true) := hob9.cell 3
    have o94 : w9.cell? ⟨w5.heap.size, 4, none⟩ = some (.string ⟨#[]⟩) := hob9.cell 4
    have o95 : w9.cell? ⟨w5.heap.size, 5, none⟩ = some (.int .i64 0) := hob9.cell 5
    clear hob9
    obtain ⟨jv2, jl2⟩ := judge_twice hma HX.out
    go_wp2_with (first | (go_at_call 11; refine (num_any _ _).mono ?_; rintro e w' ⟨rfl, rfl⟩))
    refine (judge_any ownR A9 (n + 1) cap9 (askL a ++ [(kd, dt)]) _ HR9.out.1 HR9.out.2.1 HR9.out.2.2.1 HR9.out.2.2.2 (twice_fits hma HX.out)).mono ?_
    rintro e w10 h10
    obtain ⟨A10, n10, cap10, rfl, hr10, hb10⟩ := judge_ok rfl h10
    clear h10
    rw [jv2]
    rw [jl2] at hr10
    have hn10 : n10 = 1 := hr10.1.1.symm
    subst hn10
    have HR10 := Lib.hid hr10; clear hr10 jv2 jl2
    have st10 := below_step st9 hb10 st9.size
    go_wp2_with (first | (go_at_call 11; refine (num_any _ _).mono ?_; rintro e w' ⟨rfl, rfl⟩))
    refine (taken_any A9 (n + 1) cap9 (askL a ++ [(kd, dt)]) _ (HR9.out.keep hb10).1 (by omega) HR9.out.2.2.2).mono ?_
    rintro e w11 ⟨hb11, rfl⟩
    rw [twice_bad HX.out, show (if (!true && mayB (setAll (askL a ++ [(kd, dt)]))) = true then #[lkV (setAll (askL a ++ [(kd, dt)])), Value.int .i64 0] else #[lkV zeroL, .int .i64 1400]) = #[.agg #[.int .i64 0, .int .i64 0, .int .i64 0, .bool false, .string ⟨#[]⟩, .int .i64 0], .int .i64 1400] from rfl]
    have st11 := below_step st10 hb11 st10.size
    have HR11 := Lib.hid (HR10.out.keep hb11)
    have hq1 : (1 : Int) ≤ (cap : Int) := by omega
    have ht1 : OptsAt w11 (some ⟨b, off, none⟩) 1 [(kd, dt)] := by
      have := (HR7.out.keep st11).1.take 1 hn0
      have e : (askL a).take 1 = [(kd, dt)] := by
        cases hl : askL a with
        | nil => rw [hl] at hln; simp at hln; omega
        | cons x xs => have h := HX.out; rw [hl] at h; simp at h; rw [h]; rfl
      rw [e] at this
      exact this
    have HT1 := Lib.hid ht1; clear ht1
    go_wp2_with (first | (go_at_call 11; refine (num_any _ _).mono ?_; rintro e w' ⟨rfl, rfl⟩))
    refine (same_any A10 (some ⟨b, off, none⟩) 1 1 cap10 _ [(kd, dt)] [(kd, dt)] _ (HR11.out.keep ((Below.refl _ _).alloc (Nat.le_refl _) _)).1 (HT1.out.keep ((Below.refl _ _).alloc (Nat.le_refl _) _)) (by omega)).mono ?_
    rintro e w12 ⟨rfl, hb12⟩
    rw [same_refl]
    have st12 := below_step (st11.alloc st11.size _) hb12 (by have := st11.size; simp; omega)
    go_wp2_with (first | (go_at_call 11; refine (num_any _ _).mono ?_; rintro e w' ⟨rfl, rfl⟩))
    go_ret
    exact ⟨rfl, below_step (below_step bel2 st7 bel2.size) st12 (by have := bel2.size; have := st7.size; omega)⟩
  · go_wp2_with (first | (go_at_call 11; refine (num_any _ _).mono ?_; rintro e w' ⟨rfl, rfl⟩) | (at_builtin; refine wpList_append_own _ rfl _ _ 25 rfl w2.heap.size 36 i0 _ 2 24 Try.underlying25 HI.out HZ0.out HZ1.out HZ2.out rfl (by omega) _ _ _ rfl HO4.out _ (n - i) _ (optCells ((askL a).drop i)) rfl ?cqc0 ?cqc1 (optCells_one _) ?cqc2 ?cqc3 st4.size ?_))
    case cqc0 => rw [optCells_len, List.length_drop]; omega
    case cqc1 => intro j u hj; exact (by
        by_cases hd : 0 < n - i
        · exact OptsAt.news ((HR2.out.keep st4).1.drop i) hd j u hj
        · rw [List.drop_of_length_le (by omega)] at hj; cases hj)
    case cqc2 => unfold maxLen; omega
    case cqc3 => omega
    intro v5 w5 hown5 hgrow5 hnil5
    clear hnil5
    have st5 : Below w2.heap.size w2 w5 := st4.grown hgrow5 st4.size (fun c hc => (HO4.out.lt c hc).1)
    have hall : w5.ownsRow w2.heap.size 36 2 v5 (allR a (100 + k) i).length (optCells (allR a (100 + k) i)) := by
      have e1 : optCells (allR a (100 + k) i) = optCells ((askL a).take i) ++ [.int .i64 (100 + k), .string ⟨#[122, 122]⟩] ++ optCells ((askL a).drop i) := by
        unfold allR
        rw [optCells_app, optCells_app]
        rfl
      have e2 : (allR a (100 + k) i).length = i + 1 + (n - i) := by
        unfold allR
        rw [List.length_append, List.length_append, List.length_take, List.length_drop, Nat.min_eq_left (by omega)]
        show i + 1 + _ = _
        omega
      rw [e1, e2]
      first | exact hown5 | simpa using hown5
    have hl5 : (allR a (100 + k) i).length = n + 1 := by
      unfold allR
      rw [List.length_append, List.length_append, List.length_take, List.length_drop, Nat.min_eq_left (by omega)]
      show i + 1 + _ = _
      omega
    rw [hl5] at hall
    obtain ⟨A5, cap5, rfl, hres5⟩ := Res.own hall hl5 (by omega)
    have HR5 := Lib.hid hres5; clear hall hown5 hgrow5 hres5 hl5
    go_wp2_with (first | (go_at_call 11; refine (num_any _ _).mono ?_; rintro e w' ⟨rfl, rfl⟩))
    refine (judge_any ownR A5 (n + 1) cap5 (allR a (100 + k) i) _ (HR5.out.keep ((Below.refl _ _).alloc (Nat.le_refl _) _)).1 HR5.out.2.1 HR5.out.2.2.1 HR5.out.2.2.2 (all_fits hma (by omega) (by omega) i)).mono ?_
    rintro e w6 h6
    obtain ⟨A6, n6, cap6, rfl, hr6, hb6⟩ := judge_ok rfl h6
    clear h6
    obtain ⟨jv, jl⟩ := judge_all hma (show 100 ≤ 100 + k by omega) i
    rw [jv]
    rw [jl] at hr6
    have hn6' : n6 = 1 := hr6.1.1.symm
    subst hn6'
    have HR6 := Lib.hid hr6; clear hr6 jv jl
    have hob : Blk (w5.alloc (.cells (lkC ownR) 23)) w5.heap.size 23 (lkC ownR) := Blk.new _ _ _
    have hob6 := hob.keep hb6
    have HOB6 := Lib.hid hob6; clear hob hob6
    have st6 : Below w2.heap.size w2 w6 := below_step (st5.alloc st5.size _) hb6 (by have := st5.size; simp; omega)
    go_wp2_with (first | (go_at_call 11; refine (num_any _ _).mono ?_; rintro e w' ⟨rfl, rfl⟩))
    refine (same_any A6 (some ⟨w6.heap.size, 0, none⟩) 1 1 cap6 1 [(100 + k, zz)] [(100 + k, zz)] _ (HR6.out.keep ((Below.refl _ _).alloc (Nat.le_refl _) _)).1 (OptsAt.made_at w6 _ rfl _ _ _ 1 rfl rfl) (by omega)).mono ?_
    rintro e w7 ⟨rfl, hb7⟩
    rw [same_refl]
    have st7 : Below w2.heap.size w2 w7 := below_step (st6.alloc st6.size _) hb7 (by have := st6.size; simp; omega)
    have HOB7 := Lib.hid ((HOB6.out.alloc _).keep hb7)
    have HR7 := Lib.hid (HR2.out.keep st7)
    obtain ⟨b', off', kd, dt, eb, hlt7, hx0, x0, x1⟩ := HR7.out.1.at_ 0 hn0
    obtain ⟨rfl, rfl, -⟩ := Addr.mk.inj (Option.some.inj eb)
    have HX := Lib.hid hx0; clear hx0 eb
    clear hi hk hkw hci hnc hni hi00
    have hb0 : ¬ (n : Int) = 0 := by omega
    have hz0 : ((n : Int) == 0) = false := decide_eq_false hb0
    have hpos : (0 : Int) < (n : Int) := by omega
    go_wp2_with (first | (go_at_call 11; refine (num_any _ _).mono ?_; rintro e w' ⟨rfl, rfl⟩) | (at_builtin; refine wpList_append_own _ rfl _ _ 25 rfl w7.heap.size 36 i0 _ 2 24 Try.underlying25 HI.out HZ0.out HZ1.out HZ2.out rfl (by omega) _ _ _ rfl (own_zero w7) ⟨b, off, none⟩ n _ (optCells (askL a)) rfl ?cqd0 ?cqd1 (optCells_one _) ?cqd2 ?cqd3 ?cqd4 ?_))
    case cqd0 => rw [optCells_len, hln]
    case cqd1 => intro j u hj; have hh := OptsAt.news HR7.out.1 hn0 j u hj; exact (World.cell?_alloc_lt w7 _ _ (World.block_lt_of_cell? w7 _ hh)).trans hh
    case cqd2 => unfold maxLen; omega
    case cqd3 => omega
    case cqd4 => simp
    intro v8 w8 hown8 hgrow8 hnil8
    clear hnil8
    have st8 : Below w7.heap.size w7 w8 := ((Below.refl _ w7).alloc (Nat.le_refl _) _).grown hgrow8 (by simp) (fun c hc => by cases hc; exact Nat.le_refl _)
    have HO8 := Lib.hid hown8; clear hown8 hgrow8
    have y0 : w8.cell? ⟨b, off, none⟩ = some (.int .i64 kd) := by have := cellK st8 x0; simpa using this
    have y1 : w8.cell? ⟨b, off + 1, none⟩ = some (.string dt) := by have := cellK st8 x1; simpa using this
    go_wp2_with (first | (go_at_call 11; refine (num_any _ _).mono ?_; rintro e w' ⟨rfl, rfl⟩) | (at_builtin; refine wpList_append_own _ rfl _ _ 25 rfl w7.heap.size 36 i0 _ 2 24 Try.underlying25 HI.out HZ0.out HZ1.out HZ2.out rfl (by omega) _ _ _ rfl (HO8.out.alloc _) ⟨w8.heap.size, 0, none⟩ 1 1 [.int .i64 kd, .string dt] rfl rfl ?cqe1 (by simp [Value.oneCell']) ?cqe2 ?cqe3 ?cqe4 ?_))
    case cqe1 => exact two_cells_at _ _ (by simp) _ _ _
    case cqe2 => unfold maxLen; omega
    case cqe3 => omega
    case cqe4 => have := st8.size; simp; omega
    intro v9 w9 hown9 hgrow9 hnil9
    clear hnil9
    have st9 : Below w7.heap.size w7 w9 := (st8.alloc st8.size _).grown hgrow9 (by have := st8.size; simp; omega) (fun c hc => (HO8.out.lt c hc).1)
    have hl9 : (askL a ++ [(kd, dt)]).length = n + 1 := by rw [List.length_append, hln]; rfl
    have htw : w9.ownsRow w7.heap.size 36 2 v9 (n + 1) (optCells (askL a ++ [(kd, dt)])) := by
      rw [optCells_app]
      first | exact hown9 | simpa [optCells] using hown9
    obtain ⟨A9, cap9, rfl, hres9⟩ := Res.own htw hl9 (by omega)
    have HR9 := Lib.hid hres9; clear htw hown9 hgrow9 hres9 hl9
    have hob9 := HOB7.out.keep st9
    have o90 : w9.cell? ⟨w5.heap.size, 0, none⟩ = some (.int .i64 0) := hob9.cell 0
    have o91 : w9.cell? ⟨w5.heap.size, 1, none⟩ = some (.int .i64 0) := hob9.cell 1
    have o92 : w9.cell? ⟨w5.heap.size, 2, none⟩ = some (.int .i64 0) := hob9.cell 2
    have o93 : w9.cell? ⟨w5.heap.size, 3, none⟩ = some (.bool true) := hob9.cell 3
    have o94 : w9.cell? ⟨w5.heap.size, 4, none⟩ = some (.string ⟨#[]⟩) := hob9.cell 4
    have o95 : w9.cell? ⟨w5.heap.size, 5, none⟩ = some (.int .i64 0) := hob9.cell 5
    clear hob9
    obtain ⟨jv2, jl2⟩ := judge_twice hma HX.out
    go_wp2_with (first | (go_at_call 11; refine (num_any _ _).mono ?_; rintro e w' ⟨rfl, rfl⟩))
    refine (judge_any ownR A9 (n + 1) cap9 (askL a ++ [(kd, dt)]) _ HR9.out.1 HR9.out.2.1 HR9.out.2.2.1 HR9.out.2.2.2 (twice_fits hma HX.out)).mono ?_
    rintro e w10 h10
    obtain ⟨A10, n10, cap10, rfl, hr10, hb10⟩ := judge_ok rfl h10
    clear h10
    rw [jv2]
    rw [jl2] at hr10
    have hn10 : n10 = 1 := hr10.1.1.symm
    subst hn10
    have HR10 := Lib.hid hr10; clear hr10 jv2 jl2
    have st10 := below_step st9 hb10 st9.size
    go_wp2_with (first | (go_at_call 11; refine (num_any _ _).mono ?_; rintro e w' ⟨rfl, rfl⟩))
    refine (taken_any A9 (n + 1) cap9 (askL a ++ [(kd, dt)]) _ (HR9.out.keep hb10).1 (by omega) HR9.out.2.2.2).mono ?_
    rintro e w11 ⟨hb11, rfl⟩
    rw [twice_bad HX.out, show (if (!true && mayB (setAll (askL a ++ [(kd, dt)]))) = true then #[lkV (setAll (askL a ++ [(kd, dt)])), Value.int .i64 0] else #[lkV zeroL, .int .i64 1400]) = #[.agg #[.int .i64 0, .int .i64 0, .int .i64 0, .bool false, .string ⟨#[]⟩, .int .i64 0], .int .i64 1400] from rfl]
    have st11 := below_step st10 hb11 st10.size
    have HR11 := Lib.hid (HR10.out.keep hb11)
    have hq1 : (1 : Int) ≤ (cap : Int) := by omega
    have ht1 : OptsAt w11 (some ⟨b, off, none⟩) 1 [(kd, dt)] := by
      have := (HR7.out.keep st11).1.take 1 hn0
      have e : (askL a).take 1 = [(kd, dt)] := by
        cases hl : askL a with
        | nil => rw [hl] at hln; simp at hln; omega
        | cons x xs => have h := HX.out; rw [hl] at h; simp at h; rw [h]; rfl
      rw [e] at this
      exact this
    have HT1 := Lib.hid ht1; clear ht1
    go_wp2_with (first | (go_at_call 11; refine (num_any _ _).mono ?_; rintro e w' ⟨rfl, rfl⟩))
    refine (same_any A10 (some ⟨b, off, none⟩) 1 1 cap10 _ [(kd, dt)] [(kd, dt)] _ (HR11.out.keep ((Below.refl _ _).alloc (Nat.le_refl _) _)).1 (HT1.out.keep ((Below.refl _ _).alloc (Nat.le_refl _) _)) (by omega)).mono ?_
    rintro e w12 ⟨rfl, hb12⟩
    rw [same_refl]
    have st12 := below_step (st11.alloc st11.size _) hb12 (by have := st11.size; simp; omega)
    go_wp2_with (first | (go_at_call 11; refine (num_any _ _).mono ?_; rintro e w' ⟨rfl, rfl⟩))
    go_ret
    exact ⟨rfl, below_step (below_step bel2 st7 bel2.size) st12 (by have := bel2.size; have := st7.size; omega)⟩
set_option maxRecDepth 100000 in
set_option maxHeartbeats 8000000 in
theorem rejects_zero (a : Lk) (kind at_ : Int) (w : World) (hma : mayB a = true) (k : Int) (hk : bits .and .i64 kind 63 = k) (hk1 : 0 ≤ k ∧ k < 64) (he : askL a = []) : Calls Try.prog 6 #[lkV a, .int .i64 kind, .int .i64 at_] w fun e w' => e = .returned (.bool true) ∧ Below w.heap.size w w' := by
  obtain ⟨i0, hi0, hz0, hz1, hz2⟩ := info_parts info_opt2
  have HZ1 := Lib.hid hz1; have HZ2 := Lib.hid hz2; have HZ0 := Lib.hid hz0; have HI := Lib.hid hi0
  clear hz0 hz1 hz2 hi0
  have ha0 : Blk (w.alloc (.cells (lkC a) 23)) w.heap.size 23 (lkC a) := Blk.new w _ _
  have HA0 := Lib.hid ha0; clear ha0
  show Calls _ _ #[.agg #[.int .i64 a.mru, .int .i64 a.magic, .int .i64 a.mrru, .bool a.short, .string a.disc, .int .i64 a.num], _, _] _ _
  go_enter Try.func6, Try.ntmps6
  go_wp2_with fail
  refine (awake_any _).mono ?_
  rintro e w1 ⟨rfl, hb1⟩
  have bel1 : Below w.heap.size w w1 := below_step ((Below.refl _ w).alloc (Nat.le_refl _) _) hb1 (by simp)
  have ha1' : Blk w1 w.heap.size 23 (lkC a) := HA0.out.keep hb1
  have a10 : w1.cell? ⟨w.heap.size, 0, none⟩ = some (.int .i64 a.mru) := ha1'.cell 0
  have a11 : w1.cell? ⟨w.heap.size, 1, none⟩ = some (.int .i64 a.magic) := ha1'.cell 1
  have a12 : w1.cell? ⟨w.heap.size, 2, none⟩ = some (.int .i64 a.mrru) := ha1'.cell 2
  have a13 : w1.cell? ⟨w.heap.size, 3, none⟩ = some (.bool a.short) := ha1'.cell 3
  have a14 : w1.cell? ⟨w.heap.size, 4, none⟩ = some (.string a.disc) := ha1'.cell 4
  have a15 : w1.cell? ⟨w.heap.size, 5, none⟩ = some (.int .i64 a.num) := ha1'.cell 5
  clear ha1'
  go_wp2_with fail
  refine (ask_any a _).mono ?_
  rintro e w2 h2
  obtain ⟨A2, n, cap, rfl, hr2, hb2⟩ := ask_ok hma h2
  clear h2
  have bel2 := below_step bel1 hb2 bel1.size
  rw [he] at hr2
  have hn : n = 0 := hr2.1.1.symm
  subst hn
  have hkw := wrapk k hk1
  have hcn := hr2.2.2.1
  clear hr2
  cases A2 with
  | none =>
    obtain ⟨-, rfl⟩ := hcn rfl
    go_wp2_with (first | (go_at_call 11; refine (num_any _ _).mono ?_; rintro e w' ⟨rfl, rfl⟩) | (at_builtin; refine wpList_append_own _ rfl _ _ 25 rfl w2.heap.size 36 i0 _ 2 24 Try.underlying25 HI.out HZ0.out HZ1.out HZ2.out rfl (by omega) _ _ _ rfl (World.ownsRow_nil _ _ _ _) ⟨w2.heap.size, 0, none⟩ 1 1 [.int .i64 (100 + k), .string ⟨#[122, 122]⟩] rfl rfl ?za1 (by simp [Value.oneCell']) ?za2 ?za3 ?za4 ?_))
    case za1 => exact two_cells_at _ _ (by simp) _ _ _
    case za2 => unfold maxLen; omega
    case za3 => omega
    case za4 => simp
    intro v4 w4 hown4 hgrow4 hnil4
    clear hnil4
    have st4 : Below w2.heap.size w2 w4 := ((Below.refl _ w2).alloc (Nat.le_refl _) _).grown hgrow4 (by simp) (fun c hc => by cases hc)
    have hall : w4.ownsRow w2.heap.size 36 2 v4 1 (optCells (allR a (100 + k) 0)) := by
      unfold allR
      rw [he]
      first | exact hown4 | simpa [optCells, zz] using hown4
    have HALL := Lib.hid hall; clear hall hown4 hgrow4
    go_wp2_with (first | (go_at_call 11; refine (num_any _ _).mono ?_; rintro e w' ⟨rfl, rfl⟩) | (at_builtin; refine wpList_append_own_none rfl _ _ 25 rfl w2.heap.size 36 i0 2 Try.underlying25 HI.out _ _ _ rfl HALL.out rfl ?_))
    obtain ⟨A5, cap5, rfl, hres5⟩ := Res.own HALL.out (by unfold allR; rw [he]; rfl) (by omega)
    have HR5 := Lib.hid hres5; clear hres5
    go_wp2_with (first | (go_at_call 11; refine (num_any _ _).mono ?_; rintro e w' ⟨rfl, rfl⟩))
    refine (judge_any ownR A5 1 cap5 (allR a (100 + k) 0) _ (HR5.out.keep ((Below.refl _ _).alloc (Nat.le_refl _) _)).1 HR5.out.2.1 HR5.out.2.2.1 HR5.out.2.2.2 (all_fits hma (by omega) (by omega) 0)).mono ?_
    rintro e w6 h6
    obtain ⟨A6, n6, cap6, rfl, hr6, hb6⟩ := judge_ok rfl h6
    clear h6
    obtain ⟨jv, jl⟩ := judge_all hma (show 100 ≤ 100 + k by omega) 0
    rw [jv]
    rw [jl] at hr6
    have hn6' : n6 = 1 := hr6.1.1.symm
    subst hn6'
    have HR6 := Lib.hid hr6; clear hr6 jv jl
    have st6 : Below w2.heap.size w2 w6 := below_step (st4.alloc st4.size _) hb6 (by have := st4.size; simp; omega)
    go_wp2_with (first | (go_at_call 11; refine (num_any _ _).mono ?_; rintro e w' ⟨rfl, rfl⟩))
    refine (same_any A6 (some ⟨w6.heap.size, 0, none⟩) 1 1 cap6 1 [(100 + k, zz)] [(100 + k, zz)] _ (HR6.out.keep ((Below.refl _ _).alloc (Nat.le_refl _) _)).1 (OptsAt.made_at w6 _ rfl _ _ _ 1 rfl rfl) (by omega)).mono ?_
    rintro e w7 ⟨rfl, hb7⟩
    rw [same_refl]
    have st7 : Below w2.heap.size w2 w7 := below_step (st6.alloc st6.size _) hb7 (by have := st6.size; simp; omega)
    go_wp2_with (first | (go_at_call 11; refine (num_any _ _).mono ?_; rintro e w' ⟨rfl, rfl⟩))
    go_ret
    exact ⟨rfl, below_step bel2 st7 bel2.size⟩
  | some ad =>
    go_wp2_with (first | (go_at_call 11; refine (num_any _ _).mono ?_; rintro e w' ⟨rfl, rfl⟩) | (at_builtin; refine wpList_append_own _ rfl _ _ 25 rfl w2.heap.size 36 i0 _ 2 24 Try.underlying25 HI.out HZ0.out HZ1.out HZ2.out rfl (by omega) _ _ _ rfl (World.ownsRow_nil _ _ _ _) ⟨w2.heap.size, 0, none⟩ 1 1 [.int .i64 (100 + k), .string ⟨#[122, 122]⟩] rfl rfl ?zb1 (by simp [Value.oneCell']) ?zb2 ?zb3 ?zb4 ?_))
    case zb1 => exact two_cells_at _ _ (by simp) _ _ _
    case zb2 => unfold maxLen; omega
    case zb3 => omega
    case zb4 => simp
    intro v4 w4 hown4 hgrow4 hnil4
    clear hnil4
    have st4 : Below w2.heap.size w2 w4 := ((Below.refl _ w2).alloc (Nat.le_refl _) _).grown hgrow4 (by simp) (fun c hc => by cases hc)
    have hall : w4.ownsRow w2.heap.size 36 2 v4 1 (optCells (allR a (100 + k) 0)) := by
      unfold allR
      rw [he]
      first | exact hown4 | simpa [optCells, zz] using hown4
    have HALL := Lib.hid hall; clear hall hown4 hgrow4
    go_wp2_with (first | (go_at_call 11; refine (num_any _ _).mono ?_; rintro e w' ⟨rfl, rfl⟩) | (at_builtin; refine wpList_append_own _ rfl _ _ 25 rfl w2.heap.size 36 i0 _ 2 24 Try.underlying25 HI.out HZ0.out HZ1.out HZ2.out rfl (by omega) _ _ _ rfl HALL.out _ 0 _ [] rfl rfl ?zc1 (by simp) ?zc2 ?zc3 st4.size ?_))
    case zc1 => intro j u hj; cases hj
    case zc2 => unfold maxLen; omega
    case zc3 => omega
    intro v5 w5 hown5 hgrow5 hnil5
    clear hnil5
    have st5 : Below w2.heap.size w2 w5 := st4.grown hgrow5 st4.size (fun c hc => (HALL.out.lt c hc).1)
    obtain ⟨A5, cap5, rfl, hres5⟩ := Res.own (n := 1) (by first | exact hown5 | simpa using hown5) (by unfold allR; rw [he]; rfl) (by omega)
    have HR5 := Lib.hid hres5; clear hown5 hgrow5 hres5
    go_wp2_with (first | (go_at_call 11; refine (num_any _ _).mono ?_; rintro e w' ⟨rfl, rfl⟩))
    refine (judge_any ownR A5 1 cap5 (allR a (100 + k) 0) _ (HR5.out.keep ((Below.refl _ _).alloc (Nat.le_refl _) _)).1 HR5.out.2.1 HR5.out.2.2.1 HR5.out.2.2.2 (all_fits hma (by omega) (by omega) 0)).mono ?_
    rintro e w6 h6
    obtain ⟨A6, n6, cap6, rfl, hr6, hb6⟩ := judge_ok rfl h6
    clear h6
    obtain ⟨jv, jl⟩ := judge_all hma (show 100 ≤ 100 + k by omega) 0
    rw [jv]
    rw [jl] at hr6
    have hn6' : n6 = 1 := hr6.1.1.symm
    subst hn6'
    have HR6 := Lib.hid hr6; clear hr6 jv jl
    have st6 : Below w2.heap.size w2 w6 := below_step (st5.alloc st5.size _) hb6 (by have := st5.size; simp; omega)
    go_wp2_with (first | (go_at_call 11; refine (num_any _ _).mono ?_; rintro e w' ⟨rfl, rfl⟩))
    refine (same_any A6 (some ⟨w6.heap.size, 0, none⟩) 1 1 cap6 1 [(100 + k, zz)] [(100 + k, zz)] _ (HR6.out.keep ((Below.refl _ _).alloc (Nat.le_refl _) _)).1 (OptsAt.made_at w6 _ rfl _ _ _ 1 rfl rfl) (by omega)).mono ?_
    rintro e w7 ⟨rfl, hb7⟩
    rw [same_refl]
    have st7 : Below w2.heap.size w2 w7 := below_step (st6.alloc st6.size _) hb7 (by have := st6.size; simp; omega)
    go_wp2_with (first | (go_at_call 11; refine (num_any _ _).mono ?_; rintro e w' ⟨rfl, rfl⟩))
    go_ret
    exact ⟨rfl, below_step bel2 st7 bel2.size⟩
theorem rejects_idx (x : Int) (n : Nat) (h : n ≤ 6) : ∃ i : Nat, wrap64 ((IntKind.u64.wrap x).tmod ((n : Int) + 1)) = (i : Int) ∧ i ≤ n := by
  have hu : 0 ≤ IntKind.u64.wrap x := by rw [IntKind.wrap_u64]; omega
  generalize IntKind.u64.wrap x = y at hu ⊢
  have h1 : 0 ≤ y % ((n : Int) + 1) := Int.emod_nonneg _ (by omega)
  have h2 : y % ((n : Int) + 1) < (n : Int) + 1 := Int.emod_lt_of_pos _ (by omega)
  rw [Int.tmod_eq_emod_of_nonneg hu]
  refine ⟨(y % ((n : Int) + 1)).toNat, ?_, by omega⟩
  rw [IntWalk.wrap64_in _ (by omega)]
  omega
theorem rejects_walk (a : Lk) (kind at_ : Int) (k0 : (Lit.int .i64 kind).wf = true) (k1 : (Lit.int .i64 at_).wf = true) (w : World) : Calls Try.prog 6 #[lkV a, .int .i64 kind, .int .i64 at_] w fun e w' => e = .returned (.bool true) ∧ Below w.heap.size w w' := by
  cases hma : mayB a
  · exact rejects_no a kind at_ w hma
  · obtain ⟨m, hm, hm1, -⟩ := mask_nat 6 (by decide) 63 (by decide) kind
    have hn6 : (askL a).length ≤ 6 := askK_len a 6
    rcases Nat.eq_zero_or_pos (askL a).length with h0 | h0
    · exact rejects_zero a kind at_ w hma m hm (by omega) (List.eq_nil_of_length_eq_zero h0)
    · obtain ⟨i, hi, hin⟩ := rejects_idx at_ (askL a).length hn6
      exact rejects_yes a kind at_ w hma m hm (by omega) i hi hin hn6 h0
end Go.Proofs.Ytjmcgekegenobaa
