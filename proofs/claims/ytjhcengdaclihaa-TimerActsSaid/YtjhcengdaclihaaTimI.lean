/- The reference's Set. No condition. -/
import Derived.Test.YtjhcengdaclihaaTimH
namespace Go.Proofs.Ytjhcengdaclihaa
open Go.RowKit
set_option linter.unusedVariables false
set_option linter.unusedSimpArgs false
open Go.Maps
theorem RsR.refl {r : Nat} {u : Value} {S : List Tm} {w : World} (h : RA w r u S) : RsR r S w w := ⟨u, h, ⟨rfl, rfl, rfl, Nat.le_refl _, fun _ _ _ => rfl⟩⟩
theorem RsR.trans {r : Nat} {S' : List Tm} {w0 w w' : World} (hg : w0.grownBy w (some r)) (h : RsR r S' w w') : RsR r S' w0 w' := by
  obtain ⟨u', h1, h2⟩ := h
  exact ⟨u', h1, hg.trans' h2⟩
/-- What the copying loop has made of the first k. -/
def InR2 (t : Tm) (S : List Tm) (w1 : World) (k : Nat) (b : Bool) (u : Value) (w : World) (L : List Tm) : Prop :=
  w.ownsRow w1.heap.size 44 2 u L.length (tmC L) ∧ Below w1.heap.size w1 w ∧ L.length = k + (if b = true then 1 else 0) ∧ L ++ (if b = true then S.drop k else insT t (S.drop k)) = insT t S
theorem InR2.add {t : Tm} {S : List Tm} {w1 : World} {k : Nat} {b : Bool} {u u' : Value} {w w' wa : World} {L : List Tm} {y : Tm} (h : InR2 t S w1 k b u w L) (ha : Below w.heap.size w wa) (hg : wa.grownBy w' u.ownBlock) (hown : w'.ownsRow w1.heap.size 44 2 u' (L.length + 1) (tmC L ++ [.int .i64 y.1, .int .i64 y.2])) :
    w'.ownsRow w1.heap.size 44 2 u' (L ++ [y]).length (tmC (L ++ [y])) ∧ Below w1.heap.size w1 w' := by
  obtain ⟨h1, h2, h3, h4⟩ := h
  have e1 : (L ++ [y]).length = L.length + 1 := by simp
  have e2 : tmC (L ++ [y]) = tmC L ++ [.int .i64 y.1, .int .i64 y.2] := by rw [tmC_app]; rfl
  rw [e1, e2]
  refine ⟨hown, Below.growOwn (h2.trans (ha.mono h2.size)) (fun q e => (own_lt h1 q e).1) hg⟩
theorem drop_at {S : List Tm} {k : Nat} {x : Tm} (hx : S[k]? = some x) : S.drop k = x :: S.drop (k + 1) := by
  have hk := (List.getElem?_eq_some_iff.1 hx).1
  rw [List.drop_eq_getElem_cons hk, (List.getElem?_eq_some_iff.1 hx).2]
theorem InR2.eqs {t x : Tm} {S L : List Tm} {k : Nat} {b : Bool} (h : L ++ (if b = true then S.drop k else insT t (S.drop k)) = insT t S) (hx : S[k]? = some x) :
    (b = true → (L ++ [x]) ++ (if true = true then S.drop (k + 1) else insT t (S.drop (k + 1))) = insT t S) ∧ (b = false → lt t x = true → ((L ++ [t]) ++ [x]) ++ (if true = true then S.drop (k + 1) else insT t (S.drop (k + 1))) = insT t S) ∧ (b = false → lt t x = false → (L ++ [x]) ++ (if false = true then S.drop (k + 1) else insT t (S.drop (k + 1))) = insT t S) := by
  rw [drop_at hx] at h
  refine ⟨fun e => ?_, fun e e2 => ?_, fun e e2 => ?_⟩
  · subst e
    simpa using h
  · subst e
    have e3 : insT t (x :: S.drop (k + 1)) = t :: x :: S.drop (k + 1) := by show (if lt t x = true then _ else _) = _; rw [if_pos e2]
    simp only [Bool.false_eq_true, if_false, e3] at h
    simpa using h
  · subst e
    have e3 : insT t (x :: S.drop (k + 1)) = x :: insT t (S.drop (k + 1)) := by show (if lt t x = true then _ else _) = _; rw [if_neg (by rw [e2]; decide)]
    simp only [Bool.false_eq_true, if_false, e3] at h
    simpa using h
theorem row_add {w0 w w' : World} {u u' : Value} {L : List Tm} {y : Tm} {o : Obj} {n : Nat} (hb : Below w0.heap.size w0 w) (ho : w.ownsRow w0.heap.size 44 2 u n (tmC L)) (hg : (w.alloc o).grownBy w' u.ownBlock) (hown : w'.ownsRow w0.heap.size 44 2 u' (n + 1) (tmC L ++ [.int .i64 y.1, .int .i64 y.2])) :
    w'.ownsRow w0.heap.size 44 2 u' (L ++ [y]).length (tmC (L ++ [y])) ∧ Below w0.heap.size w0 w' := by
  have hn := ho.1
  rw [tmC_len] at hn
  have e1 : (L ++ [y]).length = n + 1 := by simp; omega
  have e2 : tmC (L ++ [y]) = tmC L ++ [.int .i64 y.1, .int .i64 y.2] := by rw [tmC_app]; rfl
  rw [e1, e2]
  exact ⟨hown, Below.growOwn (hb.alloc hb.size _) (fun q e => (own_lt ho q e).1) hg⟩
theorem rset_bad (r : Nat) (S : List Tm) (id at_ : Int) (w : World) (hb : id < 0 ∨ at_ < 0) : Calls Try.prog 11 #[.pointer (some ⟨r, 0, none⟩), .int .i64 id, .int .i64 at_] w fun e w' => e = .returned (.int .i64 1100) ∧ w = w' := by
  by_cases hid : id < 0
  · clear hb
    go_enter Try.func11, Try.ntmps11
    go_wp2
    go_ret
    exact ⟨rfl, rfl⟩
  · have hat : at_ < 0 := by omega
    clear hb
    go_enter Try.func11, Try.ntmps11
    go_wp2
    go_ret
    exact ⟨rfl, rfl⟩
set_option maxRecDepth 100000 in
theorem rset_full (r : Nat) (u : Value) (S : List Tm) (id at_ : Int) (w : World) (h : RA w r u S) (hl : S.length ≤ 256) (h1 : ¬ id < 0) (h2 : ¬ at_ < 0) (hn : hasT id S = false) (hf : 256 ≤ S.length) : Calls Try.prog 11 #[.pointer (some ⟨r, 0, none⟩), .int .i64 id, .int .i64 at_] w fun e w' => e = .returned (.int .i64 1102) ∧ w = w' := by
  obtain ⟨A, cap, hv⟩ := own_form h.row
  have c0 : w.cell? ⟨r, 0, none⟩ = some (.slice A S.length cap) := by rw [← hv]; exact h.blk.cell 0
  have hf2 : (256 : Int) ≤ (S.length : Int) := by omega
  have H := Lib.hid h
  have HL := Lib.hid hl
  clear h hl hv hf
  go_enter Try.func11, Try.ntmps11
  go_wp2_with fail
  refine (place_any r u S id w H.out HL.out).mono ?_
  rintro e w' ⟨rfl, rfl⟩
  rw [place_no hn 0]
  go_wp2_with fail
  go_ret
  exact ⟨rfl, rfl⟩
set_option maxHeartbeats 4000000 in
set_option maxRecDepth 100000 in
theorem rset_ok (r : Nat) (u : Value) (S : List Tm) (id at_ : Int) (w : World) (h : RA w r u S) (hl : S.length ≤ 256) (hi : Ids S) (h1 : ¬ id < 0) (h2 : ¬ at_ < 0) (hn : hasT id S = true ∨ S.length < 256) : Calls Try.prog 11 #[.pointer (some ⟨r, 0, none⟩), .int .i64 id, .int .i64 at_] w fun e w' => e = .returned (.int .i64 0) ∧ RsR r (setT id at_ S) w w' := by
  obtain ⟨i0, hi0, hz0, hz1, hz2⟩ := info_parts info_rt
  have HZ1 := Lib.hid hz1; have HZ2 := Lib.hid hz2; have HZ0 := Lib.hid hz0; have HI := Lib.hid hi0
  clear hz0 hz1 hz2 hi0
  have H := Lib.hid h
  have HL := Lib.hid hl
  have HID := Lib.hid hi
  cases hh : hasT id S with
  | true =>
    obtain ⟨j, x0, hp, -, -⟩ := place_yes hh 0
    rw [Nat.zero_add] at hp
    have HH := Lib.hid hh
    have hp0 : ¬ (j : Int) < 0 := by omega
    clear h hl hi hh hn
    go_enter Try.func11, Try.ntmps11
    go_wp2_with fail
    refine (place_any r u S id w H.out HL.out).mono ?_
    rintro e w' ⟨rfl, rfl⟩
    rw [hp]
    clear hp
    go_wp2_with fail
    refine (rstop_ok r u S id w H.out HL.out HID.out HH.out).mono ?_
    rintro e w1 ⟨rfl, u1, hr1, hg1⟩
    have H1 := Lib.hid hr1
    have G1 := Lib.hid hg1
    have HL1 := Lib.hid (show (stopT id S).length ≤ 256 from Nat.le_trans (List.length_filter_le _ _) HL.out)
    have EQ := Lib.hid (show insT (id, at_) (stopT id S) = setT id at_ S from rfl)
    clear hr1 hg1
    generalize stopT id S = S1 at *
    go_wp2_with fail
    obtain ⟨A1, cap1, hv1⟩ := own_form H1.out.row
    have c01 : w1.cell? ⟨r, 0, none⟩ = some (.slice A1 S1.length cap1) := by rw [← hv1]; exact H1.out.blk.cell 0
    have HC := Lib.hid c01
    clear hv1 c01
    go_loopw [7, 8, 9] (fun v d i wr => ∃ (k : Nat) (b : Bool) (L : List Tm), i = .int .i64 k ∧ d = .bool b ∧ k ≤ S1.length ∧ InR2 (id, at_) S1 w1 k b v wr L) (fun _ _ i _ => S1.length - (intOf i).toNat)
    case atStart => exact ⟨0, false, [], rfl, rfl, by omega, World.ownsRow_nil _ _ _ _, Below.refl _ _, by simp, rfl⟩
    case round =>
      obtain ⟨k, b, L, rfl, rfl, hk, hr⟩ := hrel
      obtain ⟨uA, ucap, hu⟩ := own_form hr.1
      subst hu
      have R := Lib.hid hr
      have HO := Lib.hid hr.1
      have HB := Lib.hid hr.2.1
      have HLL := Lib.hid hr.2.2.1
      have HBX := Lib.hid (show ∀ o o', Below wr.heap.size wr ((wr.alloc o).alloc o') from fun o o' => ((Below.refl _ _).alloc (Nat.le_refl _) _).alloc (by simp) _)
      clear hr
      by_cases hlt : k < S1.length
      · obtain ⟨x, hx⟩ : ∃ x, S1[k]? = some x := ⟨_, List.getElem?_eq_getElem hlt⟩
        obtain ⟨bb, cap2, hu1, c1, -, hbl, x0, x1⟩ := H1.out.at_ hx
        have c1 := (HB.out.cell (p := ⟨r, 0, none⟩) H1.out.blk.lt).trans c1
        have x0 := (HB.out.cell (p := ⟨bb, k * 2, none⟩) hbl).trans x0
        have x1 := (HB.out.cell (p := ⟨bb, k * 2 + 1, none⟩) hbl).trans x1
        have y1 : (k : Int) < (S1.length : Int) := by omega
        have Q := Lib.hid (InR2.eqs R.out.2.2.2 hx)
        have HK := Lib.hid hlt
        have HW := Lib.hid (show wrap64 ((k : Int) + 1) = (k : Int) + 1 from by have := HL1.out; exact wrap_in (by omega) (by omega))
        clear hk hlt hbl hu1 hx
        cases b with
        | true =>
          go_wp2_with (at_builtin; refine wpList_append_lies _ rfl _ _ 26 rfl w1.heap.size 44 i0 _ 2 16 Try.underlying26 HI.out HZ0.out HZ1.out HZ2.out rfl (by omega) (.slice uA L.length ucap) L.length (tmC L) rfl ((HO.out.alloc _).alloc _) ⟨wr.heap.size + 1, 0, none⟩ 1 1 [.int .i64 x.1, .int .i64 x.2] rfl rfl (World.news_of_block (cs := #[.int .i64 x.1, .int .i64 x.2]) (t := 44) (fr := (0, 0)) (two_new wr _ _)) (by simp [Value.oneCell']) (by omega) ?c1 ?c2 ?c3 _ rfl ?_)
          case c1 => have h1 := HL1.out; have h2 := HLL.out; have h3 := HK.out; simp at h2; unfold maxLen; omega
          case c2 => have h1 := HL1.out; have h2 := HLL.out; have h3 := HK.out; simp at h2; omega
          case c3 => have := HB.out.size; simp; omega
          intro g1 capn w3 hown hgrow hat hlt3
          have ADD := Lib.hid (R.out.add (y := x) (HBX.out _ _) hgrow hown)
          clear hown hgrow hat hlt3 c1 x0 x1
          have hw := HW.out
          go_wp2_with fail
          go_roundw
          case rel => exact ⟨k + 1, true, L ++ [x], by first | (clear hw; go_num) | (rw [hw]; rfl), rfl, HK.out, ADD.out.1, ADD.out.2, by have h2 := HLL.out; clear hw; simp at h2 ⊢; omega, Q.out.1 (by first | trivial | rfl)⟩
          case measure =>
            first
              | (have := HK.out; clear hw; simp [intOf]; omega)
              | (show S1.length - (intOf (.int .i64 (wrap64 ((k : Int) + 1)))).toNat < S1.length - (intOf (.int .i64 (k : Int))).toNat; rw [hw]; clear hw; have := HK.out; show S1.length - ((k : Int) + 1).toNat < S1.length - (k : Int).toNat; omega)
        | false =>
          cases hp : decide (at_ < x.2) with
          | true =>
            have LT := Lib.hid (show lt (id, at_) x = true from by unfold lt; simp [hp])
            go_wp2_with (at_builtin; refine wpList_append_lies _ rfl _ _ 26 rfl w1.heap.size 44 i0 _ 2 16 Try.underlying26 HI.out HZ0.out HZ1.out HZ2.out rfl (by omega) (.slice uA L.length ucap) L.length (tmC L) rfl ((HO.out.alloc _).alloc _) ⟨wr.heap.size + 1, 0, none⟩ 1 1 [.int .i64 id, .int .i64 at_] rfl rfl (World.news_of_block (cs := #[.int .i64 id, .int .i64 at_]) (t := 44) (fr := (0, 0)) (two_new wr _ _)) (by simp [Value.oneCell']) (by omega) ?c1 ?c2 ?c3 _ rfl ?_)
            case c1 => have h1 := HL1.out; have h2 := HLL.out; have h3 := HK.out; simp at h2; unfold maxLen; omega
            case c2 => have h1 := HL1.out; have h2 := HLL.out; have h3 := HK.out; simp at h2; omega
            case c3 => have := HB.out.size; simp; omega
            intro g1 capn w3 hown hgrow hat hlt3
            have ADD := Lib.hid (R.out.add (y := (id, at_)) (HBX.out _ _) hgrow hown)
            have hbx : Blk w3 wr.heap.size 44 #[.int .i64 x.1, .int .i64 x.2] := ((Blk.new wr _ _).alloc _).grown hgrow (fun e => by have h1 := (own_lt HO.out _ e.symm).2; omega)
            have b0 : w3.cell? ⟨wr.heap.size, 0, none⟩ = some (.int .i64 x.1) := hbx.cell 0
            have b1 : w3.cell? ⟨wr.heap.size, 1, none⟩ = some (.int .i64 x.2) := hbx.cell 1
            have hown3 := ADD.out.1
            have e3 : (L ++ [(id, at_)]).length = L.length + 1 := by simp
            rw [e3] at hown3
            have HO3 := Lib.hid hown3
            clear hown hgrow hat hlt3 c1 x0 x1 hbx hown3 e3
            go_wp2_with (at_builtin; refine wpList_append_lies _ rfl _ _ 26 rfl w1.heap.size 44 i0 _ 2 16 Try.underlying26 HI.out HZ0.out HZ1.out HZ2.out rfl (by omega) (.slice (some ⟨g1, 0, none⟩) (L.length + 1) capn) (L.length + 1) (tmC (L ++ [(id, at_)])) rfl (HO3.out.alloc _) ⟨w3.heap.size, 0, none⟩ 1 1 [.int .i64 x.1, .int .i64 x.2] rfl rfl (World.news_of_block (cs := #[.int .i64 x.1, .int .i64 x.2]) (t := 44) (fr := (0, 0)) (heap_alloc_new w3 _)) (by simp [Value.oneCell']) (by omega) ?c1 ?c2 ?c3 _ rfl ?_)
            case c1 => have h1 := HL1.out; have h2 := HLL.out; have h3 := HK.out; simp at h2; unfold maxLen; omega
            case c2 => have h1 := HL1.out; have h2 := HLL.out; have h3 := HK.out; simp at h2; omega
            case c3 => have := ADD.out.2.size; simp; omega
            intro g2 capm w4 hown hgrow hat hlt3
            have ADD2 := Lib.hid (row_add ADD.out.2 HO3.out hgrow hown)
            clear hown hgrow hat hlt3 b0 b1
            have hw := HW.out
            go_wp2_with fail
            go_roundw
            case rel => exact ⟨k + 1, true, (L ++ [(id, at_)]) ++ [x], by first | (clear hw; go_num) | (rw [hw]; rfl), rfl, HK.out, ADD2.out.1, ADD2.out.2, by have h2 := HLL.out; clear hw; simp at h2 ⊢; omega, Q.out.2.1 (by first | trivial | rfl) LT.out⟩
            case measure =>
              first
                | (have := HK.out; clear hw; simp [intOf]; omega)
                | (show S1.length - (intOf (.int .i64 (wrap64 ((k : Int) + 1)))).toNat < S1.length - (intOf (.int .i64 (k : Int))).toNat; rw [hw]; clear hw; have := HK.out; show S1.length - ((k : Int) + 1).toNat < S1.length - (k : Int).toNat; omega)
          | false =>
            cases hq : (at_ == x.2) with
            | true =>
              cases hs : decide (id < x.1) with
              | true =>
                have LT := Lib.hid (show lt (id, at_) x = true from by unfold lt; simp [hq, hs])
                go_wp2_with (at_builtin; refine wpList_append_lies _ rfl _ _ 26 rfl w1.heap.size 44 i0 _ 2 16 Try.underlying26 HI.out HZ0.out HZ1.out HZ2.out rfl (by omega) (.slice uA L.length ucap) L.length (tmC L) rfl ((HO.out.alloc _).alloc _) ⟨wr.heap.size + 1, 0, none⟩ 1 1 [.int .i64 id, .int .i64 at_] rfl rfl (World.news_of_block (cs := #[.int .i64 id, .int .i64 at_]) (t := 44) (fr := (0, 0)) (two_new wr _ _)) (by simp [Value.oneCell']) (by omega) ?c1 ?c2 ?c3 _ rfl ?_)
                case c1 => have h1 := HL1.out; have h2 := HLL.out; have h3 := HK.out; simp at h2; unfold maxLen; omega
                case c2 => have h1 := HL1.out; have h2 := HLL.out; have h3 := HK.out; simp at h2; omega
                case c3 => have := HB.out.size; simp; omega
                intro g1 capn w3 hown hgrow hat hlt3
                have ADD := Lib.hid (R.out.add (y := (id, at_)) (HBX.out _ _) hgrow hown)
                have hbx : Blk w3 wr.heap.size 44 #[.int .i64 x.1, .int .i64 x.2] := ((Blk.new wr _ _).alloc _).grown hgrow (fun e => by have h1 := (own_lt HO.out _ e.symm).2; omega)
                have b0 : w3.cell? ⟨wr.heap.size, 0, none⟩ = some (.int .i64 x.1) := hbx.cell 0
                have b1 : w3.cell? ⟨wr.heap.size, 1, none⟩ = some (.int .i64 x.2) := hbx.cell 1
                have hown3 := ADD.out.1
                have e3 : (L ++ [(id, at_)]).length = L.length + 1 := by simp
                rw [e3] at hown3
                have HO3 := Lib.hid hown3
                clear hown hgrow hat hlt3 c1 x0 x1 hbx hown3 e3
                go_wp2_with (at_builtin; refine wpList_append_lies _ rfl _ _ 26 rfl w1.heap.size 44 i0 _ 2 16 Try.underlying26 HI.out HZ0.out HZ1.out HZ2.out rfl (by omega) (.slice (some ⟨g1, 0, none⟩) (L.length + 1) capn) (L.length + 1) (tmC (L ++ [(id, at_)])) rfl (HO3.out.alloc _) ⟨w3.heap.size, 0, none⟩ 1 1 [.int .i64 x.1, .int .i64 x.2] rfl rfl (World.news_of_block (cs := #[.int .i64 x.1, .int .i64 x.2]) (t := 44) (fr := (0, 0)) (heap_alloc_new w3 _)) (by simp [Value.oneCell']) (by omega) ?c1 ?c2 ?c3 _ rfl ?_)
                case c1 => have h1 := HL1.out; have h2 := HLL.out; have h3 := HK.out; simp at h2; unfold maxLen; omega
                case c2 => have h1 := HL1.out; have h2 := HLL.out; have h3 := HK.out; simp at h2; omega
                case c3 => have := ADD.out.2.size; simp; omega
                intro g2 capm w4 hown hgrow hat hlt3
                have ADD2 := Lib.hid (row_add ADD.out.2 HO3.out hgrow hown)
                clear hown hgrow hat hlt3 b0 b1
                have hw := HW.out
                go_wp2_with fail
                go_roundw
                case rel => exact ⟨k + 1, true, (L ++ [(id, at_)]) ++ [x], by first | (clear hw; go_num) | (rw [hw]; rfl), rfl, HK.out, ADD2.out.1, ADD2.out.2, by have h2 := HLL.out; clear hw; simp at h2 ⊢; omega, Q.out.2.1 (by first | trivial | rfl) LT.out⟩
                case measure =>
                  first
                    | (have := HK.out; clear hw; simp [intOf]; omega)
                    | (show S1.length - (intOf (.int .i64 (wrap64 ((k : Int) + 1)))).toNat < S1.length - (intOf (.int .i64 (k : Int))).toNat; rw [hw]; clear hw; have := HK.out; show S1.length - ((k : Int) + 1).toNat < S1.length - (k : Int).toNat; omega)
              | false =>
                have LT := Lib.hid (show lt (id, at_) x = false from by unfold lt; simp [hp, hs])
                go_wp2_with (at_builtin; refine wpList_append_lies _ rfl _ _ 26 rfl w1.heap.size 44 i0 _ 2 16 Try.underlying26 HI.out HZ0.out HZ1.out HZ2.out rfl (by omega) (.slice uA L.length ucap) L.length (tmC L) rfl ((HO.out.alloc _).alloc _) ⟨wr.heap.size + 1, 0, none⟩ 1 1 [.int .i64 x.1, .int .i64 x.2] rfl rfl (World.news_of_block (cs := #[.int .i64 x.1, .int .i64 x.2]) (t := 44) (fr := (0, 0)) (two_new wr _ _)) (by simp [Value.oneCell']) (by omega) ?c1 ?c2 ?c3 _ rfl ?_)
                case c1 => have h1 := HL1.out; have h2 := HLL.out; have h3 := HK.out; simp at h2; unfold maxLen; omega
                case c2 => have h1 := HL1.out; have h2 := HLL.out; have h3 := HK.out; simp at h2; omega
                case c3 => have := HB.out.size; simp; omega
                intro g1 capn w3 hown hgrow hat hlt3
                have ADD := Lib.hid (R.out.add (y := x) (HBX.out _ _) hgrow hown)
                clear hown hgrow hat hlt3 c1 x0 x1
                have hw := HW.out
                go_wp2_with fail
                go_roundw
                case rel => exact ⟨k + 1, false, L ++ [x], by first | (clear hw; go_num) | (rw [hw]; rfl), rfl, HK.out, ADD.out.1, ADD.out.2, by have h2 := HLL.out; clear hw; simp at h2 ⊢; omega, Q.out.2.2 (by first | trivial | rfl) LT.out⟩
                case measure =>
                  first
                    | (have := HK.out; clear hw; simp [intOf]; omega)
                    | (show S1.length - (intOf (.int .i64 (wrap64 ((k : Int) + 1)))).toNat < S1.length - (intOf (.int .i64 (k : Int))).toNat; rw [hw]; clear hw; have := HK.out; show S1.length - ((k : Int) + 1).toNat < S1.length - (k : Int).toNat; omega)
            | false =>
              have LT := Lib.hid (show lt (id, at_) x = false from by unfold lt; simp [hp, hq])
              go_wp2_with (at_builtin; refine wpList_append_lies _ rfl _ _ 26 rfl w1.heap.size 44 i0 _ 2 16 Try.underlying26 HI.out HZ0.out HZ1.out HZ2.out rfl (by omega) (.slice uA L.length ucap) L.length (tmC L) rfl ((HO.out.alloc _).alloc _) ⟨wr.heap.size + 1, 0, none⟩ 1 1 [.int .i64 x.1, .int .i64 x.2] rfl rfl (World.news_of_block (cs := #[.int .i64 x.1, .int .i64 x.2]) (t := 44) (fr := (0, 0)) (two_new wr _ _)) (by simp [Value.oneCell']) (by omega) ?c1 ?c2 ?c3 _ rfl ?_)
              case c1 => have h1 := HL1.out; have h2 := HLL.out; have h3 := HK.out; simp at h2; unfold maxLen; omega
              case c2 => have h1 := HL1.out; have h2 := HLL.out; have h3 := HK.out; simp at h2; omega
              case c3 => have := HB.out.size; simp; omega
              intro g1 capn w3 hown hgrow hat hlt3
              have ADD := Lib.hid (R.out.add (y := x) (HBX.out _ _) hgrow hown)
              clear hown hgrow hat hlt3 c1 x0 x1
              have hw := HW.out
              go_wp2_with fail
              go_roundw
              case rel => exact ⟨k + 1, false, L ++ [x], by first | (clear hw; go_num) | (rw [hw]; rfl), rfl, HK.out, ADD.out.1, ADD.out.2, by have h2 := HLL.out; clear hw; simp at h2 ⊢; omega, Q.out.2.2 (by first | trivial | rfl) LT.out⟩
              case measure =>
                first
                  | (have := HK.out; clear hw; simp [intOf]; omega)
                  | (show S1.length - (intOf (.int .i64 (wrap64 ((k : Int) + 1)))).toNat < S1.length - (intOf (.int .i64 (k : Int))).toNat; rw [hw]; clear hw; have := HK.out; show S1.length - ((k : Int) + 1).toNat < S1.length - (k : Int).toNat; omega)
      · have hk2 : k = S1.length := by omega
        have c1 := (HB.out.cell (p := ⟨r, 0, none⟩) H1.out.blk.lt).trans HC.out
        have y1 : ¬ (k : Int) < (S1.length : Int) := by omega
        have HE := Lib.hid (show L ++ (if b = true then S1.drop k else insT (id, at_) (S1.drop k)) = insT (id, at_) S1 from R.out.2.2.2)
        have HD0 := Lib.hid (show S1.drop k = [] from List.drop_eq_nil_of_le (by omega))
        have HKL := Lib.hid hk
        clear hk hlt
        cases b with
        | true =>
          have e : L = insT (id, at_) S1 := by have h := HE.out; rw [HD0.out] at h; simpa using h
          have FIN := Lib.hid (RsR.trans G1.out (H1.out.fin2 HB.out HO.out (S' := setT id at_ S) (by rw [e, EQ.out])))
          have fr := (H1.out.blk.keep HB.out).frozen 0
          clear e
          go_wp2_with fail
          go_ret
          exact ⟨rfl, FIN.out⟩
        | false =>
          have e : L ++ [(id, at_)] = insT (id, at_) S1 := by have h := HE.out; rw [HD0.out] at h; simpa [insT] using h
          have E := Lib.hid e
          clear e hk2
          go_wp2_with (at_builtin; refine wpList_append_lies _ rfl _ _ 26 rfl w1.heap.size 44 i0 _ 2 16 Try.underlying26 HI.out HZ0.out HZ1.out HZ2.out rfl (by omega) (.slice uA L.length ucap) L.length (tmC L) rfl (HO.out.alloc _) ⟨wr.heap.size, 0, none⟩ 1 1 [.int .i64 id, .int .i64 at_] rfl rfl (World.news_of_block (cs := #[.int .i64 id, .int .i64 at_]) (t := 44) (fr := (0, 0)) (heap_alloc_new wr _)) (by simp [Value.oneCell']) (by omega) ?c1 ?c2 ?c3 _ rfl ?_)
          case c1 => have h1 := HL1.out; have h2 := HLL.out; have h3 := HKL.out; simp at h2; unfold maxLen; omega
          case c2 => have h1 := HL1.out; have h2 := HLL.out; have h3 := HKL.out; simp at h2; omega
          case c3 => have := HB.out.size; simp; omega
          intro g1 capn w3 hown hgrow hat hlt3
          have hb3 : Below wr.heap.size wr (wr.alloc (.cells #[.int .i64 id, .int .i64 at_] 44)) := (Below.refl _ _).alloc (Nat.le_refl _) _
          obtain ⟨a1, a2⟩ := R.out.add (y := (id, at_)) hb3 hgrow hown
          have FIN := Lib.hid (RsR.trans G1.out (H1.out.fin2 a2 a1 (S' := setT id at_ S) (by rw [E.out, EQ.out])))
          have c3 := (a2.cell (p := ⟨r, 0, none⟩) H1.out.blk.lt).trans HC.out
          have fr := (H1.out.blk.keep a2).frozen 0
          clear a1 a2 hown hgrow hat hlt3 hb3 c1
          go_wp2_with fail
          go_ret
          exact ⟨rfl, FIN.out⟩
  | false =>
    have hlt : S.length < 256 := by
      rcases hn with e | e
      · rw [hh] at e; cases e
      · exact e
    have EQ := Lib.hid (show insT (id, at_) S = setT id at_ S from by unfold setT; rw [stop_none hh])
    obtain ⟨A0, cap0, hv0⟩ := own_form h.row
    have c00 : w.cell? ⟨r, 0, none⟩ = some (.slice A0 S.length cap0) := by rw [← hv0]; exact h.blk.cell 0
    have hlt2 : ¬ (256 : Int) ≤ (S.length : Int) := by omega
    have HH := Lib.hid hh
    clear h hl hi hh hn hv0 hlt
    go_enter Try.func11, Try.ntmps11
    go_wp2_with fail
    refine (place_any r u S id w H.out HL.out).mono ?_
    rintro e w' ⟨rfl, rfl⟩
    rw [place_no HH.out 0]
    go_wp2_with fail
    have H1 := H
    have G1 := Lib.hid (show w.grownBy w (some r) from ⟨rfl, rfl, rfl, Nat.le_refl _, fun _ _ _ => rfl⟩)
    have HL1 := HL
    clear c00 hlt2
    obtain ⟨A1, cap1, hv1⟩ := own_form H1.out.row
    have c01 : w.cell? ⟨r, 0, none⟩ = some (.slice A1 S.length cap1) := by rw [← hv1]; exact H1.out.blk.cell 0
    have HC := Lib.hid c01
    clear hv1 c01
    go_loopw [7, 8, 9] (fun v d i wr => ∃ (k : Nat) (b : Bool) (L : List Tm), i = .int .i64 k ∧ d = .bool b ∧ k ≤ S.length ∧ InR2 (id, at_) S w k b v wr L) (fun _ _ i _ => S.length - (intOf i).toNat)
    case atStart => exact ⟨0, false, [], rfl, rfl, by omega, World.ownsRow_nil _ _ _ _, Below.refl _ _, by simp, rfl⟩
    case round =>
      obtain ⟨k, b, L, rfl, rfl, hk, hr⟩ := hrel
      obtain ⟨uA, ucap, hu⟩ := own_form hr.1
      subst hu
      have R := Lib.hid hr
      have HO := Lib.hid hr.1
      have HB := Lib.hid hr.2.1
      have HLL := Lib.hid hr.2.2.1
      have HBX := Lib.hid (show ∀ o o', Below wr.heap.size wr ((wr.alloc o).alloc o') from fun o o' => ((Below.refl _ _).alloc (Nat.le_refl _) _).alloc (by simp) _)
      clear hr
      by_cases hlt : k < S.length
      · obtain ⟨x, hx⟩ : ∃ x, S[k]? = some x := ⟨_, List.getElem?_eq_getElem hlt⟩
        obtain ⟨bb, cap2, hu1, c1, -, hbl, x0, x1⟩ := H1.out.at_ hx
        have c1 := (HB.out.cell (p := ⟨r, 0, none⟩) H1.out.blk.lt).trans c1
        have x0 := (HB.out.cell (p := ⟨bb, k * 2, none⟩) hbl).trans x0
        have x1 := (HB.out.cell (p := ⟨bb, k * 2 + 1, none⟩) hbl).trans x1
        have y1 : (k : Int) < (S.length : Int) := by omega
        have Q := Lib.hid (InR2.eqs R.out.2.2.2 hx)
        have HK := Lib.hid hlt
        have HW := Lib.hid (show wrap64 ((k : Int) + 1) = (k : Int) + 1 from by have := HL1.out; exact wrap_in (by omega) (by omega))
        clear hk hlt hbl hu1 hx
        cases b with
        | true =>
          go_wp2_with (at_builtin; refine wpList_append_lies _ rfl _ _ 26 rfl w.heap.size 44 i0 _ 2 16 Try.underlying26 HI.out HZ0.out HZ1.out HZ2.out rfl (by omega) (.slice uA L.length ucap) L.length (tmC L) rfl ((HO.out.alloc _).alloc _) ⟨wr.heap.size + 1, 0, none⟩ 1 1 [.int .i64 x.1, .int .i64 x.2] rfl rfl (World.news_of_block (cs := #[.int .i64 x.1, .int .i64 x.2]) (t := 44) (fr := (0, 0)) (two_new wr _ _)) (by simp [Value.oneCell']) (by omega) ?c1 ?c2 ?c3 _ rfl ?_)
          case c1 => have h1 := HL1.out; have h2 := HLL.out; have h3 := HK.out; simp at h2; unfold maxLen; omega
          case c2 => have h1 := HL1.out; have h2 := HLL.out; have h3 := HK.out; simp at h2; omega
          case c3 => have := HB.out.size; simp; omega
          intro g1 capn w3 hown hgrow hat hlt3
          have ADD := Lib.hid (R.out.add (y := x) (HBX.out _ _) hgrow hown)
          clear hown hgrow hat hlt3 c1 x0 x1
          have hw := HW.out
          go_wp2_with fail
          go_roundw
          case rel => exact ⟨k + 1, true, L ++ [x], by first | (clear hw; go_num) | (rw [hw]; rfl), rfl, HK.out, ADD.out.1, ADD.out.2, by have h2 := HLL.out; clear hw; simp at h2 ⊢; omega, Q.out.1 (by first | trivial | rfl)⟩
          case measure =>
            first
              | (have := HK.out; clear hw; simp [intOf]; omega)
              | (show S.length - (intOf (.int .i64 (wrap64 ((k : Int) + 1)))).toNat < S.length - (intOf (.int .i64 (k : Int))).toNat; rw [hw]; clear hw; have := HK.out; show S.length - ((k : Int) + 1).toNat < S.length - (k : Int).toNat; omega)
        | false =>
          cases hp : decide (at_ < x.2) with
          | true =>
            have LT := Lib.hid (show lt (id, at_) x = true from by unfold lt; simp [hp])
            go_wp2_with (at_builtin; refine wpList_append_lies _ rfl _ _ 26 rfl w.heap.size 44 i0 _ 2 16 Try.underlying26 HI.out HZ0.out HZ1.out HZ2.out rfl (by omega) (.slice uA L.length ucap) L.length (tmC L) rfl ((HO.out.alloc _).alloc _) ⟨wr.heap.size + 1, 0, none⟩ 1 1 [.int .i64 id, .int .i64 at_] rfl rfl (World.news_of_block (cs := #[.int .i64 id, .int .i64 at_]) (t := 44) (fr := (0, 0)) (two_new wr _ _)) (by simp [Value.oneCell']) (by omega) ?c1 ?c2 ?c3 _ rfl ?_)
            case c1 => have h1 := HL1.out; have h2 := HLL.out; have h3 := HK.out; simp at h2; unfold maxLen; omega
            case c2 => have h1 := HL1.out; have h2 := HLL.out; have h3 := HK.out; simp at h2; omega
            case c3 => have := HB.out.size; simp; omega
            intro g1 capn w3 hown hgrow hat hlt3
            have ADD := Lib.hid (R.out.add (y := (id, at_)) (HBX.out _ _) hgrow hown)
            have hbx : Blk w3 wr.heap.size 44 #[.int .i64 x.1, .int .i64 x.2] := ((Blk.new wr _ _).alloc _).grown hgrow (fun e => by have h1 := (own_lt HO.out _ e.symm).2; omega)
            have b0 : w3.cell? ⟨wr.heap.size, 0, none⟩ = some (.int .i64 x.1) := hbx.cell 0
            have b1 : w3.cell? ⟨wr.heap.size, 1, none⟩ = some (.int .i64 x.2) := hbx.cell 1
            have hown3 := ADD.out.1
            have e3 : (L ++ [(id, at_)]).length = L.length + 1 := by simp
            rw [e3] at hown3
            have HO3 := Lib.hid hown3
            clear hown hgrow hat hlt3 c1 x0 x1 hbx hown3 e3
            go_wp2_with (at_builtin; refine wpList_append_lies _ rfl _ _ 26 rfl w.heap.size 44 i0 _ 2 16 Try.underlying26 HI.out HZ0.out HZ1.out HZ2.out rfl (by omega) (.slice (some ⟨g1, 0, none⟩) (L.length + 1) capn) (L.length + 1) (tmC (L ++ [(id, at_)])) rfl (HO3.out.alloc _) ⟨w3.heap.size, 0, none⟩ 1 1 [.int .i64 x.1, .int .i64 x.2] rfl rfl (World.news_of_block (cs := #[.int .i64 x.1, .int .i64 x.2]) (t := 44) (fr := (0, 0)) (heap_alloc_new w3 _)) (by simp [Value.oneCell']) (by omega) ?c1 ?c2 ?c3 _ rfl ?_)
            case c1 => have h1 := HL1.out; have h2 := HLL.out; have h3 := HK.out; simp at h2; unfold maxLen; omega
            case c2 => have h1 := HL1.out; have h2 := HLL.out; have h3 := HK.out; simp at h2; omega
            case c3 => have := ADD.out.2.size; simp; omega
            intro g2 capm w4 hown hgrow hat hlt3
            have ADD2 := Lib.hid (row_add ADD.out.2 HO3.out hgrow hown)
            clear hown hgrow hat hlt3 b0 b1
            have hw := HW.out
            go_wp2_with fail
            go_roundw
            case rel => exact ⟨k + 1, true, (L ++ [(id, at_)]) ++ [x], by first | (clear hw; go_num) | (rw [hw]; rfl), rfl, HK.out, ADD2.out.1, ADD2.out.2, by have h2 := HLL.out; clear hw; simp at h2 ⊢; omega, Q.out.2.1 (by first | trivial | rfl) LT.out⟩
            case measure =>
              first
                | (have := HK.out; clear hw; simp [intOf]; omega)
                | (show S.length - (intOf (.int .i64 (wrap64 ((k : Int) + 1)))).toNat < S.length - (intOf (.int .i64 (k : Int))).toNat; rw [hw]; clear hw; have := HK.out; show S.length - ((k : Int) + 1).toNat < S.length - (k : Int).toNat; omega)
          | false =>
            cases hq : (at_ == x.2) with
            | true =>
              cases hs : decide (id < x.1) with
              | true =>
                have LT := Lib.hid (show lt (id, at_) x = true from by unfold lt; simp [hq, hs])
                go_wp2_with (at_builtin; refine wpList_append_lies _ rfl _ _ 26 rfl w.heap.size 44 i0 _ 2 16 Try.underlying26 HI.out HZ0.out HZ1.out HZ2.out rfl (by omega) (.slice uA L.length ucap) L.length (tmC L) rfl ((HO.out.alloc _).alloc _) ⟨wr.heap.size + 1, 0, none⟩ 1 1 [.int .i64 id, .int .i64 at_] rfl rfl (World.news_of_block (cs := #[.int .i64 id, .int .i64 at_]) (t := 44) (fr := (0, 0)) (two_new wr _ _)) (by simp [Value.oneCell']) (by omega) ?c1 ?c2 ?c3 _ rfl ?_)
                case c1 => have h1 := HL1.out; have h2 := HLL.out; have h3 := HK.out; simp at h2; unfold maxLen; omega
                case c2 => have h1 := HL1.out; have h2 := HLL.out; have h3 := HK.out; simp at h2; omega
                case c3 => have := HB.out.size; simp; omega
                intro g1 capn w3 hown hgrow hat hlt3
                have ADD := Lib.hid (R.out.add (y := (id, at_)) (HBX.out _ _) hgrow hown)
                have hbx : Blk w3 wr.heap.size 44 #[.int .i64 x.1, .int .i64 x.2] := ((Blk.new wr _ _).alloc _).grown hgrow (fun e => by have h1 := (own_lt HO.out _ e.symm).2; omega)
                have b0 : w3.cell? ⟨wr.heap.size, 0, none⟩ = some (.int .i64 x.1) := hbx.cell 0
                have b1 : w3.cell? ⟨wr.heap.size, 1, none⟩ = some (.int .i64 x.2) := hbx.cell 1
                have hown3 := ADD.out.1
                have e3 : (L ++ [(id, at_)]).length = L.length + 1 := by simp
                rw [e3] at hown3
                have HO3 := Lib.hid hown3
                clear hown hgrow hat hlt3 c1 x0 x1 hbx hown3 e3
                go_wp2_with (at_builtin; refine wpList_append_lies _ rfl _ _ 26 rfl w.heap.size 44 i0 _ 2 16 Try.underlying26 HI.out HZ0.out HZ1.out HZ2.out rfl (by omega) (.slice (some ⟨g1, 0, none⟩) (L.length + 1) capn) (L.length + 1) (tmC (L ++ [(id, at_)])) rfl (HO3.out.alloc _) ⟨w3.heap.size, 0, none⟩ 1 1 [.int .i64 x.1, .int .i64 x.2] rfl rfl (World.news_of_block (cs := #[.int .i64 x.1, .int .i64 x.2]) (t := 44) (fr := (0, 0)) (heap_alloc_new w3 _)) (by simp [Value.oneCell']) (by omega) ?c1 ?c2 ?c3 _ rfl ?_)
                case c1 => have h1 := HL1.out; have h2 := HLL.out; have h3 := HK.out; simp at h2; unfold maxLen; omega
                case c2 => have h1 := HL1.out; have h2 := HLL.out; have h3 := HK.out; simp at h2; omega
                case c3 => have := ADD.out.2.size; simp; omega
                intro g2 capm w4 hown hgrow hat hlt3
                have ADD2 := Lib.hid (row_add ADD.out.2 HO3.out hgrow hown)
                clear hown hgrow hat hlt3 b0 b1
                have hw := HW.out
                go_wp2_with fail
                go_roundw
                case rel => exact ⟨k + 1, true, (L ++ [(id, at_)]) ++ [x], by first | (clear hw; go_num) | (rw [hw]; rfl), rfl, HK.out, ADD2.out.1, ADD2.out.2, by have h2 := HLL.out; clear hw; simp at h2 ⊢; omega, Q.out.2.1 (by first | trivial | rfl) LT.out⟩
                case measure =>
                  first
                    | (have := HK.out; clear hw; simp [intOf]; omega)
                    | (show S.length - (intOf (.int .i64 (wrap64 ((k : Int) + 1)))).toNat < S.length - (intOf (.int .i64 (k : Int))).toNat; rw [hw]; clear hw; have := HK.out; show S.length - ((k : Int) + 1).toNat < S.length - (k : Int).toNat; omega)
              | false =>
                have LT := Lib.hid (show lt (id, at_) x = false from by unfold lt; simp [hp, hs])
                go_wp2_with (at_builtin; refine wpList_append_lies _ rfl _ _ 26 rfl w.heap.size 44 i0 _ 2 16 Try.underlying26 HI.out HZ0.out HZ1.out HZ2.out rfl (by omega) (.slice uA L.length ucap) L.length (tmC L) rfl ((HO.out.alloc _).alloc _) ⟨wr.heap.size + 1, 0, none⟩ 1 1 [.int .i64 x.1, .int .i64 x.2] rfl rfl (World.news_of_block (cs := #[.int .i64 x.1, .int .i64 x.2]) (t := 44) (fr := (0, 0)) (two_new wr _ _)) (by simp [Value.oneCell']) (by omega) ?c1 ?c2 ?c3 _ rfl ?_)
                case c1 => have h1 := HL1.out; have h2 := HLL.out; have h3 := HK.out; simp at h2; unfold maxLen; omega
                case c2 => have h1 := HL1.out; have h2 := HLL.out; have h3 := HK.out; simp at h2; omega
                case c3 => have := HB.out.size; simp; omega
                intro g1 capn w3 hown hgrow hat hlt3
                have ADD := Lib.hid (R.out.add (y := x) (HBX.out _ _) hgrow hown)
                clear hown hgrow hat hlt3 c1 x0 x1
                have hw := HW.out
                go_wp2_with fail
                go_roundw
                case rel => exact ⟨k + 1, false, L ++ [x], by first | (clear hw; go_num) | (rw [hw]; rfl), rfl, HK.out, ADD.out.1, ADD.out.2, by have h2 := HLL.out; clear hw; simp at h2 ⊢; omega, Q.out.2.2 (by first | trivial | rfl) LT.out⟩
                case measure =>
                  first
                    | (have := HK.out; clear hw; simp [intOf]; omega)
                    | (show S.length - (intOf (.int .i64 (wrap64 ((k : Int) + 1)))).toNat < S.length - (intOf (.int .i64 (k : Int))).toNat; rw [hw]; clear hw; have := HK.out; show S.length - ((k : Int) + 1).toNat < S.length - (k : Int).toNat; omega)
            | false =>
              have LT := Lib.hid (show lt (id, at_) x = false from by unfold lt; simp [hp, hq])
              go_wp2_with (at_builtin; refine wpList_append_lies _ rfl _ _ 26 rfl w.heap.size 44 i0 _ 2 16 Try.underlying26 HI.out HZ0.out HZ1.out HZ2.out rfl (by omega) (.slice uA L.length ucap) L.length (tmC L) rfl ((HO.out.alloc _).alloc _) ⟨wr.heap.size + 1, 0, none⟩ 1 1 [.int .i64 x.1, .int .i64 x.2] rfl rfl (World.news_of_block (cs := #[.int .i64 x.1, .int .i64 x.2]) (t := 44) (fr := (0, 0)) (two_new wr _ _)) (by simp [Value.oneCell']) (by omega) ?c1 ?c2 ?c3 _ rfl ?_)
              case c1 => have h1 := HL1.out; have h2 := HLL.out; have h3 := HK.out; simp at h2; unfold maxLen; omega
              case c2 => have h1 := HL1.out; have h2 := HLL.out; have h3 := HK.out; simp at h2; omega
              case c3 => have := HB.out.size; simp; omega
              intro g1 capn w3 hown hgrow hat hlt3
              have ADD := Lib.hid (R.out.add (y := x) (HBX.out _ _) hgrow hown)
              clear hown hgrow hat hlt3 c1 x0 x1
              have hw := HW.out
              go_wp2_with fail
              go_roundw
              case rel => exact ⟨k + 1, false, L ++ [x], by first | (clear hw; go_num) | (rw [hw]; rfl), rfl, HK.out, ADD.out.1, ADD.out.2, by have h2 := HLL.out; clear hw; simp at h2 ⊢; omega, Q.out.2.2 (by first | trivial | rfl) LT.out⟩
              case measure =>
                first
                  | (have := HK.out; clear hw; simp [intOf]; omega)
                  | (show S.length - (intOf (.int .i64 (wrap64 ((k : Int) + 1)))).toNat < S.length - (intOf (.int .i64 (k : Int))).toNat; rw [hw]; clear hw; have := HK.out; show S.length - ((k : Int) + 1).toNat < S.length - (k : Int).toNat; omega)
      · have hk2 : k = S.length := by omega
        have c1 := (HB.out.cell (p := ⟨r, 0, none⟩) H1.out.blk.lt).trans HC.out
        have y1 : ¬ (k : Int) < (S.length : Int) := by omega
        have HE := Lib.hid (show L ++ (if b = true then S.drop k else insT (id, at_) (S.drop k)) = insT (id, at_) S from R.out.2.2.2)
        have HD0 := Lib.hid (show S.drop k = [] from List.drop_eq_nil_of_le (by omega))
        have HKL := Lib.hid hk
        clear hk hlt
        cases b with
        | true =>
          have e : L = insT (id, at_) S := by have h := HE.out; rw [HD0.out] at h; simpa using h
          have FIN := Lib.hid (RsR.trans G1.out (H1.out.fin2 HB.out HO.out (S' := setT id at_ S) (by rw [e, EQ.out])))
          have fr := (H1.out.blk.keep HB.out).frozen 0
          clear e
          go_wp2_with fail
          go_ret
          exact ⟨rfl, FIN.out⟩
        | false =>
          have e : L ++ [(id, at_)] = insT (id, at_) S := by have h := HE.out; rw [HD0.out] at h; simpa [insT] using h
          have E := Lib.hid e
          clear e hk2
          go_wp2_with (at_builtin; refine wpList_append_lies _ rfl _ _ 26 rfl w.heap.size 44 i0 _ 2 16 Try.underlying26 HI.out HZ0.out HZ1.out HZ2.out rfl (by omega) (.slice uA L.length ucap) L.length (tmC L) rfl (HO.out.alloc _) ⟨wr.heap.size, 0, none⟩ 1 1 [.int .i64 id, .int .i64 at_] rfl rfl (World.news_of_block (cs := #[.int .i64 id, .int .i64 at_]) (t := 44) (fr := (0, 0)) (heap_alloc_new wr _)) (by simp [Value.oneCell']) (by omega) ?c1 ?c2 ?c3 _ rfl ?_)
          case c1 => have h1 := HL1.out; have h2 := HLL.out; have h3 := HKL.out; simp at h2; unfold maxLen; omega
          case c2 => have h1 := HL1.out; have h2 := HLL.out; have h3 := HKL.out; simp at h2; omega
          case c3 => have := HB.out.size; simp; omega
          intro g1 capn w3 hown hgrow hat hlt3
          have hb3 : Below wr.heap.size wr (wr.alloc (.cells #[.int .i64 id, .int .i64 at_] 44)) := (Below.refl _ _).alloc (Nat.le_refl _) _
          obtain ⟨a1, a2⟩ := R.out.add (y := (id, at_)) hb3 hgrow hown
          have FIN := Lib.hid (RsR.trans G1.out (H1.out.fin2 a2 a1 (S' := setT id at_ S) (by rw [E.out, EQ.out])))
          have c3 := (a2.cell (p := ⟨r, 0, none⟩) H1.out.blk.lt).trans HC.out
          have fr := (H1.out.blk.keep a2).frozen 0
          clear a1 a2 hown hgrow hat hlt3 hb3 c1
          go_wp2_with fail
          go_ret
          exact ⟨rfl, FIN.out⟩
end Go.Proofs.Ytjhcengdaclihaa
