/- Contracts of withylaw0's CopyOpts and LendOpts. No condition but memory's own limits. -/
import Derived.Test.YtckbbfdllflmjaaOptEq
import Derived.Deep.RegionLaw
import Derived.Deep.AppendLies
import Derived.BigRegion
namespace Go.Proofs.Ytckbbfdllflmjaa
open Go.RowKit
set_option linter.unusedVariables false
set_option linter.unusedSimpArgs false
attribute [local go_sem] conv1 conv1d conv1n conv1a conv1ad conv1an conv2 conv2d conv2n conv2a conv2ad conv2an conv4 conv4d conv4n conv4a conv4ad conv4an conv5 conv5d conv5n conv5a conv5ad conv5an size_nums byt_fold
/-! ### CopyOpts, LendOpts -/
theorem info_opt2 : (Try.prog.info? 65).map (fun i => (i.zero, i.size, i.bytes)) = some (some (.agg #[.int .i64 0, .string ⟨#[]⟩]), 2, 24) := by kernel_rfl
theorem optCells_one (os : List (Int × ByteArray)) : ∀ u ∈ optCells os, u.oneCell' = true := by
  intro u hu
  unfold optCells at hu
  rw [List.mem_flatMap] at hu
  obtain ⟨o, _, h⟩ := hu
  simp at h
  rcases h with rfl | rfl <;> rfl
theorem optCells_get : ∀ (os : List (Int × ByteArray)) (j : Nat) (u : Value), (optCells os)[j]? = some u → ∃ k o, os[k]? = some o ∧ ((j = k * 2 ∧ u = .int .i64 o.1) ∨ (j = k * 2 + 1 ∧ u = .string o.2))
  | [], j, u, h => by simp [optCells] at h
  | o :: os, 0, u, h => ⟨0, o, rfl, .inl ⟨rfl, by simp [optCells] at h; exact h.symm⟩⟩
  | o :: os, 1, u, h => ⟨0, o, rfl, .inr ⟨rfl, by simp [optCells] at h; exact h.symm⟩⟩
  | o :: os, j + 2, u, h => by
    have e : optCells (o :: os) = .int .i64 o.1 :: .string o.2 :: optCells os := by simp [optCells]
    rw [e] at h
    obtain ⟨k, o', hk, hc⟩ := optCells_get os j u (by simpa using h)
    exact ⟨k + 1, o', by simpa using hk, hc.imp (fun h => ⟨by omega, h.2⟩) (fun h => ⟨by omega, h.2⟩)⟩
theorem OptsAt.news {w : World} {b off n : Nat} {os : List (Int × ByteArray)} (h : OptsAt w (some ⟨b, off, none⟩) n os) (hn : 0 < n) : ∀ j u, (optCells os)[j]? = some u → w.cell? ((⟨b, off, none⟩ : Addr).add j) = some u := by
  intro j u hu
  obtain ⟨b', off', e, _, hc⟩ := h.2 hn
  injection e with e
  injection e with e1 e2
  subst e1 e2
  have hadd : (⟨b, off, none⟩ : Addr).add j = ⟨b, off + j, none⟩ := by unfold Addr.add; split <;> simp_all
  rw [hadd]
  obtain ⟨k, o, hk, hcase⟩ := optCells_get os j u hu
  have hkl := (List.getElem?_eq_some_iff.1 hk).1
  obtain ⟨c1, c2⟩ := hc k hkl
  have ho : os[k] = o := by rw [List.getElem?_eq_getElem hkl] at hk; exact Option.some.inj hk
  rw [ho] at c1 c2
  rcases hcase with ⟨rfl, rfl⟩ | ⟨rfl, rfl⟩
  · exact c1
  · rw [← Nat.add_assoc]; exact c2

theorem own_some {w : World} {base n : Nat} {e : TypeId} {size : Nat} {v : Value} {xs : List Value} (h : w.ownsRow base e size v n xs) (hne : ¬ v = .slice none 0 0) : v.ownBlock ≠ none := by
  rcases h.2 with ⟨hv, _⟩ | ⟨g, cap, cur, rfl, _⟩
  · exact absurd hv hne
  · simp [Value.ownBlock]
def CopyOf (n : Nat) (os : List (Int × ByteArray)) (w : World) (e : Ending) (w' : World) : Prop :=
  ∃ v, e = .returned v ∧ w'.ownsRow w.heap.size 65 2 v n (optCells os) ∧ v.ownBlock ≠ none ∧ Below w.heap.size w w'
theorem own_zero (w : World) : (w.alloc (.cells #[] 65)).ownsRow w.heap.size 65 2 (.slice (some ⟨w.heap.size, 0, none⟩) 0 0) 0 [] :=
  World.ownsRow_made w #[] 0 (Nat.le_refl _) (by unfold maxLen; omega) rfl
set_option maxRecDepth 100000 in
set_option maxHeartbeats 1000000 in
theorem copy_any (A : Option Addr) (n cap : Nat) (os : List (Int × ByteArray)) (w : World) (hv : OptsAt w A n os) (hn : n * 24 ≤ 140737488351232) (hcap : A = none → n = 0 ∧ cap = 0) :
    Calls Try.prog 29 #[.slice A n cap] w (CopyOf n os w) := by
  have HV := Lib.hid hv; clear hv
  cases A with
  | none =>
    obtain ⟨rfl, rfl⟩ := hcap rfl
    obtain rfl : os = [] := List.eq_nil_of_length_eq_zero HV.out.1
    clear hcap
    go_enter Try.func29, Try.ntmps29
    go_wp2_with fail
    go_ret
    exact ⟨_, rfl, own_zero w, by simp [Value.ownBlock], (Below.refl _ _).alloc (Nat.le_refl _) _⟩
  | some a =>
    clear hcap
    obtain ⟨i0, hi, hz0, hz1, hz2⟩ := info_parts info_opt2
    have HZ1 := Lib.hid hz1; have HZ2 := Lib.hid hz2; have HZ0 := Lib.hid hz0; have HI := Lib.hid hi
    clear hz0 hz1 hz2 hi
    have hlen : (optCells os).length = n * 2 := by rw [optCells_len, HV.out.1]
    have HLEN := Lib.hid hlen; clear hlen
    have hnews : ∀ j u, (optCells os)[j]? = some u → (w.alloc (.cells #[] 65)).cell? (a.add j) = some u := by
      intro j u hu
      have hpos : 0 < n := by
        rcases Nat.eq_zero_or_pos n with h | h
        · subst h
          have : os = [] := List.eq_nil_of_length_eq_zero HV.out.1
          subst this
          simp [optCells] at hu
        · exact h
      obtain ⟨b, off, e, hlt, _⟩ := HV.out.2 hpos
      injection e with e
      subst e
      exact OptsAt.news (HV.out.keep ((Below.refl _ _).alloc (Nat.le_refl _) _)) hpos j u hu
    have HNEWS := Lib.hid hnews; clear hnews
    go_enter Try.func29, Try.ntmps29
    go_wp2_with (at_builtin; refine wpList_append_own _ rfl _ _ 32 rfl w.heap.size 65 i0 _ 2 24 Try.underlying32 HI.out HZ0.out HZ1.out HZ2.out rfl (by omega) _ _ _ rfl (own_zero w) a n cap (optCells os) rfl HLEN.out HNEWS.out (optCells_one os) ?c1 ?c2 ?c3 ?_)
    case c1 => unfold maxLen; omega
    case c2 => omega
    case c3 => simp
    intro v w2 hown hgrow hnil
    try simp only [Nat.zero_add, List.nil_append] at hown
    have HOWN := Lib.hid hown; clear hown
    have hne : ¬ v = .slice none 0 0 := hnil
    clear hnil
    go_wp2
    go_ret
    refine ⟨_, rfl, HOWN.out, own_some HOWN.out hne, ?_⟩
    exact ((Below.refl _ _).alloc (Nat.le_refl _) _).grown hgrow (by simp) (fun k hk => by simp [Value.ownBlock] at hk; omega)
def lentOf (os : List (Int × ByteArray)) : List (Int × ByteArray) := os ++ [(77777, ⟨#[]⟩), (77777, ⟨#[]⟩)]
def LentAt (n : Nat) (os : List (Int × ByteArray)) (w : World) (e : Ending) (w' : World) : Prop :=
  ∃ g cap, e = .returned (.slice (some ⟨g, 0, none⟩) n cap) ∧ w.heap.size ≤ g ∧ n + 2 ≤ cap ∧ cap ≤ 9223372036854775807 ∧ OptsAt w' (some ⟨g, 0, none⟩) (n + 2) (lentOf os) ∧ Below w.heap.size w w'
theorem lentOf_len (os : List (Int × ByteArray)) : (lentOf os).length = os.length + 2 := by simp [lentOf]
theorem lentOf_cells (os : List (Int × ByteArray)) : optCells (lentOf os) = optCells os ++ [.int .i64 77777, .string ⟨#[]⟩, .int .i64 77777, .string ⟨#[]⟩] := by
  unfold optCells lentOf; rw [List.flatMap_append]; simp
theorem four_cells (w : World) (x0 x1 x2 x3 : Value) (t : TypeId) : ∀ j u, [x0, x1, x2, x3][j]? = some u → (w.alloc (.cells #[x0, x1, x2, x3] t)).cell? ((⟨w.heap.size, 0, none⟩ : Addr).add j) = some u :=
  World.news_of_block (cs := #[x0, x1, x2, x3]) (fr := (0, 0)) (heap_alloc_new w _)
set_option maxRecDepth 100000 in
set_option maxHeartbeats 1000000 in
theorem lend_any (A : Option Addr) (n cap : Nat) (os : List (Int × ByteArray)) (w : World) (hv : OptsAt w A n os) (hn : n * 24 ≤ 140737488351232) (hcap : A = none → n = 0 ∧ cap = 0) :
    Calls Try.prog 14 #[.slice A n cap] w (LentAt n os w) := by
  have HV := Lib.hid hv; clear hv
  have HC := Lib.hid hcap; clear hcap
  obtain ⟨i0, hi, hz0, hz1, hz2⟩ := info_parts info_opt2
  have HZ1 := Lib.hid hz1; have HZ2 := Lib.hid hz2; have HZ0 := Lib.hid hz0; have HI := Lib.hid hi
  clear hz0 hz1 hz2 hi
  go_enter Try.func14, Try.ntmps14
  go_wp2_with fail
  refine (copy_any A n cap os w HV.out hn HC.out).mono ?_
  rintro e w1 ⟨v, rfl, hown, hne, hb1⟩
  have hz1 := hb1.size
  have HOWN := Lib.hid hown; clear hown hne
  go_wp2_with (at_builtin; refine wpList_append_own _ rfl _ _ 32 rfl w.heap.size 65 i0 _ 2 24 Try.underlying32 HI.out HZ0.out HZ1.out HZ2.out rfl (by omega) _ _ _ rfl (HOWN.out.alloc _) ⟨w1.heap.size, 0, none⟩ 2 2 [.int .i64 77777, .string ⟨#[]⟩, .int .i64 77777, .string ⟨#[]⟩] rfl rfl (four_cells w1 _ _ _ _ _) (by simp [Value.oneCell']) ?c1 ?c2 ?c3 ?_)
  case c1 => unfold maxLen; omega
  case c2 => omega
  case c3 => simp; omega
  intro v2 w2 hown2 hgrow hnil
  clear hnil
  have hbel : Below w.heap.size w w2 := (hb1.alloc hz1 _).grown hgrow (by simp; omega) (fun k hk => (HOWN.out.lt k hk).1)
  have hlen : os.length = n := HV.out.1
  obtain ⟨g, cap2, cur, rfl, hg, hh, hnc, hcm, hcs, htk⟩ : ∃ g cap cur, v2 = .slice (some ⟨g, 0, none⟩) (n + 2) cap ∧ w.heap.size ≤ g ∧ w2.heap[g]? = some (.cells cur 65 (0, 0)) ∧ n + 2 ≤ cap ∧ cap ≤ maxLen ∧ cur.size = cap * 2 ∧ cur.toList.take ((n + 2) * 2) = optCells os ++ [.int .i64 77777, .string ⟨#[]⟩, .int .i64 77777, .string ⟨#[]⟩] := by
    rcases hown2.2 with ⟨_, h0⟩ | ⟨g, cap, cur, r⟩
    · omega
    · exact ⟨g, cap, cur, r⟩
  have hview : OptsAt w2 (some ⟨g, 0, none⟩) (n + 2) (lentOf os) := by
    have h2 := OptsAt.own (os := lentOf os) (A := some ⟨g, 0, none⟩) (cap := cap2) (w := w2) (base := w.heap.size) (by rw [lentOf_cells, lentOf_len, hlen]; exact hown2)
    rw [lentOf_len, hlen] at h2
    exact h2
  have HVIEW := Lib.hid hview; have HG := Lib.hid hg
  unfold maxLen at hcm
  clear hview hown2 hh hcs htk hlen hg
  go_wp2
  go_ret
  exact ⟨g, cap2, rfl, HG.out, hnc, by omega, HVIEW.out, hbel⟩
theorem lent_at (os : List (Int × ByteArray)) (k : Nat) (h : k < os.length) : (lentOf os)[k]? = os[k]? := by
  unfold lentOf; rw [List.getElem?_append_left h]
theorem OptsAt.head {w : World} {A : Option Addr} {n m : Nat} {os ps : List (Int × ByteArray)} (h : OptsAt w A (n + m) (os ++ ps)) (hl : os.length = n) : OptsAt w A n os := by
  refine ⟨hl, fun hn => ?_⟩
  obtain ⟨b, off, e, hlt, hc⟩ := h.2 (by omega)
  refine ⟨b, off, e, hlt, fun j hj => ?_⟩
  have := hc j (by rw [List.length_append]; omega)
  rw [List.getElem_append_left hj] at this
  exact this
end Go.Proofs.Ytckbbfdllflmjaa
