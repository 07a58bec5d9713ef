/- The walk of the law OptsFind: it returns true. No condition but memory's own limits. -/
import Derived.Test.YtdfhodhdpkbcnaaOptLaws
namespace Go.Proofs.Ytdfhodhdpkbcnaa
open Go.RowKit
set_option linter.unusedVariables false
set_option linter.unusedSimpArgs false
attribute [local go_sem] conv1 conv1d conv1n conv1a conv1ad conv1an conv2 conv2d conv2n conv2a conv2ad conv2an conv4 conv4d conv4n conv4a conv4ad conv4an conv5 conv5d conv5n conv5a conv5ad conv5an size_nums byt_fold
theorem idx_cases (p : Int → ByteArray → Bool) (os : List (Int × ByteArray)) : (idxOf p os = -1 ∧ ∀ (j : Nat) o', os[j]? = some o' → p o'.1 o'.2 = false) ∨
    ∃ (k : Nat) (o : Int × ByteArray), idxOf p os = k ∧ os[k]? = some o ∧ p o.1 o.2 = true ∧ ∀ j o', j < k → os[j]? = some o' → p o'.1 o'.2 = false := by
  induction os with
  | nil => exact .inl ⟨rfl, fun j o' h => by simp at h⟩
  | cons x os ih =>
    cases hx : p x.1 x.2
    · rcases ih with ⟨e, h⟩ | ⟨k, o, e, ho, hp, h⟩
      · refine .inl ⟨by simp [idxOf, hx, e], fun j o' hj => ?_⟩
        cases j with
        | zero => simp at hj; subst hj; exact hx
        | succ j => exact h j o' (by simpa using hj)
      · refine .inr ⟨k + 1, o, ?_, by simpa using ho, hp, fun j o' hj h' => ?_⟩
        · simp [idxOf, hx, e]; omega
        · cases j with
          | zero => simp at h'; subst h'; exact hx
          | succ j => exact h j o' (by omega) (by simpa using h')
    · exact .inr ⟨0, x, by simp [idxOf, hx], rfl, hx, fun j o' hj => by omega⟩
theorem idx_add_none {p : Int → ByteArray → Bool} {os : List (Int × ByteArray)} {o : Int × ByteArray} (h : ∀ (j : Nat) o', os[j]? = some o' → p o'.1 o'.2 = false) (ho : p o.1 o.2 = true) : idxOf p (os ++ [o]) = os.length := by
  refine idxOf_at p _ os.length o (by simp) ho (fun j o' hj h' => h j o' ?_)
  rwa [List.getElem?_append_left hj] at h'
theorem idx_add_some {p : Int → ByteArray → Bool} {os ps : List (Int × ByteArray)} {k : Nat} {o : Int × ByteArray} (hk : os[k]? = some o) (hp : p o.1 o.2 = true) (h : ∀ j o', j < k → os[j]? = some o' → p o'.1 o'.2 = false) : idxOf p (os ++ ps) = k := by
  have hkl := (List.getElem?_eq_some_iff.1 hk).1
  refine idxOf_at p _ k o (by rwa [List.getElem?_append_left hkl]) hp (fun j o' hj h' => h j o' hj ?_)
  rwa [List.getElem?_append_left (by omega)] at h'
theorem idx_take {p : Int → ByteArray → Bool} {os : List (Int × ByteArray)} {k : Nat} (h : ∀ j o', j < k → os[j]? = some o' → p o'.1 o'.2 = false) : idxOf p (os.take k) = -1 := by
  refine idxOf_none p _ (fun j o' hj => ?_)
  rw [List.getElem?_take] at hj
  split at hj
  · exact h j o' ‹_› hj
  · cases hj
theorem OptsAt.take {w : World} {A : Option Addr} {n : Nat} {os : List (Int × ByteArray)} (h : OptsAt w A n os) (k : Nat) (hk : k ≤ n) : OptsAt w A k (os.take k) := by
  have hl : (os.take k).length = k := by rw [List.length_take, h.1]; omega
  exact OptsAt.head (m := n - k) (ps := os.drop k) (by rw [List.take_append_drop, show k + (n - k) = n by omega]; exact h) hl
theorem two_cells (w : World) (x0 x1 : Value) (t : TypeId) : ∀ j u, [x0, x1][j]? = some u → (w.alloc (.cells #[x0, x1] t)).cell? ((⟨w.heap.size, 0, none⟩ : Addr).add j) = some u :=
  World.news_of_block (cs := #[x0, x1]) (fr := (0, 0)) (heap_alloc_new w _)

set_option maxRecDepth 100000 in
set_option maxHeartbeats 1000000 in
theorem find_nil (q : Int) (w : World) :
    Calls Try.prog 6 #[.slice none 0 0, .int .i64 q] w fun e w' => e = .returned (.bool true) ∧ Below w.heap.size w w' := by
  have b1 : idxOf (fun x (_ : ByteArray) => x == q) [] = -1 := rfl
  have b2 : idxOf (fun x (_ : ByteArray) => x == q) [(q, (⟨#[]⟩ : ByteArray))] = 0 := by simp [idxOf]
  obtain ⟨i0, hi, hz0, hz1, hz2⟩ := info_parts info_opt2
  have HZ1 := Lib.hid hz1; have HZ2 := Lib.hid hz2; have HZ0 := Lib.hid hz0; have HI := Lib.hid hi
  clear hz0 hz1 hz2 hi
  have B1 := Lib.hid b1; have B2 := Lib.hid b2
  clear b1 b2
  go_enter Try.func6, Try.ntmps6
  (go_wp2_with (first | (go_at_call 12; refine (num_any _ _).mono ?_; rintro e w' ⟨rfl, rfl⟩)); refine (awake_any _).mono ?_; rintro e w1 ⟨rfl, hb1⟩; obtain ⟨hc1, hf1⟩ := bcell hb1; have hz1 := hb1.size; try simp at hz1)
  go_wp2_with (first | (go_at_call 12; refine (num_any _ _).mono ?_; rintro e w' ⟨rfl, rfl⟩))
  refine (find_any q _ _ _ [] _ (OptsAt.nil _ _) (by simp)).mono ?_
  rintro e w2 ⟨rfl, hb2⟩
  rw [B1.out]
  have hz2 := hb2.size
  go_wp2_with (first | (go_at_call 12; refine (num_any _ _).mono ?_; rintro e w' ⟨rfl, rfl⟩) | (at_builtin; refine wpList_append_own _ rfl _ _ 22 rfl w2.heap.size 34 i0 _ 2 24 Try.underlying22 HI.out HZ0.out HZ1.out HZ2.out rfl (by omega) _ _ _ rfl ((own_zero w2).alloc _) ⟨w2.heap.size + 1, 0, none⟩ 1 1 [.int .i64 q, .string ⟨#[]⟩] rfl rfl ?c0 (by simp [Value.oneCell']) ?c1 ?c2 ?c3 ?_))
  case c0 => have h := two_cells (w2.alloc (.cells #[] 34)) (.int .i64 q) (.string ⟨#[]⟩) 34; simpa using h
  case c1 => unfold maxLen; omega
  case c2 => omega
  case c3 => simp; omega
  intro v w3 hown hgrow hnil
  have hbel : Below w2.heap.size w2 w3 := ((((Below.refl _ _).alloc (Nat.le_refl _) _).alloc (by simp) _).grown hgrow (by simp; omega) (fun k hk => by simp [Value.ownBlock] at hk; omega))
  clear hnil hgrow
  obtain ⟨A, cap, rfl⟩ := own_slice hown
  have hv : OptsAt w3 A 1 [(q, ⟨#[]⟩)] := OptsAt.own (os := [(q, ⟨#[]⟩)]) hown
  have HV := Lib.hid hv; clear hv hown
  have hz3 := hbel.size
  go_wp2_with (first | (go_at_call 12; refine (num_any _ _).mono ?_; rintro e w' ⟨rfl, rfl⟩))
  refine (find_any q _ _ _ _ _ HV.out (by simp)).mono ?_
  rintro e w4 ⟨rfl, hb4⟩
  rw [B2.out]
  have hz4 := hb4.size
  go_wp2_with (first | (go_at_call 12; refine (num_any _ _).mono ?_; rintro e w' ⟨rfl, rfl⟩))
  go_ret
  exact ⟨rfl, (by repeat' (first | (with_reducible exact Below.refl _ _) | (with_reducible apply Below.drew) | (with_reducible apply below_drewN) | (with_reducible apply Below.setCell) | (with_reducible apply Below.alloc) | (with_reducible refine below_step ?_ (by assumption) ?_) | omega | (simp; done) | (simp; omega)))⟩
set_option maxRecDepth 100000 in
set_option maxHeartbeats 4000000 in
theorem find_some (q : Int) (a : Addr) (n cap : Nat) (os : List (Int × ByteArray)) (w : World) (hv : OptsAt w (some a) n os) (hn : n * 24 ≤ 140737488351232) (hcap : n ≤ cap) :
    Calls Try.prog 6 #[.slice (some a) n cap, .int .i64 q] w fun e w' => e = .returned (.bool true) ∧ Below w.heap.size w w' := by
  have HV := Lib.hid hv; clear hv
  have hcase := idx_cases (fun x _ => x == q) os
  have HCASE := Lib.hid hcase; clear hcase
  obtain ⟨i0, hi, hz0, hz1, hz2⟩ := info_parts info_opt2
  have HZ1 := Lib.hid hz1; have HZ2 := Lib.hid hz2; have HZ0 := Lib.hid hz0; have HI := Lib.hid hi
  clear hz0 hz1 hz2 hi
  have hlen : (optCells os).length = n * 2 := by rw [optCells_len, HV.out.1]
  have HLEN := Lib.hid hlen; clear hlen
  go_enter Try.func6, Try.ntmps6
  go_wp2_with (first | (go_at_call 12; refine (num_any _ _).mono ?_; rintro e w' ⟨rfl, rfl⟩))
  refine (awake_any _).mono ?_
  rintro e w1 ⟨rfl, hb1⟩
  have hz1 := hb1.size
  go_wp2_with (first | (go_at_call 12; refine (num_any _ _).mono ?_; rintro e w' ⟨rfl, rfl⟩))
  refine (find_any q _ _ _ os _ (HV.out.keep hb1) (by omega)).mono ?_
  rintro e w2 ⟨rfl, hb2⟩
  have hz2 := hb2.size
  obtain ⟨K, hK⟩ : ∃ K, idxOf (fun x (_ : ByteArray) => x == q) os = K := ⟨_, rfl⟩
  rw [hK]
  have HK := Lib.hid hK; clear hK
  have hv2 := (HV.out.keep hb1).keep hb2
  have HV2 := Lib.hid hv2; clear hv2
  have hnews : ∀ j u, (optCells os)[j]? = some u → (w2.alloc (.cells #[] 34)).cell? (a.add j) = some u := by
    intro j u hu
    have hpos : 0 < n := by
      rcases Nat.eq_zero_or_pos n with h | h
      · subst h
        have : os = [] := List.eq_nil_of_length_eq_zero HV.out.1
        subst this
        simp [optCells] at hu
      · exact h
    obtain ⟨b, off, e, hlt, _⟩ := HV2.out.2 hpos
    injection e with e
    subst e
    exact OptsAt.news (HV2.out.keep ((Below.refl _ _).alloc (Nat.le_refl _) _)) hpos j u hu
  have HNEWS := Lib.hid hnews; clear hnews
  go_wp2_with (first | (go_at_call 12; refine (num_any _ _).mono ?_; rintro e w' ⟨rfl, rfl⟩) | (at_builtin; refine wpList_append_own _ rfl _ _ 22 rfl w2.heap.size 34 i0 _ 2 24 Try.underlying22 HI.out HZ0.out HZ1.out HZ2.out rfl (by omega) _ _ _ rfl (own_zero w2) a n cap (optCells os) rfl HLEN.out HNEWS.out (optCells_one os) ?c1 ?c2 ?c3 ?_))
  case c1 => unfold maxLen; omega
  case c2 => omega
  case c3 => simp
  intro v w3 hown hgrow hnil
  try simp only [Nat.zero_add, List.nil_append] at hown
  have hb3 : Below w2.heap.size w2 w3 := ((Below.refl _ _).alloc (Nat.le_refl _) _).grown hgrow (by simp) (fun k hk => by simp [Value.ownBlock] at hk; omega)
  clear hnil hgrow
  have hz3 := hb3.size
  have HOWN := Lib.hid hown; clear hown
  have htc := two_cells w3 (.int .i64 q) (.string ⟨#[]⟩) 34
  have HTC := Lib.hid htc; clear htc
  go_wp2_with (first | (go_at_call 12; refine (num_any _ _).mono ?_; rintro e w' ⟨rfl, rfl⟩) | (at_builtin; refine wpList_append_own _ rfl _ _ 22 rfl w2.heap.size 34 i0 _ 2 24 Try.underlying22 HI.out HZ0.out HZ1.out HZ2.out rfl (by omega) _ _ _ rfl (HOWN.out.alloc _) ⟨w3.heap.size, 0, none⟩ 1 1 [.int .i64 q, .string ⟨#[]⟩] rfl rfl HTC.out (by simp [Value.oneCell']) ?d1 ?d2 ?d3 ?_))
  case d1 => unfold maxLen; omega
  case d2 => omega
  case d3 => simp; omega
  intro v2 w4 hown2 hgrow2 hnil2
  have hb4 : Below w2.heap.size w2 w4 := (hb3.alloc hz3 _).grown hgrow2 (by simp; omega) (fun k hk => (HOWN.out.lt k hk).1)
  clear hnil2 hgrow2
  have hz4 := hb4.size
  have hlo : os.length = n := HV.out.1
  obtain ⟨A4, cap4, rfl⟩ := own_slice hown2
  have hv4 : OptsAt w4 A4 (n + 1) (os ++ [(q, ⟨#[]⟩)]) := by
    have h := OptsAt.own (os := os ++ [(q, ⟨#[]⟩)]) (A := A4) (cap := cap4) (w := w4) (base := w2.heap.size) (by rw [optCells_snoc, List.length_append, hlo]; exact hown2)
    rw [List.length_append, hlo] at h
    exact h
  have HV4 := Lib.hid hv4
  clear hv4 hown2 hlo
  go_wp2_with (first | (go_at_call 12; refine (num_any _ _).mono ?_; rintro e w' ⟨rfl, rfl⟩))
  refine (find_any q _ _ _ _ _ HV4.out (by omega)).mono ?_
  rintro e w5 ⟨rfl, hb5⟩
  have hz5 := hb5.size
  have hbel5 : Below w.heap.size w w5 := below_step (below_step (below_step hb1 hb2 hz1) hb4 (by omega)) hb5 (by omega)
  rcases HCASE.out with ⟨e1, hno⟩ | ⟨k, o, e1, ho, hp, hno⟩
  · have e2 := idx_add_none (p := fun x _ => x == q) (o := (q, ⟨#[]⟩)) hno (by simp)
    rw [e2, HV.out.1]
    have hKK : K = -1 := HK.out.symm.trans e1
    subst hKK
    clear e1 hno e2
    go_wp2_with (first | (go_at_call 12; refine (num_any _ _).mono ?_; rintro e w' ⟨rfl, rfl⟩))
    go_ret
    exact ⟨by simp, hbel5⟩
  · have e2 := idx_add_some (p := fun x _ => x == q) (ps := [(q, ⟨#[]⟩)]) ho hp hno
    rw [e2]
    have hKK : K = (k : Int) := HK.out.symm.trans e1
    subst hKK
    have hkl : k < n := by have := (List.getElem?_eq_some_iff.1 ho).1; rw [← HV.out.1]; exact this
    obtain ⟨b, off, kind, data, eA, hlt, ho2, c1, c2⟩ := (HV.out.keep hbel5).at_ k hkl
    have eo : o = (kind, data) := by rw [ho] at ho2; exact Option.some.inj ho2
    subst eo
    have hq : kind = q := by simpa using hp
    subst hq
    injection eA with eA
    subst eA
    have e3 := idx_take (p := fun x _ => x == kind) hno
    have E3 := Lib.hid e3
    clear e1 e2 e3 hno ho2 ho hp c2
    have y1 : (k : Int) < (n : Int) := by omega
    go_wp2_with (first | (go_at_call 12; refine (num_any _ _).mono ?_; rintro e w' ⟨rfl, rfl⟩))
    refine (find_any kind _ _ _ (os.take k) _ ((HV.out.keep hbel5).take k (by omega)) (by omega)).mono ?_
    rintro e w6 ⟨rfl, hb6⟩
    rw [E3.out]
    go_wp2_with (first | (go_at_call 12; refine (num_any _ _).mono ?_; rintro e w' ⟨rfl, rfl⟩))
    go_ret
    exact ⟨by simp, below_step hbel5 hb6 hbel5.size⟩
theorem optsFind_walk (A : Option Addr) (n cap : Nat) (os : List (Int × ByteArray)) (q : Int) (hnil : A = none → n = 0 ∧ cap = 0) (hcap : n ≤ cap) (hz : n * 24 ≤ 140737488351232 ∧ ∀ o ∈ os, o.2.size ≤ 140737488351232) (k0 : (Lit.int .i64 q).wf = true) (w : World) (hv : OptsAt w A n os) :
    Calls Try.prog 6 #[.slice A n cap, .int .i64 q] w fun e w' => e = .returned (.bool true) ∧ Below w.heap.size w w' := by
  cases A with
  | none =>
    obtain ⟨rfl, rfl⟩ := hnil rfl
    exact find_nil q w
  | some a => exact find_some q a n cap os w hv hz.1 hcap
end Go.Proofs.Ytdfhodhdpkbcnaa
