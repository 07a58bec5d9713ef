/- A slice of ints in memory, read as a list; contracts of withylaw0's SameInts, CopyInts, LendInts, KeptInts, SpoilInts. No condition but memory's own limits. -/
import Derived.Test.YtjhcengdaclihaaStr
import Derived.Test.YtjhcengdaclihaaPlain
import Derived.Test.YtjhcengdaclihaaNum
import Derived.Deep.AppendLies
import Derived.BigRegion
namespace Go.Proofs.Ytjhcengdaclihaa
open Go.RowKit
set_option linter.unusedVariables false
set_option linter.unusedSimpArgs false
def IntsAt (w : World) (A : Option Addr) (n : Nat) (zs : List Int) : Prop :=
  zs.length = n ∧ (0 < n → ∃ b off, A = some ⟨b, off, none⟩ ∧ b < w.heap.size ∧ ∀ j (h : j < zs.length), w.cell? ⟨b, off + j, none⟩ = some (.int .i64 zs[j]))
theorem IntsAt.keep {w w' : World} {A : Option Addr} {n : Nat} {zs : List Int} (h : IntsAt w A n zs) (hb : Below w.heap.size w w') : IntsAt w' A n zs := by
  refine ⟨h.1, fun hn => ?_⟩
  obtain ⟨b, off, rfl, hlt, hc⟩ := h.2 hn
  exact ⟨b, off, rfl, Nat.lt_of_lt_of_le hlt hb.size, fun j hj => (hb.cell (p := ⟨b, off + j, none⟩) hlt).trans (hc j hj)⟩
theorem IntsAt.nil (w : World) (A : Option Addr) : IntsAt w A 0 [] := ⟨rfl, fun h => absurd h (by omega)⟩
theorem IntsAt.at_ {w : World} {A : Option Addr} {n : Nat} {zs : List Int} (h : IntsAt w A n zs) (k : Nat) (hk : k < n) :
    ∃ b off z, A = some ⟨b, off, none⟩ ∧ b < w.heap.size ∧ zs[k]? = some z ∧ w.cell? ⟨b, off + k, none⟩ = some (.int .i64 z) := by
  obtain ⟨b, off, e, hlt, hc⟩ := h.2 (by omega)
  have hj : k < zs.length := by rw [h.1]; exact hk
  exact ⟨b, off, _, e, hlt, List.getElem?_eq_getElem hj, hc k hj⟩
theorem IntsAt.head {w : World} {A : Option Addr} {n m : Nat} {os ps : List Int} (h : IntsAt w A (n + m) (os ++ ps)) (hl : os.length = n) : IntsAt w A n os := by
  refine ⟨hl, fun hn => ?_⟩
  obtain ⟨b, off, e, hlt, hc⟩ := h.2 (by omega)
  refine ⟨b, off, e, hlt, fun j hj => ?_⟩
  have := hc j (by rw [List.length_append]; omega)
  rw [List.getElem_append_left hj] at this
  exact this
def intCells (zs : List Int) : List Value := zs.map (Value.int .i64)
theorem intCells_len (zs : List Int) : (intCells zs).length = zs.length := by simp [intCells]
theorem intCells_one (zs : List Int) : ∀ u ∈ intCells zs, u.oneCell' = true := by
  intro u hu
  obtain ⟨z, _, rfl⟩ := List.mem_map.1 hu
  rfl
theorem own_slice {w : World} {base : Nat} {v : Value} {n : Nat} {xs : List Value} {e : TypeId} {size : Nat} (h : w.ownsRow base e size v n xs) : ∃ A cap, v = .slice A n cap := by
  rcases h.2 with ⟨rfl, rfl⟩ | ⟨g, cap, cur, rfl, _⟩
  · exact ⟨_, _, rfl⟩
  · exact ⟨_, _, rfl⟩
theorem own_keep {w w' : World} {base n : Nat} {e : TypeId} {size : Nat} {v : Value} {xs : List Value} (h : w.ownsRow base e size v n xs) (hb : Below w.heap.size w w') : w'.ownsRow base e size v n xs := by
  refine ⟨h.1, ?_⟩
  rcases h.2 with h | ⟨g, cap, cur, rfl, hg, hh, r⟩
  · exact .inl h
  · exact .inr ⟨g, cap, cur, rfl, hg, (hb.block g (Array.getElem?_eq_some_iff.1 hh).1).trans hh, r⟩
theorem own_apart {w w2 w' : World} {b1 b2 n m : Nat} {e : TypeId} {size : Nat} {v u : Value} {xs ys : List Value} (h1 : w.ownsRow b1 e size v n xs) (hlt : w.heap.size ≤ b2) (h2 : w2.ownsRow b2 e size u m ys) (hg : w2.grownBy w' v.ownBlock) : w'.ownsRow b2 e size u m ys := by
  refine h2.kept hg ?_
  cases hu : u.ownBlock with
  | none => exact .inl rfl
  | some k =>
    refine .inr (fun e => ?_)
    have a := (h2.lt k hu).1
    have b := (h1.lt k e.symm).2
    omega
theorem IntsAt.own {w : World} {base : Nat} {e : TypeId} {A : Option Addr} {cap : Nat} {zs : List Int} (h : w.ownsRow base e 1 (.slice A zs.length cap) zs.length (intCells zs)) : IntsAt w A zs.length zs := by
  refine ⟨rfl, fun hn => ?_⟩
  rcases h.2 with ⟨hv, h0⟩ | ⟨g, cap', cur, hv, hb, hg, hnc, hcm, hcs, htk⟩
  · omega
  · injection hv with hA _ _
    refine ⟨g, 0, hA, (Array.getElem?_eq_some_iff.1 hg).1, fun j hj => ?_⟩
    rw [cell_of_row w g _ cur _ _ hg]
    have a1 : (intCells zs)[j]? = some (.int .i64 zs[j]) := by unfold intCells; rw [List.getElem?_map, List.getElem?_eq_getElem hj]; rfl
    rw [← htk, List.getElem?_take] at a1
    split at a1
    · simp only [Nat.zero_add]; simpa using a1
    · cases a1
theorem IntsAt.news {w : World} {b off n : Nat} {zs : List Int} (h : IntsAt w (some ⟨b, off, none⟩) n zs) (hn : 0 < n) : ∀ j u, (intCells zs)[j]? = some u → w.cell? ((⟨b, off, none⟩ : Addr).add j) = some u := by
  intro j u hu
  obtain ⟨b', off', e, _, hc⟩ := h.2 hn
  injection e with e
  injection e with e1 e2
  subst e1 e2
  have hadd : (⟨b, off, none⟩ : Addr).add j = ⟨b, off + j, none⟩ := by unfold Addr.add; split <;> simp_all
  rw [hadd]
  unfold intCells at hu
  rw [List.getElem?_map] at hu
  cases hz : zs[j]? with
  | none => rw [hz] at hu; cases hu
  | some z =>
    rw [hz] at hu
    obtain rfl := Option.some.inj hu
    have hj := (List.getElem?_eq_some_iff.1 hz).1
    have := hc j hj
    rw [List.getElem?_eq_getElem hj] at hz
    rw [Option.some.inj hz] at this
    exact this
theorem info_int : (Try.prog.info? 3).map (fun i => (i.zero, i.size, i.bytes)) = some (some (.int .i64 0), 1, 8) := by kernel_rfl
theorem own_zero (w : World) : (w.alloc (.cells #[] 3)).ownsRow w.heap.size 3 1 (.slice (some ⟨w.heap.size, 0, none⟩) 0 0) 0 [] :=
  World.ownsRow_made w #[] 0 (Nat.le_refl _) (by unfold maxLen; omega) rfl

/-! ### SameInts -/
def sameB (os ps : List Int) : Bool := decide (os = ps)
theorem same_refl (os : List Int) : sameB os os = true := by unfold sameB; simp
theorem same_yes {os ps : List Int} {n : Nat} (h1 : os.length = n) (h2 : ps.length = n) (h : ∀ j o p, j < n → os[j]? = some o → ps[j]? = some p → o = p) : sameB os ps = true := by
  unfold sameB
  refine decide_eq_true (List.ext_getElem (by omega) fun j h3 h4 => ?_)
  exact h j _ _ (by omega) (List.getElem?_eq_getElem h3) (List.getElem?_eq_getElem h4)
theorem same_no {os ps : List Int} {j : Nat} {o p : Int} (h1 : os[j]? = some o) (h2 : ps[j]? = some p) (h : ¬ o = p) : sameB os ps = false := by
  unfold sameB
  refine decide_eq_false (fun e => h ?_)
  subst e
  rw [h1] at h2
  exact Option.some.inj h2
theorem same_len {os ps : List Int} (h : ¬ os.length = ps.length) : sameB os ps = false := by
  unfold sameB; exact decide_eq_false (fun e => h (by rw [e]))
def SaR (os ps : List Int) (w : World) (k : Nat) (wr : World) : Prop := (∀ j o p, j < k → os[j]? = some o → ps[j]? = some p → o = p) ∧ Below w.heap.size w wr
set_option maxRecDepth 100000 in
set_option maxHeartbeats 1000000 in
theorem same_any (A B : Option Addr) (n m cap cap' : Nat) (os ps : List Int) (w : World) (hv : IntsAt w A n os) (hu : IntsAt w B m ps) (hn : n ≤ 9223372036854775807) :
    Calls Try.prog 15 #[.slice A n cap, .slice B m cap'] w fun e w' => e = .returned (.bool (sameB os ps)) ∧ Below w.heap.size w w' := by
  have HV := Lib.hid hv; clear hv
  have HU := Lib.hid hu; clear hu
  by_cases hnm : n = m
  case neg =>
    have hb : ((n : Int) != (m : Int)) = true := by simp; omega
    go_enter Try.func15, Try.ntmps15
    go_wp2_with fail
    go_ret
    exact ⟨by rw [same_len (by have := HV.out.1; have := HU.out.1; omega)]; rfl, Below.refl _ _⟩
  subst hnm
  go_enter Try.func15, Try.ntmps15
  go_wp2_with fail
  go_loopw [5] (fun i wr => ∃ k : Nat, i = .int .i64 k ∧ k ≤ n ∧ SaR os ps w k wr) (fun i _ => n - (intOf i).toNat)
  case atStart => exact ⟨0, rfl, by omega, fun j o p h => by omega, Below.refl _ _⟩
  case round =>
    obtain ⟨k, rfl, hkn, hS, hbel⟩ := hrel
    have HS := Lib.hid hS; clear hS
    by_cases hlt : k < n
    · obtain ⟨b, off, z, rfl, hb, ho, c1⟩ := (HV.out.keep hbel).at_ k hlt
      obtain ⟨b', off', z', rfl, hb', ho', c1'⟩ := (HU.out.keep hbel).at_ k hlt
      have HO := Lib.hid ho; clear ho
      have HO' := Lib.hid ho'; clear ho'
      have y1 : (k : Int) < (n : Int) := by omega
      by_cases hk : z = z'
      · subst hk
        go_wp2_with fail
        go_quiet (fail)
        go_wp2_with fail
        go_roundw
        case rel => exact ⟨k + 1, by go_num, by omega, fun j o p hj h1 h2 => by
            by_cases hjk : j = k
            · subst hjk
              rw [HO.out] at h1
              rw [HO'.out] at h2
              rw [← Option.some.inj h1, ← Option.some.inj h2]
            · exact HS.out j o p (by omega) h1 h2, below_drewN hbel _⟩
        case measure => simp [intOf]; omega
      · have hne : (z != z') = true := by simpa using hk
        go_wp2_with fail
        go_quiet (fail)
        go_wp2_with fail
        go_ret
        exact ⟨by rw [same_no HO.out HO'.out hk]; rfl, below_drewN hbel _⟩
    · go_wp2_with fail
      go_ret
      exact ⟨by rw [same_yes HV.out.1 HU.out.1 (fun j o p hj => HS.out j o p (by omega))]; rfl, hbel⟩
end Go.Proofs.Ytjhcengdaclihaa
