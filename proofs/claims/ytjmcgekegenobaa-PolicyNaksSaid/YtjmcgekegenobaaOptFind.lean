/- Contracts of opts.Find, of slices.IndexFunc as it calls it, and of its closure. No condition but that a length is an int's. -/
import Derived.Test.YtjmcgekegenobaaOptIdx
namespace Go.Proofs.Ytjmcgekegenobaa
open Go.RowKit
set_option linter.unusedVariables false
set_option linter.unusedSimpArgs false

theorem findc_any (kind k : Int) (data : ByteArray) (w : World) (b : Nat) (hb : w.cell? ⟨b, 0, none⟩ = some (.int .i64 k)) (hlt : b < w.heap.size) : Calls Try.prog 32 #[.agg #[.int .i64 kind, .string data], .pointer (some ⟨b, 0, none⟩)] w fun e w' => e = .returned (.bool (kind == k)) ∧ Below w.heap.size w w' := by
  have hne : b ≠ w.heap.size := by omega
  go_enter Try.func32, Try.ntmps32
  go_wp2
  go_ret
  exact ⟨rfl, (by repeat' (first | (with_reducible exact Below.refl _ _) | (with_reducible apply Below.drew) | (with_reducible apply below_drewN) | (with_reducible apply Below.setCell) | (with_reducible apply Below.alloc) | (with_reducible refine below_step ?_ (by assumption) ?_) | omega | (simp; done) | (simp; omega)))⟩

set_option maxHeartbeats 1000000 in
theorem idx_find (q : Int) (bk : Nat) (A : Option Addr) (n cap : Nat) (os : List (Int × ByteArray)) (w : World) (hv : OptsAt w A n os) (hn : n ≤ 9223372036854775807) (hq : w.cell? ⟨bk, 0, none⟩ = some (.int .i64 q)) (hbk : bk < w.heap.size) :
    Calls Try.prog 31 #[.slice A n cap, .func (.func 32) #[] #[.pointer (some ⟨bk, 0, none⟩)]] w fun e w' => e = .returned (.int .i64 (idxOf (fun x _ => x == q) os)) ∧ Below w.heap.size w w' := by
  have HV := Lib.hid hv; clear hv
  go_enter Try.func31, Try.ntmps31
  go_wp2_with fail
  go_loopw [5, 8] (fun _ i wr => ∃ k : Nat, i = .int .i64 k ∧ IdxR (fun x _ => x == q) os w k wr) (fun _ i _ => n - (intOf i).toNat)
  case atStart => exact ⟨0, rfl, by omega, fun j o' h => by omega, Below.refl _ _⟩
  case round =>
    obtain ⟨k, rfl, hR⟩ := hrel
    obtain ⟨hk, hno, hbel⟩ := hR
    have HNO := Lib.hid hno; clear hno
    have hlen := HV.out.1
    have hkn : k ≤ n := by omega
    clear hlen
    by_cases hlt : k < n
    · obtain ⟨b, off, kind, data, rfl, hb, ho, c1, c2⟩ := (HV.out.keep hbel).at_ k hlt
      have HO := Lib.hid ho; clear ho
      go_wp2_with fail
      refine (findc_any kind q data wr bk ((hbel.cell (p := ⟨bk, 0, none⟩) hbk).trans hq) (Nat.lt_of_lt_of_le hbk hbel.size)).mono ?_
      rintro e w2 ⟨rfl, hb2⟩
      have hbel2 : Below w.heap.size w w2 := below_step hbel hb2 hbel.size
      cases hpk : (kind == q)
      · go_wp2_with fail
        go_roundw
        case rel => exact ⟨k + 1, by go_num, by have := HV.out.1; omega, fun j o' hj ho' => by
            by_cases hjk : j = k
            · subst hjk
              rw [HO.out] at ho'
              obtain rfl := Option.some.inj ho'
              exact hpk
            · exact HNO.out j o' (by omega) ho', hbel2⟩
        case measure => simp [intOf]; omega
      · go_wp2_with fail
        go_ret
        refine ⟨?_, hbel2⟩
        rw [idxOf_at (fun x _ => x == q) os k (kind, data) HO.out (by exact hpk) HNO.out]
        rfl
    · go_wp2_with fail
      go_ret
      refine ⟨?_, hbel⟩
      rw [idxOf_none (fun x _ => x == q) os (fun j o' h => HNO.out j o' (by
        have hj : j < os.length := (List.getElem?_eq_some_iff.1 h).1
        have := HV.out.1
        omega) h)]
      rfl
set_option maxHeartbeats 1000000 in
theorem find_any (q : Int) (A : Option Addr) (n cap : Nat) (os : List (Int × ByteArray)) (w : World) (hv : OptsAt w A n os) (hn : n ≤ 9223372036854775807) :
    Calls Try.prog 24 #[.int .i64 q, .slice A n cap] w fun e w' => e = .returned (.int .i64 (idxOf (fun x _ => x == q) os)) ∧ Below w.heap.size w w' := by
  have HV := Lib.hid hv; clear hv
  go_enter Try.func24, Try.ntmps24
  go_wp2_with fail
  refine (idx_find q w.heap.size A n cap os _ (HV.out.keep ((Below.refl _ _).alloc (Nat.le_refl _) _)) hn (by simp) (by simp)).mono ?_
  rintro e w1 ⟨rfl, hb1⟩
  go_wp2
  go_ret
  exact ⟨rfl, (by repeat' (first | (with_reducible exact Below.refl _ _) | (with_reducible apply Below.drew) | (with_reducible apply below_drewN) | (with_reducible apply Below.setCell) | (with_reducible apply Below.alloc) | (with_reducible refine below_step ?_ (by assumption) ?_) | omega | (simp; done) | (simp; omega)))⟩
end Go.Proofs.Ytjmcgekegenobaa
