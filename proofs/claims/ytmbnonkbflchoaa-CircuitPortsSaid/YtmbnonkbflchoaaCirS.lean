/- The law CircuitFull, walked. No condition. -/
import Derived.Test.YtmbnonkbflchoaaCirR
import Derived.Test.YtmbnonkbflchoaaIntView
import Derived.Test.YtmbnonkbflchoaaMake
namespace Go.Proofs.Ytmbnonkbflchoaa
open Go.RowKit
set_option linter.unusedVariables false
set_option linter.unusedSimpArgs false
open Go.Maps
theorem full_put {B : Ab} {y : AP} {d : ByteArray} {k m : Nat} (hA : B.A 1 = some (y, ⟨d, 0⟩)) (hm : B.most = (m : Int)) (hfit : d.size + k ≤ m) : sendA B 1 1 (zstr k) = (0, setA B 1 1 (y, ⟨d, 0⟩) ⟨d ++ zstr k, 0⟩) := by
  rw [send_put hA rfl (by show ¬ B.most - (d.size : Int) < _; rw [zstr_size, hm]; omega) (by show ¬ (0 : Int) < 0; omega)]
  rfl
theorem full_over {B : Ab} {y : AP} {d : ByteArray} {k m : Nat} (hA : B.A 1 = some (y, ⟨d, 0⟩)) (hm : B.most = (m : Int)) (hfit : ¬ d.size + k ≤ m) : sendA B 1 1 (zstr k) = (2500, B) :=
  send_over hA rfl (by show B.most - (d.size : Int) < _; rw [zstr_size, hm]; omega)
theorem full_get {B : Ab} {y : AP} {d : ByteArray} (hA : B.A 1 = some (y, ⟨d, 0⟩)) : readA B 1 0 = (d, 0, setA B 1 1 (y, ⟨d, 0⟩) ⟨⟨#[]⟩, 0⟩) := by
  rw [read_get (n := 1) hA (wrap_in (by decide) (by decide)) rfl]
  rfl
def FuS (m h : Nat) (B : Ab) : Prop := B.most = (m : Int) ∧ ∃ y d, B.A 1 = some (y, ⟨d, 0⟩) ∧ d.size = h ∧ h ≤ m
theorem fus_send {m h k : Nat} {B : Ab} (hs : FuS m h B) : ∃ e B', sendA B 1 1 (zstr k) = (e, B') ∧ ((h + k ≤ m ∧ e = 0 ∧ FuS m (h + k) B') ∨ (¬ h + k ≤ m ∧ e = 2500 ∧ FuS m h B')) := by
  obtain ⟨hm, y, d, hA, rfl, hle⟩ := hs
  by_cases hf : d.size + k ≤ m
  · refine ⟨_, _, full_put hA hm hf, .inl ⟨hf, rfl, hm, y, d ++ zstr k, rfl, ?_, hf⟩⟩
    rw [ByteArray.size_append, zstr_size]
  · exact ⟨_, _, full_over hA hm hf, .inr ⟨hf, rfl, hm, y, d, hA, rfl, hle⟩⟩
theorem fus_read {m h : Nat} {B : Ab} (hs : FuS m h B) : ∃ d B', readA B 1 0 = (d, 0, B') ∧ d.size = h ∧ FuS m 0 B' := by
  obtain ⟨hm, y, d, hA, rfl, hle⟩ := hs
  exact ⟨d, _, full_get hA, rfl, hm, y, ⟨#[]⟩, rfl, rfl, Nat.zero_le _⟩
theorem ints_cell {w : World} {b off n i : Nat} {zs : List Int} {z : Int} (h : IntsAt w (some ⟨b, off, none⟩) n zs) (hi : i < n) (ho : zs[i]? = some z) : w.cell? ⟨b, off + i, none⟩ = some (.int .i64 z) := by
  obtain ⟨b', off', z', e, _, ho', hc⟩ := h.at_ i hi
  injection e with e
  injection e with e1 e2
  subst e1 e2
  rw [ho] at ho'
  obtain rfl := Option.some.inj ho'
  exact hc
theorem and127 (x : Int) : ∃ j : Nat, bits .and .i64 x 127 = (j : Int) ∧ j < 128 := by
  have e : bits .and .i64 x 127 = x % 128 := i64_mask 7 (by decide) x
  exact ⟨(x % 128).toNat, by rw [e]; omega, by omega⟩
theorem and255 (x : Int) : ∃ j : Nat, bits .and .i64 x 255 = (j : Int) ∧ j < 256 := by
  have e : bits .and .i64 x 255 = x % 256 := i64_mask 8 (by decide) x
  exact ⟨(x % 256).toNat, by rw [e]; omega, by omega⟩
def FuB (m : Nat) (w0 : World) (g i h : Nat) (w : World) : Prop := ∃ (B : Ab) (L : Lab), St w0 w L (2 + 2 * i) g B ∧ FuS m h B ∧ i ≤ 40
theorem fub_le {m g i h : Nat} {w0 w : World} (hb : FuB m w0 g i h w) : h ≤ m ∧ i ≤ 40 := by
  obtain ⟨B, L, h1, ⟨h2, y, d, h3, h4, h5⟩, h6⟩ := hb
  exact ⟨h5, h6⟩
theorem sum_fit {h k m : Nat} (hf : h + k ≤ m) (hm : m ≤ 256) : ∃ q : Nat, q = h + k ∧ wrap64 ((h : Int) + (k : Int)) = (q : Int) ∧ (q : Int) ≤ (m : Int) ∧ ¬ (m : Int) < (q : Int) := by
  refine ⟨h + k, rfl, ?_, by omega, by omega⟩
  rw [wrap_in (by omega) (by omega)]; omega
theorem sum_over {h k m : Nat} (hf : ¬ h + k ≤ m) (hm : h ≤ 256) (hk : k < 128) : ∃ q : Nat, q = h + k ∧ wrap64 ((h : Int) + (k : Int)) = (q : Int) ∧ ¬ (q : Int) ≤ (m : Int) ∧ (m : Int) < (q : Int) := by
  refine ⟨h + k, rfl, ?_, by omega, by omega⟩
  rw [wrap_in (by omega) (by omega)]; omega
theorem dial_first (m : Int) : dialA (newB 1 m) = (1, 0, ⟨1, m, 1, 0, 1, fun k => if k = 0 + 1 then some (zeroAP, zeroAP) else none⟩) := rfl
set_option maxRecDepth 100000 in
set_option maxHeartbeats 4000000 in
theorem full_walk (most : Int) (A : Option Addr) (n cap : Nat) (zs : List Int) (_ : (Lit.int .i64 most).wf = true) (hnil : A = none → n = 0 ∧ cap = 0) (hcap : n ≤ cap) (hz : n * 8 ≤ 140737488351232) (w0 : World) (hv : IntsAt w0 A n zs) : Calls Try.prog 4 #[.int .i64 most, .slice A n cap] w0 fun e w' => e = .returned (.bool true) ∧ Below w0.heap.size w0 w' := by
  have HV := Lib.hid hv; clear hv hnil hcap
  obtain ⟨m0, hm0, hm1⟩ := and255 most
  obtain ⟨m, hm⟩ : ∃ m : Nat, m = 1 + m0 := ⟨_, rfl⟩
  have hwm : wrap64 (1 + (m0 : Int)) = (m : Int) := by rw [wrap_in (by omega) (by omega)]; omega
  have hmm : 1 ≤ m ∧ m ≤ 256 := by omega
  clear hm hm1
  go_enter Try.func4, Try.ntmps4
  go_wp2_with fail
  refine (awake_any _).mono ?_
  rintro e w1 ⟨rfl, hb1⟩
  go_wp2_with fail
  refine (new_under 1 (m : Int) _ hb1 (by decide) (by decide) (by omega) (by omega)).mono ?_
  rintro e w2 ⟨rfl, -, L2, h2⟩
  generalize w1.heap.size + 1 = g at *
  go_wp2_with fail
  refine (dial_to 1 0 1 0 h2 (dial_first _) (by omega) rfl rfl).mono ?_
  rintro e w3 ⟨rfl, L3, h3, -⟩
  have H3 := Lib.hid h3; clear h2 h3
  go_wp2_with fail
  go_loopw [10, 11] (fun u i wr => ∃ h k : Nat, u = .int .i64 h ∧ i = .int .i64 k ∧ FuB m w0 g k h wr) (fun _ i _ => 50 - (intOf i).toNat)
  case atStart => exact ⟨0, 0, rfl, rfl, _, L3, H3.out.more (by omega), ⟨rfl, zeroAP, ⟨#[]⟩, rfl, rfl, Nat.zero_le _⟩, by omega⟩
  case round =>
    obtain ⟨h, i, rfl, rfl, hrel⟩ := hrel
    have hle := fub_le hrel
    obtain ⟨B, L, hst, hfu, -⟩ := hrel
    have H := Lib.hid hst
    have HF := Lib.hid hfu
    clear hst hfu
    by_cases hlt : i < n
    · by_cases h40 : i < 40
      · obtain ⟨b, off, z, rfl, hb, ho, c1⟩ := (HV.out.keep H.out.2.1).at_ i hlt
        have y1 : (i : Int) < (n : Int) := by omega
        have y2 : (i : Int) < 40 := by omega
        obtain ⟨k, hk, hk7⟩ := and127 z
        have hmk := fun W => run_mk k (by omega) W
        have hcv := fun W => conv_z k W W.heap.size k rfl
        obtain ⟨e1, B1, hs1, hc1⟩ := fus_send (k := k) HF.out
        have HS1 := Lib.hid hs1; have HC1 := Lib.hid hc1
        have HO := Lib.hid ho
        clear hs1 hc1 ho
        go_wp2_with fail
        refine (send_to 1 1 e1 _ (H.out.alloc _) HS1.out (by omega) (wfi (by decide) (by decide))).mono ?_
        rintro e w4 ⟨rfl, L4, h4, -⟩
        have c2 := ints_cell (HV.out.keep h4.2.1) hlt HO.out
        obtain ⟨b128, hb128⟩ : ∃ q, (bits .and .i64 z 128 == 128) = q := ⟨_, rfl⟩
        rcases HC1.out with ⟨hf, rfl, hfu1⟩ | ⟨hf, rfl, hfu1⟩
        · obtain ⟨q, hq, hwk, hf2, hf3⟩ := sum_fit hf hmm.2
          rw [← hq] at hfu1
          obtain ⟨d, B2, hs2, hd2, hfu2⟩ := fus_read hfu1
          have HQ := Lib.hid hq; have HLE := Lib.hid hle; have HMM := Lib.hid hmm; clear hq hf hle hmm
          have HS2 := Lib.hid hs2; have HF1 := Lib.hid hfu1; have HF2 := Lib.hid hfu2; have HK7 := Lib.hid hk7
          clear hs2 hfu1 hfu2 hk7
          cases b128 with
          | true =>
            go_wp2_with (first | (go_at_call 11; refine (num_any _ _).mono ?_; rintro e w' ⟨rfl, rfl⟩))
            refine (read_to 1 0 0 _ h4 HS2.out (by omega) (wfi (by decide) (by decide))).mono ?_
            rintro e w5 ⟨rfl, L5, h5, -⟩
            subst hd2
            go_wp2_with (first | (go_at_call 11; refine (num_any _ _).mono ?_; rintro e w' ⟨rfl, rfl⟩))
            go_roundw
            case rel => exact ⟨0, i + 1, rfl, by go_num, B2, L5, h5.more (by omega), HF2.out, by omega⟩
            case measure => simp [intOf]; omega
          | false =>
            go_wp2_with (first | (go_at_call 11; refine (num_any _ _).mono ?_; rintro e w' ⟨rfl, rfl⟩))
            go_roundw
            case rel => exact ⟨q, i + 1, by rw [hwk], by go_num, B1, L4, h4.more (by omega), HF1.out, by omega⟩
            case measure => simp [intOf]; omega
        · obtain ⟨q, hq, hwk, hf2, hf3⟩ := sum_over hf (by omega) hk7
          skip
          obtain ⟨d, B2, hs2, hd2, hfu2⟩ := fus_read hfu1
          have HQ := Lib.hid hq; have HLE := Lib.hid hle; have HMM := Lib.hid hmm; clear hq hf hle hmm
          have HS2 := Lib.hid hs2; have HF1 := Lib.hid hfu1; have HF2 := Lib.hid hfu2; have HK7 := Lib.hid hk7
          clear hs2 hfu1 hfu2 hk7
          cases b128 with
          | true =>
            go_wp2_with (first | (go_at_call 11; refine (num_any _ _).mono ?_; rintro e w' ⟨rfl, rfl⟩))
            refine (read_to 1 0 0 _ h4 HS2.out (by omega) (wfi (by decide) (by decide))).mono ?_
            rintro e w5 ⟨rfl, L5, h5, -⟩
            subst hd2
            go_wp2_with (first | (go_at_call 11; refine (num_any _ _).mono ?_; rintro e w' ⟨rfl, rfl⟩))
            go_roundw
            case rel => exact ⟨0, i + 1, rfl, by go_num, B2, L5, h5.more (by omega), HF2.out, by omega⟩
            case measure => simp [intOf]; omega
          | false =>
            go_wp2_with (first | (go_at_call 11; refine (num_any _ _).mono ?_; rintro e w' ⟨rfl, rfl⟩))
            go_roundw
            case rel => exact ⟨h, i + 1, rfl, by go_num, B1, L4, h4.more (by omega), HF1.out, by omega⟩
            case measure => simp [intOf]; omega
      · have y1 : (i : Int) < (n : Int) := by omega
        have y2 : ¬ (i : Int) < 40 := by omega
        go_wp2_with (first | (go_at_call 11; refine (num_any _ _).mono ?_; rintro e w' ⟨rfl, rfl⟩))
        go_ret
        exact ⟨rfl, H.out.2.1⟩
    · have y1 : ¬ (i : Int) < (n : Int) := by omega
      go_wp2_with (first | (go_at_call 11; refine (num_any _ _).mono ?_; rintro e w' ⟨rfl, rfl⟩))
      go_ret
      exact ⟨rfl, H.out.2.1⟩
end Go.Proofs.Ytmbnonkbflchoaa
