/- The contract of package circuit's Turn where there is such a pipe. No condition but sizes. -/
import Derived.Test.YtmbnonkbflchoaaCirX
import Derived.Test.YtmbnonkbflchoaaStill
namespace Go.Proofs.Ytmbnonkbflchoaa
open Go.RowKit
set_option linter.unusedVariables false
set_option linter.unusedSimpArgs false
open Go.Maps
theorem u8_of (z : Int) : ∃ u : UInt8, IntKind.u8.wrap z = (u.toNat : Int) := by
  have h : 0 ≤ IntKind.u8.wrap z ∧ IntKind.u8.wrap z < 256 := by
    simp [IntKind.wrap, IntKind.bits, IntKind.signed]; omega
  refine ⟨UInt8.ofNat (IntKind.u8.wrap z).toNat, ?_⟩
  rw [UInt8.toNat_ofNat']
  omega
theorem xor_u8 (a b : Int) : ∃ u : UInt8, bits .xor .u8 a b = (u.toNat : Int) := by
  obtain ⟨u, hu⟩ := u8_of (BitVec.toNat ((BitVec.ofInt 8 a) ^^^ (BitVec.ofInt 8 b)))
  exact ⟨u, hu⟩
theorem bit_parts (bit N : Nat) (hb : bit < 64) (size : Nat) (h0 : 0 < size) (hN : N = 8 * size) : ∃ m j r : Nat, (bit : Int).tmod (N : Int) = (m : Int) ∧ (m : Int).tdiv 8 = (j : Int) ∧ (m : Int).tmod 8 = (r : Int) ∧ m < 64 ∧ j < size ∧ r < 8 ∧ wrap64 (m : Int) = (m : Int) ∧ wrap64 (j : Int) = (j : Int) ∧ wrap64 (r : Int) = (r : Int) ∧ IntKind.i64.wrap (j : Int) = (j : Int) := by
  have hm : bit % N < N := Nat.mod_lt _ (by omega)
  have hle := Nat.mod_le bit N
  refine ⟨bit % N, bit % N / 8, bit % N % 8, ?_, ?_, ?_, by omega, by omega, by omega, wrap_in (by omega) (by omega), wrap_in (by omega) (by omega), wrap_in (by omega) (by omega), IntWalk.i64_in _ (by omega)⟩
  · rw [Int.tmod_eq_emod_of_nonneg (by omega)]; rfl
  · rw [Int.tdiv_eq_ediv_of_nonneg (by omega)]; rfl
  · rw [Int.tmod_eq_emod_of_nonneg (by omega)]; rfl
theorem row_free {w : World} {v : Value} {ps : List Pc} {r : Nat} (h : PsAt w v ps) (ho : v.ownBlock = some r) (i : Nat) : w.frozen? ⟨r, i, none⟩ = false := by
  rcases h.1.2 with ⟨h1, -⟩ | ⟨g, cap, cur, h1, -, hg, -⟩
  · rw [h1] at ho; cases ho
  · rw [h1] at ho
    have e : g = r := Option.some.inj ho
    subst e
    unfold World.frozen?
    rw [hg]
    simp
set_option maxRecDepth 100000 in
set_option maxHeartbeats 4000000 in
theorem turn_ok0 (g : Nat) (s : Sw) (c : Int) (q bit : Nat) (x : Pipe × Pipe) (ps : List Pc) (w : World) (h : SwAt w g s) (hc : (Lit.int .i64 c).wf = true) (hq : s.D.atKey (keyD c) nilD = .lit (.int .i64 (q : Int))) (hb : Blk w q 58 (cirC x)) (hps : PsAt w x.1.v ps) (hbit : bit < 64) (hsm : (cat ps).size ≤ 65536) (hlen : ps.length ≤ 1000000) : Calls Try.prog 19 #[.pointer (some ⟨g, 0, none⟩), .int .i64 c, .int .i64 0, .int .i64 (bit : Int)] w (TurnR g s q 0 x ps w) := by
  have H := Lib.hid h
  obtain ⟨A, capv, hv⟩ := own_form hps.1
  have q0 : w.cell? ⟨q, 0, none⟩ = some (.slice A ps.length capv) := by rw [← hv]; exact hb.cell 0
  have HB := Lib.hid hb
  have HP := Lib.hid hps
  have HV := Lib.hid hv
  have hb0 : ¬ (bit : Int) < 0 := by omega
  clear h hb hps hv
  go_enter Try.func19, Try.ntmps19
  go_wp2_with fail
  refine (open_ok g s c 0 q _ H.out hc hq (.inl rfl)).mono ?_
  rintro e w1 ⟨rfl, rfl⟩
  go_wp2_with fail
  go_loopw [33] (fun i wr => ∃ k : Nat, i = .int .i64 k ∧ wr = w ∧ k ≤ ps.length) (fun i _ => ps.length - (intOf i).toNat)
  case atStart => exact ⟨0, rfl, by trivial, Nat.zero_le _⟩
  case round =>
    obtain ⟨k, rfl, rfl, hkn⟩ := hrel
    by_cases hlt : k < ps.length
    · obtain ⟨p, hp⟩ : ∃ p, ps[k]? = some p := ⟨_, List.getElem?_eq_getElem hlt⟩
      have hpm := List.mem_of_getElem? hp
      have hpa := HP.out.2 p hpm
      have hsz := pc_small hpm
      obtain ⟨r, rfl, ho, hrl, k0, k1⟩ := row_at HP.out HV.out hp
      have y1 : (k : Int) < (ps.length : Int) := by omega
      obtain ⟨met, hmet⟩ : ∃ m, p.met = m := ⟨_, rfl⟩
      rw [hmet] at k1
      have HPA := Lib.hid hpa
      clear hpa
      cases met with
      | true =>
        go_wp2_with fail
        go_roundw
        case rel => exact ⟨k + 1, by go_num, by trivial, by omega⟩
        case measure => simp [intOf]; omega
      | false =>
        obtain ⟨n, hn⟩ : ∃ n, p.d.size = n := ⟨_, rfl⟩
        rw [hn] at k0 hsz
        have hfr : ∀ i, wr.frozen? ⟨r, i, none⟩ = false := row_free HP.out ho
        have HFIN := Lib.hid (turn_met (n := 0) H.out HB.out HP.out hp ho)
        by_cases h0 : n = 0
        · have y2 : ¬ (0 : Int) < 8 * (n : Int) := by omega
          have hN : wrap64 (8 * (n : Int)) = 8 * (n : Int) := IntWalk.wrap64_in _ (by omega)
          go_wp2_with fail
          go_ret
          exact HFIN.out
        · have y2 : (0 : Int) < 8 * (n : Int) := by omega
          have y3 : ¬ 8 * (n : Int) = 0 := by omega
          obtain ⟨m, j, rr, e1, e2, e3, hm, hj, hr8, hz⟩ := bit_parts bit (8 * n) hbit n (by omega) rfl
          have Z := Lib.hid hz; clear hz
          have e1' : (bit : Int).tmod (8 * (n : Int)) = (m : Int) := by rw [← e1]; norm_cast
          have hbr : p.b ≠ r := by rintro e; exact pc_ne HP.out.1 HPA.out (by decide) (by rw [ho, e])
          have hpa2 : PcAt (wr.setCell ⟨r, k * 2 + 1, none⟩ (.bool true)) p := HPA.out.same (Below.heap_setCell _ _ _ _ hbr)
          obtain ⟨⟨u, d0⟩, d1⟩ := pc_cell hpa2 (by rw [hn]; exact hj)
          have z1 : (j : Int) < (n : Int) := by omega
          have z5 : ¬ (rr : Int) < 0 := by omega
          have hN : wrap64 (8 * (n : Int)) = 8 * (n : Int) := IntWalk.wrap64_in _ (by omega)
          clear e1
          go_wp2_with fail
          clear hN
          obtain ⟨-, -, -, z6⟩ := Z.out
          (refine region_tail 17 (by kernel_rfl) (by kernel_rfl) ?_; simp only [List.take_succ_cons, List.take_zero, List.drop_succ_cons, List.drop_zero]; (repeat (first | (refine wpStill_step (fun K hK => ?_); go_simp; refine hK _ ?_; clear hK K) | (refine wpStill_step (fun K hK => ?_); go_simp; refine ⟨_, rfl, hK _ ?_⟩; clear hK K))); refine wpStill_nil ?_)
          obtain ⟨v, hv2⟩ := xor_u8 (u.toNat : Int) (IntKind.u8.wrap (2 ^ rr))
          rw [hv2]
          have HFIN := Lib.hid (turn_data (n := 0) (j := j) v H.out HB.out HP.out hp ho 1 rfl)
          clear z6 hv2
          go_wp2_with fail
          go_ret
          exact HFIN.out
    · obtain rfl : k = ps.length := by omega
      have y1 : ¬ (ps.length : Int) < (ps.length : Int) := by omega
      have HFIN := Lib.hid (turn_none (n := 0) H.out HB.out HP.out)
      go_wp2_with fail
      go_ret
      exact HFIN.out
set_option maxRecDepth 100000 in
set_option maxHeartbeats 4000000 in
theorem turn_ok1 (g : Nat) (s : Sw) (c : Int) (q bit : Nat) (x : Pipe × Pipe) (ps : List Pc) (w : World) (h : SwAt w g s) (hc : (Lit.int .i64 c).wf = true) (hq : s.D.atKey (keyD c) nilD = .lit (.int .i64 (q : Int))) (hb : Blk w q 58 (cirC x)) (hps : PsAt w x.2.v ps) (hbit : bit < 64) (hsm : (cat ps).size ≤ 65536) (hlen : ps.length ≤ 1000000) : Calls Try.prog 19 #[.pointer (some ⟨g, 0, none⟩), .int .i64 c, .int .i64 1, .int .i64 (bit : Int)] w (TurnR g s q 1 x ps w) := by
  have H := Lib.hid h
  obtain ⟨A, capv, hv⟩ := own_form hps.1
  have q0 : w.cell? ⟨q, 3, none⟩ = some (.slice A ps.length capv) := by rw [← hv]; exact hb.cell 3
  have HB := Lib.hid hb
  have HP := Lib.hid hps
  have HV := Lib.hid hv
  have hb0 : ¬ (bit : Int) < 0 := by omega
  clear h hb hps hv
  go_enter Try.func19, Try.ntmps19
  go_wp2_with fail
  refine (open_ok g s c 1 q _ H.out hc hq (.inr rfl)).mono ?_
  rintro e w1 ⟨rfl, rfl⟩
  go_wp2_with fail
  go_loopw [33] (fun i wr => ∃ k : Nat, i = .int .i64 k ∧ wr = w ∧ k ≤ ps.length) (fun i _ => ps.length - (intOf i).toNat)
  case atStart => exact ⟨0, rfl, by trivial, Nat.zero_le _⟩
  case round =>
    obtain ⟨k, rfl, rfl, hkn⟩ := hrel
    by_cases hlt : k < ps.length
    · obtain ⟨p, hp⟩ : ∃ p, ps[k]? = some p := ⟨_, List.getElem?_eq_getElem hlt⟩
      have hpm := List.mem_of_getElem? hp
      have hpa := HP.out.2 p hpm
      have hsz := pc_small hpm
      obtain ⟨r, rfl, ho, hrl, k0, k1⟩ := row_at HP.out HV.out hp
      have y1 : (k : Int) < (ps.length : Int) := by omega
      obtain ⟨met, hmet⟩ : ∃ m, p.met = m := ⟨_, rfl⟩
      rw [hmet] at k1
      have HPA := Lib.hid hpa
      clear hpa
      cases met with
      | true =>
        go_wp2_with fail
        go_roundw
        case rel => exact ⟨k + 1, by go_num, by trivial, by omega⟩
        case measure => simp [intOf]; omega
      | false =>
        obtain ⟨n, hn⟩ : ∃ n, p.d.size = n := ⟨_, rfl⟩
        rw [hn] at k0 hsz
        have hfr : ∀ i, wr.frozen? ⟨r, i, none⟩ = false := row_free HP.out ho
        have HFIN := Lib.hid (turn_met (n := 1) H.out HB.out HP.out hp ho)
        by_cases h0 : n = 0
        · have y2 : ¬ (0 : Int) < 8 * (n : Int) := by omega
          have hN : wrap64 (8 * (n : Int)) = 8 * (n : Int) := IntWalk.wrap64_in _ (by omega)
          go_wp2_with fail
          go_ret
          exact HFIN.out
        · have y2 : (0 : Int) < 8 * (n : Int) := by omega
          have y3 : ¬ 8 * (n : Int) = 0 := by omega
          obtain ⟨m, j, rr, e1, e2, e3, hm, hj, hr8, hz⟩ := bit_parts bit (8 * n) hbit n (by omega) rfl
          have Z := Lib.hid hz; clear hz
          have e1' : (bit : Int).tmod (8 * (n : Int)) = (m : Int) := by rw [← e1]; norm_cast
          have hbr : p.b ≠ r := by rintro e; exact pc_ne HP.out.1 HPA.out (by decide) (by rw [ho, e])
          have hpa2 : PcAt (wr.setCell ⟨r, k * 2 + 1, none⟩ (.bool true)) p := HPA.out.same (Below.heap_setCell _ _ _ _ hbr)
          obtain ⟨⟨u, d0⟩, d1⟩ := pc_cell hpa2 (by rw [hn]; exact hj)
          have z1 : (j : Int) < (n : Int) := by omega
          have z5 : ¬ (rr : Int) < 0 := by omega
          have hN : wrap64 (8 * (n : Int)) = 8 * (n : Int) := IntWalk.wrap64_in _ (by omega)
          clear e1
          go_wp2_with fail
          clear hN
          obtain ⟨-, -, -, z6⟩ := Z.out
          (refine region_tail 17 (by kernel_rfl) (by kernel_rfl) ?_; simp only [List.take_succ_cons, List.take_zero, List.drop_succ_cons, List.drop_zero]; (repeat (first | (refine wpStill_step (fun K hK => ?_); go_simp; refine hK _ ?_; clear hK K) | (refine wpStill_step (fun K hK => ?_); go_simp; refine ⟨_, rfl, hK _ ?_⟩; clear hK K))); refine wpStill_nil ?_)
          obtain ⟨v, hv2⟩ := xor_u8 (u.toNat : Int) (IntKind.u8.wrap (2 ^ rr))
          rw [hv2]
          have HFIN := Lib.hid (turn_data (n := 1) (j := j) v H.out HB.out HP.out hp ho 1 rfl)
          clear z6 hv2
          go_wp2_with fail
          go_ret
          exact HFIN.out
    · obtain rfl : k = ps.length := by omega
      have y1 : ¬ (ps.length : Int) < (ps.length : Int) := by omega
      have HFIN := Lib.hid (turn_none (n := 1) H.out HB.out HP.out)
      go_wp2_with fail
      go_ret
      exact HFIN.out
end Go.Proofs.Ytmbnonkbflchoaa
