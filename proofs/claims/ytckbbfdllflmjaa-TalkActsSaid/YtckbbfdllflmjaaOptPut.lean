/- The contract of opts.Put: which text or error. No condition but that a length is an int's. -/
import Derived.Test.YtckbbfdllflmjaaOptPlain
import Derived.Test.YtckbbfdllflmjaaBuilder
import Derived.Test.YtckbbfdllflmjaaShelf
namespace Go.Proofs.Ytckbbfdllflmjaa
open Go.RowKit
set_option linter.unusedVariables false
set_option linter.unusedSimpArgs false
attribute [local go_sem] conv1 conv1d conv1n conv1a conv1ad conv1an conv2 conv2d conv2n conv2a conv2ad conv2an conv4 conv4d conv4n conv4a conv4ad conv4an conv5 conv5d conv5n conv5a conv5ad conv5an size_nums byt_fold

theorem bld_alloc {T e : TypeId} {B b : Nat} {p : Value} {bs : List Value} {w : World} (h : Lib.BuilderAt T e B b p bs w) (o : Obj) : Lib.BuilderAt T e B b p bs (w.alloc o) := by
  have hlt := h.lt
  obtain ⟨hB, v, hb, hown, hne⟩ := h
  exact ⟨hB, v, (Below.heap_alloc _ _ _ hlt).trans hb, hown.alloc o, hne⟩
theorem isb_alloc {T e : TypeId} {B b : Nat} {bs : List Value} {w : World} (h : Lib.IsBuilder T e B b bs w) (o : Obj) : Lib.IsBuilder T e B b bs (w.alloc o) := by
  rcases h with h | h
  · exact .inl (bld_alloc h o)
  · exact .inr (bld_alloc h o)
theorem isb_drewN {T e : TypeId} {B b : Nat} {bs : List Value} {w : World} (h : Lib.IsBuilder T e B b bs w) (n : Nat) : Lib.IsBuilder T e B b bs (w.drewN n) := h

def PutR (os : List (Int × ByteArray)) (B : Nat) (w : World) (k : Nat) (wr : World) : Prop :=
  k ≤ os.length ∧ oLong (os.take k) 0 = false ∧ Lib.IsBuilder 93 5 B B (Lib.strCells (oJoin (os.take k))) wr ∧ Below B w wr
theorem strCells_app (a b : ByteArray) : Lib.strCells (a ++ b) = Lib.strCells a ++ Lib.strCells b := by
  unfold Lib.strCells; rw [show (a ++ b).data.toList = a.data.toList ++ b.data.toList by simp [ByteArray.data_append], List.map_append]
theorem put_step {os : List (Int × ByteArray)} {B : Nat} {w : World} {k : Nat} {kind : Int} {data : ByteArray} {w2 : World} (ho : os[k]? = some (kind, data)) (hl : oLong (os.take k) 0 = false) (h1 : data.size ≤ 253) (h2 : oSum (os.take k) + 2 + data.size ≤ 2048)
    (hb : Lib.BuilderAt 93 5 B B (.pointer (some ⟨B, 0, none⟩)) (Lib.strCells (oJoin (os.take k)) ++ Lib.strCells (strOfNums [kind, 2 + (data.size : Int)] ++ data)) w2) (hbel : Below B w w2) : PutR os B w (k + 1) w2 := by
  refine ⟨?_, ?_, .inr ?_, hbel⟩
  · have := (List.getElem?_eq_some_iff.1 ho).1; omega
  · rw [oLong_snoc ho, hl, decide_eq_false (by simp; omega)]; rfl
  · rw [oJoin_snoc ho, strCells_app]; exact hb

set_option maxRecDepth 100000 in
set_option maxHeartbeats 1000000 in
theorem optput_any (A : Option Addr) (n cap : Nat) (os : List (Int × ByteArray)) (w : World) (hv : OptsAt w A n os) (hn : n ≤ 9223372036854775807) :
    Calls Try.prog 39 #[.slice A n cap] w (OptPut os w) := by
  have HV := Lib.hid hv; clear hv
  cases hbad : oBad os
  case true =>
    have HB := Lib.hid hbad; clear hbad
    go_enter Try.func39, Try.ntmps39
    go_wp2_with fail
    refine (contains_put A n cap os w HV.out hn).mono ?_
    rintro e w1 ⟨rfl, hb1⟩
    rw [idx_bad, HB.out]
    go_wp2
    go_ret2
    exact optput_bad hb1 HB.out
  have HB := Lib.hid hbad; clear hbad
  go_enter Try.func39, Try.ntmps39
  go_wp2_with fail
  refine (contains_put A n cap os w HV.out hn).mono ?_
  rintro e w1 ⟨rfl, hb1⟩
  rw [idx_bad, HB.out]
  have hz1 := hb1.size
  have HV1 := Lib.hid (HV.out.keep hb1)
  go_wp2_with fail
  go_loopw [11] (fun i wr => ∃ k : Nat, i = .int .i64 k ∧ PutR os w1.heap.size w1 k wr) (fun i _ => n - (intOf i).toNat)
  case atStart => exact ⟨0, rfl, by omega, rfl, Lib.fresh_isBuilder _ _ _, (Below.refl _ _).alloc (Nat.le_refl _) _⟩
  case round =>
    obtain ⟨k, rfl, hR⟩ := hrel
    obtain ⟨hk, hlong, hbld, hbel⟩ := hR
    have HL := Lib.hid hlong; clear hlong
    have HBLD := Lib.hid hbld; clear hbld
    have hlen := HV1.out.1
    have hkn : k ≤ n := by omega
    clear hlen
    have hzr := hbel.size
    by_cases hlt : k < n
    · obtain ⟨b, off, kind, data, rfl, hb, ho, c1, c2⟩ := HV1.out.at_ k hlt
      have HO := Lib.hid ho; clear ho
      have d1 := (hbel.cell (p := ⟨b, off + k * 2, none⟩) hb).trans c1
      have d2 := (hbel.cell (p := ⟨b, off + k * 2 + 1, none⟩) hb).trans c2
      clear c1 c2
      obtain ⟨q0, q1⟩ := badK_of HB.out HO.out
      have hs1 := oLong_sum _ _ HL.out (by omega)
      have hlc : (Lib.strCells (oJoin (os.take k))).length = oSum (os.take k) := by rw [Lib.strCells_length, oJoin_size]
      have HLC := Lib.hid hlc; clear hlc
      obtain ⟨L, hL⟩ : ∃ L, oSum (os.take k) = L := ⟨_, rfl⟩
      rw [hL] at hs1
      have HL2 := Lib.hid hL; clear hL
      have hLen : ∀ nq, Calls Try.prog 47 #[.pointer (some ⟨w1.heap.size, 0, none⟩)] ((wr.alloc (.cells #[.int .i64 kind, .string data] 65)).drewN nq) fun e w' => e = .returned (.int .i64 (L : Int)) ∧ w' = (wr.alloc (.cells #[.int .i64 kind, .string data] 65)).drewN nq := by
        intro nq
        have h := Try.Builder_Len w1.heap.size w1.heap.size _ _ (isb_drewN (isb_alloc HBLD.out (.cells #[.int .i64 kind, .string data] 65)) nq)
        rw [HLC.out, HL2.out] at h
        exact h
      have HLEN := Lib.hid hLen; clear hLen
      by_cases hd : 253 < data.size
      · have hd1 : decide ((253 : Int) < (data.size : Int)) = true := by simp; omega
        go_wp2_with fail
        go_quiet (fail)
        go_wp2
        go_ret2
        have hl : oLong (os.take (k + 1)) 0 = true := by rw [oLong_snoc HO.out, decide_eq_true (.inl hd)]; simp
        refine optput_long ?_ HB.out (oLong_take hl)
        refine below_step hb1 (below_drewN (hbel.alloc hzr _) _) hz1
      · have hd1 : decide ((253 : Int) < (data.size : Int)) = false := by simp; omega
        have x1 : IntKind.i64.wrap ((L : Int) + 2) = (L : Int) + 2 := IntWalk.i64_in _ (by omega)
        have x2 : IntKind.i64.wrap ((L : Int) + 2 + data.size) = (L : Int) + 2 + data.size := IntWalk.i64_in _ (by omega)
        go_wp2_with fail
        go_quiet ((go_at_call 47; exact Calls.quiet_of_same (HLEN.out _)))
        clear x1 x2
        by_cases hx : 2048 < L + 2 + data.size
        · go_wp2_with fail
          go_ret2
          have hl : oLong (os.take (k + 1)) 0 = true := by rw [oLong_snoc HO.out, HL2.out, decide_eq_true (.inr hx)]; simp
          refine optput_long ?_ HB.out (oLong_take hl)
          refine below_step hb1 (below_drewN (hbel.alloc hzr _) _) hz1
        · go_wp2_with fail
          refine (write_any w1.heap.size w1.heap.size (Lib.strCells (oJoin (os.take k))) _ _ (isb_alloc (isb_drewN (isb_alloc HBLD.out _) _) _) ?_ ?_).mono ?_
          · rw [HLC.out, HL2.out, size_app, size_nums]; simp; omega
          · simp; omega
          rintro e w2 ⟨rfl, hbld2, hbel2⟩
          have hbel3 : Below w1.heap.size w1 w2 := ((below_drewN (hbel.alloc hzr _) _).alloc (by simp; omega) _).trans hbel2
          go_wp2_with fail
          go_roundw
          case rel => exact ⟨k + 1, by go_num, put_step HO.out HL.out (by omega) (by rw [HL2.out]; omega) hbld2 hbel3⟩
          case measure => simp [intOf]; omega
    · go_wp2_with fail
      have hkl : k = os.length := by have := HV1.out.1; omega
      have hall : os.take k = os := by rw [hkl]; exact List.take_length
      refine (Try.Builder_String_any w1.heap.size w1.heap.size (oJoin (os.take k)).data.toList _ HBLD.out hzr).mono ?_
      rintro e w2 ⟨rfl, hbel2⟩
      go_wp2_with fail
      go_ret2
      have hl := HL.out
      rw [hall] at hl
      refine optput_ok ?_ HB.out hl (by first | rfl | (rw [hall]))
      exact below_step hb1 (hbel.trans hbel2) hz1
end Go.Proofs.Ytckbbfdllflmjaa
