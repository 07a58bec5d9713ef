/- Plain facts: how a side judges what a link asks by. No condition. -/
import Derived.Test.YtjmcgekegenobaaPolP
namespace Go.Proofs.Ytjmcgekegenobaa
open Go.RowKit
set_option linter.unusedVariables false
set_option linter.unusedSimpArgs false
theorem bad0_right {l : Lk} {o : Int × ByteArray} (h : rightB o.1 o.2 = true) (hk : o.1 ≠ 18) : bad0 l o = false := by
  unfold bad0
  rw [h]
  simp [hk]
theorem kind_ne18 {k : Nat} (hk : k < 6) (h3 : k ≠ 3) : kindAt k ≠ 18 := by
  rcases (by omega : k = 0 ∨ k = 1 ∨ k = 2 ∨ k = 4 ∨ k = 5) with rfl | rfl | rfl | rfl | rfl <;> (unfold kindAt; decide)
theorem filter_part {a b : Lk} (ha : mayB a = true) {k : Nat} (hk : k < 6) (h3 : k ≠ 3) : (askP a k).filter (bad0 b) = [] := by
  rw [List.filter_eq_nil_iff]
  intro o ho
  have hm : o ∈ askL a := by
    rw [askL_eq]
    simp only [List.mem_append]
    rcases (by omega : k = 0 ∨ k = 1 ∨ k = 2 ∨ k = 4 ∨ k = 5) with rfl | rfl | rfl | rfl | rfl
    all_goals simp [ho]
  have hr := ask_right ha o hm
  obtain ⟨rfl, -⟩ := askP_mem ho
  rw [bad0_right hr (kind_ne18 hk h3)]
  simp
def cS (a b : Lk) : Bool := a.short && !b.short
def cM (a b : Lk) : Bool := a.magic != 0 && a.magic == b.magic
theorem rej_ask {a b : Lk} (ha : mayB a = true) : (askL a).filter (bad0 b) = if cS a b then [(18, ⟨#[]⟩)] else [] := by
  rw [askL_eq]
  simp only [List.filter_append]
  rw [filter_part ha (k := 0) (by omega) (by omega), filter_part ha (k := 1) (by omega) (by omega), filter_part ha (k := 2) (by omega) (by omega), filter_part ha (k := 4) (by omega) (by omega), filter_part ha (k := 5) (by omega) (by omega)]
  simp only [List.nil_append, List.append_nil]
  unfold askP cS
  rw [show asksB a (kindAt 3) = a.short from rfl]
  cases a.short
  · rfl
  · show List.filter (bad0 b) [((18 : Int), (⟨#[]⟩ : ByteArray))] = _
    have : bad0 b (18, ⟨#[]⟩) = !b.short := by unfold bad0; rw [show rightB 18 ⟨#[]⟩ = true from rfl]; cases b.short <;> rfl
    simp only [List.filter_cons, List.filter_nil, this]
    cases b.short <;> rfl
theorem nak0_none {l : Lk} {o : Int × ByteArray} (h : bettO l o.1 o.2 = none) : nak0 l o = [] := by
  unfold nak0
  rw [h]
  cases bad0 l o <;> rfl
theorem nak_ask {a b : Lk} (ha : mayB a = true) : (askL a).flatMap (nak0 b) = if cM a b then [(5, be4 (flipM b.magic))] else [] := by
  obtain ⟨⟨a0, a1⟩, ⟨b0, b1⟩, ⟨c0, c1⟩, hd, ⟨d0, d1⟩⟩ := may_range ha
  have hu : (a.mru = 0 ∨ unitB a.mru = true) ∧ (a.mrru = 0 ∨ unitB a.mrru = true) := by
    unfold mayB at ha
    simp only [Bool.and_eq_true, Bool.or_eq_true, decide_eq_true_eq] at ha
    exact ⟨ha.1.1.1.1.1.1, ha.1.1.1.1.1.2⟩
  rw [askL_eq]
  simp only [List.flatMap_append]
  have p0 : (askP a 0).flatMap (nak0 b) = [] := by
    unfold askP
    rw [show asksB a (kindAt 0) = (a.mru != 0) from rfl]
    by_cases hz : a.mru = 0
    · rw [hz]; rfl
    · rw [show (a.mru != 0) = true by simpa using hz, if_pos rfl]
      show List.flatMap (nak0 b) [((1 : Int), be2 a.mru)] = []
      rw [List.flatMap_cons, nak0_none]
      · rfl
      · show bettO b 1 (be2 a.mru) = none
        unfold bettO
        rw [if_pos (.inl rfl), val_be2 a0 a1, if_pos (hu.1.resolve_left hz)]
  have p2 : (askP a 2).flatMap (nak0 b) = [] := by
    unfold askP
    rw [show asksB a (kindAt 2) = (a.mrru != 0) from rfl]
    by_cases hz : a.mrru = 0
    · rw [hz]; rfl
    · rw [show (a.mrru != 0) = true by simpa using hz, if_pos rfl]
      show List.flatMap (nak0 b) [((17 : Int), be2 a.mrru)] = []
      rw [List.flatMap_cons, nak0_none]
      · rfl
      · show bettO b 17 (be2 a.mrru) = none
        unfold bettO
        rw [if_pos (.inr rfl), val_be2 c0 c1, if_pos (hu.2.resolve_left hz)]
  have pn : ∀ k, k = 3 ∨ k = 4 ∨ k = 5 → (askP a k).flatMap (nak0 b) = [] := by
    intro k hk
    rw [List.flatMap_eq_nil_iff]
    intro o ho
    obtain ⟨rfl, -⟩ := askP_mem ho
    refine nak0_none ?_
    rcases hk with rfl | rfl | rfl
    · show bettO b 18 _ = none; rfl
    · show bettO b 19 _ = none; rfl
    · show bettO b 23 _ = none; rfl
  rw [p0, p2, pn 3 (by omega), pn 4 (by omega), pn 5 (by omega)]
  simp only [List.nil_append, List.append_nil]
  unfold askP cM
  rw [show asksB a (kindAt 1) = (a.magic != 0) from rfl]
  by_cases hz : a.magic = 0
  · rw [hz]; rfl
  · rw [show (a.magic != 0) = true by simpa using hz, if_pos rfl]
    show List.flatMap (nak0 b) [((5 : Int), be4 a.magic)] = _
    have hb : bad0 b (5, be4 a.magic) = false := bad0_right (by show rightB 5 (be4 a.magic) = true; unfold rightB; rw [size_be4]; rfl) (by show (5 : Int) ≠ 18; decide)
    have hv : bettO b 5 (be4 a.magic) = if a.magic == b.magic then some (5, be4 (flipM b.magic)) else none := by
      unfold bettO
      rw [if_neg (by decide), if_pos rfl, val_be4 b0 b1, show (a.magic == 0) = false by simpa using hz, Bool.false_or]
    rw [List.flatMap_cons, List.flatMap_nil, List.append_nil]
    unfold nak0
    rw [hb]
    show (bettO b 5 (be4 a.magic)).toList = _
    rw [hv]
    cases (a.magic == b.magic) <;> rfl
theorem judge_ask {a b : Lk} (ha : mayB a = true) : judV b (askL a) = (if cS a b then 2 else if cM a b then 1 else 0) ∧ judL b (askL a) = if cS a b then [(18, ⟨#[]⟩)] else if cM a b then [(5, be4 (flipM b.magic))] else askL a := by
  unfold judV judL
  rw [rej_alone (ask_alone a), nak_alone (ask_alone a), List.take_length, rej_ask ha, nak_ask ha]
  cases cS a b <;> cases cM a b <;> simp
theorem taken_ask {a : Lk} (ha : mayB a = true) : (if !anyBad (askL a) (askL a).length && mayB (setAll (askL a)) then #[lkV (setAll (askL a)), Value.int .i64 0] else #[lkV zeroL, .int .i64 1400]) = #[lkV a, .int .i64 0] := by
  rw [set_back ha, bad_none (ask_alone a) (ask_right ha), ha]
  rfl
end Go.Proofs.Ytjmcgekegenobaa
