/- Contracts of chapmsg.Put, Get and their helpers: what each answers, in plain words. No condition but that a string's length is an int's. -/
import Derived.Test.YtdfefpbpfneahaaStr
import Derived.Test.YtdfefpbpfneahaaPlain
import Derived.WalkSmall
namespace Go.Proofs.Ytdfefpbpfneahaa
open Go.RowKit
set_option linter.unusedVariables false
set_option linter.unusedSimpArgs false
attribute [local go_sem] conv1 conv1d conv1n conv1a conv1ad conv1an conv2 conv2d conv2n conv2a conv2ad conv2an conv4 conv4d conv4n conv4a conv4ad conv4an conv5 conv5d conv5n conv5a conv5ad conv5an size_nums byt_fold

def valB (c : Int) : Bool := (c == 1) || (c == 2)
def octB (x : Int) : Bool := decide (0 ≤ x ∧ x ≤ 255)
def chFit (c i : Int) (v : ByteArray) : Bool := decide (1 ≤ c) && decide (c ≤ 4) && octB i && (valB c == !v.toList.isEmpty) && decide (v.size ≤ 255)
def chBody (c : Int) (v nm : ByteArray) : ByteArray := if valB c then strOfNums [(v.size : Int)] ++ v ++ nm else nm
def chText (c i : Int) (v nm : ByteArray) : ByteArray :=
  strOfNums [c, i, (4 + ((chBody c v nm).size : Int)) / 256, (4 + ((chBody c v nm).size : Int)) % 256] ++ chBody c v nm
def chE (c i : Int) (v nm : ByteArray) : Int := if chFit c i v then (if nm.size ≤ 253 then 0 else 601) else 600
def chS (c i : Int) (v nm : ByteArray) : ByteArray := if chE c i v nm = 0 then chText c i v nm else ⟨#[]⟩
def ChPut (c i : Int) (v nm : ByteArray) (w : World) (e : Ending) (w' : World) : Prop :=
  e = .returned (.tuple #[.string (chS c i v nm), .int .i64 (chE c i v nm)]) ∧ Below w.heap.size w w'

theorem chFit_no {c i : Int} {v : ByteArray} (h : c < 1 ∨ 4 < c ∨ ¬ octB i = true ∨ ¬ (valB c = !v.toList.isEmpty) ∨ (255 : Int) < v.size) : chFit c i v = false := by
  unfold chFit
  rcases h with h | h | h | h | h
  · simp; omega
  · simp; omega
  · simp [h]
  · have : (valB c == !v.toList.isEmpty) = false := by simpa using h
    rw [this]; simp
  · simp; omega
theorem chFit_yes {c i : Int} {v : ByteArray} (h1 : 1 ≤ c) (h2 : c ≤ 4) (h3 : octB i = true) (h4 : valB c = !v.toList.isEmpty) (h5 : (v.size : Int) ≤ 255) : chFit c i v = true := by
  unfold chFit; rw [h3, h4]; simp; omega
theorem chput_bad {c i : Int} {v : ByteArray} (nm : ByteArray) {w w' : World} (hb : Below w.heap.size w w') (h : c < 1 ∨ 4 < c ∨ ¬ octB i = true ∨ ¬ (valB c = !v.toList.isEmpty) ∨ (255 : Int) < v.size) :
    ChPut c i v nm w (.returned (.tuple #[.string ⟨#[]⟩, .int .i64 600])) w' := by
  have e : chE c i v nm = 600 := by unfold chE; rw [chFit_no h]; rfl
  exact ⟨by unfold chS; rw [e]; rfl, hb⟩
theorem chput_long {c i : Int} {v nm : ByteArray} {w w' : World} (hb : Below w.heap.size w w') (h1 : 1 ≤ c) (h2 : c ≤ 4) (h3 : octB i = true) (h4 : valB c = !v.toList.isEmpty) (h5 : (v.size : Int) ≤ 255) (h6 : (253 : Int) < nm.size) :
    ChPut c i v nm w (.returned (.tuple #[.string ⟨#[]⟩, .int .i64 601])) w' := by
  have e : chE c i v nm = 601 := by unfold chE; rw [chFit_yes h1 h2 h3 h4 h5, if_pos rfl, if_neg (by omega)]
  exact ⟨by unfold chS; rw [e]; rfl, hb⟩
theorem chput_ok {c i : Int} {v nm s : ByteArray} {w w' : World} (hb : Below w.heap.size w w') (h1 : 1 ≤ c) (h2 : c ≤ 4) (h3 : octB i = true) (h4 : valB c = !v.toList.isEmpty) (h5 : (v.size : Int) ≤ 255) (h6 : (nm.size : Int) ≤ 253) (hs : s = chText c i v nm) :
    ChPut c i v nm w (.returned (.tuple #[.string s, .int .i64 0])) w' := by
  have e : chE c i v nm = 0 := by unfold chE; rw [chFit_yes h1 h2 h3 h4 h5, if_pos rfl, if_pos (by omega)]
  exact ⟨by unfold chS; rw [e, hs]; rfl, hb⟩

theorem oct_mod {i : Int} (h : octB i = true) : i % 256 = i := by
  unfold octB at h; simp at h; omega
theorem chText_v {c i : Int} {v nm : ByteArray} (h3 : octB i = true) (h4 : valB c = !v.toList.isEmpty) (h : (!v.toList.isEmpty) = true) :
    strOfNums [c, i % 256, (4 + (1 + (v.size : Int) + nm.size)) / 256, (4 + (1 + (v.size : Int) + nm.size)) % 256] ++ (strOfNums [(v.size : Int)] ++ v ++ nm) = chText c i v nm := by
  have hb : chBody c v nm = strOfNums [(v.size : Int)] ++ v ++ nm := by unfold chBody; rw [h4, h]; rfl
  unfold chText
  rw [hb, oct_mod h3, size_app, size_app, size_nums]; rfl
theorem chText_n {c i : Int} {v nm : ByteArray} (h3 : octB i = true) (h4 : valB c = !v.toList.isEmpty) (h : (!v.toList.isEmpty) = false) :
    strOfNums [c, i % 256, (4 + (nm.size : Int)) / 256, (4 + (nm.size : Int)) % 256] ++ nm = chText c i v nm := by
  have hb : chBody c v nm = nm := by unfold chBody; rw [h4, h]; rfl
  unfold chText
  rw [hb, oct_mod h3]

theorem valued_any (c : Int) (w : World) : Calls Try.prog 33 #[.int .i64 c] w fun e w' => e = .returned (.bool (valB c)) ∧ w = w' := by
  cases h1 : (c == 1) <;> cases h2 : (c == 2)
  all_goals
    go_enter Try.func33, Try.ntmps33
    go_wp2
    go_ret
    exact ⟨by simp only [valB, h1, h2]; rfl, rfl⟩
theorem octet_any (x : Int) (w : World) : Calls Try.prog 34 #[.int .i64 x] w fun e w' => e = .returned (.bool (octB x)) ∧ w = w' := by
  by_cases h1 : 0 ≤ x
  · by_cases h2 : x ≤ 255
    all_goals
      go_enter Try.func34, Try.ntmps34
      go_wp2
      go_ret
      exact ⟨by congr 2; unfold octB; simp; omega, rfl⟩
  · go_enter Try.func34, Try.ntmps34
    go_wp2
    go_ret
    exact ⟨by congr 2; unfold octB; simp; omega, rfl⟩

set_option maxHeartbeats 1000000 in
theorem put_any (c i : Int) (v nm : ByteArray) (w : World) :
    Calls Try.prog 25 #[.agg #[.int .i64 c, .int .i64 i, .string v, .string nm]] w (ChPut c i v nm w) := by
  go_enter Try.func25, Try.ntmps25
  go_wp2_with (first | (go_at_call 33; refine (valued_any _ _).mono ?_; rintro e w' ⟨rfl, rfl⟩) | (go_at_call 34; refine (octet_any _ _).mono ?_; rintro e w' ⟨rfl, rfl⟩))
  all_goals go_ret2
  · have h : (c < 1 ∨ 4 < c) ∨ (255 : Int) < v.size := by assumption
    exact chput_bad nm (by repeat' (first | (with_reducible exact Below.refl _ _) | (with_reducible apply Below.drew) | (with_reducible apply below_drewN) | (with_reducible apply Below.setCell) | (with_reducible apply Below.alloc) | (with_reducible refine below_step ?_ (by assumption) ?_) | omega | (simp; done) | (simp; omega))) (by rcases h with (h | h) | h; exact .inl h; exact .inr (.inl h); exact .inr (.inr (.inr (.inr h))))
  · have h : (1 ≤ c ∧ c ≤ 4) ∧ (v.size : Int) ≤ 255 := by assumption
    exact chput_long (by repeat' (first | (with_reducible exact Below.refl _ _) | (with_reducible apply Below.drew) | (with_reducible apply below_drewN) | (with_reducible apply Below.setCell) | (with_reducible apply Below.alloc) | (with_reducible refine below_step ?_ (by assumption) ?_) | omega | (simp; done) | (simp; omega))) (by assumption) (by assumption) (by assumption) (by assumption) h.2 (by assumption)
  · have h : (1 ≤ c ∧ c ≤ 4) ∧ (v.size : Int) ≤ 255 := by assumption
    refine chput_ok ?_ (by assumption) (by assumption) (by assumption) (by assumption) h.2 (by assumption) ?_
    · exact (by repeat' (first | (with_reducible exact Below.refl _ _) | (with_reducible apply Below.drew) | (with_reducible apply below_drewN) | (with_reducible apply Below.setCell) | (with_reducible apply Below.alloc) | (with_reducible refine below_step ?_ (by assumption) ?_) | omega | (simp; done) | (simp; omega)))
    · exact chText_v (by assumption) (by assumption) (by assumption)
  · have h : (1 ≤ c ∧ c ≤ 4) ∧ (v.size : Int) ≤ 255 := by assumption
    refine chput_ok ?_ (by assumption) (by assumption) (by assumption) (by assumption) h.2 (by assumption) ?_
    · exact (by repeat' (first | (with_reducible exact Below.refl _ _) | (with_reducible apply Below.drew) | (with_reducible apply below_drewN) | (with_reducible apply Below.setCell) | (with_reducible apply Below.alloc) | (with_reducible refine below_step ?_ (by assumption) ?_) | omega | (simp; done) | (simp; omega)))
    · exact chText_n (by assumption) (by assumption) (by assumption)
  · exact chput_bad nm (by repeat' (first | (with_reducible exact Below.refl _ _) | (with_reducible apply Below.drew) | (with_reducible apply below_drewN) | (with_reducible apply Below.setCell) | (with_reducible apply Below.alloc) | (with_reducible refine below_step ?_ (by assumption) ?_) | omega | (simp; done) | (simp; omega))) (.inr (.inr (.inr (.inl (by assumption)))))
  · exact chput_bad nm (by repeat' (first | (with_reducible exact Below.refl _ _) | (with_reducible apply Below.drew) | (with_reducible apply below_drewN) | (with_reducible apply Below.setCell) | (with_reducible apply Below.alloc) | (with_reducible refine below_step ?_ (by assumption) ?_) | omega | (simp; done) | (simp; omega))) (.inr (.inr (.inl (by assumption))))
  · exact chput_bad nm (by repeat' (first | (with_reducible exact Below.refl _ _) | (with_reducible apply Below.drew) | (with_reducible apply below_drewN) | (with_reducible apply Below.setCell) | (with_reducible apply Below.alloc) | (with_reducible refine below_step ?_ (by assumption) ?_) | omega | (simp; done) | (simp; omega))) (.inr (.inl (by assumption)))
  · exact chput_bad nm (by repeat' (first | (with_reducible exact Below.refl _ _) | (with_reducible apply Below.drew) | (with_reducible apply below_drewN) | (with_reducible apply Below.setCell) | (with_reducible apply Below.alloc) | (with_reducible refine below_step ?_ (by assumption) ?_) | omega | (simp; done) | (simp; omega))) (.inl (by assumption))
end Go.Proofs.Ytdfefpbpfneahaa
