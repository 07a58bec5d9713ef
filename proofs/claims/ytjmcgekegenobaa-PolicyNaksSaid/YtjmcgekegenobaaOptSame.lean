/- Options as rows of cells. No condition. -/
import Derived.Test.YtjmcgekegenobaaOptEq
import Derived.Deep.RegionLaw
import Derived.Deep.AppendLies
import Derived.BigRegion
namespace Go.Proofs.Ytjmcgekegenobaa
open Go.RowKit
set_option linter.unusedVariables false
set_option linter.unusedSimpArgs false
attribute [local go_sem] conv1 conv1d conv1n conv1a conv1ad conv1an conv2 conv2d conv2n conv2a conv2ad conv2an conv4 conv4d conv4n conv4a conv4ad conv4an conv5 conv5d conv5n conv5a conv5ad conv5an size_nums byt_fold
theorem info_opt2 : (Try.prog.info? 36).map (fun i => (i.zero, i.size, i.bytes)) = some (some (.agg #[.int .i64 0, .string ⟨#[]⟩]), 2, 24) := by kernel_rfl
theorem optCells_one (os : List (Int × ByteArray)) : ∀ u ∈ optCells os, u.oneCell' = true := by
  intro u hu
  unfold optCells at hu
  rw [List.mem_flatMap] at hu
  obtain ⟨o, _, h⟩ := hu
  simp at h
  rcases h with rfl | rfl <;> rfl
theorem optCells_get : ∀ (os : List (Int × ByteArray)) (j : Nat) (u : Value), (optCells os)[j]? = some u → ∃ k o, os[k]? = some o ∧ ((j = k * 2 ∧ u = .int .i64 o.1) ∨ (j = k * 2 + 1 ∧ u = .string o.2))
  | [], j, u, h => by simp [optCells] at h
  | o :: os, 0, u, h => ⟨0, o, rfl, .inl ⟨rfl, by simp [optCells] at h; exact h.symm⟩⟩
  | o :: os, 1, u, h => ⟨0, o, rfl, .inr ⟨rfl, by simp [optCells] at h; exact h.symm⟩⟩
  | o :: os, j + 2, u, h => by
    have e : optCells (o :: os) = .int .i64 o.1 :: .string o.2 :: optCells os := by simp [optCells]
    rw [e] at h
    obtain ⟨k, o', hk, hc⟩ := optCells_get os j u (by simpa using h)
    exact ⟨k + 1, o', by simpa using hk, hc.imp (fun h => ⟨by omega, h.2⟩) (fun h => ⟨by omega, h.2⟩)⟩
theorem OptsAt.news {w : World} {b off n : Nat} {os : List (Int × ByteArray)} (h : OptsAt w (some ⟨b, off, none⟩) n os) (hn : 0 < n) : ∀ j u, (optCells os)[j]? = some u → w.cell? ((⟨b, off, none⟩ : Addr).add j) = some u := by
  intro j u hu
  obtain ⟨b', off', e, _, hc⟩ := h.2 hn
  injection e with e
  injection e with e1 e2
  subst e1 e2
  have hadd : (⟨b, off, none⟩ : Addr).add j = ⟨b, off + j, none⟩ := by unfold Addr.add; split <;> simp_all
  rw [hadd]
  obtain ⟨k, o, hk, hcase⟩ := optCells_get os j u hu
  have hkl := (List.getElem?_eq_some_iff.1 hk).1
  obtain ⟨c1, c2⟩ := hc k hkl
  have ho : os[k] = o := by rw [List.getElem?_eq_getElem hkl] at hk; exact Option.some.inj hk
  rw [ho] at c1 c2
  rcases hcase with ⟨rfl, rfl⟩ | ⟨rfl, rfl⟩
  · exact c1
  · rw [← Nat.add_assoc]; exact c2

theorem own_some {w : World} {base n : Nat} {e : TypeId} {size : Nat} {v : Value} {xs : List Value} (h : w.ownsRow base e size v n xs) (hne : ¬ v = .slice none 0 0) : v.ownBlock ≠ none := by
  rcases h.2 with ⟨hv, _⟩ | ⟨g, cap, cur, rfl, _⟩
  · exact absurd hv hne
  · simp [Value.ownBlock]
theorem own_zero (w : World) : (w.alloc (.cells #[] 36)).ownsRow w.heap.size 36 2 (.slice (some ⟨w.heap.size, 0, none⟩) 0 0) 0 [] :=
  World.ownsRow_made w #[] 0 (Nat.le_refl _) (by unfold maxLen; omega) rfl
end Go.Proofs.Ytjmcgekegenobaa
