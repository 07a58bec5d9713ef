/- 'm[k] = v' in its two steps (mapEntry, entryStore): together they are the one store. No condition but the map's size. -/
import Derived.Test.YtjhcengdaclihaaBlk
import Derived.Maps.OwnSet
namespace Go.Proofs.Ytjhcengdaclihaa
open Go.RowKit
set_option linter.unusedVariables false
set_option linter.unusedSimpArgs false
open Go.Maps Go.ChangeMaps Go.MapKept
theorem mod_mod {α : Type} (a : Array α) (j : Nat) (f g : α → α) : (a.modify j f).modify j g = a.modify j (fun x => g (f x)) := by
  apply Array.ext_getElem?
  intro i
  simp only [Array.getElem?_modify]
  split
  · simp [Function.comp_def]
  · rfl
theorem mod_eq {α : Type} (a : Array α) (j : Nat) (f g : α → α) (h : ∀ x, a[j]? = some x → f x = g x) : a.modify j f = a.modify j g := by
  apply Array.ext_getElem?
  intro i
  simp only [Array.getElem?_modify]
  split
  · rename_i e
    subst e
    cases hx : a[j]? with
    | none => rfl
    | some x => simp [h x hx]
  · rfl
theorem find_born {es : Array MapEntry} {clock : Nat} (hs : Stamped es clock) {j : Nat} {e0 : MapEntry} (hj : es[j]? = some e0) (f : MapEntry → MapEntry) (hf : ∀ x, (f x).born = x.born) : (es.modify j f).findIdx? (fun e => (e.born : Int) == (e0.born : Int)) = some j := by
  rw [Array.findIdx?_eq_some_iff_getElem]
  have hjl := (Array.getElem?_eq_some_iff.1 hj).1
  have hje := (Array.getElem?_eq_some_iff.1 hj).2
  refine ⟨by simpa using hjl, ?_, ?_⟩
  · rw [Array.getElem_modify]
    simp [hf, hje]
  · intro i hi
    rw [Array.getElem_modify]
    rw [if_neg (by omega)]
    have hne : es[i].born ≠ es[j].born := by
      have h2 := List.pairwise_iff_getElem.1 hs.2.1 i j (by simp; omega) (by simpa using hjl) hi
      simpa using h2
    rw [hje] at hne
    simp
    omega
theorem find_new {es : Array MapEntry} {clock : Nat} (hs : Stamped es clock) (key z : Value) : (es.push ⟨key, z, clock⟩).findIdx? (fun e => (e.born : Int) == (clock : Int)) = some es.size := by
  rw [Array.findIdx?_eq_some_iff_getElem]
  refine ⟨by simp, ?_, ?_⟩
  · simp
  · intro i hi
    have hne := hs.1 (es[i]) (by simp)
    rw [Array.getElem_push_lt hi]
    simp
    omega
theorem entry_pair {H : Type} {P : Program} {k t e : TypeId} {R : Value → Option (DataW H × List MemPlace)} {w : World} {b n : Nat} {D : DataW H} {key val z : Value} {kl : Lit} {d : DataW H} {ps : List MemPlace}
    (h : w.ownsMap P k R b n D) (K : Keyed P k) (ht : P.underlying t = some (.map k e)) (hz : (zeroValue e).run P w = .ok z w) (hn : n < maxLen) (hkey : keyOf P k key = some kl) (hv : R val = some (d, ps)) :
    ∃ (s : Nat) (v : Value) (w1 w2 : World), (Instr.mapEntry t (.map (some b)) key).run P w = .ok (.tuple #[v, .int .i64 (s : Int)]) w1 ∧ (Instr.entryStore t (.map (some b)) (.int .i64 (s : Int)) val).run P w1 = .ok () w2 ∧ w2.ownsMap P k R b (n + 1) (D.put kl d) ∧ w.grownBy w2 (some b) ∧ w.grownBy w1 (some b) := by
  obtain ⟨w2, hrun, h1, h2⟩ := h.update K ht hn hkey hv
  obtain ⟨es, clock, hb, F, hs, rfl⟩ := h
  have hlt : b < w.heap.size := (Array.getElem?_eq_some_iff.1 hb).1
  rcases K.find w hkey es.toList F.keys with ⟨g1, g2⟩ | ⟨j, e0, g1, g2, g3⟩
  · have hb1 : ({ w with heap := w.heap.setIfInBounds b (.map (es.push ⟨key, z, clock⟩) (clock + 1)) } : World).heap[b]? = some (.map (es.push ⟨key, z, clock⟩) (clock + 1)) := (heap_set hb).1
    refine ⟨clock, z, { w with heap := w.heap.setIfInBounds b (.map (es.push ⟨key, z, clock⟩) (clock + 1)) }, w2, ?_, ?_, h1, h2, ⟨rfl, rfl, rfl, by simp, fun i _ hi => (heap_set hb).2 i (fun e => hi (by rw [e]))⟩⟩
    · simp [Instr.mapEntry, run_underlying ht, MapKept.run_getObj_map hb, K.check w false hkey, g1, hz, MapKept.run_setObj_map _ hb, Result.andThen, goInt]
    · have e1 : (es.push ⟨key, z, clock⟩).modify es.size (fun x => { x with val := val }) = es.push ⟨key, val, clock⟩ := by
        apply Array.ext_getElem?
        intro i
        rw [Array.getElem?_modify, Array.getElem?_push, Array.getElem?_push]
        by_cases hi : i = es.size
        · subst hi; simp
        · rw [if_neg (by omega), if_neg hi, if_neg hi]
      simp [Instr.mapUpdate, run_underlying ht, MapKept.run_getObj_map hb, K.check w false hkey, g1, MapKept.run_setObj_map _ hb, Result.andThen] at hrun
      subst hrun
      simp [Instr.entryStore, MapKept.run_getObj_map hb1, asInt, asIntOf, find_new F.stamped, MapKept.run_setObj_map _ hb1, Result.andThen, e1]
  · have hj : es[j]? = some e0 := by simpa using g2
    have hb1 : ({ w with heap := w.heap.setIfInBounds b (.map (es.modify j fun x => { x with key := key }) clock) } : World).heap[b]? = some (.map (es.modify j fun x => { x with key := key }) clock) := (heap_set hb).1
    refine ⟨e0.born, e0.val, { w with heap := w.heap.setIfInBounds b (.map (es.modify j fun x => { x with key := key }) clock) }, w2, ?_, ?_, h1, h2, ⟨rfl, rfl, rfl, by simp, fun i _ hi => (heap_set hb).2 i (fun e => hi (by rw [e]))⟩⟩
    · simp [Instr.mapEntry, run_underlying ht, MapKept.run_getObj_map hb, K.check w false hkey, g1, hj, g3, K.stays w hkey, MapKept.run_setObj_map _ hb, Result.andThen, goInt]
    · simp [Instr.mapUpdate, run_underlying ht, MapKept.run_getObj_map hb, K.check w false hkey, g1, hj, g3, K.stays w hkey, MapKept.run_setObj_map _ hb, Result.andThen] at hrun
      subst hrun
      simp [Instr.entryStore, MapKept.run_getObj_map hb1, asInt, asIntOf, find_born F.stamped hj (fun x => { x with key := key }) (fun _ => rfl), MapKept.run_setObj_map _ hb1, Result.andThen, mod_mod]
end Go.Proofs.Ytjhcengdaclihaa
