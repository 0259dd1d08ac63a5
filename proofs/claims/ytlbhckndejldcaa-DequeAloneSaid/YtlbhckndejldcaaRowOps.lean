/- A struct of many cells stored into a block of its own, in one step. -/
import Derived.Test.YtlbhckndejldcaaBase
import Derived.Laws.Rows
import Derived.Deep.MidRow
namespace Go.Proofs.Ytlbhckndejldcaa
open Go.RowKit
set_option linter.unusedVariables false
theorem setCells_form (b : Nat) (t : TypeId) : ∀ (vs : List Value) (o : Nat) (w : World) (c : Array Value), w.heap[b]? = some (.cells c t (0, 0)) → ∃ c', (w.setCells b o vs).heap[b]? = some (.cells c' t (0, 0)) ∧ c'.size = c.size
  | [], _, _, c, h => ⟨c, h, rfl⟩
  | v :: vs, o, w, c, h => by
    obtain ⟨c', h1, h2⟩ := setCells_form b t vs (o + 1) (w.setCell ⟨b, o, none⟩ v) _ (set_of h o v)
    exact ⟨c', h1, by rw [h2]; simp⟩
theorem setCells_kept (b : Nat) : ∀ (vs : List Value) (o : Nat) (w : World), Kept [b] w (w.setCells b o vs)
  | [], _, w => Kept.refl _ _
  | v :: vs, o, w => ((Kept.refl _ _).setCell (.inl (by simp)) v).trans (setCells_kept b vs (o + 1) _)
theorem there_of {w : World} {X : Nat} {c : Array Value} {t : TypeId} {n : Nat} (h : w.heap[X]? = some (.cells c t (0, 0))) (hn : c.size = n) : w.there X 0 n := by
  intro j hj
  rw [Nat.zero_add, cells_of h, free_of h]
  exact ⟨by simp; omega, rfl⟩
theorem store_row {w : World} {X : Nat} {c cs : Array Value} {t : TypeId} (h : w.heap[X]? = some (.cells c t (0, 0))) (hs : c.size = cs.size) : (w.setCells X 0 cs.toList).heap[X]? = some (.cells cs t (0, 0)) := by
  obtain ⟨c', h1, h2⟩ := setCells_form X t cs.toList 0 w c h
  have e : c' = cs := by
    apply Array.ext_getElem?
    intro j
    by_cases hj : j < cs.size
    · have h3 := World.cell?_setCells_in X cs.toList 0 w (fun k hk => ((there_of h hs) k (by simpa using hk)).1) j (by simpa using hj)
      rw [Nat.zero_add, cells_of h1] at h3
      rw [h3]
      simp [hj]
    · rw [Array.getElem?_eq_none (by omega), Array.getElem?_eq_none (by omega)]
  rw [h1, e]
/-- what a store of a whole struct into a new block does -/
theorem store_new (w : World) (c cs : Array Value) (t : TypeId) (hs : c.size = cs.size) :
    Kept [] w ((w.alloc (.cells c t)).setCells w.heap.size 0 cs.toList) ∧ ((w.alloc (.cells c t)).setCells w.heap.size 0 cs.toList).heap[w.heap.size]? = some (.cells cs t (0, 0)) ∧ w.heap.size < ((w.alloc (.cells c t)).setCells w.heap.size 0 cs.toList).heap.size :=
  ⟨((Kept.refl [] w).alloc _).drop (setCells_kept _ _ _ _) (fun x hx => .inr (by simp at hx; omega)), store_row (new_alloc _ _) hs, by
    have := (setCells_kept w.heap.size cs.toList 0 (w.alloc (.cells c t))).size; simp at this; omega⟩
end Go.Proofs.Ytlbhckndejldcaa
