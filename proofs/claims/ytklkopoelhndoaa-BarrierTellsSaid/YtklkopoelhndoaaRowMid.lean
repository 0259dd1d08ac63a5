/- A struct of many cells stored into the midst of a block. -/
import Derived.Test.YtklkopoelhndoaaRowOps
namespace Go.Proofs.Ytklkopoelhndoaa
open Go.RowKit
set_option linter.unusedVariables false
theorem store_mid (b : Nat) (t : TypeId) : ∀ (vs : List Value) (o : Nat) (w : World) (c : Array Value), w.heap[b]? = some (.cells c t (0, 0)) → o + vs.length ≤ c.size →
    ∃ c', (w.setCells b o vs).heap[b]? = some (.cells c' t (0, 0)) ∧ c'.size = c.size ∧ (∀ j, j < vs.length → c'[o + j]? = vs[j]?) ∧ (∀ j, (j < o ∨ o + vs.length ≤ j) → c'[j]? = c[j]?)
  | [], o, w, c, h, _ => ⟨c, h, rfl, fun j hj => by simp at hj, fun _ _ => rfl⟩
  | v :: vs, o, w, c, h, hl => by
    simp only [List.length_cons] at hl
    obtain ⟨c', h1, h2, h3, h4⟩ := store_mid b t vs (o + 1) (w.setCell ⟨b, o, none⟩ v) _ (set_of h o v) (by rw [Array.size_setIfInBounds]; omega)
    refine ⟨c', h1, by rw [h2]; simp, fun j hj => ?_, fun j hj => ?_⟩
    · cases j with
      | zero =>
        rw [Nat.add_zero, h4 _ (by omega), Array.getElem?_setIfInBounds_self_of_lt (by omega)]
        rfl
      | succ j =>
        have := h3 j (by simpa using hj)
        rw [show o + (j + 1) = o + 1 + j by omega, this]
        simp
    · simp only [List.length_cons] at hj
      rw [h4 j (by omega), Array.getElem?_setIfInBounds_ne (by omega)]
theorem there_mid {w : World} {X : Nat} {c : Array Value} {t : TypeId} {o n : Nat} (h : w.heap[X]? = some (.cells c t (0, 0))) (hn : o + n ≤ c.size) : w.there X o n := by
  intro j hj
  rw [cells_of h, free_of h]
  exact ⟨by simp; omega, rfl⟩
theorem range_mid {w : World} {X : Nat} {c : Array Value} {t : TypeId} {o : Nat} {cs : List Value} (h : w.heap[X]? = some (.cells c t (0, 0))) (hc : ∀ j, j < cs.length → c[o + j]? = cs[j]?) : w.rangeAt X o cs := by
  intro j v hj
  rw [cells_of h, hc j (List.getElem?_eq_some_iff.1 hj).1, hj]
end Go.Proofs.Ytklkopoelhndoaa
