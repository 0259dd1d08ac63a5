/- Words that came later: a region under one name for its world; a block among those just made. -/
import Derived.Test.YtlbhckndejldcaaBase
namespace Go.Proofs.Ytlbhckndejldcaa
open Go.RowKit
theorem wp_region_at {P : Program} {id : Nat} {Q : Exit → Act → World → Prop} {a : Act} {w : World} {l : List Oper} (hm : P.follows .mixedOrders = true) (hB : Region.lexB .any l.toArray = true)
    (h : ∀ W : World, Hid (W = w) → wpQuiet P l.toArray (fun w' => ∃ x : Later W, w' = x.w) (fun a' => ∀ w', (∃ x : Later W, w' = x.w) → Q .normal a' w') l a) : (Code.region id l.toArray true).wp P Q a w :=
  wp_region_kept hm hB (h w rfl)
instance laterSome (w0 : World) : Nonempty (Later w0) := ⟨⟨w0, Kept.refl _ _⟩⟩
theorem heap_drew (w : World) : w.drew.heap = w.heap := rfl
theorem heap_drewN (w : World) (n : Nat) : (w.drewN n).heap = w.heap := rfl
theorem heap_alloc_at (w : World) (o : Obj) (k : Nat) : (w.alloc o).heap[k]? = if k = w.heap.size then some o else w.heap[k]? := by
  show (w.heap.push o)[k]? = _
  rw [Array.getElem?_push]
/-- the world behind a draw, an alloc, a store, a call: as it was but for new blocks -/
theorem later_drew {w0 : World} : Kept [] w0 w0.drew := (Kept.refl _ _).drew
end Go.Proofs.Ytlbhckndejldcaa
