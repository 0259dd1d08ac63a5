/- Slices of plain numbers and of truths that came in, laid open. -/
import Derived.Test.YtlbhckndejldcaaOpen
import Derived.ChangeSlices
import Derived.Deep.Grids
import Derived.Test.YtlbhckndejldcaaChecked
namespace Go.Proofs.Ytlbhckndejldcaa
open Go.ChangeShapes Go.WideShapes Go.Deep Go.RowKit
set_option linter.unusedVariables false
/-- a slice of numbers that came in: what its places hold -/
def Ints (k : IntKind) (w : World) (a : Option Addr) (len cap : Nat) (f : Nat → Int) : Prop :=
  len ≤ cap ∧ cap ≤ maxLen ∧ (a = none → len = 0 ∧ cap = 0) ∧
  ∀ i, i < len → (Lit.int k (f i)).wf = true ∧ ∃ b off, a = some ⟨b, off, none⟩ ∧ b < w.heap.size ∧ w.cell? ⟨b, off + i, none⟩ = some (.int k (f i))
def Bools (w : World) (a : Option Addr) (len cap : Nat) (f : Nat → Bool) : Prop :=
  len ≤ cap ∧ cap ≤ maxLen ∧ (a = none → len = 0 ∧ cap = 0) ∧
  ∀ i, i < len → ∃ b off, a = some ⟨b, off, none⟩ ∧ b < w.heap.size ∧ w.cell? ⟨b, off + i, none⟩ = some (.bool (f i))
theorem addr_add1 (a : Addr) (j : Nat) (w : World) (v v0 : Value) (h0 : w.cell? (a.add 0) = some v0) (h : w.cell? (a.add j) = some v) : ∃ b off, a = ⟨b, off, none⟩ ∧ b < w.heap.size ∧ w.cell? ⟨b, off + j, none⟩ = some v := by
  obtain ⟨b, off, spot⟩ := a
  have hs : spot = none := by simpa [Addr.add] using World.cell?_spot h0
  subst hs
  have hb := World.block_lt_of_cell? _ _ h
  rw [addr_add] at h hb
  exact ⟨b, off, rfl, hb, h⟩
theorem openInts {P : Program} {t e : TypeId} {k : IntKind} (ht : P.underlying t = some (.slice e)) (he : P.underlying e = some (.int k)) (hc : P.cellsOf e = 1)
    {H : Type} {enc : TypeId × Value → H} {W : World} {a : Option Addr} {len cap : Nat} {d : DataW H} {p : List MemPlace}
    (h : DataW.Trod enc P W 0 (fun _ => true) true t (.slice a len cap) d p) : ∃ f, Ints k W a len cap f := by
  obtain ⟨fuel, hf⟩ := h
  rcases open_ints ht he hc hf with ⟨hcs, hx⟩ | ⟨x, l, c, zs, hcs, _, hl, hm, hz, hx, hcell, hwz⟩
  · simp [Value.cells] at hcs
    obtain ⟨rfl, rfl, rfl⟩ := hcs
    exact ⟨fun _ => 0, Nat.le_refl _, by decide, fun _ => ⟨rfl, rfl⟩, fun i hi => absurd hi (Nat.not_lt_zero i)⟩
  · simp [Value.cells] at hcs
    obtain ⟨rfl, rfl, rfl⟩ := hcs
    simp at hz
    refine ⟨fun i => zs.getD i 0, hl, hm, fun h => (by cases h), fun i hi => ⟨?_, ?_⟩⟩
    · have hi' : i < zs.length := by omega
      refine hwz _ ?_
      simp [hi']
    · obtain ⟨b, off, rfl, hb, hc'⟩ := addr_add1 x i W _ _ (hcell 0 (by omega)) (hcell i (by omega))
      exact ⟨b, off, rfl, hb, hc'⟩
theorem openBools {P : Program} {t e : TypeId} (ht : P.underlying t = some (.slice e)) (he : P.underlying e = some .bool) (hc : P.cellsOf e = 1)
    {H : Type} {enc : TypeId × Value → H} {W : World} {a : Option Addr} {len cap : Nat} {d : DataW H} {p : List MemPlace}
    (h : DataW.Trod enc P W 0 (fun _ => true) true t (.slice a len cap) d p) : ∃ f, Bools W a len cap f := by
  obtain ⟨fuel, hf⟩ := h
  rcases open_bools ht he hc hf with ⟨hcs, hx⟩ | ⟨x, l, c, zs, hcs, _, hl, hm, hx, hcell⟩
  · simp [Value.cells] at hcs
    obtain ⟨rfl, rfl, rfl⟩ := hcs
    exact ⟨fun _ => false, Nat.le_refl _, by decide, fun _ => ⟨rfl, rfl⟩, fun i hi => absurd hi (Nat.not_lt_zero i)⟩
  · simp [Value.cells] at hcs
    obtain ⟨rfl, rfl, rfl⟩ := hcs
    refine ⟨zs, hl, hm, fun h => (by cases h), fun i hi => ?_⟩
    obtain ⟨b, off, rfl, hb, hc'⟩ := addr_add1 x i W _ _ (hcell 0 (by omega)) (hcell i (by omega))
    exact ⟨b, off, rfl, hb, hc'⟩
end Go.Proofs.Ytlbhckndejldcaa
