/- Machines' kinds that came in: three cells each. -/
import Derived.Test.YtklkopoelhndoaaOpen
import Derived.Test.YtklkopoelhndoaaChecked
namespace Go.Proofs.Ytklkopoelhndoaa
open Go.ChangeShapes Go.WideShapes Go.Deep Go.RowKit
set_option linter.unusedVariables false
structure Op13 where
  kind : Int
  n : Int
  again : Bool
instance : Inhabited Op13 := ⟨⟨0, 0, false⟩⟩
def Ops13 (w : World) (a : Option Addr) (len cap : Nat) (f : Nat → Op13) : Prop :=
  (a = none ∧ len = 0 ∧ cap = 0) ∨ (∃ x, a = some x ∧ len = 0 ∧ cap ≤ maxLen) ∨
  ∃ b off, a = some ⟨b, off, none⟩ ∧ 0 < len ∧ len ≤ cap ∧ cap ≤ maxLen ∧ b < w.heap.size ∧
    ∀ k, k < len → (0 ≤ (f k).kind ∧ (f k).kind ≤ 255) ∧ w.cell? ⟨b, off + k * 3, none⟩ = some (.int .u8 (f k).kind) ∧ w.cell? ⟨b, off + k * 3 + 1, none⟩ = some (.int .i64 (f k).n) ∧ w.cell? ⟨b, off + k * 3 + 2, none⟩ = some (.bool (f k).again)
theorem openOps13 {H : Type} {enc : TypeId × Value → H} {W : World} {a : Option Addr} {len cap : Nat} {d : DataW H} {p : List MemPlace}
    (h : DataW.Trod enc Try.prog W 0 (fun _ => true) true 54 (.slice a len cap) d p) : ∃ f, Ops13 W a len cap f := by
  obtain ⟨fuel, hf⟩ := h
  rcases open_slice_fields Try.underlying54 Try.underlying56 (by kernel_rfl) (by kernel_rfl) hf with hcs | ⟨x, l, c, m, hcs, hl, hm, hmm, hcell⟩
  · simp [Value.cells] at hcs
    obtain ⟨rfl, rfl, rfl⟩ := hcs
    exact ⟨default, .inl ⟨rfl, rfl, rfl⟩⟩
  · simp [Value.cells] at hcs
    obtain ⟨rfl, rfl, rfl⟩ := hcs
    by_cases h0 : len = 0
    · exact ⟨default, .inr (.inl ⟨x, rfl, h0, hm⟩)⟩
    · obtain ⟨b, off, spot⟩ := x
      simp at hmm
      subst hmm
      have hs : spot = none := by
        obtain ⟨n, hj⟩ := hcell 0 (by omega)
        obtain ⟨v, y, hc, _⟩ := hj 0 _ rfl
        simpa [Addr.add] using World.cell?_spot hc
      subst hs
      have hb : b < W.heap.size := by
        obtain ⟨n, hj⟩ := hcell 0 (by omega)
        obtain ⟨v, y, hc, _⟩ := hj 0 _ rfl
        have := World.block_lt_of_cell? _ _ hc
        simpa [Addr.add] using this
      have key : ∀ k, k < len → ∃ o : Op13, (0 ≤ o.kind ∧ o.kind ≤ 255) ∧ W.cell? ⟨b, off + k * 3, none⟩ = some (.int .u8 o.kind) ∧ W.cell? ⟨b, off + k * 3 + 1, none⟩ = some (.int .i64 o.n) ∧ W.cell? ⟨b, off + k * 3 + 2, none⟩ = some (.bool o.again) := by
        intro k hk
        obtain ⟨n, hj⟩ := hcell k (by omega)
        obtain ⟨v0, y0, hc0, t0⟩ := hj 0 _ rfl
        obtain ⟨v1, y1, hc1, t1⟩ := hj 1 _ rfl
        obtain ⟨v2, y2, hc2, t2⟩ := hj 2 _ rfl
        obtain ⟨x0, e0, _, w0⟩ := DataW.trod_int Try.underlying5 t0
        obtain ⟨x1, e1, _, w1⟩ := DataW.trod_int Try.underlying2 t1
        obtain ⟨x2, e2, _⟩ := DataW.trod_bool Try.underlying4 t2
        simp at e0 e1 e2
        subst e0 e1 e2
        have b0 := bounds_u8 w0
        refine ⟨⟨x0, x1, x2⟩, ⟨b0.1, by have := b0.2; simpa using (by omega : x0 ≤ 255)⟩, ?_, ?_, ?_⟩
        · rw [addr_add] at hc0; exact hc0
        · rw [addr_add, ← Nat.add_assoc] at hc1; exact hc1
        · rw [addr_add, ← Nat.add_assoc] at hc2; exact hc2
      obtain ⟨f, hf'⟩ := pick_all key
      exact ⟨f, .inr (.inr ⟨b, off, rfl, by omega, hl, hm, hb, hf'⟩)⟩
end Go.Proofs.Ytklkopoelhndoaa
