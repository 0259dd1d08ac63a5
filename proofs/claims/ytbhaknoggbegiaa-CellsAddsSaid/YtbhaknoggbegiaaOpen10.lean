/- A row of accesses of layer 10's laws, laid open. -/
import Derived.Test.YtbhaknoggbegiaaOpen
import Derived.Test.YtbhaknoggbegiaaOps10
import Derived.Test.YtbhaknoggbegiaaChecked
namespace Go.Proofs.Ytbhaknoggbegiaa
open Go.ChangeShapes Go.WideShapes Go.Deep Go.RowKit
instance : Inhabited Op10 := ⟨⟨0, 0, 0, 0, false⟩⟩
theorem openOps10 {H : Type} {enc : TypeId × Value → H} {W : World} {a : Option Addr} {len cap : Nat} {d : DataW H} {p : List MemPlace}
    (h : DataW.Trod enc Try.prog W 0 (fun _ => true) true 37 (.slice a len cap) d p) : ∃ f, Ops10 W a len cap f := by
  obtain ⟨fuel, hf⟩ := h
  rcases open_slice_fields Try.underlying37 Try.underlying45 (by kernel_rfl) (by kernel_rfl) hf with hcs | ⟨x, l, c, m, hcs, hl, hm, hmm, hcell⟩
  · simp [Value.cells] at hcs
    obtain ⟨rfl, rfl, rfl⟩ := hcs
    exact ⟨default, .inl ⟨rfl, rfl, rfl⟩⟩
  · simp [Value.cells] at hcs
    obtain ⟨rfl, rfl, rfl⟩ := hcs
    by_cases h0 : len = 0
    · exact ⟨default, .inr (.inl ⟨x, rfl, h0, hm⟩)⟩
    · obtain ⟨b, off, spot⟩ := x
      simp at hmm
      subst hmm
      have hs : spot = none := by
        obtain ⟨n, hj⟩ := hcell 0 (by omega)
        obtain ⟨v, y, hc, _⟩ := hj 0 _ rfl
        simpa [Addr.add] using World.cell?_spot hc
      subst hs
      have hb : b < W.heap.size := by
        obtain ⟨n, hj⟩ := hcell 0 (by omega)
        obtain ⟨v, y, hc, _⟩ := hj 0 _ rfl
        have := World.block_lt_of_cell? _ _ hc
        simpa [Addr.add] using this
      have key : ∀ k, k < len → ∃ o : Op10, o.Ok ∧ W.cell? ⟨b, off + k * 5, none⟩ = some (.int .u8 o.what) ∧ W.cell? ⟨b, off + k * 5 + 1, none⟩ = some (.int .i64 o.at_) ∧
          W.cell? ⟨b, off + k * 5 + 2, none⟩ = some (.int .i64 o.v) ∧ W.cell? ⟨b, off + k * 5 + 3, none⟩ = some (.int .i64 o.old) ∧ W.cell? ⟨b, off + k * 5 + 4, none⟩ = some (.bool o.right) := by
        intro k hk
        obtain ⟨n, hj⟩ := hcell k (by omega)
        obtain ⟨v0, y0, hc0, t0⟩ := hj 0 _ rfl
        obtain ⟨v1, y1, hc1, t1⟩ := hj 1 _ rfl
        obtain ⟨v2, y2, hc2, t2⟩ := hj 2 _ rfl
        obtain ⟨v3, y3, hc3, t3⟩ := hj 3 _ rfl
        obtain ⟨v4, y4, hc4, t4⟩ := hj 4 _ rfl
        obtain ⟨x0, e0, _, w0⟩ := DataW.trod_int Try.underlying5 t0
        obtain ⟨x1, e1, _, w1⟩ := DataW.trod_int Try.underlying3 t1
        obtain ⟨x2, e2, _, w2⟩ := DataW.trod_int Try.underlying2 t2
        obtain ⟨x3, e3, _, w3⟩ := DataW.trod_int Try.underlying2 t3
        obtain ⟨x4, e4, _⟩ := DataW.trod_bool Try.underlying4 t4
        simp at e0 e1 e2 e3 e4
        subst e0 e1 e2 e3 e4
        have b0 := bounds_u8 w0
        have b1 := bounds_i64 w1
        have b2 := bounds_i64 w2
        have b3 := bounds_i64 w3
        refine ⟨⟨x0, x1, x2, x3, x4⟩, ⟨b0.1, by have := b0.2; simpa using (by omega : x0 ≤ 255), b1.1, by have := b1.2; simpa using (by omega : x1 ≤ 9223372036854775807), b2.1, by have := b2.2; simpa using (by omega : x2 ≤ 9223372036854775807), b3.1, by have := b3.2; simpa using (by omega : x3 ≤ 9223372036854775807)⟩, ?_, ?_, ?_, ?_, ?_⟩
        · rw [addr_add] at hc0; exact hc0
        · rw [addr_add, ← Nat.add_assoc] at hc1; exact hc1
        · rw [addr_add, ← Nat.add_assoc] at hc2; exact hc2
        · rw [addr_add, ← Nat.add_assoc] at hc3; exact hc3
        · rw [addr_add, ← Nat.add_assoc] at hc4; exact hc4
      obtain ⟨f, hf'⟩ := pick_all key
      exact ⟨f, .inr (.inr ⟨b, off, rfl, by omega, hl, hm, hb, hf'⟩)⟩
end Go.Proofs.Ytbhaknoggbegiaa
