/- Steps that came in: three cells each. -/
import Derived.Test.YtlbhckndejldcaaOpen
import Derived.Test.YtlbhckndejldcaaChecked
namespace Go.Proofs.Ytlbhckndejldcaa
open Go.ChangeShapes Go.WideShapes Go.Deep Go.RowKit
set_option linter.unusedVariables false
structure Op11 where
  who : Int
  what : Int
  v : Int
instance : Inhabited Op11 := ⟨⟨0, 0, 0⟩⟩
def Ops11 (w : World) (a : Option Addr) (len cap : Nat) (f : Nat → Op11) : Prop :=
  len ≤ cap ∧ cap ≤ maxLen ∧ (a = none → len = 0 ∧ cap = 0) ∧
    ∀ k, k < len → (0 ≤ (f k).who ∧ (f k).who ≤ 255) ∧ (0 ≤ (f k).what ∧ (f k).what ≤ 255) ∧ ∃ b off, a = some ⟨b, off, none⟩ ∧ b < w.heap.size ∧
      w.cell? ⟨b, off + k * 3, none⟩ = some (.int .u8 (f k).who) ∧ w.cell? ⟨b, off + k * 3 + 1, none⟩ = some (.int .u8 (f k).what) ∧ w.cell? ⟨b, off + k * 3 + 2, none⟩ = some (.int .i64 (f k).v)
theorem openOps11 {H : Type} {enc : TypeId × Value → H} {W : World} {a : Option Addr} {len cap : Nat} {d : DataW H} {p : List MemPlace}
    (h : DataW.Trod enc Try.prog W 0 (fun _ => true) true 63 (.slice a len cap) d p) : ∃ f, Ops11 W a len cap f := by
  obtain ⟨fuel, hf⟩ := h
  rcases open_slice_fields Try.underlying63 Try.underlying71 (by kernel_rfl) (by kernel_rfl) hf with hcs | ⟨x, l, c, m, hcs, hl, hm, hmm, hcell⟩
  · simp [Value.cells] at hcs
    obtain ⟨rfl, rfl, rfl⟩ := hcs
    exact ⟨default, by omega, by unfold maxLen; omega, fun _ => ⟨rfl, rfl⟩, fun k hk => by omega⟩
  · simp [Value.cells] at hcs
    obtain ⟨rfl, rfl, rfl⟩ := hcs
    by_cases h0 : len = 0
    · exact ⟨default, hl, hm, (fun h => by cases h), fun k hk => by omega⟩
    · obtain ⟨b, off, spot⟩ := x
      simp at hmm
      subst hmm
      have hs : spot = none := by
        obtain ⟨n, hj⟩ := hcell 0 (by omega)
        obtain ⟨v, y, hc, _⟩ := hj 0 _ rfl
        simpa [Addr.add] using World.cell?_spot hc
      subst hs
      have hb : b < W.heap.size := by
        obtain ⟨n, hj⟩ := hcell 0 (by omega)
        obtain ⟨v, y, hc, _⟩ := hj 0 _ rfl
        have := World.block_lt_of_cell? _ _ hc
        simpa [Addr.add] using this
      have key : ∀ k, k < len → ∃ o : Op11, (0 ≤ o.who ∧ o.who ≤ 255) ∧ (0 ≤ o.what ∧ o.what ≤ 255) ∧ W.cell? ⟨b, off + k * 3, none⟩ = some (.int .u8 o.who) ∧ W.cell? ⟨b, off + k * 3 + 1, none⟩ = some (.int .u8 o.what) ∧ W.cell? ⟨b, off + k * 3 + 2, none⟩ = some (.int .i64 o.v) := by
        intro k hk
        obtain ⟨n, hj⟩ := hcell k (by omega)
        obtain ⟨v0, y0, hc0, t0⟩ := hj 0 _ rfl
        obtain ⟨v1, y1, hc1, t1⟩ := hj 1 _ rfl
        obtain ⟨v2, y2, hc2, t2⟩ := hj 2 _ rfl
        obtain ⟨x0, e0, _, w0⟩ := DataW.trod_int Try.underlying5 t0
        obtain ⟨x1, e1, _, w1⟩ := DataW.trod_int Try.underlying5 t1
        obtain ⟨x2, e2, _, w2⟩ := DataW.trod_int Try.underlying2 t2
        simp at e0 e1 e2
        subst e0 e1 e2
        have b0 := bounds_u8 w0
        have b1 := bounds_u8 w1
        refine ⟨⟨x0, x1, x2⟩, ⟨b0.1, by have := b0.2; simpa using (by omega : x0 ≤ 255)⟩, ⟨b1.1, by have := b1.2; simpa using (by omega : x1 ≤ 255)⟩, ?_, ?_, ?_⟩
        · rw [addr_add] at hc0; exact hc0
        · rw [addr_add, ← Nat.add_assoc] at hc1; exact hc1
        · rw [addr_add, ← Nat.add_assoc] at hc2; exact hc2
      obtain ⟨f, hf'⟩ := pick_all key
      exact ⟨f, hl, hm, (fun h => by cases h), fun k hk => ⟨(hf' k hk).1, (hf' k hk).2.1, b, off, rfl, hb, (hf' k hk).2.2⟩⟩
end Go.Proofs.Ytlbhckndejldcaa
